
/- Package wheel: Advance. -/
import Derived.Test.YtfdfmmmfklodgaaWhK
import Derived.Test.YtfdfmmmfklodgaaReg
import Derived.Deep.RegionHeldLaw
namespace Go.Proofs.Ytfdfmmmfklodgaa
set_option linter.unusedSimpArgs false
set_option linter.unusedVariables false
open Go.RowKit
theorem cellsD_one (l : List (Int × Int)) : ∀ u ∈ cellsD l, u.oneCell' = true := by
  intro u hu
  simp only [cellsD, List.mem_flatMap] at hu
  obtain ⟨p, _, hu⟩ := hu
  simp at hu
  rcases hu with rfl | rfl <;> rfl
theorem RowD.app {w : World} {base base2 : Nat} {v v2 : Value} {O O2 : List (Int × Int)} (h : RowD w base v O) (h2 : RowD w base2 v2 O2) (hn : O.length + O2.length ≤ 100000) (hb : base ≤ w.heap.size) (ty : TypeId) :
    ∃ v' w', (Builtin.append_ #[26, 26] ty #[v, v2]).run Try.prog w = .ok v' w' ∧ RowD w' base v' (O ++ O2) ∧ Kx v.ownBlock.toList w w' ∧ (v'.ownBlock = v.ownBlock ∨ v'.ownBlock = some w.heap.size) := by
  obtain ⟨i0, hi0, hz0, hz1, hz2⟩ := info_parts info_due
  obtain ⟨v', w', hr, h3, h4, h5⟩ := run_append_rows (P := Try.prog) w base base2 26 ty 50 i0 (.agg #[.int .i64 0, .int .i64 0]) 2 16 Try.underlying26 hi0 hz0 hz1 hz2 rfl (by decide) v O.length _ h v2 O2.length _ h2 (cellsD_one O2) (by unfold maxLen; omega) (by omega) hb
  refine ⟨v', w', hr, ?_, kx_grown h4, h5⟩
  unfold RowD
  rw [List.length_append]
  have : cellsD O ++ cellsD O2 = cellsD (O ++ O2) := by simp [cellsD]
  rw [← this]
  exact h3
def advE (now n : Int) : Int := if inI n 0 = false then 2 else if 4611686018427387904 - n < now then 3 else 0
def advL (now : Int) (L : List (Int × Int)) (n : Int) : List (Int × Int) := if advE now n = 0 then L.filter (fun p => decide (now + n < p.2)) else L
def advO (now : Int) (L : List (Int × Int)) (n : Int) : List (Int × Int) := if advE now n = 0 then L.filter (fun p => decide (p.2 ≤ now + n)) else []
def advN (now n : Int) : Int := if advE now n = 0 then now + n else now
theorem WhT.clock {W : World} {xs : List Nat} {g : Nat} {now : Int} {A : List (Int × Int)} {F : Nat → List (Int × Int)} {sb : Nat → Option Nat} {ba : Nat} (h : WhT W xs g now A F sb ba) (to : Int) : WhT (W.setCell ⟨g, 0, none⟩ (.int .i64 to)) xs g to A F sb ba := by
  have hk : Kx [g] W (W.setCell ⟨g, 0, none⟩ (.int .i64 to)) := (Kx.refl [g] W).setCell (.inl (by simp)) _
  refine ⟨h.blk.set 0 _, h.all.kx hk (by simpa using h.all.ne_blk h.blk), ?_, h.one, h.apart, h.own, fun x hx => Nat.lt_of_lt_of_le (h.lt x hx) hk.size⟩
  intro j hj
  rcases h.slot j hj with ⟨e1, e2⟩ | ⟨b', e1, hm'⟩
  · exact .inl ⟨e1, e2⟩
  · exact .inr ⟨b', e1, hm'.kx hk (by simpa using hm'.ne_blk h.blk)⟩
set_option maxRecDepth 100000 in
set_option maxHeartbeats 1000000 in
theorem adv_bad (xs : List Nat) (g : Nat) (now : Int) (L : List (Int × Int)) (sb : Nat → Option Nat) (ba : Nat) (n : Int) (w : World) (h : WhW w xs g now L sb ba) (h1 : inI n 0 = false) :
    Calls Try.prog 23 #[.pointer (some ⟨g, 0, none⟩), .int .i64 n] w
      fun e w' => e = .returned (.tuple #[.slice none 0 0, .int .i64 2]) ∧ w = w' := by
  have cn := none_wh xs g now L _ sb ba w h
  have c1 := in_any n 0 w
  rw [h1] at c1
  clear h1
  have cw := h.blk.cell (j := 0) rfl
  go_enter Try.func23, Try.ntmps23
  go_wp2_with fail
  refine (cn).mono ?_
  rintro e _ ⟨rfl, rfl⟩
  go_wp2_with fail
  refine (c1).mono ?_
  rintro e _ ⟨rfl, rfl⟩
  go_wp2
  go_ret2
  exact ⟨rfl, rfl⟩
set_option maxRecDepth 100000 in
set_option maxHeartbeats 1000000 in
theorem adv_long (xs : List Nat) (g : Nat) (now : Int) (L : List (Int × Int)) (sb : Nat → Option Nat) (ba : Nat) (n : Int) (w : World) (h : WhW w xs g now L sb ba) (hG : GoodW now L) (h1 : inI n 0 = true) (h2 : 4611686018427387904 - n < now) :
    Calls Try.prog 23 #[.pointer (some ⟨g, 0, none⟩), .int .i64 n] w
      fun e w' => e = .returned (.tuple #[.slice none 0 0, .int .i64 3]) ∧ w = w' := by
  have bd : 0 ≤ n ∧ n ≤ 2147483647 := by simpa [inI] using h1
  obtain ⟨b1, b2⟩ := bd
  have n0 := hG.n0
  have n1 := hG.n1
  have cn := none_wh xs g now L _ sb ba w h
  have c1 := in_any n 0 w
  rw [h1] at c1
  clear h1
  have cw := h.blk.cell (j := 0) rfl
  go_enter Try.func23, Try.ntmps23
  go_wp2_with fail
  refine (cn).mono ?_
  rintro e _ ⟨rfl, rfl⟩
  go_wp2_with fail
  refine (c1).mono ?_
  rintro e _ ⟨rfl, rfl⟩
  go_wp2
  go_ret2
  exact ⟨rfl, rfl⟩
def AdvP (w : World) (xs : List Nat) (g : Nat) (now : Int) (L : List (Int × Int)) (n : Int) (e : Ending) (w' : World) : Prop :=
  ∃ v, e = .returned (.tuple #[v, .int .i64 (advE now n)]) ∧ RowD w' w.heap.size v (advO now L n) ∧ ∃ xs', WhV w' xs' g (advN now n) (advL now L n) ∧ Grow w.heap.size xs xs' ∧ Kx xs w w' ∧ ∀ k, v.ownBlock = some k → k ∉ xs'
def AdvR (w : World) (xs : List Nat) (g : Nat) (now to : Int) (L : List (Int × Int)) (k : Nat) (v : Value) (W : World) : Prop :=
  ∃ A O xs' sb ba, AdvI now to L k A O ∧ WhW W xs' g now A sb ba ∧ RowD W w.heap.size v O ∧ Grow w.heap.size xs xs' ∧ FromX xs w W ∧ ∀ k, v.ownBlock = some k → k ∉ xs'
set_option maxRecDepth 100000 in
set_option maxHeartbeats 4000000 in
theorem adv_yes (xs : List Nat) (g : Nat) (now : Int) (L : List (Int × Int)) (sb : Nat → Option Nat) (ba : Nat) (n : Int) (w : World) (h : WhW w xs g now L sb ba) (hG : GoodW now L) (h1 : inI n 0 = true) (h2 : now ≤ 4611686018427387904 - n) :
    Calls Try.prog 23 #[.pointer (some ⟨g, 0, none⟩), .int .i64 n] w
      (AdvP w xs g now L n) := by
  have bd : 0 ≤ n ∧ n ≤ 2147483647 := by simpa [inI] using h1
  obtain ⟨b1, b2⟩ := bd
  have n0 := hG.n0
  have n1 := hG.n1
  have hE : advE now n = 0 := by unfold advE; rw [h1, if_neg (by simp), if_neg (by omega)]
  have hR0 : AdvR w xs g now (now + n) L 0 (.slice none 0 0) w := ⟨L, [], xs, sb, ba, AdvI.start _ _ _, h, World.ownsRow_nil _ _ _ _, Grow.refl _ _, FromX.refl _ _, fun k hk => by cases hk⟩
  obtain ⟨N, hN⟩ : ∃ N : Nat, (N : Int) = min n 64 := ⟨(min n 64).toNat, by omega⟩
  have hN64 : N ≤ 64 := by omega
  have hmin : min n 64 = (N : Int) := hN.symm
  obtain ⟨to, hto⟩ : ∃ t, now + n = t := ⟨_, rfl⟩
  have to1 : to ≤ 4611686018427387904 := by omega
  have to0 : 0 ≤ to := by omega
  have HE := Lib.hid hE
  clear hE
  have HN := Lib.hid hN
  clear hN
  rw [hto] at hR0
  have cn := none_wh xs g now L _ sb ba w h
  have c1 := in_any n 0 w
  rw [h1] at c1
  clear h1
  have cw := h.blk.cell (j := 0) rfl
  go_enter Try.func23, Try.ntmps23
  go_wp2_with fail
  refine (cn).mono ?_
  rintro e _ ⟨rfl, rfl⟩
  go_wp2_with fail
  refine (c1).mono ?_
  rintro e _ ⟨rfl, rfl⟩
  go_wp2_with fail
  have hgx := h.own.1
  clear h cw cn c1
  go_loopw [6, 34] (fun v6 v34 wr => ∃ k : Nat, v34 = .int .i64 k ∧ k ≤ N ∧ AdvR w xs g now to L k v6 wr) (fun _ i _ => N - (intOf i).toNat)
  case atStart => exact ⟨0, rfl, by omega, hR0⟩
  case round =>
    clear hR0
    obtain ⟨k, rfl, hk, A, O, xs', sb, ba, hI, hT, hR, hgr, hfx, hnx⟩ := hrel
    by_cases hlt : k < N
    · have hlt2 : (k : Int) < (N : Int) := by omega
      have k0 : (0 : Int) ≤ (k : Int) := by omega
      have hw1 : IntKind.i64.wrap (now + 1) = now + 1 := IntWalk.i64_in _ (by omega)
      have hw2 : IntKind.i64.wrap (now + 1 + (k : Int)) = now + 1 + k := IntWalk.i64_in _ (by omega)
      have hS0 := hT.blk.cell (j := 0) rfl
      have cS : ∀ W', (fun W' : World => W'.cell? ⟨g, 0, none⟩ = some (.int .i64 now)) W' → W'.cell? ⟨g, 0, none⟩ = some (.int .i64 now) := fun _ h => h
      go_upto_region 12 with fail
      refine wp_region_held (S := fun W' : World => W'.cell? ⟨g, 0, none⟩ = some (.int .i64 now)) (by kernel_rfl) ?_
      have hst : Below (wr).heap.size wr { wr with drawn := (wr).drawn + 1 } := ⟨rfl, rfl, rfl, Nat.le_refl _, fun _ _ => rfl⟩
      have hS : (fun W' : World => W'.cell? ⟨g, 0, none⟩ = some (.int .i64 now)) { wr with drawn := (wr).drawn + 1 } := by first | exact ⟨rfl, rfl, rfl, Nat.le_refl _, fun _ _ _ => rfl⟩ | exact ⟨rfl, rfl, rfl, Nat.le_refl _, fun _ _ => rfl⟩ | exact hS0
      have hTq := hT.step hst
      have hRq := hR.step hst
      have hfxq := hfx.step hst
      clear hst
      generalize ({ wr with drawn := (wr).drawn + 1 } : World) = wq at *
      refine wpAnyH_take (i := 0) (v := ?_) rfl (by kernel_rfl) (by kernel_rfl) (by kernel_rfl) (fun _ _ _ h => h) (Or.inl ⟨by kernel_rfl, ?_⟩) hS ?_
      rotate_left
      · intro W hSW
        have y0 := cS _ hSW
        go_simp
        try with_reducible rfl
      dsimp only [Act.put]
      refine wpAnyH_take (i := 1) (v := ?_) rfl (by kernel_rfl) (by kernel_rfl) (by kernel_rfl) (fun _ _ _ h => h) (Or.inl ⟨by kernel_rfl, ?_⟩) hS ?_
      rotate_left
      · intro W hSW
        have y0 := cS _ hSW
        go_simp
        try with_reducible rfl
      dsimp only [Act.put]
      refine wpAnyH_take (i := 2) (v := ?_) rfl (by kernel_rfl) (by kernel_rfl) (by kernel_rfl) (fun _ _ _ h => h) (Or.inl ⟨by kernel_rfl, ?_⟩) hS ?_
      rotate_left
      · intro W hSW
        have y0 := cS _ hSW
        go_simp
        try with_reducible rfl
      dsimp only [Act.put]
      refine wpAnyH_take (i := 4) (v := ?_) rfl (by kernel_rfl) (by kernel_rfl) (by kernel_rfl) (fun _ _ _ h => h) (Or.inl ⟨by kernel_rfl, ?_⟩) hS ?_
      rotate_left
      · intro W hSW
        have y0 := cS _ hSW
        go_simp
        try with_reducible rfl
      dsimp only [Act.put]
      refine wpAnyH_take (i := 5) (v := ?_) rfl (by kernel_rfl) (by kernel_rfl) (by kernel_rfl) (fun _ _ _ h => h) (Or.inl ⟨by kernel_rfl, ?_⟩) hS ?_
      rotate_left
      · intro W hSW
        have y0 := cS _ hSW
        go_simp
        try with_reducible rfl
      dsimp only [Act.put]
      refine wpAnyH_take (i := 6) (v := ?_) rfl (by kernel_rfl) (by kernel_rfl) (by kernel_rfl) (fun _ _ _ h => h) (Or.inl ⟨by kernel_rfl, ?_⟩) hS ?_
      rotate_left
      · intro W hSW
        have y0 := cS _ hSW
        go_simp
        try with_reducible rfl
      dsimp only [Act.put]
      refine wpAnyH_take (i := 7) (v := ?_) rfl (by kernel_rfl) (by kernel_rfl) (by kernel_rfl) (fun _ _ _ h => h) (Or.inl ⟨by kernel_rfl, ?_⟩) hS ?_
      rotate_left
      · intro W hSW
        have y0 := cS _ hSW
        go_simp
        try with_reducible rfl
      dsimp only [Act.put]
      refine wpAnyH_take (i := 8) (v := ?_) rfl (by kernel_rfl) (by kernel_rfl) (by kernel_rfl) (fun _ _ _ h => h) (Or.inl ⟨by kernel_rfl, ?_⟩) hS ?_
      rotate_left
      · intro W hSW
        have y0 := cS _ hSW
        go_simp
        try with_reducible rfl
      dsimp only [Act.put]
      refine wpAnyH_take (i := 9) (v := ?_) rfl (by kernel_rfl) (by kernel_rfl) (by kernel_rfl) (fun _ _ _ h => h) (Or.inl ⟨by kernel_rfl, ?_⟩) hS ?_
      rotate_left
      · intro W hSW
        have y0 := cS _ hSW
        go_simp
        try with_reducible rfl
      dsimp only [Act.put]
      refine wpAnyH_take (i := 10) (v := ?_) rfl (by kernel_rfl) (by kernel_rfl) (by kernel_rfl) (fun _ _ _ h => h) (Or.inl ⟨by kernel_rfl, ?_⟩) hS ?_
      rotate_left
      · intro W hSW
        have y0 := cS _ hSW
        go_simp
        try with_reducible rfl
      dsimp only [Act.put]
      refine wpAnyH_take (i := 11) (v := ?_) rfl (by kernel_rfl) (by kernel_rfl) (by kernel_rfl) (fun _ _ _ h => h) (Or.inl ⟨by kernel_rfl, ?_⟩) hS ?_
      rotate_left
      · intro W hSW
        have y0 := cS _ hSW
        go_simp
        try with_reducible rfl
      dsimp only [Act.put]
      refine wpAnyH_take (i := 15) (v := ?_) rfl (by kernel_rfl) (by kernel_rfl) (by kernel_rfl) (fun _ _ _ h => h) (Or.inl ⟨by kernel_rfl, ?_⟩) hS ?_
      rotate_left
      · intro W hSW
        have y0 := cS _ hSW
        go_simp
        try with_reducible rfl
      dsimp only [Act.put]
      refine wpAnyH_ready (rs := [3]) (by kernel_rfl) (by simp) ?_
      refine AllReadyH.cons rfl (fun K hK => ?_) AllReadyH.nil
      go_simp
      refine (slot_mk g _).mono ?_
      rintro e wa ⟨⟨b, rfl, hB, -⟩, hbn⟩
      have hTa := hTq.step hbn
      have hRa := hRq.step hbn
      have hfa := hfxq.step hbn
      refine hK.out _ _ (cells_kept hbn hS) (fun hS => ?_)
      clear hbn hTq hRq hfxq
      clear hK K
      refine wpAnyH_ready (rs := [12]) (by kernel_rfl) (by simp) ?_
      refine AllReadyH.cons rfl (fun K hK => ?_) AllReadyH.nil
      go_simp
      refine (slot_any _ g now _ _ _ ba b (now + 1 + k) _ hTa hB (by omega)).mono ?_
      rintro e wb ⟨rfl, sb2, xs2, m, hTb, hs, hgr2, hkb⟩
      have hgb := hgr.trans hgr2 hfa.size
      have hfb := hfa.kx hkb (fun x hx => by simp at hx; subst hx; exact .inl hgx)
      have hRb := hRa.kx hkb (fun j hj hm => hnx j hj (by simp at hm; subst hm; exact hTa.own.1))
      have hnb : ∀ j, u6.ownBlock = some j → j ∉ xs2 := fun j hj hm => by
        rcases hgr2.2 j hm with h1 | h1
        · exact hnx j hj h1
        · have := (hRa.ge j hj).2; omega
      have cm := hTb.slot_cell (by omega) hs
      refine hK.out _ _ (hTb.blk.cell (j := 0) rfl) (fun hS => ?_)
      clear hkb hTa hRa hfa hgr2
      clear hK K
      refine wpAnyH_ready (rs := [13]) (by kernel_rfl) (by simp) ?_
      refine AllReadyH.cons rfl (fun K hK => ?_) AllReadyH.nil
      go_simp
      refine hK.out _ _ hS (fun hS => ?_)
      clear hK K
      refine wpAnyH_ready (rs := [14]) (by kernel_rfl) (by simp) ?_
      refine AllReadyH.cons rfl (fun K hK => ?_) AllReadyH.nil
      go_simp
      refine hK.out _ _ hS (fun hS => ?_)
      clear hK K
      refine wpAnyH_ready (rs := [16]) (by kernel_rfl) (by simp) ?_
      refine AllReadyH.cons rfl (fun K hK => ?_) AllReadyH.nil
      go_simp
      have hlen : (slotF A ((now + 1 + (k : Int)) % 64).toNat).length ≤ 4096 := by
        have h1 := hI.pm.length_eq
        have h2 := hG.len
        rw [List.length_append] at h1
        have h3 : (slotF A ((now + 1 + (k : Int)) % 64).toNat).length ≤ A.length := List.length_filter_le _ _
        omega
      refine (takes_any xs2 g now A _ sb2 ba _ m to _ hTb (by omega) hs hlen).mono ?_
      rintro e wc ⟨v2, O2, rfl, hv2, hO2, hTc, hkc⟩
      have hn := hTb.all.nodup
      rw [hit_filter] at hO2
      have hIn := hI.next (i := ((now + 1 + (k : Int)) % 64).toNat) rfl hO2
      have hTc2 : WhW wc xs2 g now (A.filter (fun p => !hitB ((now + 1 + (k : Int)) % 64).toNat to p)) sb2 ba := by
        rw [ids_eq hn hO2] at hTc
        exact hTc.slotsTo (hit_slots A _ to)
      have hRc := hRb.kx hkc (fun j hj hm => hnb j hj (by simp at hm; rcases hm with rfl | rfl; exact hTb.own.2.1; exact hTb.slot_in (by omega) hs))
      have hfc := hfb.kx hkc (fun x hx => by simp at hx; rcases hx with rfl | rfl; exact hgb.2 _ hTb.own.2.1; exact hgb.2 _ (hTb.slot_in (by omega) hs))
      have hbase : w.heap.size ≤ wc.heap.size := hfc.size
      have hlen2 : O.length + O2.length ≤ 100000 := by
        have h1 := hIn.pm.length_eq
        have h2 := hG.len
        rw [List.length_append, List.length_append] at h1
        omega
      refine hK.out _ _ (hTc2.blk.cell (j := 0) rfl) (fun hS => ?_)
      clear hkc hTc hO2 hTb hRb hfb
      clear hK K
      obtain ⟨v3, wd, ra, hRd, hkd, hob⟩ := hRc.app hv2 hlen2 hbase 26
      refine wpAnyH_ready (rs := [17]) (by kernel_rfl) (by simp) ?_
      refine AllReadyH.cons rfl (fun K hK => ?_) AllReadyH.nil
      have hTd := hTc2.kx hkd (fun x hx hm => hnb x (by simpa using hm) hx)
      have hfd := hfc.kx hkd (fun x hx => .inr (hRc.ge x (by simpa using hx)).1)
      have hnd : ∀ j, v3.ownBlock = some j → j ∉ xs2 := fun j hj hm => by
        rcases hob with e | e
        · exact hnb j (e ▸ hj) hm
        · rw [e] at hj; cases hj; have := hTc2.lt _ hm; omega
      refine step_append_run rfl (.tmp 37) (.tmp 53) 26 rfl rfl rfl ra ?_
      refine hK.out _ _ (hTd.blk.cell (j := 0) rfl) (fun hS => ?_)
      clear hkd hob hTc2 hfc hRc hv2 ra
      clear hK K
      refine wpAnyH_ready (rs := [18]) (by kernel_rfl) (by simp) ?_
      refine AllReadyH.cons rfl (fun K hK => ?_) AllReadyH.nil
      go_simp
      refine hK.out _ _ hS (fun hS => ?_)
      clear hK K
      refine wpAnyH_done (by kernel_rfl) ?_ _
      go_wp2_with fail
      go_roundw
      case rel => exact ⟨k + 1, by go_num, by omega, _, _, xs2, sb2, ba, hIn, hTd, hRd, hgb, hfd, hnd⟩
      case measure => simp [intOf]; omega
    · obtain rfl : k = N := by omega
      subst hto
      obtain ⟨hO, hA⟩ := hI.fin HN.out (fun p hp => (hG.each p hp).2.2.1)
      have hsO := sortD_eq hO (hG.ord.filter _)
      have hlO : O.length = (L.filter (fun p => decide (p.2 ≤ now + n))).length := hO.length_eq
      have hlO2 : O.length ≤ 4611686018427387900 := by have := hG.len; have := List.length_filter_le (fun p : Int × Int => decide (p.2 ≤ now + n)) L; omega
      have hT2 := hT.clock (now + n)
      have hkk : Kx [g] wr (wr.setCell ⟨g, 0, none⟩ (.int .i64 (now + n))) := (Kx.refl [g] wr).setCell (.inl (by simp)) _
      have hR2 := hR.kx hkk (fun j hj hm => hnx j hj (by simp at hm; subst hm; exact hT.own.1))
      have hf2 := hfx.kx hkk (fun x hx => by simp at hx; subst hx; exact .inl hgx)
      have hfz := hT.blk.frozen 0
      have hcz := hT.blk.cell (j := 0) rfl
      have co := fun (v : Value) W (h : RowD W w.heap.size v O) => ordered_any w.heap.size v O W h hlO2
      clear hkk hT hR hfx hO hI
      go_wp2_with fail
      generalize wr.setCell ⟨g, 0, none⟩ (.int .i64 (now + n)) = w5 at *
      refine (co _ _ hR2).mono ?_
      rintro e w6 ⟨rfl, hr6, hk6⟩
      rw [hsO, hlO] at hr6
      have hT6 := (hT2.perm (F' := slotF (L.filter (fun p => decide (now + n < p.2)))) hA (fun j _ => hA.filter _)).kx hk6 (fun x hx hm => hnx x (by simpa using hm) hx)
      have hf6 := hf2.kx hk6 (fun x hx => .inr (hR2.ge x (by simpa using hx)).1)
      clear hT2 hf2 hR2 hk6 co hsO hlO
      go_wp2
      go_ret2
      unfold AdvP
      have hE := HE.out
      unfold advO advN advL
      rw [hE]
      simp only [if_true]
      exact ⟨_, rfl, hr6, xs', ⟨sb, ba, hT6⟩, hgr, hf6, hnx⟩
end Go.Proofs.Ytfdfmmmfklodgaa
