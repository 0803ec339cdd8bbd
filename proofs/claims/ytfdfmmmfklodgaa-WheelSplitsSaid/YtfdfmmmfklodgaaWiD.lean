
/- The statements of the wheel: small, act. -/
import Derived.Test.YtfdfmmmfklodgaaWiC
namespace Go.Proofs.Ytfdfmmmfklodgaa
set_option linter.unusedSimpArgs false
set_option linter.unusedVariables false
open Go.RowKit
/-- Calls as they lie from an address on. -/
def HasA (w : World) (ao : Option Addr) (n : Nat) : Prop := ∀ k, k < n → ∃ b off x y z, ao = some ⟨b, off, none⟩ ∧ w.cell? ⟨b, off + k * 3, none⟩ = some (.int .i64 x) ∧ w.cell? ⟨b, off + k * 3 + 1, none⟩ = some (.int .i64 y) ∧ w.cell? ⟨b, off + k * 3 + 2, none⟩ = some (.int .i64 z) ∧ wf64 y
theorem HasA.step {w w' : World} {ao : Option Addr} {n : Nat} (h : HasA w ao n) (hb : Below w.heap.size w w') : HasA w' ao n := fun k hk => by
  obtain ⟨b, off, x, y, z, e, h0, h1, h2, h3⟩ := h k hk
  exact ⟨b, off, x, y, z, e, cells_kept hb h0, cells_kept hb h1, cells_kept hb h2, h3⟩
def SmallP (w : World) (e : Ending) (w' : World) : Prop := (∃ b, e = .returned (.bool b)) ∧ w = w'
set_option maxRecDepth 100000 in
set_option maxHeartbeats 2000000 in
theorem small_any (ao : Option Addr) (n c : Nat) (hn : n ≤ 9223372036854775807) (w : World) (h : HasA w ao n) : Calls Try.prog 18 #[.slice ao n c] w (SmallP w) := by
  have hnI : (n : Int) ≤ 9223372036854775807 := by omega
  go_enter Try.func18, Try.ntmps18
  go_wp2_with fail
  go_loopw [3] (fun i wr => ∃ k : Nat, i = .int .i64 k ∧ k ≤ n ∧ wr = w) (fun i _ => n - (intOf i).toNat)
  case atStart => exact ⟨0, rfl, by omega, by first | rfl | trivial⟩
  case round =>
    obtain ⟨k, rfl, hk, hw⟩ := hrel
    subst hw
    have k0 : (0 : Int) ≤ (k : Int) := by omega
    by_cases hlt : k < n
    · have k1 : (k : Int) < (n : Int) := by omega
      obtain ⟨b, off, x, y, z, rfl, h0, h1, h2, -⟩ := h k hlt
      clear h
      by_cases x0 : x = 0
      · subst x0
        go_wp2_with fail
        go_roundw
        case rel => exact ⟨k + 1, by go_num, by omega, by first | rfl | trivial⟩
        case measure => simp [intOf]; omega
      · by_cases x1 : x = 1
        · subst x1
          go_wp2_with fail
          go_roundw
          case rel => exact ⟨k + 1, by go_num, by omega, by first | rfl | trivial⟩
          case measure => simp [intOf]; omega
        · have y0 : (x != 0) = true := by simpa using x0
          have y1 : (x != 1) = true := by simpa using x1
          by_cases z0 : 5000 < z
          · by_cases z1 : z ≤ 2147483647
            · go_wp2_with fail
              go_ret
              exact ⟨⟨_, rfl⟩, rfl⟩
            · go_wp2_with fail
              go_roundw
              case rel => exact ⟨k + 1, by go_num, by omega, by first | rfl | trivial⟩
              case measure => simp [intOf]; omega
          · go_wp2_with fail
            go_roundw
            case rel => exact ⟨k + 1, by go_num, by omega, by first | rfl | trivial⟩
            case measure => simp [intOf]; omega
    · obtain rfl : k = n := by omega
      go_wp2_with fail
      go_ret
      exact ⟨⟨_, rfl⟩, rfl⟩
/-- A wheel and the document's, alike. -/
def PairW (W : World) (xs : List Nat) (g : Nat) (now : Int) (L : List (Int × Int)) (a : Option Addr) (c : Nat) : Prop := WhV W xs g now L ∧ GoodW now L ∧ RowD W 0 (.slice a L.length c) L ∧ ∀ k, (Value.slice a L.length c).ownBlock = some k → k ∉ xs
theorem PairW.step {W W' : World} {xs : List Nat} {g : Nat} {now : Int} {L : List (Int × Int)} {a : Option Addr} {c : Nat} (h : PairW W xs g now L a c) (hb : Below W.heap.size W W') : PairW W' xs g now L a c := ⟨h.1.step hb, h.2.1, h.2.2.1.step hb, h.2.2.2⟩
def ActP (w : World) (xs : List Nat) (g : Nat) (e : Ending) (w' : World) : Prop :=
  ∃ now L a c xs', e = .returned (.tuple #[.agg #[.int .i64 now, .slice a L.length c], .bool true]) ∧ PairW w' xs' g now L a c ∧ Grow w.heap.size xs xs' ∧ Kx xs w w'
/-- ActP, and the document's row lies where it lay, or in a new block. -/
def ActQ (w : World) (xs : List Nat) (g : Nat) (v : Value) (e : Ending) (w' : World) : Prop :=
  ∃ now L a c xs', e = .returned (.tuple #[.agg #[.int .i64 now, .slice a L.length c], .bool true]) ∧ PairW w' xs' g now L a c ∧ Grow w.heap.size xs xs' ∧ Kx xs w w' ∧ ∀ k, (Value.slice a L.length c).ownBlock = some k → v.ownBlock = some k ∨ w.heap.size ≤ k
theorem advance_any (xs : List Nat) (g : Nat) (now : Int) (L : List (Int × Int)) (n : Int) (w : World) (h : WhV w xs g now L) (hG : GoodW now L) : Calls Try.prog 23 #[.pointer (some ⟨g, 0, none⟩), .int .i64 n] w (AdvP w xs g now L n) := by
  have h0 := h
  obtain ⟨sb, ba, hW⟩ := h
  cases h1 : inI n 0
  · have hE : advE now n = 2 := by unfold advE; rw [if_pos h1]
    refine (adv_bad xs g now L sb ba n w hW h1).mono ?_
    rintro e w' ⟨rfl, rfl⟩
    unfold AdvP advO advN advL
    rw [hE]
    exact ⟨_, rfl, World.ownsRow_nil _ _ _ _, xs, h0, Grow.refl _ _, Kx.refl _ _, fun k hk => by cases hk⟩
  · by_cases h2 : 4611686018427387904 - n < now
    · have hE : advE now n = 3 := by unfold advE; rw [if_neg (by rw [h1]; simp), if_pos h2]
      refine (adv_long xs g now L sb ba n w hW hG h1 h2).mono ?_
      rintro e w' ⟨rfl, rfl⟩
      unfold AdvP advO advN advL
      rw [hE]
      exact ⟨_, rfl, World.ownsRow_nil _ _ _ _, xs, h0, Grow.refl _ _, Kx.refl _ _, fun k hk => by cases hk⟩
    · exact adv_yes xs g now L sb ba n w hW hG h1 (by omega)
set_option maxRecDepth 100000 in
set_option maxHeartbeats 4000000 in
theorem act_set (xs : List Nat) (g : Nat) (now : Int) (L : List (Int × Int)) (a : Option Addr) (c : Nat) (id n : Int) (hid : wf64 id) (w : World) (hP : PairW w xs g now L a c) :
    Calls Try.prog 12 #[.pointer (some ⟨g, 0, none⟩), .agg #[.int .i64 now, .slice a L.length c], .agg #[.int .i64 0, .int .i64 id, .int .i64 n]] w (ActQ w xs g (.slice a L.length c)) := by
  obtain ⟨N, hN⟩ : ∃ N, L.length = N := ⟨_, rfl⟩
  have cR := fun W hW => refSet_any now a c L id n W hW hP.2.1
  have cS := fun W hW => set_any xs g now L id n hid W hW hP.2.1
  have hG2 := hP.2.1.set id n
  unfold RefP at cR
  unfold PairW at hP
  rw [hN] at cR hP ⊢
  clear hN
  generalize setL now L id n = L2 at *
  generalize setA now L id n = M0 at *
  generalize setE now L id n = E0 at *
  have hxw := Lib.hid hP.1.lt
  obtain ⟨h, hG, hR, hnx⟩ := hP
  have hge := Lib.hid hR.ge
  have hfx := FromX.refl xs w
  go_enter Try.func12, Try.ntmps12
  go_upto_region 1 with fail
  obtain ⟨gX, hgX⟩ : ∃ g, (w).heap.size = g := ⟨_, rfl⟩
  have X := Blk.newV hgX 28 #[.int .i64 now, .slice a N c]
  have hbn := (Below.refl (w).heap.size w).alloc (Nat.le_refl _) (.cells #[.int .i64 now, .slice a N c] 28)
  replace h := h.step hbn
  replace hR := hR.step hbn
  replace hfx := hfx.step hbn
  clear hbn
  rw [hgX]
  have szX := alloc_size hgX (.cells #[.int .i64 now, .slice a N c] 28)
  generalize (w).alloc (.cells #[.int .i64 now, .slice a N c] 28) = w1 at *
  obtain ⟨gA, hgA⟩ : ∃ g, (w1).heap.size = g := ⟨_, rfl⟩
  have lt_X_A := X.lt
  rw [hgA] at lt_X_A
  have A := Blk.newV hgA 32 #[.int .i64 0, .int .i64 id, .int .i64 n]
  have hbn := (Below.refl (w1).heap.size w1).alloc (Nat.le_refl _) (.cells #[.int .i64 0, .int .i64 id, .int .i64 n] 32)
  replace h := h.step hbn
  replace hR := hR.step hbn
  replace hfx := hfx.step hbn
  replace X := X.step hbn
  clear hbn
  have egA : gX + 1 = gA := szX.symm.trans hgA
  rw [egA]
  clear szX
  have szA := alloc_size hgA (.cells #[.int .i64 0, .int .i64 id, .int .i64 n] 32)
  generalize (w1).alloc (.cells #[.int .i64 0, .int .i64 id, .int .i64 n] 32) = w2 at *
  obtain ⟨gR, hgR⟩ : ∃ g, (w2).heap.size = g := ⟨_, rfl⟩
  have lt_X_R := X.lt
  rw [hgR] at lt_X_R
  have lt_A_R := A.lt
  rw [hgR] at lt_A_R
  have R := Blk.newV hgR 28 #[.int .i64 0, .slice none 0 0]
  have hbn := (Below.refl (w2).heap.size w2).alloc (Nat.le_refl _) (.cells #[.int .i64 0, .slice none 0 0] 28)
  replace h := h.step hbn
  replace hR := hR.step hbn
  replace hfx := hfx.step hbn
  replace X := X.step hbn
  replace A := A.step hbn
  clear hbn
  have egR : gA + 1 = gR := szA.symm.trans hgR
  rw [egR]
  clear szA
  generalize (w2).alloc (.cells #[.int .i64 0, .slice none 0 0] 28) = w3 at *
  have X_0 := X.cell (j := 0) rfl
  have X_1 := X.cell (j := 1) rfl
  have A_0 := A.cell (j := 0) rfl
  have A_1 := A.cell (j := 1) rfl
  have A_2 := A.cell (j := 2) rfl
  go_wp2_with fail
  refine (cR _ hR).mono ?_
  rintro e w4 ⟨a2, c2, rfl, hR2, hf2, hbn⟩
  have hfo := fun k hk => (hf2 k hk).imp (fun h => h) (fun h => Nat.le_trans hfx.size h)
  have hRv0 : (Value.slice a2 L2.length c2).ownBlock ≠ some gR := fun e => by
    rcases hf2 _ e with h1 | h1
    · have := (hge.out _ h1).2; omega
    · have := R.lt; omega
  have hn2 : ∀ k, (Value.slice a2 L2.length c2).ownBlock = some k → k ∉ xs := fun k hk hm => by
    rcases hf2 k hk with h1 | h1
    · exact hnx k h1 hm
    · have := hxw.out k hm; have := hfx.size; omega
  have hwX : w.heap.size ≤ gX := by omega
  have hwA : w.heap.size ≤ gA := by omega
  have hwR : w.heap.size ≤ gR := by omega
  replace X := X.step hbn
  replace X_0 := X.cell (j := 0) rfl
  replace X_1 := X.cell (j := 1) rfl
  replace A := A.step hbn
  replace A_0 := A.cell (j := 0) rfl
  replace A_1 := A.cell (j := 1) rfl
  replace A_2 := A.cell (j := 2) rfl
  replace R := R.step hbn
  replace h := h.step hbn
  replace hfx := hfx.step hbn
  clear hbn hR hgX hgA hgR lt_X_A lt_X_R lt_A_R
  have hl2 : ∀ k, (Value.slice a2 L2.length c2).ownBlock = some k → k < w4.heap.size := fun k hk => (hR2.ge k hk).2
  have hw4 := hfx.size
  go_upto_region 4 with fail
  obtain ⟨gO, hgO⟩ : ∃ g, (w4).heap.size = g := ⟨_, rfl⟩
  have lt_X_O := X.lt
  rw [hgO] at lt_X_O
  have lt_A_O := A.lt
  rw [hgO] at lt_A_O
  have lt_R_O := R.lt
  rw [hgO] at lt_R_O
  have O := Blk.newV hgO 28 #[.int .i64 now, .slice a2 L2.length c2]
  have hbn := (Below.refl (w4).heap.size w4).alloc (Nat.le_refl _) (.cells #[.int .i64 now, .slice a2 L2.length c2] 28)
  replace X := X.step hbn
  replace X_0 := X.cell (j := 0) rfl
  replace X_1 := X.cell (j := 1) rfl
  replace A := A.step hbn
  replace A_0 := A.cell (j := 0) rfl
  replace A_1 := A.cell (j := 1) rfl
  replace A_2 := A.cell (j := 2) rfl
  replace R := R.step hbn
  replace h := h.step hbn
  replace hfx := hfx.step hbn
  replace hR2 := hR2.step hbn
  clear hbn
  rw [hgO]
  generalize (w4).alloc (.cells #[.int .i64 now, .slice a2 L2.length c2] 28) = w5 at *
  go_wp2_with fail
  refine (cS _ h).mono ?_
  rintro e w6 ⟨rfl, xs', hV, hgr, hk⟩
  have hRx : gR ∉ xs' := hgr.not (fun hm => by have := hxw.out _ hm; omega) (by have := R.lt; omega)
  have hRv : (Value.slice a2 L2.length c2).ownBlock ≠ some gR := hRv0
  have hwO : w.heap.size ≤ gO := by omega
  have hn3 : ∀ k, (Value.slice a2 L2.length c2).ownBlock = some k → k ∉ xs' := fun k hk => hgr.not (hn2 k hk) (by have := hl2 k hk; have := O.lt; omega)
  have hgr2 := hgr.from hfx.size
  have hno : ∀ z, w.heap.size ≤ z → z ∉ xs := fun z hz hm => by have := hxw.out z hm; omega
  replace X := X.kx hk (hno _ hwX)
  replace A := A.kx hk (hno _ hwA)
  replace R := R.kx hk (hno _ hwR)
  replace O := O.kx hk (hno _ hwO)
  replace hR2 := hR2.kx hk hn2
  replace hfx := hfx.kx hk (fun x hx => .inl hx)
  have hVl := Lib.hid hV.lt
  clear hk hgr h cR cS hl2 hn2
  go_upto_region 5 with fail
  have hRO : gR < gO := by omega
  have o0 := kx_all (ws := [gR]) (O.cell (j := 0) rfl) (by simp; omega)
  have o1 := kx_all (ws := [gR]) (O.cell (j := 1) rfl) (by simp; omega)
  refine wp_region_held (S := Kx [gR] w6) (by kernel_rfl) ?_
  have hst : Below (w6).heap.size w6 { w6 with drawn := (w6).drawn + 1 } := ⟨rfl, rfl, rfl, Nat.le_refl _, fun _ _ => rfl⟩
  have hS : (Kx [gR] w6) { w6 with drawn := (w6).drawn + 1 } := by first | exact ⟨rfl, rfl, rfl, Nat.le_refl _, fun _ _ _ => rfl⟩ | exact ⟨rfl, rfl, rfl, Nat.le_refl _, fun _ _ => rfl⟩ | exact hS0
  replace R := R.step hst
  replace hV := hV.step hst
  replace hR2 := hR2.step hst
  replace hfx := hfx.step hst
  clear hst
  generalize ({ w6 with drawn := (w6).drawn + 1 } : World) = wq at *
  refine wpAnyH_take (i := 0) (v := ?_) rfl (by kernel_rfl) (by kernel_rfl) (by kernel_rfl) (fun _ _ _ h => h) (Or.inl ⟨by kernel_rfl, ?_⟩) hS ?_
  rotate_left
  · intro W hSW
    have y0 := o0 _ hSW
    have y1 := o1 _ hSW
    go_simp
    try with_reducible rfl
  dsimp only [Act.put]
  refine wpAnyH_take (i := 1) (v := ?_) rfl (by kernel_rfl) (by kernel_rfl) (by kernel_rfl) (fun _ _ _ h => h) (Or.inl ⟨by kernel_rfl, ?_⟩) hS ?_
  rotate_left
  · intro W hSW
    have y0 := o0 _ hSW
    have y1 := o1 _ hSW
    go_simp
    try with_reducible rfl
  dsimp only [Act.put]
  refine wpAnyH_take (i := 2) (v := ?_) rfl (by kernel_rfl) (by kernel_rfl) (by kernel_rfl) (fun _ _ _ h => h) (Or.inl ⟨by kernel_rfl, ?_⟩) hS ?_
  rotate_left
  · intro W hSW
    have y0 := o0 _ hSW
    have y1 := o1 _ hSW
    go_simp
    try with_reducible rfl
  dsimp only [Act.put]
  refine wpAnyH_take (i := 3) (v := ?_) rfl (by kernel_rfl) (by kernel_rfl) (by kernel_rfl) (fun _ _ _ h => h) (Or.inl ⟨by kernel_rfl, ?_⟩) hS ?_
  rotate_left
  · intro W hSW
    have y0 := o0 _ hSW
    have y1 := o1 _ hSW
    go_simp
    try with_reducible rfl
  dsimp only [Act.put]
  refine wpAnyH_take (i := 4) (v := ?_) rfl (by kernel_rfl) (by kernel_rfl) (by kernel_rfl) (fun _ _ _ h => h) (Or.inl ⟨by kernel_rfl, ?_⟩) hS ?_
  rotate_left
  · intro W hSW
    have y0 := o0 _ hSW
    have y1 := o1 _ hSW
    go_simp
    try with_reducible rfl
  dsimp only [Act.put]
  refine wpAnyH_take (i := 5) (v := ?_) rfl (by kernel_rfl) (by kernel_rfl) (by kernel_rfl) (fun _ _ _ h => h) (Or.inl ⟨by kernel_rfl, ?_⟩) hS ?_
  rotate_left
  · intro W hSW
    have y0 := o0 _ hSW
    have y1 := o1 _ hSW
    go_simp
    try with_reducible rfl
  dsimp only [Act.put]
  refine wpAnyH_take (i := 7) (v := ?_) rfl (by kernel_rfl) (by kernel_rfl) (by kernel_rfl) (fun _ _ _ h => h) (Or.inl ⟨by kernel_rfl, ?_⟩) hS ?_
  rotate_left
  · intro W hSW
    have y0 := o0 _ hSW
    have y1 := o1 _ hSW
    go_simp
    try with_reducible rfl
  dsimp only [Act.put]
  refine wpAnyH_ready (rs := [6]) (by kernel_rfl) (by simp) ?_
  refine AllReadyH.cons rfl (fun K hK => ?_) AllReadyH.nil
  go_simp
  refine (num_any _ _).mono ?_
  rintro e wq ⟨rfl, rfl⟩
  refine hK.out _ _ (hS) (fun hS => ?_)
  clear hK K
  refine wpAnyH_take (i := 8) (v := ?_) rfl (by kernel_rfl) (by kernel_rfl) (by kernel_rfl) (fun _ _ _ h => h) (Or.inl ⟨by kernel_rfl, ?_⟩) hS ?_
  rotate_left
  · intro W hSW
    go_simp
    try with_reducible rfl
  dsimp only [Act.put]
  refine wpAnyH_take (i := 9) (v := ?_) rfl (by kernel_rfl) (by kernel_rfl) (by kernel_rfl) (fun _ _ _ h => h) (Or.inl ⟨by kernel_rfl, ?_⟩) hS ?_
  rotate_left
  · intro W hSW
    go_simp
    try with_reducible rfl
  dsimp only [Act.put]
  have r0 := R.cell (j := 0) rfl
  have r1 := R.cell (j := 1) rfl
  have f0 := R.frozen 0
  have f1 := R.frozen 1
  refine wpAnyH_ready (rs := [10]) (by kernel_rfl) (by simp) ?_
  refine AllReadyH.cons rfl (fun K hK => ?_) AllReadyH.nil
  go_simp
  have hkk : Kx [gR] wq ((wq.setCell ⟨gR, 0, none⟩ (.int .i64 now)).setCell ⟨gR, 1, none⟩ (.slice a2 L2.length c2)) := ((Kx.refl _ _).setCell (.inl (by simp)) _).setCell (.inl (by simp)) _
  have hV2 := hV.kx hkk (fun x hx hm => by have := hgr2.2 x hx; simp at hm; subst hm; rcases this with h1 | h1; exact hno _ hwR h1; exact hRx hx)
  have hR3 := hR2.kx hkk (fun k hk hm => by simp at hm; subst hm; exact hRv hk)
  have hfy := hfx.kx hkk (fun x hx => by simp at hx; subst hx; exact .inr hwR)
  refine hK.out _ _ (hS.kx hkk (fun x hx => .inl (by simp at hx; simp [hx]))) (fun hS => ?_)
  clear hkk
  clear hK K
  refine wpAnyH_ready (rs := [11]) (by kernel_rfl) (by simp) ?_
  refine AllReadyH.cons rfl (fun K hK => ?_) AllReadyH.nil
  go_simp
  refine hK.out _ _ hS (fun hS => ?_)
  clear hK K
  refine wpAnyH_done (by kernel_rfl) ?_ _
  clear hS hfx
  go_wp2_with fail
  (try simp only [Exit.inBlock, Exit.then])
  refine bodyPost_ret (v := .tuple #[.agg #[.int .i64 now, .slice a2 L2.length c2], .bool true]) ?_ rfl ⟨_, L2, a2, c2, xs', rfl, ⟨hV2, hG2, hR3, hn3⟩, hgr2, hfy, hfo⟩
  rw [r_cell1t rfl]
  go_simp
set_option maxRecDepth 100000 in
set_option maxHeartbeats 4000000 in
theorem act_can (xs : List Nat) (g : Nat) (now : Int) (L : List (Int × Int)) (a : Option Addr) (c : Nat) (id n : Int) (hid : wf64 id) (w : World) (hP : PairW w xs g now L a c) :
    Calls Try.prog 12 #[.pointer (some ⟨g, 0, none⟩), .agg #[.int .i64 now, .slice a L.length c], .agg #[.int .i64 1, .int .i64 id, .int .i64 n]] w (ActQ w xs g (.slice a L.length c)) := by
  obtain ⟨N, hN⟩ : ∃ N, L.length = N := ⟨_, rfl⟩
  have cR := fun W hW => refCancel_any now a c L id W hW (by have := hP.2.1.len; omega)
  have cS := fun W hW => cancel_any xs g now L id hid W hW hP.2.1
  have hG2 := hP.2.1.can id
  unfold RefP at cR
  unfold PairW at hP
  rw [hN] at cR hP ⊢
  clear hN
  generalize canL L id = L2 at *
  generalize canE L id = E0 at *
  have hxw := Lib.hid hP.1.lt
  obtain ⟨h, hG, hR, hnx⟩ := hP
  have hge := Lib.hid hR.ge
  have hfx := FromX.refl xs w
  go_enter Try.func12, Try.ntmps12
  go_upto_region 1 with fail
  obtain ⟨gX, hgX⟩ : ∃ g, (w).heap.size = g := ⟨_, rfl⟩
  have X := Blk.newV hgX 28 #[.int .i64 now, .slice a N c]
  have hbn := (Below.refl (w).heap.size w).alloc (Nat.le_refl _) (.cells #[.int .i64 now, .slice a N c] 28)
  replace h := h.step hbn
  replace hR := hR.step hbn
  replace hfx := hfx.step hbn
  clear hbn
  rw [hgX]
  have szX := alloc_size hgX (.cells #[.int .i64 now, .slice a N c] 28)
  generalize (w).alloc (.cells #[.int .i64 now, .slice a N c] 28) = w1 at *
  obtain ⟨gA, hgA⟩ : ∃ g, (w1).heap.size = g := ⟨_, rfl⟩
  have lt_X_A := X.lt
  rw [hgA] at lt_X_A
  have A := Blk.newV hgA 32 #[.int .i64 1, .int .i64 id, .int .i64 n]
  have hbn := (Below.refl (w1).heap.size w1).alloc (Nat.le_refl _) (.cells #[.int .i64 1, .int .i64 id, .int .i64 n] 32)
  replace h := h.step hbn
  replace hR := hR.step hbn
  replace hfx := hfx.step hbn
  replace X := X.step hbn
  clear hbn
  have egA : gX + 1 = gA := szX.symm.trans hgA
  rw [egA]
  clear szX
  have szA := alloc_size hgA (.cells #[.int .i64 1, .int .i64 id, .int .i64 n] 32)
  generalize (w1).alloc (.cells #[.int .i64 1, .int .i64 id, .int .i64 n] 32) = w2 at *
  obtain ⟨gR, hgR⟩ : ∃ g, (w2).heap.size = g := ⟨_, rfl⟩
  have lt_X_R := X.lt
  rw [hgR] at lt_X_R
  have lt_A_R := A.lt
  rw [hgR] at lt_A_R
  have R := Blk.newV hgR 28 #[.int .i64 0, .slice none 0 0]
  have hbn := (Below.refl (w2).heap.size w2).alloc (Nat.le_refl _) (.cells #[.int .i64 0, .slice none 0 0] 28)
  replace h := h.step hbn
  replace hR := hR.step hbn
  replace hfx := hfx.step hbn
  replace X := X.step hbn
  replace A := A.step hbn
  clear hbn
  have egR : gA + 1 = gR := szA.symm.trans hgR
  rw [egR]
  clear szA
  generalize (w2).alloc (.cells #[.int .i64 0, .slice none 0 0] 28) = w3 at *
  have X_0 := X.cell (j := 0) rfl
  have X_1 := X.cell (j := 1) rfl
  have A_0 := A.cell (j := 0) rfl
  have A_1 := A.cell (j := 1) rfl
  have A_2 := A.cell (j := 2) rfl
  go_wp2_with fail
  refine (cR _ hR).mono ?_
  rintro e w4 ⟨a2, c2, rfl, hR2, hf2, hbn⟩
  have hfo := fun k hk => (hf2 k hk).imp (fun h => h) (fun h => Nat.le_trans hfx.size h)
  have hRv0 : (Value.slice a2 L2.length c2).ownBlock ≠ some gR := fun e => by
    rcases hf2 _ e with h1 | h1
    · have := (hge.out _ h1).2; omega
    · have := R.lt; omega
  have hn2 : ∀ k, (Value.slice a2 L2.length c2).ownBlock = some k → k ∉ xs := fun k hk hm => by
    rcases hf2 k hk with h1 | h1
    · exact hnx k h1 hm
    · have := hxw.out k hm; have := hfx.size; omega
  have hwX : w.heap.size ≤ gX := by omega
  have hwA : w.heap.size ≤ gA := by omega
  have hwR : w.heap.size ≤ gR := by omega
  replace X := X.step hbn
  replace X_0 := X.cell (j := 0) rfl
  replace X_1 := X.cell (j := 1) rfl
  replace A := A.step hbn
  replace A_0 := A.cell (j := 0) rfl
  replace A_1 := A.cell (j := 1) rfl
  replace A_2 := A.cell (j := 2) rfl
  replace R := R.step hbn
  replace h := h.step hbn
  replace hfx := hfx.step hbn
  clear hbn hR hgX hgA hgR lt_X_A lt_X_R lt_A_R
  have hl2 : ∀ k, (Value.slice a2 L2.length c2).ownBlock = some k → k < w4.heap.size := fun k hk => (hR2.ge k hk).2
  have hw4 := hfx.size
  go_upto_region 8 with fail
  obtain ⟨gO, hgO⟩ : ∃ g, (w4).heap.size = g := ⟨_, rfl⟩
  have lt_X_O := X.lt
  rw [hgO] at lt_X_O
  have lt_A_O := A.lt
  rw [hgO] at lt_A_O
  have lt_R_O := R.lt
  rw [hgO] at lt_R_O
  have O := Blk.newV hgO 28 #[.int .i64 now, .slice a2 L2.length c2]
  have hbn := (Below.refl (w4).heap.size w4).alloc (Nat.le_refl _) (.cells #[.int .i64 now, .slice a2 L2.length c2] 28)
  replace X := X.step hbn
  replace X_0 := X.cell (j := 0) rfl
  replace X_1 := X.cell (j := 1) rfl
  replace A := A.step hbn
  replace A_0 := A.cell (j := 0) rfl
  replace A_1 := A.cell (j := 1) rfl
  replace A_2 := A.cell (j := 2) rfl
  replace R := R.step hbn
  replace h := h.step hbn
  replace hfx := hfx.step hbn
  replace hR2 := hR2.step hbn
  clear hbn
  rw [hgO]
  generalize (w4).alloc (.cells #[.int .i64 now, .slice a2 L2.length c2] 28) = w5 at *
  have hwO : w.heap.size ≤ gO := by omega
  have hno : ∀ z, w.heap.size ≤ z → z ∉ xs := fun z hz hm => by have := hxw.out z hm; omega
  have o0 := kx_all (ws := gR :: xs) (O.cell (j := 0) rfl) (by simp only [List.mem_cons, not_or]; exact ⟨by omega, hno _ hwO⟩)
  have o1 := kx_all (ws := gR :: xs) (O.cell (j := 1) rfl) (by simp only [List.mem_cons, not_or]; exact ⟨by omega, hno _ hwO⟩)
  have q1 := kx_all (ws := gR :: xs) (A.cell (j := 1) rfl) (by simp only [List.mem_cons, not_or]; exact ⟨by omega, hno _ hwA⟩)
  clear X_0 X_1
  clear A_0 A_1 A_2
  refine wp_region_held (S := Kx (gR :: xs) w5) (by kernel_rfl) ?_
  have hst : Below (w5).heap.size w5 { w5 with drawn := (w5).drawn + 1 } := ⟨rfl, rfl, rfl, Nat.le_refl _, fun _ _ => rfl⟩
  have hS : (Kx (gR :: xs) w5) { w5 with drawn := (w5).drawn + 1 } := by first | exact ⟨rfl, rfl, rfl, Nat.le_refl _, fun _ _ _ => rfl⟩ | exact ⟨rfl, rfl, rfl, Nat.le_refl _, fun _ _ => rfl⟩ | exact hS0
  replace O := O.step hst
  replace X := X.step hst
  replace A := A.step hst
  replace R := R.step hst
  replace h := h.step hst
  replace hR2 := hR2.step hst
  replace hfx := hfx.step hst
  clear hst
  generalize ({ w5 with drawn := (w5).drawn + 1 } : World) = wq at *
  refine wpAnyH_take (i := 0) (v := ?_) rfl (by kernel_rfl) (by kernel_rfl) (by kernel_rfl) (fun _ _ _ h => h) (Or.inl ⟨by kernel_rfl, ?_⟩) hS ?_
  rotate_left
  · intro W hSW
    have y0 := o0 _ hSW
    have y1 := o1 _ hSW
    have y2 := q1 _ hSW
    go_simp
    try with_reducible rfl
  dsimp only [Act.put]
  refine wpAnyH_take (i := 1) (v := ?_) rfl (by kernel_rfl) (by kernel_rfl) (by kernel_rfl) (fun _ _ _ h => h) (Or.inl ⟨by kernel_rfl, ?_⟩) hS ?_
  rotate_left
  · intro W hSW
    have y0 := o0 _ hSW
    have y1 := o1 _ hSW
    have y2 := q1 _ hSW
    go_simp
    try with_reducible rfl
  dsimp only [Act.put]
  refine wpAnyH_take (i := 2) (v := ?_) rfl (by kernel_rfl) (by kernel_rfl) (by kernel_rfl) (fun _ _ _ h => h) (Or.inl ⟨by kernel_rfl, ?_⟩) hS ?_
  rotate_left
  · intro W hSW
    have y0 := o0 _ hSW
    have y1 := o1 _ hSW
    have y2 := q1 _ hSW
    go_simp
    try with_reducible rfl
  dsimp only [Act.put]
  refine wpAnyH_take (i := 3) (v := ?_) rfl (by kernel_rfl) (by kernel_rfl) (by kernel_rfl) (fun _ _ _ h => h) (Or.inl ⟨by kernel_rfl, ?_⟩) hS ?_
  rotate_left
  · intro W hSW
    have y0 := o0 _ hSW
    have y1 := o1 _ hSW
    have y2 := q1 _ hSW
    go_simp
    try with_reducible rfl
  dsimp only [Act.put]
  refine wpAnyH_take (i := 6) (v := ?_) rfl (by kernel_rfl) (by kernel_rfl) (by kernel_rfl) (fun _ _ _ h => h) (Or.inl ⟨by kernel_rfl, ?_⟩) hS ?_
  rotate_left
  · intro W hSW
    have y0 := o0 _ hSW
    have y1 := o1 _ hSW
    have y2 := q1 _ hSW
    go_simp
    try with_reducible rfl
  dsimp only [Act.put]
  refine wpAnyH_ready (rs := [4]) (by kernel_rfl) (by simp) ?_
  refine AllReadyH.cons rfl (fun K hK => ?_) AllReadyH.nil
  go_simp
  refine (cS _ h).mono ?_
  rintro e w6 ⟨rfl, xs', hV, hgr, hk⟩
  refine hK.out _ _ (hS.trans (hk.mono (fun x hx => List.mem_cons_of_mem _ hx))) (fun hS => ?_)
  have hRx : gR ∉ xs' := hgr.not (fun hm => by have := hxw.out _ hm; omega) (by have := R.lt; omega)
  have hRv : (Value.slice a2 L2.length c2).ownBlock ≠ some gR := hRv0
  have hwO : w.heap.size ≤ gO := by omega
  have hn3 : ∀ k, (Value.slice a2 L2.length c2).ownBlock = some k → k ∉ xs' := fun k hk => hgr.not (hn2 k hk) (by have := hl2 k hk; have := O.lt; omega)
  have hgr2 := hgr.from hfx.size
  have hno : ∀ z, w.heap.size ≤ z → z ∉ xs := fun z hz hm => by have := hxw.out z hm; omega
  replace X := X.kx hk (hno _ hwX)
  replace A := A.kx hk (hno _ hwA)
  replace R := R.kx hk (hno _ hwR)
  replace O := O.kx hk (hno _ hwO)
  replace hR2 := hR2.kx hk hn2
  replace hfx := hfx.kx hk (fun x hx => .inl hx)
  have hVl := Lib.hid hV.lt
  clear hk hgr h cR cS hl2 hn2
  clear hK K
  refine wpAnyH_ready (rs := [5]) (by kernel_rfl) (by simp) ?_
  refine AllReadyH.cons rfl (fun K hK => ?_) AllReadyH.nil
  go_simp
  refine (num_any _ _).mono ?_
  rintro e w6 ⟨rfl, rfl⟩
  refine hK.out _ _ (hS) (fun hS => ?_)
  clear hK K
  refine wpAnyH_take (i := 7) (v := ?_) rfl (by kernel_rfl) (by kernel_rfl) (by kernel_rfl) (fun _ _ _ h => h) (Or.inl ⟨by kernel_rfl, ?_⟩) hS ?_
  rotate_left
  · intro W hSW
    go_simp
    try with_reducible rfl
  dsimp only [Act.put]
  have r0 := R.cell (j := 0) rfl
  have r1 := R.cell (j := 1) rfl
  have f0 := R.frozen 0
  have f1 := R.frozen 1
  refine wpAnyH_ready (rs := [8]) (by kernel_rfl) (by simp) ?_
  refine AllReadyH.cons rfl (fun K hK => ?_) AllReadyH.nil
  go_simp
  have hkk : Kx [gR] w6 ((w6.setCell ⟨gR, 0, none⟩ (.int .i64 now)).setCell ⟨gR, 1, none⟩ (.slice a2 L2.length c2)) := ((Kx.refl _ _).setCell (.inl (by simp)) _).setCell (.inl (by simp)) _
  have hV2 := hV.kx hkk (fun x hx hm => by have := hgr2.2 x hx; simp at hm; subst hm; rcases this with h1 | h1; exact hno _ hwR h1; exact hRx hx)
  have hR3 := hR2.kx hkk (fun k hk hm => by simp at hm; subst hm; exact hRv hk)
  have hfy := hfx.kx hkk (fun x hx => by simp at hx; subst hx; exact .inr hwR)
  refine hK.out _ _ (hS.kx hkk (fun x hx => .inl (by simp at hx; simp [hx]))) (fun hS => ?_)
  clear hkk
  clear hK K
  refine wpAnyH_ready (rs := [9]) (by kernel_rfl) (by simp) ?_
  refine AllReadyH.cons rfl (fun K hK => ?_) AllReadyH.nil
  go_simp
  refine hK.out _ _ hS (fun hS => ?_)
  clear hK K
  refine wpAnyH_done (by kernel_rfl) ?_ _
  clear hS hfx
  go_wp2_with fail
  (try simp only [Exit.inBlock, Exit.then])
  refine bodyPost_ret (v := .tuple #[.agg #[.int .i64 now, .slice a2 L2.length c2], .bool true]) ?_ rfl ⟨_, L2, a2, c2, xs', rfl, ⟨hV2, hG2, hR3, hn3⟩, hgr2, hfy, hfo⟩
  rw [r_cell1t rfl]
  go_simp
set_option maxRecDepth 100000 in
set_option maxHeartbeats 4000000 in
theorem act_adv (xs : List Nat) (g : Nat) (now : Int) (L : List (Int × Int)) (a : Option Addr) (c : Nat) (x id n : Int) (hx0 : x ≠ 0) (hx1 : x ≠ 1) (w : World) (hP : PairW w xs g now L a c) :
    Calls Try.prog 12 #[.pointer (some ⟨g, 0, none⟩), .agg #[.int .i64 now, .slice a L.length c], .agg #[.int .i64 x, .int .i64 id, .int .i64 n]] w (ActQ w xs g (.slice a L.length c)) := by
  obtain ⟨N, hN⟩ : ∃ N, L.length = N := ⟨_, rfl⟩
  have cR := fun W hW => refAdv_any now a c L n W hW hP.2.1
  have cS := fun W hW => advance_any xs g now L n W hW hP.2.1
  have hG2 := hP.2.1.adv n
  have hOl : (advO now L n).length ≤ 5000 := by
    unfold advO
    split
    · have := hP.2.1.len; have := List.length_filter_le (fun p : Int × Int => decide (p.2 ≤ now + n)) L; omega
    · simp
  have y0 : (x == 0) = false := by simpa using hx0
  have y1 : (x == 1) = false := by simpa using hx1
  unfold RefA at cR
  unfold AdvP at cS
  unfold PairW at hP
  rw [hN] at cR hP ⊢
  clear hN hx0 hx1
  generalize advL now L n = L2 at *
  generalize advO now L n = M2 at *
  generalize advE now n = E0 at *
  generalize advN now n = now3 at *
  have hxw := Lib.hid hP.1.lt
  obtain ⟨h, hG, hR, hnx⟩ := hP
  have hge := Lib.hid hR.ge
  have hfx := FromX.refl xs w
  go_enter Try.func12, Try.ntmps12
  go_upto_region 1 with fail
  obtain ⟨gX, hgX⟩ : ∃ g, (w).heap.size = g := ⟨_, rfl⟩
  have X := Blk.newV hgX 28 #[.int .i64 now, .slice a N c]
  have hbn := (Below.refl (w).heap.size w).alloc (Nat.le_refl _) (.cells #[.int .i64 now, .slice a N c] 28)
  replace h := h.step hbn
  replace hR := hR.step hbn
  replace hfx := hfx.step hbn
  clear hbn
  rw [hgX]
  have szX := alloc_size hgX (.cells #[.int .i64 now, .slice a N c] 28)
  generalize (w).alloc (.cells #[.int .i64 now, .slice a N c] 28) = w1 at *
  obtain ⟨gA, hgA⟩ : ∃ g, (w1).heap.size = g := ⟨_, rfl⟩
  have lt_X_A := X.lt
  rw [hgA] at lt_X_A
  have A := Blk.newV hgA 32 #[.int .i64 x, .int .i64 id, .int .i64 n]
  have hbn := (Below.refl (w1).heap.size w1).alloc (Nat.le_refl _) (.cells #[.int .i64 x, .int .i64 id, .int .i64 n] 32)
  replace h := h.step hbn
  replace hR := hR.step hbn
  replace hfx := hfx.step hbn
  replace X := X.step hbn
  clear hbn
  have egA : gX + 1 = gA := szX.symm.trans hgA
  rw [egA]
  clear szX
  have szA := alloc_size hgA (.cells #[.int .i64 x, .int .i64 id, .int .i64 n] 32)
  generalize (w1).alloc (.cells #[.int .i64 x, .int .i64 id, .int .i64 n] 32) = w2 at *
  obtain ⟨gR, hgR⟩ : ∃ g, (w2).heap.size = g := ⟨_, rfl⟩
  have lt_X_R := X.lt
  rw [hgR] at lt_X_R
  have lt_A_R := A.lt
  rw [hgR] at lt_A_R
  have R := Blk.newV hgR 28 #[.int .i64 0, .slice none 0 0]
  have hbn := (Below.refl (w2).heap.size w2).alloc (Nat.le_refl _) (.cells #[.int .i64 0, .slice none 0 0] 28)
  replace h := h.step hbn
  replace hR := hR.step hbn
  replace hfx := hfx.step hbn
  replace X := X.step hbn
  replace A := A.step hbn
  clear hbn
  have egR : gA + 1 = gR := szA.symm.trans hgR
  rw [egR]
  clear szA
  generalize (w2).alloc (.cells #[.int .i64 0, .slice none 0 0] 28) = w3 at *
  have X_0 := X.cell (j := 0) rfl
  have X_1 := X.cell (j := 1) rfl
  have A_0 := A.cell (j := 0) rfl
  have A_1 := A.cell (j := 1) rfl
  have A_2 := A.cell (j := 2) rfl
  go_wp2_with fail
  refine (cR _ hR).mono ?_
  rintro e w4 ⟨a2, c2, a5, c5, rfl, hR2, hR5, hf2, hf5, hbn⟩
  have hw3 := hfx.size
  have hfo := fun k hk => (hf2 k hk).imp (fun h => h) (fun h => Nat.le_trans hfx.size h)
  have hRv0 : (Value.slice a2 L2.length c2).ownBlock ≠ some gR := fun e => by
    rcases hf2 _ e with h1 | h1
    · have := (hge.out _ h1).2; omega
    · have := R.lt; omega
  have hn2 : ∀ k, (Value.slice a2 L2.length c2).ownBlock = some k → k ∉ xs := fun k hk hm => by
    rcases hf2 k hk with h1 | h1
    · exact hnx k h1 hm
    · have := hxw.out k hm; have := hfx.size; omega
  have hwX : w.heap.size ≤ gX := by omega
  have hwA : w.heap.size ≤ gA := by omega
  have hwR : w.heap.size ≤ gR := by omega
  replace X := X.step hbn
  replace X_0 := X.cell (j := 0) rfl
  replace X_1 := X.cell (j := 1) rfl
  replace A := A.step hbn
  replace A_0 := A.cell (j := 0) rfl
  replace A_1 := A.cell (j := 1) rfl
  replace A_2 := A.cell (j := 2) rfl
  replace R := R.step hbn
  replace h := h.step hbn
  replace hfx := hfx.step hbn
  clear hbn hR hgX hgA hgR lt_X_A lt_X_R lt_A_R
  have hl2 : ∀ k, (Value.slice a2 L2.length c2).ownBlock = some k → k < w4.heap.size := fun k hk => (hR2.ge k hk).2
  have hw4 := hfx.size
  go_upto_region 10 with fail
  obtain ⟨gO, hgO⟩ : ∃ g, (w4).heap.size = g := ⟨_, rfl⟩
  have lt_X_O := X.lt
  rw [hgO] at lt_X_O
  have lt_A_O := A.lt
  rw [hgO] at lt_A_O
  have lt_R_O := R.lt
  rw [hgO] at lt_R_O
  have O := Blk.newV hgO 28 #[.int .i64 now3, .slice a2 L2.length c2]
  have hbn := (Below.refl (w4).heap.size w4).alloc (Nat.le_refl _) (.cells #[.int .i64 now3, .slice a2 L2.length c2] 28)
  replace X := X.step hbn
  replace X_0 := X.cell (j := 0) rfl
  replace X_1 := X.cell (j := 1) rfl
  replace A := A.step hbn
  replace A_0 := A.cell (j := 0) rfl
  replace A_1 := A.cell (j := 1) rfl
  replace A_2 := A.cell (j := 2) rfl
  replace R := R.step hbn
  replace h := h.step hbn
  replace hfx := hfx.step hbn
  replace hR2 := hR2.step hbn
  replace hR5 := hR5.step hbn
  clear hbn
  rw [hgO]
  generalize (w4).alloc (.cells #[.int .i64 now3, .slice a2 L2.length c2] 28) = w5 at *
  go_wp2_with fail
  refine (cS _ h).mono ?_
  rintro e w6 ⟨v6, rfl, hR6, xs', hV, hgr, hk, -⟩
  have hn5 : ∀ k, (Value.slice a5 M2.length c5).ownBlock = some k → k ∉ xs := fun k hk hm => by have := hxw.out k hm; have := hf5 k hk; omega
  replace hR5 := hR5.kx hk hn5
  obtain ⟨a6, c6, rfl, -⟩ := row_form hR6
  replace hR6 := hR6.low (Nat.zero_le _)
  have hRx : gR ∉ xs' := hgr.not (fun hm => by have := hxw.out _ hm; omega) (by have := R.lt; omega)
  have hRv : (Value.slice a2 L2.length c2).ownBlock ≠ some gR := hRv0
  have hwO : w.heap.size ≤ gO := by omega
  have hn3 : ∀ k, (Value.slice a2 L2.length c2).ownBlock = some k → k ∉ xs' := fun k hk => hgr.not (hn2 k hk) (by have := hl2 k hk; have := O.lt; omega)
  have hgr2 := hgr.from hfx.size
  have hno : ∀ z, w.heap.size ≤ z → z ∉ xs := fun z hz hm => by have := hxw.out z hm; omega
  replace X := X.kx hk (hno _ hwX)
  replace A := A.kx hk (hno _ hwA)
  replace R := R.kx hk (hno _ hwR)
  replace O := O.kx hk (hno _ hwO)
  replace hR2 := hR2.kx hk hn2
  replace hfx := hfx.kx hk (fun x hx => .inl hx)
  have hVl := Lib.hid hV.lt
  clear hk hgr h cR cS hl2 hn2
  go_upto_region 11 with fail
  have cL := fun W (h5 : RowD W 0 (.slice a5 M2.length c5) M2) (h6 : RowD W 0 (.slice a6 M2.length c6) M2) => sameList_any 0 0 a5 c5 M2 a6 c6 M2 W h5 h6 hOl hOl
  simp only [decide_true] at cL
  have hRO : gR < gO := by omega
  have o0 := kx_all (ws := [gR]) (O.cell (j := 0) rfl) (by simp; omega)
  have o1 := kx_all (ws := [gR]) (O.cell (j := 1) rfl) (by simp; omega)
  refine wp_region_held (S := Kx [gR] w6) (by kernel_rfl) ?_
  have hst : Below (w6).heap.size w6 { w6 with drawn := (w6).drawn + 1 } := ⟨rfl, rfl, rfl, Nat.le_refl _, fun _ _ => rfl⟩
  have hS : (Kx [gR] w6) { w6 with drawn := (w6).drawn + 1 } := by first | exact ⟨rfl, rfl, rfl, Nat.le_refl _, fun _ _ _ => rfl⟩ | exact ⟨rfl, rfl, rfl, Nat.le_refl _, fun _ _ => rfl⟩ | exact hS0
  replace R := R.step hst
  replace hV := hV.step hst
  replace hR2 := hR2.step hst
  replace hfx := hfx.step hst
  replace hR5 := hR5.step hst
  replace hR6 := hR6.step hst
  clear hst
  generalize ({ w6 with drawn := (w6).drawn + 1 } : World) = wq at *
  refine wpAnyH_take (i := 0) (v := ?_) rfl (by kernel_rfl) (by kernel_rfl) (by kernel_rfl) (fun _ _ _ h => h) (Or.inl ⟨by kernel_rfl, ?_⟩) hS ?_
  rotate_left
  · intro W hSW
    have y0 := o0 _ hSW
    have y1 := o1 _ hSW
    go_simp
    try with_reducible rfl
  dsimp only [Act.put]
  refine wpAnyH_take (i := 1) (v := ?_) rfl (by kernel_rfl) (by kernel_rfl) (by kernel_rfl) (fun _ _ _ h => h) (Or.inl ⟨by kernel_rfl, ?_⟩) hS ?_
  rotate_left
  · intro W hSW
    have y0 := o0 _ hSW
    have y1 := o1 _ hSW
    go_simp
    try with_reducible rfl
  dsimp only [Act.put]
  refine wpAnyH_take (i := 2) (v := ?_) rfl (by kernel_rfl) (by kernel_rfl) (by kernel_rfl) (fun _ _ _ h => h) (Or.inl ⟨by kernel_rfl, ?_⟩) hS ?_
  rotate_left
  · intro W hSW
    have y0 := o0 _ hSW
    have y1 := o1 _ hSW
    go_simp
    try with_reducible rfl
  dsimp only [Act.put]
  refine wpAnyH_ready (rs := [3]) (by kernel_rfl) (by simp) ?_
  refine AllReadyH.cons rfl (fun K hK => ?_) AllReadyH.nil
  go_simp
  refine (cL _ hR5 hR6).mono ?_
  rintro e w7 ⟨rfl, hbn⟩
  replace R := R.step hbn
  replace hV := hV.step hbn
  replace hR2 := hR2.step hbn
  replace hfx := hfx.step hbn
  refine hK.out _ _ (hS.step hbn) (fun hS => ?_)
  clear hbn cL hR5 hR6
  clear hK K
  refine wpAnyH_take (i := 4) (v := ?_) rfl (by kernel_rfl) (by kernel_rfl) (by kernel_rfl) (fun _ _ _ h => h) (Or.inl ⟨by kernel_rfl, ?_⟩) hS ?_
  rotate_left
  · intro W hSW
    go_simp
    try with_reducible rfl
  dsimp only [Act.put]
  refine wpAnyH_take (i := 5) (v := ?_) rfl (by kernel_rfl) (by kernel_rfl) (by kernel_rfl) (fun _ _ _ h => h) (Or.inl ⟨by kernel_rfl, ?_⟩) hS ?_
  rotate_left
  · intro W hSW
    go_simp
    try with_reducible rfl
  dsimp only [Act.put]
  refine wpAnyH_take (i := 7) (v := ?_) rfl (by kernel_rfl) (by kernel_rfl) (by kernel_rfl) (fun _ _ _ h => h) (Or.inl ⟨by kernel_rfl, ?_⟩) hS ?_
  rotate_left
  · intro W hSW
    go_simp
    try with_reducible rfl
  dsimp only [Act.put]
  refine wpAnyH_ready (rs := [6]) (by kernel_rfl) (by simp) ?_
  refine AllReadyH.cons rfl (fun K hK => ?_) AllReadyH.nil
  go_simp
  refine (num_any _ _).mono ?_
  rintro e w7 ⟨rfl, rfl⟩
  refine hK.out _ _ (hS) (fun hS => ?_)
  clear hK K
  refine wpAnyH_take (i := 8) (v := ?_) rfl (by kernel_rfl) (by kernel_rfl) (by kernel_rfl) (fun _ _ _ h => h) (Or.inl ⟨by kernel_rfl, ?_⟩) hS ?_
  rotate_left
  · intro W hSW
    go_simp
    try with_reducible rfl
  dsimp only [Act.put]
  refine wpAnyH_take (i := 9) (v := ?_) rfl (by kernel_rfl) (by kernel_rfl) (by kernel_rfl) (fun _ _ _ h => h) (Or.inl ⟨by kernel_rfl, ?_⟩) hS ?_
  rotate_left
  · intro W hSW
    go_simp
    try with_reducible rfl
  dsimp only [Act.put]
  have r0 := R.cell (j := 0) rfl
  have r1 := R.cell (j := 1) rfl
  have f0 := R.frozen 0
  have f1 := R.frozen 1
  refine wpAnyH_ready (rs := [10]) (by kernel_rfl) (by simp) ?_
  refine AllReadyH.cons rfl (fun K hK => ?_) AllReadyH.nil
  go_simp
  have hkk : Kx [gR] w7 ((w7.setCell ⟨gR, 0, none⟩ (.int .i64 now3)).setCell ⟨gR, 1, none⟩ (.slice a2 L2.length c2)) := ((Kx.refl _ _).setCell (.inl (by simp)) _).setCell (.inl (by simp)) _
  have hV2 := hV.kx hkk (fun x hx hm => by have := hgr2.2 x hx; simp at hm; subst hm; rcases this with h1 | h1; exact hno _ hwR h1; exact hRx hx)
  have hR3 := hR2.kx hkk (fun k hk hm => by simp at hm; subst hm; exact hRv hk)
  have hfy := hfx.kx hkk (fun x hx => by simp at hx; subst hx; exact .inr hwR)
  refine hK.out _ _ (hS.kx hkk (fun x hx => .inl (by simp at hx; simp [hx]))) (fun hS => ?_)
  clear hkk
  clear hK K
  refine wpAnyH_ready (rs := [11]) (by kernel_rfl) (by simp) ?_
  refine AllReadyH.cons rfl (fun K hK => ?_) AllReadyH.nil
  go_simp
  refine hK.out _ _ hS (fun hS => ?_)
  clear hK K
  refine wpAnyH_done (by kernel_rfl) ?_ _
  clear hS hfx
  go_wp2_with fail
  (try simp only [Exit.inBlock, Exit.then])
  refine bodyPost_ret (v := .tuple #[.agg #[.int .i64 now3, .slice a2 L2.length c2], .bool true]) ?_ rfl ⟨_, L2, a2, c2, xs', rfl, ⟨hV2, hG2, hR3, hn3⟩, hgr2, hfy, hfo⟩
  rw [r_cell1t rfl]
  go_simp
theorem act_own (xs : List Nat) (g : Nat) (now : Int) (L : List (Int × Int)) (a : Option Addr) (c : Nat) (x id n : Int) (hid : wf64 id) (w : World) (hP : PairW w xs g now L a c) :
    Calls Try.prog 12 #[.pointer (some ⟨g, 0, none⟩), .agg #[.int .i64 now, .slice a L.length c], .agg #[.int .i64 x, .int .i64 id, .int .i64 n]] w (ActQ w xs g (.slice a L.length c)) := by
  by_cases h0 : x = 0
  · subst h0
    exact act_set xs g now L a c id n hid w hP
  · by_cases h1 : x = 1
    · subst h1
      exact act_can xs g now L a c id n hid w hP
    · exact act_adv xs g now L a c x id n h0 h1 w hP
theorem act_any (xs : List Nat) (g : Nat) (now : Int) (L : List (Int × Int)) (a : Option Addr) (c : Nat) (x id n : Int) (hid : wf64 id) (w : World) (hP : PairW w xs g now L a c) :
    Calls Try.prog 12 #[.pointer (some ⟨g, 0, none⟩), .agg #[.int .i64 now, .slice a L.length c], .agg #[.int .i64 x, .int .i64 id, .int .i64 n]] w (ActP w xs g) := by
  refine (act_own xs g now L a c x id n hid w hP).mono ?_
  rintro e w' ⟨now2, L2, a2, c2, xs2, rfl, h1, h2, h3, -⟩
  exact ⟨now2, L2, a2, c2, xs2, rfl, h1, h2, h3⟩
end Go.Proofs.Ytfdfmmmfklodgaa
