
/- The statements of the wheel: played. -/
import Derived.Test.YtfdfmmmfklodgaaWiD
namespace Go.Proofs.Ytfdfmmmfklodgaa
set_option linter.unusedSimpArgs false
set_option linter.unusedVariables false
open Go.RowKit
theorem r_tct {fn : Func} {p u u2 : Tmp} {ty : TypeId} (h : fn.results = #[.tmp u, .cell p ty, .tmp u2]) (tmps : Array Value) (P : Program) (w : World) :
    (results fn tmps).run P w = ((asAddr (tmps.getD p undef)).run P w).andThen fun a w₁ => ((loadVar ty a).run P w₁).andThen fun v w₂ => .ok (.tuple #[tmps.getD u undef, v, tmps.getD u2 undef]) w₂ := by
  simp only [results, h]
  simp [Sem.run_bind, Result.andThen]
theorem RowD.ne_blk {W : World} {base g : Nat} {v : Value} {O : List (Int × Int)} {t : TypeId} {cs : List Value} (h : RowD W base v O) (hB : Blk W g t cs) (ht : t ≠ 50) : v.ownBlock ≠ some g := by
  rcases h.2 with ⟨h2, _⟩ | ⟨b, cap, cur, h2, hb, hh, _⟩
  · rw [h2]; intro e; cases e
  · rw [h2]
    intro e
    have e1 : b = g := by injection e
    rw [e1, show W.heap[g]? = _ from hB] at hh
    injection hh with hh
    injection hh with _ e2 _
    exact ht e2
theorem PairW.kx {W W' : World} {xs ws : List Nat} {g : Nat} {now : Int} {L : List (Int × Int)} {a : Option Addr} {c : Nat} (h : PairW W xs g now L a c) (hk : Kx ws W W') (h1 : ∀ x, x ∈ xs → x ∉ ws) (h2 : ∀ k, (Value.slice a L.length c).ownBlock = some k → k ∉ ws) : PairW W' xs g now L a c :=
  ⟨h.1.kx hk h1, h.2.1, h.2.2.1.kx hk h2, h.2.2.2⟩
def PlayedP (w : World) (e : Ending) (w' : World) : Prop :=
  ∃ g now L a c xs, e = .returned (.tuple #[.pointer (some ⟨g, 0, none⟩), .agg #[.int .i64 now, .slice a L.length c], .bool true]) ∧ PairW w' xs g now L a c ∧ (∀ x, x ∈ xs → w.heap.size ≤ x) ∧ Below w.heap.size w w'
def AboveL (n : Nat) (xs : List Nat) (g1 g2 : Nat) : Prop := (∀ x, x ∈ xs → n ≤ x) ∧ g1 ∉ xs ∧ g2 ∉ xs
theorem AboveL.grow {n m g1 g2 : Nat} {xs ys : List Nat} (h : AboveL n xs g1 g2) (hg : Grow m xs ys) (hm : n ≤ m) (h1 : g1 < m) (h2 : g2 < m) : AboveL n ys g1 g2 :=
  ⟨fun x hx => by rcases hg.2 x hx with h3 | h3; exact h.1 x h3; omega, hg.not h.2.1 h1, hg.not h.2.2 h2⟩
set_option maxRecDepth 100000 in
set_option maxHeartbeats 8000000 in
theorem played_any (ao : Option Addr) (n c : Nat) (hn : n ≤ 9223372036854775807) (w : World) (hA : HasA w ao n) : Calls Try.prog 19 #[.slice ao n c] w (PlayedP w) := by
  have hnI : (n : Int) ≤ 9223372036854775807 := by omega
  have hb := From.refl w
  go_enter Try.func19, Try.ntmps19
  go_upto_region 1 with fail
  obtain ⟨gR, hgR⟩ : ∃ g, (w).heap.size = g := ⟨_, rfl⟩
  have R := Blk.newV hgR 28 #[.int .i64 0, .slice none 0 0]
  have hbn := (Below.refl (w).heap.size w).alloc (Nat.le_refl _) (.cells #[.int .i64 0, .slice none 0 0] 28)
  replace hb := hb.step hbn
  clear hbn
  rw [hgR]
  generalize (w).alloc (.cells #[.int .i64 0, .slice none 0 0] 28) = w1 at *
  go_wp2_with fail
  refine (new_any w1).mono ?_
  rintro e w2 ⟨⟨g, ba, xs, rfl, hW, hxs⟩, hbn⟩
  have hR1 := R.lt
  have hw1 := hb.size
  have hwR : w.heap.size ≤ gR := by omega
  replace hb := hb.step hbn
  replace R := R.step hbn
  clear hbn
  have hV : WhV w2 xs g 0 [] := ⟨_, _, hW⟩
  have hlt := hV.lt
  go_upto_region 2 with fail
  obtain ⟨gO, hgO⟩ : ∃ g, (w2).heap.size = g := ⟨_, rfl⟩
  have lt_R_O := R.lt
  rw [hgO] at lt_R_O
  have O := Blk.newV hgO 28 #[.int .i64 0, .slice none 0 0]
  have hbn := (Below.refl (w2).heap.size w2).alloc (Nat.le_refl _) (.cells #[.int .i64 0, .slice none 0 0] 28)
  replace hb := hb.step hbn
  replace R := R.step hbn
  replace hV := hV.step hbn
  clear hbn
  rw [hgO]
  generalize (w2).alloc (.cells #[.int .i64 0, .slice none 0 0] 28) = w3 at *
  have hP : PairW w3 xs g 0 [] none 0 := ⟨hV, good0, World.ownsRow_nil _ _ _ _, fun k hk => by cases hk⟩
  have hAb : AboveL w.heap.size xs gR gO := ⟨fun x hx => by have := hxs x hx; omega, fun hm => by have := hxs _ hm; omega, fun hm => by have := hlt _ hm; omega⟩
  have hRO : gR < gO := by omega
  have HAb := Lib.hid hAb
  clear hAb
  clear hxs hlt hW hV hgR hgO hR1 hw1 lt_R_O
  go_wp2_with fail
  go_loopw [7, 8] (fun u v wr => ∃ (k : Nat) (now : Int) (L : List (Int × Int)) (a : Option Addr) (c : Nat) (xs : List Nat), u = .bool true ∧ v = .int .i64 k ∧ k ≤ n ∧ PairW wr xs g now L a c ∧ AboveL w.heap.size xs gR gO ∧ Blk wr gO 28 [.int .i64 now, .slice a L.length c] ∧ Blk wr gR 28 [.int .i64 0, .slice none 0 0] ∧ From w wr) (fun _ v _ => n - (intOf v).toNat)
  case atStart => exact ⟨0, 0, [], none, 0, xs, rfl, rfl, by omega, hP, HAb.out, O, R, hb⟩
  clear hP HAb O R hb
  clear xs
  case' round =>
    obtain ⟨k, now, L, a, c1, xs, rfl, rfl, hk, hP, hAb, O, R, hb⟩ := hrel
    have hA1 := hA.step hb.out
    have hPl := hP.1.lt
    have HAb := Lib.hid hAb
    clear hAb
    have HPl := Lib.hid hPl
    clear hPl
    have k0 : (0 : Int) ≤ (k : Int) := by omega
    by_cases hlt : k < n
    · have k1 : (k : Int) < (n : Int) := by omega
      obtain ⟨b, off, x, y, z, rfl, q0, q1, q2, hy⟩ := hA1 k hlt
      have hRs := hP.2.2.1
      obtain ⟨N, hN⟩ : ∃ N, L.length = N := ⟨_, rfl⟩
      have cT := fun W (h : PairW W xs g now L a c1) => act_any xs g now L a c1 x y z hy W h
      rw [hN] at cT O
      clear hA1
      have q0 := extA_cell q0
      have q1 := extA_cell q1
      have q2 := extA_cell q2
      have o0 := extA_cell (O.cell (j := 0) rfl)
      have o1 := extA_cell (O.cell (j := 1) rfl)
      go_upto_region 5 with fail
      refine wp_region_head (C := ExtA wr) 6 (by kernel_rfl) (by decide) (by kernel_rfl) ⟨rfl, rfl, rfl, Nat.le_refl _, fun _ _ => rfl⟩ ?_
      simp only [List.take_succ_cons, List.take_zero]
      repeat
        (first
          | go_big_quiet_skip
          | (go_big_quiet_want
             go_big_quiet_op
             first
               | go_big_quiet_on
               | (apply Exists.intro
                  refine ⟨fun w' hC => ?_, ?_⟩
                  · (first
                      | with_reducible rfl
                      | fail
                      | (go_simp; done)
                      | (go_simp; with_reducible rfl))
                  go_big_quiet_on)))
      refine wpQuiet_nil ?_
      intro wq hq
      have hPq := hP.step hq
      have Rq := R.step hq
      have Oq := O.step hq
      have hbq := hb.step hq
      change wpAny _ _ _ _ (5 + 1) _ _ _
      refine wpAny_ready (rs := [6]) (by kernel_rfl) (by simp) ?_
      refine AllReady.cons rfl (fun K hK => ?_) AllReady.nil
      go_simp
      refine (cT _ hPq).mono ?_
      clear q0 q1 q2 o0 o1
      rintro e wz ⟨now2, L2, a2, c2, xs2, rfl, hP2, hgr, hk2⟩
      have hAb := HAb.out
      have hRq := Rq.lt
      have hOq := Oq.lt
      have hwq := hbq.size
      replace hAb := hAb.grow hgr hwq hRq hOq
      replace Rq := Rq.kx hk2 HAb.out.2.1
      replace Oq := Oq.kx hk2 HAb.out.2.2
      replace hbq := hbq.kx hk2 HAb.out.1
      clear HAb
      have HAb := Lib.hid hAb
      clear hAb
      refine hK _ _ ?_
      obtain ⟨N2, hN2⟩ : ∃ N2, L2.length = N2 := ⟨_, rfl⟩
      try rw [hN2]
      clear hK K
      refine wpAny_take (i := 7) (v := ?_) rfl (by kernel_rfl) (by kernel_rfl) (by kernel_rfl) (fun _ _ _ h => h) (Or.inl ⟨by kernel_rfl, ?_⟩) ?_
      rotate_left
      · intro W
        go_simp
        try with_reducible rfl
      dsimp only [Act.put]
      refine wpAny_take (i := 8) (v := ?_) rfl (by kernel_rfl) (by kernel_rfl) (by kernel_rfl) (fun _ _ _ h => h) (Or.inl ⟨by kernel_rfl, ?_⟩) ?_
      rotate_left
      · intro W
        go_simp
        try with_reducible rfl
      dsimp only [Act.put]
      refine wpAny_take (i := 9) (v := ?_) rfl (by kernel_rfl) (by kernel_rfl) (by kernel_rfl) (fun _ _ _ h => h) (Or.inl ⟨by kernel_rfl, ?_⟩) ?_
      rotate_left
      · intro W
        go_simp
        try with_reducible rfl
      dsimp only [Act.put]
      have r0 := Oq.cell (j := 0) rfl
      have r1 := Oq.cell (j := 1) rfl
      have f0 := Oq.frozen 0
      have f1 := Oq.frozen 1
      refine wpAny_ready (rs := [10]) (by kernel_rfl) (by simp) ?_
      refine AllReady.cons rfl (fun K hK => ?_) AllReady.nil
      go_simp
      have O2 := (Oq.set 0 (.int .i64 now2)).set 1 (.slice a2 N2 c2)
      have hkk : Kx [gO] wz ((wz.setCell ⟨gO, 0, none⟩ (.int .i64 now2)).setCell ⟨gO, 1, none⟩ (.slice a2 N2 c2)) := ((Kx.refl _ _).setCell (.inl (by simp)) _).setCell (.inl (by simp)) _
      have hnx := hP2.2.2.1.ne_blk Oq (by decide)
      replace hP2 := hP2.kx hkk (fun x hx hm => by simp at hm; subst hm; exact HAb.out.2.2 hx) (fun j hj hm => by simp at hm; subst hm; exact hnx hj)
      replace Rq := Rq.kx hkk (by simp; omega)
      replace hbq := hbq.kx hkk (fun x hx => by simp at hx; omega)
      refine hK _ _ ?_
      clear r0 r1 f0 f1 Oq hkk hnx
      generalize (wz.setCell ⟨gO, 0, none⟩ (.int .i64 now2)).setCell ⟨gO, 1, none⟩ (.slice a2 N2 c2) = ws at *
      clear hK K
      refine wpAny_ready (rs := [11]) (by kernel_rfl) (by simp) ?_
      refine AllReady.cons rfl (fun K hK => ?_) AllReady.nil
      go_simp
      refine hK _ _ ?_
      clear hK K
      refine wpAny_done (by kernel_rfl) ?_ _
      clear hP R hb hRs hN cT O hq hPq hgr hk2 hRq hOq HPl
      have hPl := hP2.1.lt
      have HPl := Lib.hid hPl
      clear hPl
      have cI := fun W (h : PairW W xs2 g now2 L2 a2 c2) => is_any xs2 g now2 a2 c2 L2 W h.1 h.2.1 h.2.2.1
      rw [hN2] at cI
      simp only [List.set] at O2
      have o0 := O2.cell (j := 0) rfl
      have o1 := O2.cell (j := 1) rfl
      go_wp2_with fail
      refine (cI _ hP2).mono ?_
      rintro e wa ⟨rfl, hbn⟩
      replace hP2 := hP2.step hbn
      replace O2 := O2.step hbn
      replace Rq := Rq.step hbn
      replace hbq := hbq.step hbn
      clear hbn
      go_wp2_with fail
      go_roundw
      case rel => exact ⟨k + 1, now2, L2, a2, c2, xs2, rfl, by go_num, by omega, hP2, HAb.out, by rw [hN2]; exact O2, Rq, hbq⟩
      case measure => simp [intOf]; omega
    · obtain rfl : k = n := by omega
      obtain ⟨N, hN⟩ : ∃ N, L.length = N := ⟨_, rfl⟩
      have cI := fun W (h : PairW W xs g now L a c1) => is_any xs g now a c1 L W h.1 h.2.1 h.2.2.1
      rw [hN] at cI O
      have o0 := kx_all (ws := [gR]) (O.cell (j := 0) rfl) (by simp; omega)
      have o1 := kx_all (ws := [gR]) (O.cell (j := 1) rfl) (by simp; omega)
      clear hA1
      go_upto_region 7 with fail
      refine wp_region_held (S := Kx [gR] wr) (by kernel_rfl) ?_
      have hst : Below (wr).heap.size wr { wr with drawn := (wr).drawn + 1 } := ⟨rfl, rfl, rfl, Nat.le_refl _, fun _ _ => rfl⟩
      have hS : (Kx [gR] wr) { wr with drawn := (wr).drawn + 1 } := by first | exact ⟨rfl, rfl, rfl, Nat.le_refl _, fun _ _ _ => rfl⟩ | exact ⟨rfl, rfl, rfl, Nat.le_refl _, fun _ _ => rfl⟩ | exact hS0
      replace hP := hP.step hst
      replace R := R.step hst
      replace hb := hb.step hst
      clear hst
      generalize ({ wr with drawn := (wr).drawn + 1 } : World) = wq at *
      refine wpAnyH_take (i := 0) (v := ?_) rfl (by kernel_rfl) (by kernel_rfl) (by kernel_rfl) (fun _ _ _ h => h) (Or.inl ⟨by kernel_rfl, ?_⟩) hS ?_
      rotate_left
      · intro W hSW
        have y0 := o0 _ hSW
        have y1 := o1 _ hSW
        go_simp
        try with_reducible rfl
      dsimp only [Act.put]
      refine wpAnyH_take (i := 1) (v := ?_) rfl (by kernel_rfl) (by kernel_rfl) (by kernel_rfl) (fun _ _ _ h => h) (Or.inl ⟨by kernel_rfl, ?_⟩) hS ?_
      rotate_left
      · intro W hSW
        have y0 := o0 _ hSW
        have y1 := o1 _ hSW
        go_simp
        try with_reducible rfl
      dsimp only [Act.put]
      refine wpAnyH_take (i := 2) (v := ?_) rfl (by kernel_rfl) (by kernel_rfl) (by kernel_rfl) (fun _ _ _ h => h) (Or.inl ⟨by kernel_rfl, ?_⟩) hS ?_
      rotate_left
      · intro W hSW
        have y0 := o0 _ hSW
        have y1 := o1 _ hSW
        go_simp
        try with_reducible rfl
      dsimp only [Act.put]
      refine wpAnyH_take (i := 3) (v := ?_) rfl (by kernel_rfl) (by kernel_rfl) (by kernel_rfl) (fun _ _ _ h => h) (Or.inl ⟨by kernel_rfl, ?_⟩) hS ?_
      rotate_left
      · intro W hSW
        have y0 := o0 _ hSW
        have y1 := o1 _ hSW
        go_simp
        try with_reducible rfl
      dsimp only [Act.put]
      refine wpAnyH_take (i := 4) (v := ?_) rfl (by kernel_rfl) (by kernel_rfl) (by kernel_rfl) (fun _ _ _ h => h) (Or.inl ⟨by kernel_rfl, ?_⟩) hS ?_
      rotate_left
      · intro W hSW
        have y0 := o0 _ hSW
        have y1 := o1 _ hSW
        go_simp
        try with_reducible rfl
      dsimp only [Act.put]
      refine wpAnyH_take (i := 5) (v := ?_) rfl (by kernel_rfl) (by kernel_rfl) (by kernel_rfl) (fun _ _ _ h => h) (Or.inl ⟨by kernel_rfl, ?_⟩) hS ?_
      rotate_left
      · intro W hSW
        have y0 := o0 _ hSW
        have y1 := o1 _ hSW
        go_simp
        try with_reducible rfl
      dsimp only [Act.put]
      refine wpAnyH_ready (rs := [6]) (by kernel_rfl) (by simp) ?_
      refine AllReadyH.cons rfl (fun K hK => ?_) AllReadyH.nil
      go_simp
      refine (cI _ hP).mono ?_
      rintro e wz ⟨rfl, hbn⟩
      replace hP := hP.step hbn
      replace R := R.step hbn
      replace hb := hb.step hbn
      refine hK.out _ _ (hS.step hbn) (fun hS => ?_)
      clear hbn
      clear hK K
      refine wpAnyH_take (i := 7) (v := ?_) rfl (by kernel_rfl) (by kernel_rfl) (by kernel_rfl) (fun _ _ _ h => h) (Or.inl ⟨by kernel_rfl, ?_⟩) hS ?_
      rotate_left
      · intro W hSW
        go_simp
        try with_reducible rfl
      dsimp only [Act.put]
      refine wpAnyH_ready (rs := [8]) (by kernel_rfl) (by simp) ?_
      refine AllReadyH.cons rfl (fun K hK => ?_) AllReadyH.nil
      go_simp
      refine hK.out _ _ hS (fun hS => ?_)
      clear hK K
      have r0 := R.cell (j := 0) rfl
      have r1 := R.cell (j := 1) rfl
      have f0 := R.frozen 0
      have f1 := R.frozen 1
      refine wpAnyH_ready (rs := [9]) (by kernel_rfl) (by simp) ?_
      refine AllReadyH.cons rfl (fun K hK => ?_) AllReadyH.nil
      go_simp
      have R2 := (R.set 0 (.int .i64 now)).set 1 (.slice a N c1)
      have hkk : Kx [gR] wz ((wz.setCell ⟨gR, 0, none⟩ (.int .i64 now)).setCell ⟨gR, 1, none⟩ (.slice a N c1)) := ((Kx.refl _ _).setCell (.inl (by simp)) _).setCell (.inl (by simp)) _
      have hnx := hP.2.2.1.ne_blk R (by decide)
      replace hP := hP.kx hkk (fun x hx hm => by simp at hm; subst hm; exact HAb.out.2.1 hx) (fun j hj hm => by simp at hm; subst hm; exact hnx hj)
      replace hb := hb.kx hkk (fun x hx => by simp at hx; omega)
      refine hK.out _ _ (hS.kx hkk (fun x hx => .inl (by simp at hx; simp [hx]))) (fun hS => ?_)
      clear r0 r1 f0 f1 R hkk hnx
      generalize (wz.setCell ⟨gR, 0, none⟩ (.int .i64 now)).setCell ⟨gR, 1, none⟩ (.slice a N c1) = ws at *
      clear hK K
      refine wpAnyH_ready (rs := [10]) (by kernel_rfl) (by simp) ?_
      refine AllReadyH.cons rfl (fun K hK => ?_) AllReadyH.nil
      go_simp
      refine hK.out _ _ hS (fun hS => ?_)
      clear hK K
      refine wpAnyH_done (by kernel_rfl) ?_ _
      clear hS O HPl
      simp only [List.set] at R2
      have r0 := R2.cell (j := 0) rfl
      have r1 := R2.cell (j := 1) rfl
      go_wp2_with fail
      refine bodyPost_ret (v := .tuple #[.pointer (some ⟨g, 0, none⟩), .agg #[.int .i64 now, .slice a N c1], .bool true]) ?_ rfl ⟨g, now, L, a, c1, xs, by rw [hN], hP, HAb.out.1, hb⟩
      rw [r_tct rfl]
      go_simp
end Go.Proofs.Ytfdfmmmfklodgaa
