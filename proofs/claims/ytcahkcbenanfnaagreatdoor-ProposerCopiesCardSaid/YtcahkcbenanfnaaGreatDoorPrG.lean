
/- Package proposer: what is asked of what is heard. -/
import Derived.Test.YtcahkcbenanfnaaGreatDoorPrF
import Derived.Test.YtcahkcbenanfnaaGreatDoorEqs
namespace Go.Proofs.YtcahkcbenanfnaaGreatDoor
set_option linter.unusedSimpArgs false
set_option linter.unusedVariables false
open Go.RowKit
def noneE (ar ap k m n : Int) (s : ByteArray) : Bool := eq6 ar ap k m n s (-1) 0 0 0 0 ⟨#[]⟩
def toldB (A : Prp) (ar ap k m n : Int) (s : ByteArray) : Bool := noneE ar ap k m n s || (mayB A.c A.sl ar ap && (decide (cmpI ar ap A.r A.p < 0) && (entB k m n s && true)))
set_option maxRecDepth 100000 in
set_option maxHeartbeats 4000000 in
theorem tell1_no (ba bp g : Nat) (A : Prp) (ar ap k m n : Int) (s : ByteArray) (w : World) (hP : PW w g A) (hA : Blk w ba 33 [.int .i64 ar, .int .i64 ap, .int .i64 k, .int .i64 m, .int .i64 n, .string s]) (hp : Blk w bp 30 [.pointer (some ⟨g, 0, none⟩)])
    (hs : s.size ≤ 9223372036854775807) (hT : Tabs w) (hN : noneE ar ap k m n s = false) :
    Calls Tryz.prog 44 #[.pointer (some ⟨ba, 0, none⟩), .pointer (some ⟨bp, 0, none⟩)] w fun e w' => e = .returned (.bool (mayB A.c A.sl ar ap && (decide (cmpI ar ap A.r A.p < 0) && (entB k m n s && true)))) ∧ Below w.heap.size w w' := by
  have c31 := extA_cell hP.cc
  have c32 := extA_cell hP.csl
  have c33 := extA_cell hP.cr
  have c34 := extA_cell hP.cp
  obtain ⟨ph, pk, pm, pn, ps, pr, ac, br, bp2, bk, bm, bn, bs, ur, up, c, sl, r, p⟩ := A
  simp only at c31 c32 c33 c34 ⊢
  have cE := fun W hW => ent_any k m n s W hs hW
  have cM := fun W => may_any c sl ar ap W
  have he := fun W => eq_accepted ar ap k m n s (-1) 0 0 0 0 ⟨#[]⟩ W
  have hN2 : eq6 ar ap k m n s (-1) 0 0 0 0 ⟨#[]⟩ = false := hN
  simp only [hN2] at he
  generalize entB k m n s = V at *
  generalize mayB c sl ar ap = M at *
  obtain ⟨X, hX⟩ : ∃ X, cmpI ar ap r p = X := ⟨_, rfl⟩
  rw [hX]
  have cC := fun W => compare_any ar ap r p W
  simp only [hX] at cC
  clear hX
  have hb := From.refl w
  have hA_0 := extA_cell (hA.cell (j := 0) rfl)
  have hA_1 := extA_cell (hA.cell (j := 1) rfl)
  have hA_2 := extA_cell (hA.cell (j := 2) rfl)
  have hA_3 := extA_cell (hA.cell (j := 3) rfl)
  have hA_4 := extA_cell (hA.cell (j := 4) rfl)
  have hA_5 := extA_cell (hA.cell (j := 5) rfl)
  have hp_0 := extA_cell (hp.cell (j := 0) rfl)
  go_enter Tryz.func44, Tryz.ntmps44
  go_upto_region 1 with fail
  refine wp_region_head (C := ExtA w) 26 (by kernel_rfl) (by decide) (by kernel_rfl) ⟨rfl, rfl, rfl, Nat.le_refl _, fun _ _ => rfl⟩ ?_
  simp only [List.take_succ_cons, List.take_zero]
  repeat
    (first
      | go_big_quiet_skip
      | (go_big_quiet_want
         go_big_quiet_op
         first
           | go_big_quiet_on
           | (apply Exists.intro
              refine ⟨fun w' hC9 => ?_, ?_⟩
              · (first
                  | with_reducible rfl
                  | (go_at_call 45; refine (nothing15_any _).mono ?_; rintro e w2 ⟨rfl, hb9⟩; exact ⟨rfl, extA_then hC9 hb9⟩) | (go_at_call 47; refine (cM _).mono ?_; rintro e w2 ⟨rfl, hb9⟩; exact ⟨rfl, extA_then hC9 hb9⟩) | (go_at_call 48; refine (cC _).mono ?_; rintro e w2 ⟨rfl, hb9⟩; exact ⟨rfl, extA_then hC9 hb9⟩) | (go_at_call 49; refine (cE _ (hT.step hC9)).mono ?_; rintro e w2 ⟨rfl, hb9⟩; exact ⟨rfl, extA_then hC9 hb9⟩)
                  | (go_simp; done)
                  | (go_simp; with_reducible rfl))
              go_big_quiet_on)))
  refine wpQuiet_nil ?_
  intro wq hq
  have hbq := hb.step hq
  change wpAny _ _ _ _ (3 + 1) _ _ _
  refine wpAny_ready (rs := [26]) (by kernel_rfl) (by simp) ?_
  refine AllReady.cons rfl (fun K hK => ?_) AllReady.nil
  go_simp
  obtain ⟨gN, hgN⟩ : ∃ g, wq.heap.size = g := ⟨_, rfl⟩
  have XN := Blk.newV hgN 4 #[.bool M, .bool (decide (X < 0)), .bool V]
  have hbn := (Below.refl wq.heap.size wq).alloc (Nat.le_refl _) (.cells #[.bool M, .bool (decide (X < 0)), .bool V] 4)
  have hbz := hbq.step hbn
  clear hbn
  rw [hgN]
  generalize wq.alloc (.cells #[.bool M, .bool (decide (X < 0)), .bool V] 4) = wz at *
  refine hK _ _ ?_
  clear hK K
  refine wpAny_ready (rs := [27]) (by kernel_rfl) (by simp) ?_
  refine AllReady.cons rfl (fun K hK => ?_) AllReady.nil
  go_simp
  refine (allP_any _ [M, decide (X < 0), V] 3 rfl (by omega) _ XN).mono ?_
  rintro e w5 ⟨rfl, rfl⟩
  refine hK _ _ ?_
  clear hK K
  refine wpAny_take (i := 28) (v := ?_) rfl (by kernel_rfl) (by kernel_rfl) (by kernel_rfl) (fun _ _ _ h => h) (Or.inl ⟨by kernel_rfl, ?_⟩) ?_
  rotate_left
  · intro W
    go_simp
    try with_reducible rfl
  dsimp only [Act.put]
  refine wpAny_ready (rs := [29]) (by kernel_rfl) (by simp) ?_
  refine AllReady.cons rfl (fun K hK => ?_) AllReady.nil
  go_simp
  refine hK _ _ ?_
  clear hK K
  refine wpAny_done (by kernel_rfl) ?_ _
  go_wp2
  go_ret
  exact ⟨rfl, hbz⟩
set_option maxRecDepth 100000 in
set_option maxHeartbeats 4000000 in
theorem tell1_yes (ba bp : Nat) (ar ap k m n : Int) (s : ByteArray) (w : World) (hA : Blk w ba 33 [.int .i64 ar, .int .i64 ap, .int .i64 k, .int .i64 m, .int .i64 n, .string s]) (hN : noneE ar ap k m n s = true) :
    Calls Tryz.prog 44 #[.pointer (some ⟨ba, 0, none⟩), .pointer (some ⟨bp, 0, none⟩)] w fun e w' => e = .returned (.bool true) ∧ Below w.heap.size w w' := by
  have he := fun W => eq_accepted ar ap k m n s (-1) 0 0 0 0 ⟨#[]⟩ W
  have hN2 : eq6 ar ap k m n s (-1) 0 0 0 0 ⟨#[]⟩ = true := hN
  simp only [hN2] at he
  have hb := From.refl w
  have hA_0 := extA_cell (hA.cell (j := 0) rfl)
  have hA_1 := extA_cell (hA.cell (j := 1) rfl)
  have hA_2 := extA_cell (hA.cell (j := 2) rfl)
  have hA_3 := extA_cell (hA.cell (j := 3) rfl)
  have hA_4 := extA_cell (hA.cell (j := 4) rfl)
  have hA_5 := extA_cell (hA.cell (j := 5) rfl)
  go_enter Tryz.func44, Tryz.ntmps44
  go_upto_region 1 with fail
  refine wp_region_extB (by kernel_rfl) (by kernel_rfl) ?_
  repeat
    (first
      | go_big_quiet_skip
      | (go_big_quiet_want
         go_big_quiet_op
         first
           | go_big_quiet_on
           | (apply Exists.intro
              refine ⟨fun w' hC9 => ?_, ?_⟩
              · (first
                  | with_reducible rfl
                  | (go_at_call 45; refine (nothing15_any _).mono ?_; rintro e w2 ⟨rfl, hb9⟩; exact ⟨rfl, extA_then hC9 hb9⟩)
                  | (go_simp; done)
                  | (go_simp; with_reducible rfl))
              go_big_quiet_on)))
  refine wpQuiet_nil ?_
  intro wq hq
  have hb2 := hb.step hq
  go_wp2
  go_ret
  exact ⟨rfl, hb2⟩
theorem tell1_any (ba bp g : Nat) (A : Prp) (ar ap k m n : Int) (s : ByteArray) (w : World) (hP : PW w g A) (hA : Blk w ba 33 [.int .i64 ar, .int .i64 ap, .int .i64 k, .int .i64 m, .int .i64 n, .string s]) (hp : Blk w bp 30 [.pointer (some ⟨g, 0, none⟩)])
    (hs : s.size ≤ 9223372036854775807) (hT : Tabs w) :
    Calls Tryz.prog 44 #[.pointer (some ⟨ba, 0, none⟩), .pointer (some ⟨bp, 0, none⟩)] w fun e w' => e = .returned (.bool (toldB A ar ap k m n s)) ∧ Below w.heap.size w w' := by
  unfold toldB
  cases hN : noneE ar ap k m n s
  · exact tell1_no ba bp g A ar ap k m n s w hP hA hp hs hT hN
  · exact tell1_yes ba bp ar ap k m n s w hA hN
def refB (A : Prp) (x y : Int) : Bool := mayB A.c A.sl x y && (decide (0 < cmpI x y A.r A.p) && true)
set_option maxRecDepth 100000 in
set_option maxHeartbeats 4000000 in
theorem ref2_any (bb bp g : Nat) (A : Prp) (x y : Int) (w : World) (hP : PW w g A) (hB : Blk w bb 23 [.int .i64 x, .int .i64 y]) (hp : Blk w bp 30 [.pointer (some ⟨g, 0, none⟩)]) :
    Calls Tryz.prog 58 #[.pointer (some ⟨bp, 0, none⟩), .pointer (some ⟨bb, 0, none⟩)] w fun e w' => e = .returned (.bool (refB A x y)) ∧ Below w.heap.size w w' := by
  have c31 := extA_cell hP.cc
  have c32 := extA_cell hP.csl
  have c33 := extA_cell hP.cr
  have c34 := extA_cell hP.cp
  obtain ⟨ph, pk, pm, pn, ps, pr, ac, br, bp2, bk, bm, bn, bs, ur, up, c, sl, r, p⟩ := A
  unfold refB
  simp only at c31 c32 c33 c34 ⊢
  have cM := fun W => may_any c sl x y W
  generalize mayB c sl x y = M at *
  obtain ⟨X, hX⟩ : ∃ X, cmpI x y r p = X := ⟨_, rfl⟩
  rw [hX]
  have cC := fun W => compare_any x y r p W
  simp only [hX] at cC
  clear hX
  have hb := From.refl w
  have hB_0 := extA_cell (hB.cell (j := 0) rfl)
  have hB_1 := extA_cell (hB.cell (j := 1) rfl)
  have hp_0 := extA_cell (hp.cell (j := 0) rfl)
  go_enter Tryz.func58, Tryz.ntmps58
  go_upto_region 1 with fail
  refine wp_region_head (C := ExtA w) 17 (by kernel_rfl) (by decide) (by kernel_rfl) ⟨rfl, rfl, rfl, Nat.le_refl _, fun _ _ => rfl⟩ ?_
  simp only [List.take_succ_cons, List.take_zero]
  repeat
    (first
      | go_big_quiet_skip
      | (go_big_quiet_want
         go_big_quiet_op
         first
           | go_big_quiet_on
           | (apply Exists.intro
              refine ⟨fun w' hC9 => ?_, ?_⟩
              · (first
                  | with_reducible rfl
                  | (go_at_call 47; refine (cM _).mono ?_; rintro e w2 ⟨rfl, hb9⟩; exact ⟨rfl, extA_then hC9 hb9⟩) | (go_at_call 48; refine (cC _).mono ?_; rintro e w2 ⟨rfl, hb9⟩; exact ⟨rfl, extA_then hC9 hb9⟩)
                  | (go_simp; done)
                  | (go_simp; with_reducible rfl))
              go_big_quiet_on)))
  refine wpQuiet_nil ?_
  intro wq hq
  have hbq := hb.step hq
  change wpAny _ _ _ _ (2 + 1) _ _ _
  refine wpAny_ready (rs := [17]) (by kernel_rfl) (by simp) ?_
  refine AllReady.cons rfl (fun K hK => ?_) AllReady.nil
  go_simp
  obtain ⟨gN, hgN⟩ : ∃ g, wq.heap.size = g := ⟨_, rfl⟩
  have XN := Blk.newV hgN 4 #[.bool M, .bool (decide (0 < X))]
  have hbn := (Below.refl wq.heap.size wq).alloc (Nat.le_refl _) (.cells #[.bool M, .bool (decide (0 < X))] 4)
  have hbz := hbq.step hbn
  clear hbn
  rw [hgN]
  generalize wq.alloc (.cells #[.bool M, .bool (decide (0 < X))] 4) = wz at *
  refine hK _ _ ?_
  clear hK K
  refine wpAny_ready (rs := [18]) (by kernel_rfl) (by simp) ?_
  refine AllReady.cons rfl (fun K hK => ?_) AllReady.nil
  go_simp
  refine (allP_any _ [M, decide (0 < X)] 2 rfl (by omega) _ XN).mono ?_
  rintro e w5 ⟨rfl, rfl⟩
  refine hK _ _ ?_
  clear hK K
  refine wpAny_ready (rs := [19]) (by kernel_rfl) (by simp) ?_
  refine AllReady.cons rfl (fun K hK => ?_) AllReady.nil
  go_simp
  refine hK _ _ ?_
  clear hK K
  refine wpAny_done (by kernel_rfl) ?_ _
  go_wp2
  go_ret
  exact ⟨rfl, hbz⟩
set_option maxRecDepth 100000 in
set_option maxHeartbeats 400000 in
theorem acc1_true (w : World) : Calls Tryz.prog 55 #[] w fun e w' => e = .returned (.bool true) ∧ Below w.heap.size w w' := by
  go_enter Tryz.func55, Tryz.ntmps55
  go_wp2
  go_ret
  exact ⟨rfl, Below.refl _ _⟩
set_option maxRecDepth 100000 in
set_option maxHeartbeats 1000000 in
theorem by_any (a1 p1 k1 m1 n1 : Int) (s1 : ByteArray) (a2 p2 k2 m2 n2 : Int) (s2 : ByteArray) (w : World) :
    Calls Tryz.prog 50 #[.agg #[.int .i64 a1, .int .i64 p1, .int .i64 k1, .int .i64 m1, .int .i64 n1, .string s1], .agg #[.int .i64 a2, .int .i64 p2, .int .i64 k2, .int .i64 m2, .int .i64 n2, .string s2]] w fun e w' => e = .returned (.int .i64 (cmpI a1 p1 a2 p2)) ∧ Below w.heap.size w w' := by
  have cC := fun W => compare_any a1 p1 a2 p2 W
  generalize cmpI a1 p1 a2 p2 = X at *
  have hb := From.refl w
  go_enter Tryz.func50, Tryz.ntmps50
  go_upto_region 1 with fail
  obtain ⟨gA, hgA⟩ : ∃ g, (w).heap.size = g := ⟨_, rfl⟩
  have A := Blk.newV hgA 33 #[.int .i64 a1, .int .i64 p1, .int .i64 k1, .int .i64 m1, .int .i64 n1, .string s1]
  have hbn := (Below.refl (w).heap.size w).alloc (Nat.le_refl _) (.cells #[.int .i64 a1, .int .i64 p1, .int .i64 k1, .int .i64 m1, .int .i64 n1, .string s1] 33)
  replace hb := hb.step hbn
  clear hbn
  rw [hgA]
  have szA := alloc_size hgA (.cells #[.int .i64 a1, .int .i64 p1, .int .i64 k1, .int .i64 m1, .int .i64 n1, .string s1] 33)
  generalize (w).alloc (.cells #[.int .i64 a1, .int .i64 p1, .int .i64 k1, .int .i64 m1, .int .i64 n1, .string s1] 33) = w1 at *
  obtain ⟨gB, hgB⟩ : ∃ g, (w1).heap.size = g := ⟨_, rfl⟩
  have lt_A_B := A.lt
  rw [hgB] at lt_A_B
  have B := Blk.newV hgB 33 #[.int .i64 a2, .int .i64 p2, .int .i64 k2, .int .i64 m2, .int .i64 n2, .string s2]
  have hbn := (Below.refl (w1).heap.size w1).alloc (Nat.le_refl _) (.cells #[.int .i64 a2, .int .i64 p2, .int .i64 k2, .int .i64 m2, .int .i64 n2, .string s2] 33)
  replace hb := hb.step hbn
  replace A := A.step hbn
  clear hbn
  have egB : gA + 1 = gB := szA.symm.trans hgB
  rw [egB]
  clear szA
  generalize (w1).alloc (.cells #[.int .i64 a2, .int .i64 p2, .int .i64 k2, .int .i64 m2, .int .i64 n2, .string s2] 33) = w2 at *
  have A_0 := A.cell (j := 0) rfl
  have A_1 := A.cell (j := 1) rfl
  have B_0 := B.cell (j := 0) rfl
  have B_1 := B.cell (j := 1) rfl
  go_wp2_with fail
  refine (cC _).mono ?_
  rintro e w3 ⟨rfl, hbn⟩
  replace hb := hb.step hbn
  replace A := A.step hbn
  replace B := B.step hbn
  clear hbn
  go_wp2
  go_ret
  exact ⟨rfl, by first | exact hb | (rw [← hgA]; exact hb)⟩
def gtrV (a1 p1 k1 m1 n1 : Int) (s1 : ByteArray) (a2 p2 k2 m2 n2 : Int) (s2 : ByteArray) : Value := if cmpI a1 p1 a2 p2 < 0 then .agg #[.int .i64 a2, .int .i64 p2, .int .i64 k2, .int .i64 m2, .int .i64 n2, .string s2] else .agg #[.int .i64 a1, .int .i64 p1, .int .i64 k1, .int .i64 m1, .int .i64 n1, .string s1]
set_option maxRecDepth 100000 in
set_option maxHeartbeats 2000000 in
theorem greater_any (a1 p1 k1 m1 n1 : Int) (s1 : ByteArray) (a2 p2 k2 m2 n2 : Int) (s2 : ByteArray) (w : World) :
    Calls Tryz.prog 53 #[.func (.func 50) #[] #[], .agg #[.int .i64 a1, .int .i64 p1, .int .i64 k1, .int .i64 m1, .int .i64 n1, .string s1], .agg #[.int .i64 a2, .int .i64 p2, .int .i64 k2, .int .i64 m2, .int .i64 n2, .string s2]] w fun e w' => e = .returned (gtrV a1 p1 k1 m1 n1 s1 a2 p2 k2 m2 n2 s2) ∧ Below w.heap.size w w' := by
  have cC := fun W => by_any a1 p1 k1 m1 n1 s1 a2 p2 k2 m2 n2 s2 W
  unfold gtrV
  generalize cmpI a1 p1 a2 p2 = X at *
  have hb := From.refl w
  by_cases hX : X < 0
  · rw [if_pos hX]
    go_enter Tryz.func53, Tryz.ntmps53
    go_upto_region 1 with fail
    obtain ⟨gA, hgA⟩ : ∃ g, (w).heap.size = g := ⟨_, rfl⟩
    have A := Blk.newV hgA 33 #[.int .i64 a1, .int .i64 p1, .int .i64 k1, .int .i64 m1, .int .i64 n1, .string s1]
    have hbn := (Below.refl (w).heap.size w).alloc (Nat.le_refl _) (.cells #[.int .i64 a1, .int .i64 p1, .int .i64 k1, .int .i64 m1, .int .i64 n1, .string s1] 33)
    replace hb := hb.step hbn
    clear hbn
    rw [hgA]
    have szA := alloc_size hgA (.cells #[.int .i64 a1, .int .i64 p1, .int .i64 k1, .int .i64 m1, .int .i64 n1, .string s1] 33)
    generalize (w).alloc (.cells #[.int .i64 a1, .int .i64 p1, .int .i64 k1, .int .i64 m1, .int .i64 n1, .string s1] 33) = w1 at *
    obtain ⟨gB, hgB⟩ : ∃ g, (w1).heap.size = g := ⟨_, rfl⟩
    have lt_A_B := A.lt
    rw [hgB] at lt_A_B
    have B := Blk.newV hgB 33 #[.int .i64 a2, .int .i64 p2, .int .i64 k2, .int .i64 m2, .int .i64 n2, .string s2]
    have hbn := (Below.refl (w1).heap.size w1).alloc (Nat.le_refl _) (.cells #[.int .i64 a2, .int .i64 p2, .int .i64 k2, .int .i64 m2, .int .i64 n2, .string s2] 33)
    replace hb := hb.step hbn
    replace A := A.step hbn
    clear hbn
    have egB : gA + 1 = gB := szA.symm.trans hgB
    rw [egB]
    clear szA
    have szB := alloc_size hgB (.cells #[.int .i64 a2, .int .i64 p2, .int .i64 k2, .int .i64 m2, .int .i64 n2, .string s2] 33)
    generalize (w1).alloc (.cells #[.int .i64 a2, .int .i64 p2, .int .i64 k2, .int .i64 m2, .int .i64 n2, .string s2] 33) = w2 at *
    obtain ⟨gR, hgR⟩ : ∃ g, (w2).heap.size = g := ⟨_, rfl⟩
    have lt_A_R := A.lt
    rw [hgR] at lt_A_R
    have lt_B_R := B.lt
    rw [hgR] at lt_B_R
    have R := Blk.newV hgR 33 #[.int .i64 0, .int .i64 0, .int .i64 0, .int .i64 0, .int .i64 0, .string ⟨#[]⟩]
    have hbn := (Below.refl (w2).heap.size w2).alloc (Nat.le_refl _) (.cells #[.int .i64 0, .int .i64 0, .int .i64 0, .int .i64 0, .int .i64 0, .string ⟨#[]⟩] 33)
    replace hb := hb.step hbn
    replace A := A.step hbn
    replace B := B.step hbn
    clear hbn
    have egR : gB + 1 = gR := szB.symm.trans hgR
    rw [egR]
    clear szB
    generalize (w2).alloc (.cells #[.int .i64 0, .int .i64 0, .int .i64 0, .int .i64 0, .int .i64 0, .string ⟨#[]⟩] 33) = w3 at *
    have hwR : w.heap.size ≤ gR := by omega
    have A_0 := A.cell (j := 0) rfl
    have A_1 := A.cell (j := 1) rfl
    have A_2 := A.cell (j := 2) rfl
    have A_3 := A.cell (j := 3) rfl
    have A_4 := A.cell (j := 4) rfl
    have A_5 := A.cell (j := 5) rfl
    have B_0 := B.cell (j := 0) rfl
    have B_1 := B.cell (j := 1) rfl
    have B_2 := B.cell (j := 2) rfl
    have B_3 := B.cell (j := 3) rfl
    have B_4 := B.cell (j := 4) rfl
    have B_5 := B.cell (j := 5) rfl
    go_wp2_with fail
    refine (cC _).mono ?_
    rintro e w4 ⟨rfl, hbn⟩
    replace hb := hb.step hbn
    replace A := A.step hbn
    replace B := B.step hbn
    replace R := R.step hbn
    clear hbn
    clear A_0 A_1 A_2 A_3 A_4 A_5
    clear B_0 B_1 B_2 B_3 B_4 B_5
    have B_0 := B.cell (j := 0) rfl
    have B_1 := B.cell (j := 1) rfl
    have B_2 := B.cell (j := 2) rfl
    have B_3 := B.cell (j := 3) rfl
    have B_4 := B.cell (j := 4) rfl
    have B_5 := B.cell (j := 5) rfl
    have R_0 := R.cell (j := 0) rfl
    have R_1 := R.cell (j := 1) rfl
    have R_2 := R.cell (j := 2) rfl
    have R_3 := R.cell (j := 3) rfl
    have R_4 := R.cell (j := 4) rfl
    have R_5 := R.cell (j := 5) rfl
    have Rf0 := R.frozen 0
    have Rf1 := R.frozen 1
    have Rf2 := R.frozen 2
    have Rf3 := R.frozen 3
    have Rf4 := R.frozen 4
    have Rf5 := R.frozen 5
    go_wp2
    (try simp only [Exit.inBlock, Exit.then])
    refine bodyPost_ret (v := .agg #[.int .i64 a2, .int .i64 p2, .int .i64 k2, .int .i64 m2, .int .i64 n2, .string s2]) ?_ rfl ⟨rfl, by first | exact below6 hb hwR _ _ _ _ _ _ | (rw [← hgA]; exact below6 hb hwR _ _ _ _ _ _)⟩
    rw [r_cell1 rfl]
    go_simp
  · rw [if_neg hX]
    go_enter Tryz.func53, Tryz.ntmps53
    go_upto_region 1 with fail
    obtain ⟨gA, hgA⟩ : ∃ g, (w).heap.size = g := ⟨_, rfl⟩
    have A := Blk.newV hgA 33 #[.int .i64 a1, .int .i64 p1, .int .i64 k1, .int .i64 m1, .int .i64 n1, .string s1]
    have hbn := (Below.refl (w).heap.size w).alloc (Nat.le_refl _) (.cells #[.int .i64 a1, .int .i64 p1, .int .i64 k1, .int .i64 m1, .int .i64 n1, .string s1] 33)
    replace hb := hb.step hbn
    clear hbn
    rw [hgA]
    have szA := alloc_size hgA (.cells #[.int .i64 a1, .int .i64 p1, .int .i64 k1, .int .i64 m1, .int .i64 n1, .string s1] 33)
    generalize (w).alloc (.cells #[.int .i64 a1, .int .i64 p1, .int .i64 k1, .int .i64 m1, .int .i64 n1, .string s1] 33) = w1 at *
    obtain ⟨gB, hgB⟩ : ∃ g, (w1).heap.size = g := ⟨_, rfl⟩
    have lt_A_B := A.lt
    rw [hgB] at lt_A_B
    have B := Blk.newV hgB 33 #[.int .i64 a2, .int .i64 p2, .int .i64 k2, .int .i64 m2, .int .i64 n2, .string s2]
    have hbn := (Below.refl (w1).heap.size w1).alloc (Nat.le_refl _) (.cells #[.int .i64 a2, .int .i64 p2, .int .i64 k2, .int .i64 m2, .int .i64 n2, .string s2] 33)
    replace hb := hb.step hbn
    replace A := A.step hbn
    clear hbn
    have egB : gA + 1 = gB := szA.symm.trans hgB
    rw [egB]
    clear szA
    have szB := alloc_size hgB (.cells #[.int .i64 a2, .int .i64 p2, .int .i64 k2, .int .i64 m2, .int .i64 n2, .string s2] 33)
    generalize (w1).alloc (.cells #[.int .i64 a2, .int .i64 p2, .int .i64 k2, .int .i64 m2, .int .i64 n2, .string s2] 33) = w2 at *
    obtain ⟨gR, hgR⟩ : ∃ g, (w2).heap.size = g := ⟨_, rfl⟩
    have lt_A_R := A.lt
    rw [hgR] at lt_A_R
    have lt_B_R := B.lt
    rw [hgR] at lt_B_R
    have R := Blk.newV hgR 33 #[.int .i64 0, .int .i64 0, .int .i64 0, .int .i64 0, .int .i64 0, .string ⟨#[]⟩]
    have hbn := (Below.refl (w2).heap.size w2).alloc (Nat.le_refl _) (.cells #[.int .i64 0, .int .i64 0, .int .i64 0, .int .i64 0, .int .i64 0, .string ⟨#[]⟩] 33)
    replace hb := hb.step hbn
    replace A := A.step hbn
    replace B := B.step hbn
    clear hbn
    have egR : gB + 1 = gR := szB.symm.trans hgR
    rw [egR]
    clear szB
    generalize (w2).alloc (.cells #[.int .i64 0, .int .i64 0, .int .i64 0, .int .i64 0, .int .i64 0, .string ⟨#[]⟩] 33) = w3 at *
    have hwR : w.heap.size ≤ gR := by omega
    have A_0 := A.cell (j := 0) rfl
    have A_1 := A.cell (j := 1) rfl
    have A_2 := A.cell (j := 2) rfl
    have A_3 := A.cell (j := 3) rfl
    have A_4 := A.cell (j := 4) rfl
    have A_5 := A.cell (j := 5) rfl
    have B_0 := B.cell (j := 0) rfl
    have B_1 := B.cell (j := 1) rfl
    have B_2 := B.cell (j := 2) rfl
    have B_3 := B.cell (j := 3) rfl
    have B_4 := B.cell (j := 4) rfl
    have B_5 := B.cell (j := 5) rfl
    go_wp2_with fail
    refine (cC _).mono ?_
    rintro e w4 ⟨rfl, hbn⟩
    replace hb := hb.step hbn
    replace A := A.step hbn
    replace B := B.step hbn
    replace R := R.step hbn
    clear hbn
    clear A_0 A_1 A_2 A_3 A_4 A_5
    clear B_0 B_1 B_2 B_3 B_4 B_5
    have A_0 := A.cell (j := 0) rfl
    have A_1 := A.cell (j := 1) rfl
    have A_2 := A.cell (j := 2) rfl
    have A_3 := A.cell (j := 3) rfl
    have A_4 := A.cell (j := 4) rfl
    have A_5 := A.cell (j := 5) rfl
    have R_0 := R.cell (j := 0) rfl
    have R_1 := R.cell (j := 1) rfl
    have R_2 := R.cell (j := 2) rfl
    have R_3 := R.cell (j := 3) rfl
    have R_4 := R.cell (j := 4) rfl
    have R_5 := R.cell (j := 5) rfl
    have Rf0 := R.frozen 0
    have Rf1 := R.frozen 1
    have Rf2 := R.frozen 2
    have Rf3 := R.frozen 3
    have Rf4 := R.frozen 4
    have Rf5 := R.frozen 5
    go_wp2
    (try simp only [Exit.inBlock, Exit.then])
    refine bodyPost_ret (v := .agg #[.int .i64 a1, .int .i64 p1, .int .i64 k1, .int .i64 m1, .int .i64 n1, .string s1]) ?_ rfl ⟨rfl, by first | exact below6 hb hwR _ _ _ _ _ _ | (rw [← hgA]; exact below6 hb hwR _ _ _ _ _ _)⟩
    rw [r_cell1 rfl]
    go_simp
end Go.Proofs.YtcahkcbenanfnaaGreatDoor
