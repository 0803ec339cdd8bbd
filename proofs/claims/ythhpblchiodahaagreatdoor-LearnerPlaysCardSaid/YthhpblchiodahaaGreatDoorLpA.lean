
/- The document's learner: New, chosen, Told, Skipped. -/
import Derived.Test.YthhpblchiodahaaGreatDoorLoF
import Derived.Test.YthhpblchiodahaaGreatDoorLnH
namespace Go.Proofs.YthhpblchiodahaaGreatDoor
set_option linter.unusedSimpArgs false
set_option linter.unusedVariables false
open Go.RowKit Go.Maps
/-- The document's learner: A, and its slice of what was heard. -/
def rV (A : Lrn) (v : Value) : Value := .agg #[.int .i64 A.c, .int .i64 A.sl, v, .bool A.is, .int .i64 A.k, .int .i64 A.m, .int .i64 A.n, .string A.s]
def knoR (A : Lrn) (v : Value) (k m n : Int) (s : ByteArray) : Value := .tuple #[rV (if knE A k m n s = 0 then knowA A k m n s else A) v, .bool (decide (knE A k m n s = 0) && !A.is), .int .i64 (knE A k m n s)]
theorem kno_know {A : Lrn} (k m n : Int) (s : ByteArray) (h : A.is = true) : knowA A k m n s = A := by simp [knowA, h]
set_option maxRecDepth 100000 in
set_option maxHeartbeats 2000000 in
theorem rchosen_any (A : Lrn) (a : Option Addr) (N cp : Nat) (k m n : Int) (s : ByteArray) (w : World) :
    Calls Tryz.prog 90 #[rV A (.slice a N cp), kV k m n s] w fun e w' => e = .returned (knoR A (.slice a N cp) k m n s) ∧ Below w.heap.size w w' := by
  have hq : eqE A k m n s = eq4 A.k A.m A.n A.s k m n s := rfl
  have he := fun W => ne_entry A.k A.m A.n A.s k m n s W
  cases hi : A.is
  · have e1 : knE A k m n s = 0 := by simp [knE, hi]
    unfold knoR
    rw [e1, hi]
    simp only [if_true, knowA, hi]
    obtain ⟨k0, m0, n0, s0, is, c, sl⟩ := A
    simp only at hi
    subst hi
    unfold rV kV
    simp only
    clear he hq e1
    have hb := From.refl w
    go_enter Tryz.func90, Tryz.ntmps90
    go_upto_region 1 with fail
    obtain ⟨gX, hgX⟩ : ∃ g, (w).heap.size = g := ⟨_, rfl⟩
    have X := Blk.newV hgX 55 #[.int .i64 c, .int .i64 sl, .slice a N cp, .bool false, .int .i64 k0, .int .i64 m0, .int .i64 n0, .string s0]
    have hbn := (Below.refl (w).heap.size w).alloc (Nat.le_refl _) (.cells #[.int .i64 c, .int .i64 sl, .slice a N cp, .bool false, .int .i64 k0, .int .i64 m0, .int .i64 n0, .string s0] 55)
    replace hb := hb.step hbn
    clear hbn
    rw [hgX]
    have szX := alloc_size hgX (.cells #[.int .i64 c, .int .i64 sl, .slice a N cp, .bool false, .int .i64 k0, .int .i64 m0, .int .i64 n0, .string s0] 55)
    generalize (w).alloc (.cells #[.int .i64 c, .int .i64 sl, .slice a N cp, .bool false, .int .i64 k0, .int .i64 m0, .int .i64 n0, .string s0] 55) = w1 at *
    obtain ⟨gE, hgE⟩ : ∃ g, (w1).heap.size = g := ⟨_, rfl⟩
    have lt_X_E := X.lt
    rw [hgE] at lt_X_E
    have E := Blk.newV hgE 24 #[.int .i64 k, .int .i64 m, .int .i64 n, .string s]
    have hbn := (Below.refl (w1).heap.size w1).alloc (Nat.le_refl _) (.cells #[.int .i64 k, .int .i64 m, .int .i64 n, .string s] 24)
    replace hb := hb.step hbn
    replace X := X.step hbn
    clear hbn
    have egE : gX + 1 = gE := szX.symm.trans hgE
    rw [egE]
    clear szX
    have szE := alloc_size hgE (.cells #[.int .i64 k, .int .i64 m, .int .i64 n, .string s] 24)
    generalize (w1).alloc (.cells #[.int .i64 k, .int .i64 m, .int .i64 n, .string s] 24) = w2 at *
    obtain ⟨gR, hgR⟩ : ∃ g, (w2).heap.size = g := ⟨_, rfl⟩
    have lt_X_R := X.lt
    rw [hgR] at lt_X_R
    have lt_E_R := E.lt
    rw [hgR] at lt_E_R
    have R := Blk.newV hgR 55 #[.int .i64 0, .int .i64 0, .slice none 0 0, .bool false, .int .i64 0, .int .i64 0, .int .i64 0, .string ⟨#[]⟩]
    have hbn := (Below.refl (w2).heap.size w2).alloc (Nat.le_refl _) (.cells #[.int .i64 0, .int .i64 0, .slice none 0 0, .bool false, .int .i64 0, .int .i64 0, .int .i64 0, .string ⟨#[]⟩] 55)
    replace hb := hb.step hbn
    replace X := X.step hbn
    replace E := E.step hbn
    clear hbn
    have egR : gE + 1 = gR := szE.symm.trans hgR
    rw [egR]
    clear szE
    generalize (w2).alloc (.cells #[.int .i64 0, .int .i64 0, .slice none 0 0, .bool false, .int .i64 0, .int .i64 0, .int .i64 0, .string ⟨#[]⟩] 55) = w3 at *
    have hXw : w.heap.size ≤ gX := by omega
    have hRw : w.heap.size ≤ gR := by omega
    have hXE : gX < gE := by omega
    have hER : gE < gR := by omega
    clear hgX hgE hgR egR egE
    have x3 := X.cell (j := 3) rfl
    go_upto_region 5 with fail
    clear x3
    have hEX : gE ∉ [gX] := by simp; omega
    refine wp_region_held (S := Kx [gX] w3) (by kernel_rfl) ?_
    have hst : Below (w3).heap.size w3 { w3 with drawn := (w3).drawn + 1 } := ⟨rfl, rfl, rfl, Nat.le_refl _, fun _ _ => rfl⟩
    have hS : (Kx [gX] w3) { w3 with drawn := (w3).drawn + 1 } := by first | exact ⟨rfl, rfl, rfl, Nat.le_refl _, fun _ _ _ => rfl⟩ | exact ⟨rfl, rfl, rfl, Nat.le_refl _, fun _ _ => rfl⟩ | exact hS0
    replace hb := hb.step hst
    replace E := E.step hst
    replace R := R.step hst
    replace X := X.step hst
    clear hst
    generalize ({ w3 with drawn := (w3).drawn + 1 } : World) = wq at *
    refine wpAnyH_ready (rs := [0, 1]) (by kernel_rfl) (by simp) ?_
    refine AllReadyH.cons rfl (fun K hK => ?_) (AllReadyH.cons rfl (fun K hK => ?_) AllReadyH.nil)
    ·
      have E_0 := E.cell (j := 0) rfl
      have E_1 := E.cell (j := 1) rfl
      have E_2 := E.cell (j := 2) rfl
      have E_3 := E.cell (j := 3) rfl
      go_simp
      refine hK.out _ _ hS (fun hS => ?_)
      clear E_0 E_1 E_2 E_3
      clear hK K
      refine wpAnyH_ready (rs := [1]) (by kernel_rfl) (by simp) ?_
      refine AllReadyH.cons rfl (fun K hK => ?_) AllReadyH.nil
      go_simp
      refine hK.out _ _ (hS) (fun hS => ?_)
      clear hK K
      refine wpAnyH_ready (rs := [2]) (by kernel_rfl) (by simp) ?_
      refine AllReadyH.cons rfl (fun K hK => ?_) AllReadyH.nil
      have X_0 := X.cell (j := 0) rfl
      have X_1 := X.cell (j := 1) rfl
      have X_2 := X.cell (j := 2) rfl
      have X_3 := X.cell (j := 3) rfl
      have X_4 := X.cell (j := 4) rfl
      have X_5 := X.cell (j := 5) rfl
      have X_6 := X.cell (j := 6) rfl
      have X_7 := X.cell (j := 7) rfl
      have Xf0 := X.frozen 0
      have Xf1 := X.frozen 1
      have Xf2 := X.frozen 2
      have Xf3 := X.frozen 3
      have Xf4 := X.frozen 4
      have Xf5 := X.frozen 5
      have Xf6 := X.frozen 6
      have Xf7 := X.frozen 7
      go_simp
      have hkn : Kx [gX] wq (wq.setCell ⟨gX, 3, none⟩ (.bool true)) := (Kx.refl _ _).setCell (.inl (by simp)) _
      replace hb := hb.kx hkn (by simp; omega)
      replace E := hkn.blk E (by simp; omega)
      replace R := hkn.blk R (by simp; omega)
      replace X := X.set 3 (.bool true)
      refine hK.out _ _ (hS.trans hkn) (fun hS => ?_)
      clear hkn X_0 X_1 X_2 X_3 X_4 X_5 X_6 X_7 Xf0 Xf1 Xf2 Xf3 Xf4 Xf5 Xf6 Xf7
      generalize wq.setCell ⟨gX, 3, none⟩ (.bool true) = w4 at *
      clear hK K
      refine wpAnyH_ready (rs := [3]) (by kernel_rfl) (by simp) ?_
      refine AllReadyH.cons rfl (fun K hK => ?_) AllReadyH.nil
      go_simp
      refine hK.out _ _ (hS) (fun hS => ?_)
      clear hK K
      have y4 := X.cell (j := 4) rfl
      have y5 := X.cell (j := 5) rfl
      have y6 := X.cell (j := 6) rfl
      have y7 := X.cell (j := 7) rfl
      have z4 := X.frozen 4
      have z5 := X.frozen 5
      have z6 := X.frozen 6
      have z7 := X.frozen 7
      refine wpAnyH_ready (rs := [4]) (by kernel_rfl) (by simp) ?_
      refine AllReadyH.cons rfl (fun K hK => ?_) AllReadyH.nil
      go_simp
      have hkn : Kx [gX] w4 ((((w4.setCell ⟨gX, 4, none⟩ (.int .i64 k)).setCell ⟨gX, 5, none⟩ (.int .i64 m)).setCell ⟨gX, 6, none⟩ (.int .i64 n)).setCell ⟨gX, 7, none⟩ (.string s)) := ((((Kx.refl _ _).setCell (.inl (by simp)) _).setCell (.inl (by simp)) _).setCell (.inl (by simp)) _).setCell (.inl (by simp)) _
      have X9 : Blk ((((w4.setCell ⟨gX, 4, none⟩ (.int .i64 k)).setCell ⟨gX, 5, none⟩ (.int .i64 m)).setCell ⟨gX, 6, none⟩ (.int .i64 n)).setCell ⟨gX, 7, none⟩ (.string s)) gX 55 [.int .i64 c, .int .i64 sl, .slice a N cp, .bool true, .int .i64 k, .int .i64 m, .int .i64 n, .string s] := (((X.set 4 (.int .i64 k)).set 5 (.int .i64 m)).set 6 (.int .i64 n)).set 7 (.string s)
      replace hb := hb.kx hkn (by simp; omega)
      replace R := hkn.blk R (by simp; omega)
      replace X := X9
      refine hK.out _ _ (hS.trans hkn) (fun hS => ?_)
      clear hkn X9 y4 y5 y6 y7 z4 z5 z6 z7
      generalize ((((w4.setCell ⟨gX, 4, none⟩ (.int .i64 k)).setCell ⟨gX, 5, none⟩ (.int .i64 m)).setCell ⟨gX, 6, none⟩ (.int .i64 n)).setCell ⟨gX, 7, none⟩ (.string s)) = w5 at *
      clear hK K
      refine wpAnyH_done (by kernel_rfl) ?_ _
      clear hS E
      have X_0 := X.cell (j := 0) rfl
      have X_1 := X.cell (j := 1) rfl
      have X_2 := X.cell (j := 2) rfl
      have X_3 := X.cell (j := 3) rfl
      have X_4 := X.cell (j := 4) rfl
      have X_5 := X.cell (j := 5) rfl
      have X_6 := X.cell (j := 6) rfl
      have X_7 := X.cell (j := 7) rfl
      have R_0 := R.cell (j := 0) rfl
      have R_1 := R.cell (j := 1) rfl
      have R_2 := R.cell (j := 2) rfl
      have R_3 := R.cell (j := 3) rfl
      have R_4 := R.cell (j := 4) rfl
      have R_5 := R.cell (j := 5) rfl
      have R_6 := R.cell (j := 6) rfl
      have R_7 := R.cell (j := 7) rfl
      have Rf0 := R.frozen 0
      have Rf1 := R.frozen 1
      have Rf2 := R.frozen 2
      have Rf3 := R.frozen 3
      have Rf4 := R.frozen 4
      have Rf5 := R.frozen 5
      have Rf6 := R.frozen 6
      have Rf7 := R.frozen 7
      go_wp2_with fail
      (try simp only [Exit.inBlock, Exit.then])
      clear X_0 X_1 X_2 X_3 X_4 X_5 X_6 X_7 Rf0 Rf1 Rf2 Rf3 Rf4 Rf5 Rf6 Rf7 R_0 R_1 R_2 R_3 R_4 R_5 R_6 R_7
      have hkn : Kx [gR] w5 ((((((((w5.setCell ⟨gR, 0, none⟩ (.int .i64 c)).setCell ⟨gR, 1, none⟩ (.int .i64 sl)).setCell ⟨gR, 2, none⟩ (.slice a N cp)).setCell ⟨gR, 3, none⟩ (.bool true)).setCell ⟨gR, 4, none⟩ (.int .i64 k)).setCell ⟨gR, 5, none⟩ (.int .i64 m)).setCell ⟨gR, 6, none⟩ (.int .i64 n)).setCell ⟨gR, 7, none⟩ (.string s)) := Kx.setCells [.int .i64 c, .int .i64 sl, .slice a N cp, .bool true, .int .i64 k, .int .i64 m, .int .i64 n, .string s] 0 _ (Kx.refl _ _) (.inl (by simp))
      replace R : Blk ((((((((w5.setCell ⟨gR, 0, none⟩ (.int .i64 c)).setCell ⟨gR, 1, none⟩ (.int .i64 sl)).setCell ⟨gR, 2, none⟩ (.slice a N cp)).setCell ⟨gR, 3, none⟩ (.bool true)).setCell ⟨gR, 4, none⟩ (.int .i64 k)).setCell ⟨gR, 5, none⟩ (.int .i64 m)).setCell ⟨gR, 6, none⟩ (.int .i64 n)).setCell ⟨gR, 7, none⟩ (.string s)) gR 55 [.int .i64 c, .int .i64 sl, .slice a N cp, .bool true, .int .i64 k, .int .i64 m, .int .i64 n, .string s] := Blk.puts [.int .i64 c, .int .i64 sl, .slice a N cp, .bool true, .int .i64 k, .int .i64 m, .int .i64 n, .string s] R rfl
      replace hb := hb.kx hkn (by first | (simp; done) | (simp; omega))
      replace X := X.kx hkn (by first | (simp; done) | (simp; omega))
      clear hkn
      generalize (((((((w5.setCell ⟨gR, 0, none⟩ (.int .i64 c)).setCell ⟨gR, 1, none⟩ (.int .i64 sl)).setCell ⟨gR, 2, none⟩ (.slice a N cp)).setCell ⟨gR, 3, none⟩ (.bool true)).setCell ⟨gR, 4, none⟩ (.int .i64 k)).setCell ⟨gR, 5, none⟩ (.int .i64 m)).setCell ⟨gR, 6, none⟩ (.int .i64 n)).setCell ⟨gR, 7, none⟩ (.string s) = w9 at *
      have R_0 := R.cell (j := 0) rfl
      have R_1 := R.cell (j := 1) rfl
      have R_2 := R.cell (j := 2) rfl
      have R_3 := R.cell (j := 3) rfl
      have R_4 := R.cell (j := 4) rfl
      have R_5 := R.cell (j := 5) rfl
      have R_6 := R.cell (j := 6) rfl
      have R_7 := R.cell (j := 7) rfl
      refine bodyPost_ret (v := .tuple #[.agg #[.int .i64 c, .int .i64 sl, .slice a N cp, .bool true, .int .i64 k, .int .i64 m, .int .i64 n, .string s], .bool true, .int .i64 0]) ?_ rfl ⟨rfl, hb⟩
      rw [r_cell1tt rfl]
      go_simp
    ·
      go_simp
      refine hK.out _ _ (hS) (fun hS => ?_)
      clear hK K
      refine wpAnyH_ready (rs := [0, 2]) (by kernel_rfl) (by simp) ?_
      refine AllReadyH.cons rfl (fun K hK => ?_) (AllReadyH.cons rfl (fun K hK => ?_) AllReadyH.nil)
      ·
        have E_0 := E.cell (j := 0) rfl
        have E_1 := E.cell (j := 1) rfl
        have E_2 := E.cell (j := 2) rfl
        have E_3 := E.cell (j := 3) rfl
        go_simp
        refine hK.out _ _ hS (fun hS => ?_)
        clear E_0 E_1 E_2 E_3
        clear hK K
        refine wpAnyH_ready (rs := [2]) (by kernel_rfl) (by simp) ?_
        refine AllReadyH.cons rfl (fun K hK => ?_) AllReadyH.nil
        have X_0 := X.cell (j := 0) rfl
        have X_1 := X.cell (j := 1) rfl
        have X_2 := X.cell (j := 2) rfl
        have X_3 := X.cell (j := 3) rfl
        have X_4 := X.cell (j := 4) rfl
        have X_5 := X.cell (j := 5) rfl
        have X_6 := X.cell (j := 6) rfl
        have X_7 := X.cell (j := 7) rfl
        have Xf0 := X.frozen 0
        have Xf1 := X.frozen 1
        have Xf2 := X.frozen 2
        have Xf3 := X.frozen 3
        have Xf4 := X.frozen 4
        have Xf5 := X.frozen 5
        have Xf6 := X.frozen 6
        have Xf7 := X.frozen 7
        go_simp
        have hkn : Kx [gX] wq (wq.setCell ⟨gX, 3, none⟩ (.bool true)) := (Kx.refl _ _).setCell (.inl (by simp)) _
        replace hb := hb.kx hkn (by simp; omega)
        replace E := hkn.blk E (by simp; omega)
        replace R := hkn.blk R (by simp; omega)
        replace X := X.set 3 (.bool true)
        refine hK.out _ _ (hS.trans hkn) (fun hS => ?_)
        clear hkn X_0 X_1 X_2 X_3 X_4 X_5 X_6 X_7 Xf0 Xf1 Xf2 Xf3 Xf4 Xf5 Xf6 Xf7
        generalize wq.setCell ⟨gX, 3, none⟩ (.bool true) = w4 at *
        clear hK K
        refine wpAnyH_ready (rs := [3]) (by kernel_rfl) (by simp) ?_
        refine AllReadyH.cons rfl (fun K hK => ?_) AllReadyH.nil
        go_simp
        refine hK.out _ _ (hS) (fun hS => ?_)
        clear hK K
        have y4 := X.cell (j := 4) rfl
        have y5 := X.cell (j := 5) rfl
        have y6 := X.cell (j := 6) rfl
        have y7 := X.cell (j := 7) rfl
        have z4 := X.frozen 4
        have z5 := X.frozen 5
        have z6 := X.frozen 6
        have z7 := X.frozen 7
        refine wpAnyH_ready (rs := [4]) (by kernel_rfl) (by simp) ?_
        refine AllReadyH.cons rfl (fun K hK => ?_) AllReadyH.nil
        go_simp
        have hkn : Kx [gX] w4 ((((w4.setCell ⟨gX, 4, none⟩ (.int .i64 k)).setCell ⟨gX, 5, none⟩ (.int .i64 m)).setCell ⟨gX, 6, none⟩ (.int .i64 n)).setCell ⟨gX, 7, none⟩ (.string s)) := ((((Kx.refl _ _).setCell (.inl (by simp)) _).setCell (.inl (by simp)) _).setCell (.inl (by simp)) _).setCell (.inl (by simp)) _
        have X9 : Blk ((((w4.setCell ⟨gX, 4, none⟩ (.int .i64 k)).setCell ⟨gX, 5, none⟩ (.int .i64 m)).setCell ⟨gX, 6, none⟩ (.int .i64 n)).setCell ⟨gX, 7, none⟩ (.string s)) gX 55 [.int .i64 c, .int .i64 sl, .slice a N cp, .bool true, .int .i64 k, .int .i64 m, .int .i64 n, .string s] := (((X.set 4 (.int .i64 k)).set 5 (.int .i64 m)).set 6 (.int .i64 n)).set 7 (.string s)
        replace hb := hb.kx hkn (by simp; omega)
        replace R := hkn.blk R (by simp; omega)
        replace X := X9
        refine hK.out _ _ (hS.trans hkn) (fun hS => ?_)
        clear hkn X9 y4 y5 y6 y7 z4 z5 z6 z7
        generalize ((((w4.setCell ⟨gX, 4, none⟩ (.int .i64 k)).setCell ⟨gX, 5, none⟩ (.int .i64 m)).setCell ⟨gX, 6, none⟩ (.int .i64 n)).setCell ⟨gX, 7, none⟩ (.string s)) = w5 at *
        clear hK K
        refine wpAnyH_done (by kernel_rfl) ?_ _
        clear hS E
        have X_0 := X.cell (j := 0) rfl
        have X_1 := X.cell (j := 1) rfl
        have X_2 := X.cell (j := 2) rfl
        have X_3 := X.cell (j := 3) rfl
        have X_4 := X.cell (j := 4) rfl
        have X_5 := X.cell (j := 5) rfl
        have X_6 := X.cell (j := 6) rfl
        have X_7 := X.cell (j := 7) rfl
        have R_0 := R.cell (j := 0) rfl
        have R_1 := R.cell (j := 1) rfl
        have R_2 := R.cell (j := 2) rfl
        have R_3 := R.cell (j := 3) rfl
        have R_4 := R.cell (j := 4) rfl
        have R_5 := R.cell (j := 5) rfl
        have R_6 := R.cell (j := 6) rfl
        have R_7 := R.cell (j := 7) rfl
        have Rf0 := R.frozen 0
        have Rf1 := R.frozen 1
        have Rf2 := R.frozen 2
        have Rf3 := R.frozen 3
        have Rf4 := R.frozen 4
        have Rf5 := R.frozen 5
        have Rf6 := R.frozen 6
        have Rf7 := R.frozen 7
        go_wp2_with fail
        (try simp only [Exit.inBlock, Exit.then])
        clear X_0 X_1 X_2 X_3 X_4 X_5 X_6 X_7 Rf0 Rf1 Rf2 Rf3 Rf4 Rf5 Rf6 Rf7 R_0 R_1 R_2 R_3 R_4 R_5 R_6 R_7
        have hkn : Kx [gR] w5 ((((((((w5.setCell ⟨gR, 0, none⟩ (.int .i64 c)).setCell ⟨gR, 1, none⟩ (.int .i64 sl)).setCell ⟨gR, 2, none⟩ (.slice a N cp)).setCell ⟨gR, 3, none⟩ (.bool true)).setCell ⟨gR, 4, none⟩ (.int .i64 k)).setCell ⟨gR, 5, none⟩ (.int .i64 m)).setCell ⟨gR, 6, none⟩ (.int .i64 n)).setCell ⟨gR, 7, none⟩ (.string s)) := Kx.setCells [.int .i64 c, .int .i64 sl, .slice a N cp, .bool true, .int .i64 k, .int .i64 m, .int .i64 n, .string s] 0 _ (Kx.refl _ _) (.inl (by simp))
        replace R : Blk ((((((((w5.setCell ⟨gR, 0, none⟩ (.int .i64 c)).setCell ⟨gR, 1, none⟩ (.int .i64 sl)).setCell ⟨gR, 2, none⟩ (.slice a N cp)).setCell ⟨gR, 3, none⟩ (.bool true)).setCell ⟨gR, 4, none⟩ (.int .i64 k)).setCell ⟨gR, 5, none⟩ (.int .i64 m)).setCell ⟨gR, 6, none⟩ (.int .i64 n)).setCell ⟨gR, 7, none⟩ (.string s)) gR 55 [.int .i64 c, .int .i64 sl, .slice a N cp, .bool true, .int .i64 k, .int .i64 m, .int .i64 n, .string s] := Blk.puts [.int .i64 c, .int .i64 sl, .slice a N cp, .bool true, .int .i64 k, .int .i64 m, .int .i64 n, .string s] R rfl
        replace hb := hb.kx hkn (by first | (simp; done) | (simp; omega))
        replace X := X.kx hkn (by first | (simp; done) | (simp; omega))
        clear hkn
        generalize (((((((w5.setCell ⟨gR, 0, none⟩ (.int .i64 c)).setCell ⟨gR, 1, none⟩ (.int .i64 sl)).setCell ⟨gR, 2, none⟩ (.slice a N cp)).setCell ⟨gR, 3, none⟩ (.bool true)).setCell ⟨gR, 4, none⟩ (.int .i64 k)).setCell ⟨gR, 5, none⟩ (.int .i64 m)).setCell ⟨gR, 6, none⟩ (.int .i64 n)).setCell ⟨gR, 7, none⟩ (.string s) = w9 at *
        have R_0 := R.cell (j := 0) rfl
        have R_1 := R.cell (j := 1) rfl
        have R_2 := R.cell (j := 2) rfl
        have R_3 := R.cell (j := 3) rfl
        have R_4 := R.cell (j := 4) rfl
        have R_5 := R.cell (j := 5) rfl
        have R_6 := R.cell (j := 6) rfl
        have R_7 := R.cell (j := 7) rfl
        refine bodyPost_ret (v := .tuple #[.agg #[.int .i64 c, .int .i64 sl, .slice a N cp, .bool true, .int .i64 k, .int .i64 m, .int .i64 n, .string s], .bool true, .int .i64 0]) ?_ rfl ⟨rfl, hb⟩
        rw [r_cell1tt rfl]
        go_simp
      ·
        have X_0 := X.cell (j := 0) rfl
        have X_1 := X.cell (j := 1) rfl
        have X_2 := X.cell (j := 2) rfl
        have X_3 := X.cell (j := 3) rfl
        have X_4 := X.cell (j := 4) rfl
        have X_5 := X.cell (j := 5) rfl
        have X_6 := X.cell (j := 6) rfl
        have X_7 := X.cell (j := 7) rfl
        have Xf0 := X.frozen 0
        have Xf1 := X.frozen 1
        have Xf2 := X.frozen 2
        have Xf3 := X.frozen 3
        have Xf4 := X.frozen 4
        have Xf5 := X.frozen 5
        have Xf6 := X.frozen 6
        have Xf7 := X.frozen 7
        go_simp
        have hkn : Kx [gX] wq (wq.setCell ⟨gX, 3, none⟩ (.bool true)) := (Kx.refl _ _).setCell (.inl (by simp)) _
        replace hb := hb.kx hkn (by simp; omega)
        replace E := hkn.blk E (by simp; omega)
        replace R := hkn.blk R (by simp; omega)
        replace X := X.set 3 (.bool true)
        refine hK.out _ _ (hS.trans hkn) (fun hS => ?_)
        clear hkn X_0 X_1 X_2 X_3 X_4 X_5 X_6 X_7 Xf0 Xf1 Xf2 Xf3 Xf4 Xf5 Xf6 Xf7
        generalize wq.setCell ⟨gX, 3, none⟩ (.bool true) = w4 at *
        clear hK K
        refine wpAnyH_ready (rs := [0]) (by kernel_rfl) (by simp) ?_
        refine AllReadyH.cons rfl (fun K hK => ?_) AllReadyH.nil
        have E_0 := E.cell (j := 0) rfl
        have E_1 := E.cell (j := 1) rfl
        have E_2 := E.cell (j := 2) rfl
        have E_3 := E.cell (j := 3) rfl
        go_simp
        refine hK.out _ _ hS (fun hS => ?_)
        clear E_0 E_1 E_2 E_3
        clear hK K
        refine wpAnyH_ready (rs := [3]) (by kernel_rfl) (by simp) ?_
        refine AllReadyH.cons rfl (fun K hK => ?_) AllReadyH.nil
        go_simp
        refine hK.out _ _ (hS) (fun hS => ?_)
        clear hK K
        have y4 := X.cell (j := 4) rfl
        have y5 := X.cell (j := 5) rfl
        have y6 := X.cell (j := 6) rfl
        have y7 := X.cell (j := 7) rfl
        have z4 := X.frozen 4
        have z5 := X.frozen 5
        have z6 := X.frozen 6
        have z7 := X.frozen 7
        refine wpAnyH_ready (rs := [4]) (by kernel_rfl) (by simp) ?_
        refine AllReadyH.cons rfl (fun K hK => ?_) AllReadyH.nil
        go_simp
        have hkn : Kx [gX] w4 ((((w4.setCell ⟨gX, 4, none⟩ (.int .i64 k)).setCell ⟨gX, 5, none⟩ (.int .i64 m)).setCell ⟨gX, 6, none⟩ (.int .i64 n)).setCell ⟨gX, 7, none⟩ (.string s)) := ((((Kx.refl _ _).setCell (.inl (by simp)) _).setCell (.inl (by simp)) _).setCell (.inl (by simp)) _).setCell (.inl (by simp)) _
        have X9 : Blk ((((w4.setCell ⟨gX, 4, none⟩ (.int .i64 k)).setCell ⟨gX, 5, none⟩ (.int .i64 m)).setCell ⟨gX, 6, none⟩ (.int .i64 n)).setCell ⟨gX, 7, none⟩ (.string s)) gX 55 [.int .i64 c, .int .i64 sl, .slice a N cp, .bool true, .int .i64 k, .int .i64 m, .int .i64 n, .string s] := (((X.set 4 (.int .i64 k)).set 5 (.int .i64 m)).set 6 (.int .i64 n)).set 7 (.string s)
        replace hb := hb.kx hkn (by simp; omega)
        replace R := hkn.blk R (by simp; omega)
        replace X := X9
        refine hK.out _ _ (hS.trans hkn) (fun hS => ?_)
        clear hkn X9 y4 y5 y6 y7 z4 z5 z6 z7
        generalize ((((w4.setCell ⟨gX, 4, none⟩ (.int .i64 k)).setCell ⟨gX, 5, none⟩ (.int .i64 m)).setCell ⟨gX, 6, none⟩ (.int .i64 n)).setCell ⟨gX, 7, none⟩ (.string s)) = w5 at *
        clear hK K
        refine wpAnyH_done (by kernel_rfl) ?_ _
        clear hS E
        have X_0 := X.cell (j := 0) rfl
        have X_1 := X.cell (j := 1) rfl
        have X_2 := X.cell (j := 2) rfl
        have X_3 := X.cell (j := 3) rfl
        have X_4 := X.cell (j := 4) rfl
        have X_5 := X.cell (j := 5) rfl
        have X_6 := X.cell (j := 6) rfl
        have X_7 := X.cell (j := 7) rfl
        have R_0 := R.cell (j := 0) rfl
        have R_1 := R.cell (j := 1) rfl
        have R_2 := R.cell (j := 2) rfl
        have R_3 := R.cell (j := 3) rfl
        have R_4 := R.cell (j := 4) rfl
        have R_5 := R.cell (j := 5) rfl
        have R_6 := R.cell (j := 6) rfl
        have R_7 := R.cell (j := 7) rfl
        have Rf0 := R.frozen 0
        have Rf1 := R.frozen 1
        have Rf2 := R.frozen 2
        have Rf3 := R.frozen 3
        have Rf4 := R.frozen 4
        have Rf5 := R.frozen 5
        have Rf6 := R.frozen 6
        have Rf7 := R.frozen 7
        go_wp2_with fail
        (try simp only [Exit.inBlock, Exit.then])
        clear X_0 X_1 X_2 X_3 X_4 X_5 X_6 X_7 Rf0 Rf1 Rf2 Rf3 Rf4 Rf5 Rf6 Rf7 R_0 R_1 R_2 R_3 R_4 R_5 R_6 R_7
        have hkn : Kx [gR] w5 ((((((((w5.setCell ⟨gR, 0, none⟩ (.int .i64 c)).setCell ⟨gR, 1, none⟩ (.int .i64 sl)).setCell ⟨gR, 2, none⟩ (.slice a N cp)).setCell ⟨gR, 3, none⟩ (.bool true)).setCell ⟨gR, 4, none⟩ (.int .i64 k)).setCell ⟨gR, 5, none⟩ (.int .i64 m)).setCell ⟨gR, 6, none⟩ (.int .i64 n)).setCell ⟨gR, 7, none⟩ (.string s)) := Kx.setCells [.int .i64 c, .int .i64 sl, .slice a N cp, .bool true, .int .i64 k, .int .i64 m, .int .i64 n, .string s] 0 _ (Kx.refl _ _) (.inl (by simp))
        replace R : Blk ((((((((w5.setCell ⟨gR, 0, none⟩ (.int .i64 c)).setCell ⟨gR, 1, none⟩ (.int .i64 sl)).setCell ⟨gR, 2, none⟩ (.slice a N cp)).setCell ⟨gR, 3, none⟩ (.bool true)).setCell ⟨gR, 4, none⟩ (.int .i64 k)).setCell ⟨gR, 5, none⟩ (.int .i64 m)).setCell ⟨gR, 6, none⟩ (.int .i64 n)).setCell ⟨gR, 7, none⟩ (.string s)) gR 55 [.int .i64 c, .int .i64 sl, .slice a N cp, .bool true, .int .i64 k, .int .i64 m, .int .i64 n, .string s] := Blk.puts [.int .i64 c, .int .i64 sl, .slice a N cp, .bool true, .int .i64 k, .int .i64 m, .int .i64 n, .string s] R rfl
        replace hb := hb.kx hkn (by first | (simp; done) | (simp; omega))
        replace X := X.kx hkn (by first | (simp; done) | (simp; omega))
        clear hkn
        generalize (((((((w5.setCell ⟨gR, 0, none⟩ (.int .i64 c)).setCell ⟨gR, 1, none⟩ (.int .i64 sl)).setCell ⟨gR, 2, none⟩ (.slice a N cp)).setCell ⟨gR, 3, none⟩ (.bool true)).setCell ⟨gR, 4, none⟩ (.int .i64 k)).setCell ⟨gR, 5, none⟩ (.int .i64 m)).setCell ⟨gR, 6, none⟩ (.int .i64 n)).setCell ⟨gR, 7, none⟩ (.string s) = w9 at *
        have R_0 := R.cell (j := 0) rfl
        have R_1 := R.cell (j := 1) rfl
        have R_2 := R.cell (j := 2) rfl
        have R_3 := R.cell (j := 3) rfl
        have R_4 := R.cell (j := 4) rfl
        have R_5 := R.cell (j := 5) rfl
        have R_6 := R.cell (j := 6) rfl
        have R_7 := R.cell (j := 7) rfl
        refine bodyPost_ret (v := .tuple #[.agg #[.int .i64 c, .int .i64 sl, .slice a N cp, .bool true, .int .i64 k, .int .i64 m, .int .i64 n, .string s], .bool true, .int .i64 0]) ?_ rfl ⟨rfl, hb⟩
        rw [r_cell1tt rfl]
        go_simp
  · rw [hq.symm] at he
    have hA : (if knE A k m n s = 0 then knowA A k m n s else A) = A := by split <;> simp [knowA, hi]
    have e1 : knE A k m n s = if eqE A k m n s then 0 else 260 := by unfold knE; rw [hi]; cases eqE A k m n s <;> rfl
    unfold knoR
    rw [hA, e1, hi]
    clear hA e1 hq
    generalize eqE A k m n s = Q at *
    obtain ⟨k0, m0, n0, s0, is, c, sl⟩ := A
    simp only at hi he
    subst hi
    unfold rV kV
    simp only
    have hb := From.refl w
    cases Q
    · go_enter Tryz.func90, Tryz.ntmps90
      go_upto_region 1 with fail
      obtain ⟨gX, hgX⟩ : ∃ g, (w).heap.size = g := ⟨_, rfl⟩
      have X := Blk.newV hgX 55 #[.int .i64 c, .int .i64 sl, .slice a N cp, .bool true, .int .i64 k0, .int .i64 m0, .int .i64 n0, .string s0]
      have hbn := (Below.refl (w).heap.size w).alloc (Nat.le_refl _) (.cells #[.int .i64 c, .int .i64 sl, .slice a N cp, .bool true, .int .i64 k0, .int .i64 m0, .int .i64 n0, .string s0] 55)
      replace hb := hb.step hbn
      clear hbn
      rw [hgX]
      have szX := alloc_size hgX (.cells #[.int .i64 c, .int .i64 sl, .slice a N cp, .bool true, .int .i64 k0, .int .i64 m0, .int .i64 n0, .string s0] 55)
      generalize (w).alloc (.cells #[.int .i64 c, .int .i64 sl, .slice a N cp, .bool true, .int .i64 k0, .int .i64 m0, .int .i64 n0, .string s0] 55) = w1 at *
      obtain ⟨gE, hgE⟩ : ∃ g, (w1).heap.size = g := ⟨_, rfl⟩
      have lt_X_E := X.lt
      rw [hgE] at lt_X_E
      have E := Blk.newV hgE 24 #[.int .i64 k, .int .i64 m, .int .i64 n, .string s]
      have hbn := (Below.refl (w1).heap.size w1).alloc (Nat.le_refl _) (.cells #[.int .i64 k, .int .i64 m, .int .i64 n, .string s] 24)
      replace hb := hb.step hbn
      replace X := X.step hbn
      clear hbn
      have egE : gX + 1 = gE := szX.symm.trans hgE
      rw [egE]
      clear szX
      have szE := alloc_size hgE (.cells #[.int .i64 k, .int .i64 m, .int .i64 n, .string s] 24)
      generalize (w1).alloc (.cells #[.int .i64 k, .int .i64 m, .int .i64 n, .string s] 24) = w2 at *
      obtain ⟨gR, hgR⟩ : ∃ g, (w2).heap.size = g := ⟨_, rfl⟩
      have lt_X_R := X.lt
      rw [hgR] at lt_X_R
      have lt_E_R := E.lt
      rw [hgR] at lt_E_R
      have R := Blk.newV hgR 55 #[.int .i64 0, .int .i64 0, .slice none 0 0, .bool false, .int .i64 0, .int .i64 0, .int .i64 0, .string ⟨#[]⟩]
      have hbn := (Below.refl (w2).heap.size w2).alloc (Nat.le_refl _) (.cells #[.int .i64 0, .int .i64 0, .slice none 0 0, .bool false, .int .i64 0, .int .i64 0, .int .i64 0, .string ⟨#[]⟩] 55)
      replace hb := hb.step hbn
      replace X := X.step hbn
      replace E := E.step hbn
      clear hbn
      have egR : gE + 1 = gR := szE.symm.trans hgR
      rw [egR]
      clear szE
      generalize (w2).alloc (.cells #[.int .i64 0, .int .i64 0, .slice none 0 0, .bool false, .int .i64 0, .int .i64 0, .int .i64 0, .string ⟨#[]⟩] 55) = w3 at *
      have hXw : w.heap.size ≤ gX := by omega
      have hRw : w.heap.size ≤ gR := by omega
      have hXE : gX < gE := by omega
      have hER : gE < gR := by omega
      clear hgX hgE hgR egR egE
      have X_0 := X.cell (j := 0) rfl
      have X_1 := X.cell (j := 1) rfl
      have X_2 := X.cell (j := 2) rfl
      have X_3 := X.cell (j := 3) rfl
      have X_4 := X.cell (j := 4) rfl
      have X_5 := X.cell (j := 5) rfl
      have X_6 := X.cell (j := 6) rfl
      have X_7 := X.cell (j := 7) rfl
      have R_0 := R.cell (j := 0) rfl
      have R_1 := R.cell (j := 1) rfl
      have R_2 := R.cell (j := 2) rfl
      have R_3 := R.cell (j := 3) rfl
      have R_4 := R.cell (j := 4) rfl
      have R_5 := R.cell (j := 5) rfl
      have R_6 := R.cell (j := 6) rfl
      have R_7 := R.cell (j := 7) rfl
      have Rf0 := R.frozen 0
      have Rf1 := R.frozen 1
      have Rf2 := R.frozen 2
      have Rf3 := R.frozen 3
      have Rf4 := R.frozen 4
      have Rf5 := R.frozen 5
      have Rf6 := R.frozen 6
      have Rf7 := R.frozen 7
      have E_0 := E.cell (j := 0) rfl
      have E_1 := E.cell (j := 1) rfl
      have E_2 := E.cell (j := 2) rfl
      have E_3 := E.cell (j := 3) rfl
      go_wp2_with fail
      (try simp only [Exit.inBlock, Exit.then])
      clear X_0 X_1 X_2 X_3 X_4 X_5 X_6 X_7 Rf0 Rf1 Rf2 Rf3 Rf4 Rf5 Rf6 Rf7 R_0 R_1 R_2 R_3 R_4 R_5 R_6 R_7 E_0 E_1 E_2 E_3
      have hkn : Kx [gR] w3 ((((((((w3.setCell ⟨gR, 0, none⟩ (.int .i64 c)).setCell ⟨gR, 1, none⟩ (.int .i64 sl)).setCell ⟨gR, 2, none⟩ (.slice a N cp)).setCell ⟨gR, 3, none⟩ (.bool true)).setCell ⟨gR, 4, none⟩ (.int .i64 k0)).setCell ⟨gR, 5, none⟩ (.int .i64 m0)).setCell ⟨gR, 6, none⟩ (.int .i64 n0)).setCell ⟨gR, 7, none⟩ (.string s0)) := Kx.setCells [.int .i64 c, .int .i64 sl, .slice a N cp, .bool true, .int .i64 k0, .int .i64 m0, .int .i64 n0, .string s0] 0 _ (Kx.refl _ _) (.inl (by simp))
      replace R : Blk ((((((((w3.setCell ⟨gR, 0, none⟩ (.int .i64 c)).setCell ⟨gR, 1, none⟩ (.int .i64 sl)).setCell ⟨gR, 2, none⟩ (.slice a N cp)).setCell ⟨gR, 3, none⟩ (.bool true)).setCell ⟨gR, 4, none⟩ (.int .i64 k0)).setCell ⟨gR, 5, none⟩ (.int .i64 m0)).setCell ⟨gR, 6, none⟩ (.int .i64 n0)).setCell ⟨gR, 7, none⟩ (.string s0)) gR 55 [.int .i64 c, .int .i64 sl, .slice a N cp, .bool true, .int .i64 k0, .int .i64 m0, .int .i64 n0, .string s0] := Blk.puts [.int .i64 c, .int .i64 sl, .slice a N cp, .bool true, .int .i64 k0, .int .i64 m0, .int .i64 n0, .string s0] R rfl
      replace hb := hb.kx hkn (by first | (simp; done) | (simp; omega))
      replace X := X.kx hkn (by first | (simp; done) | (simp; omega))
      clear hkn
      generalize (((((((w3.setCell ⟨gR, 0, none⟩ (.int .i64 c)).setCell ⟨gR, 1, none⟩ (.int .i64 sl)).setCell ⟨gR, 2, none⟩ (.slice a N cp)).setCell ⟨gR, 3, none⟩ (.bool true)).setCell ⟨gR, 4, none⟩ (.int .i64 k0)).setCell ⟨gR, 5, none⟩ (.int .i64 m0)).setCell ⟨gR, 6, none⟩ (.int .i64 n0)).setCell ⟨gR, 7, none⟩ (.string s0) = w9 at *
      have R_0 := R.cell (j := 0) rfl
      have R_1 := R.cell (j := 1) rfl
      have R_2 := R.cell (j := 2) rfl
      have R_3 := R.cell (j := 3) rfl
      have R_4 := R.cell (j := 4) rfl
      have R_5 := R.cell (j := 5) rfl
      have R_6 := R.cell (j := 6) rfl
      have R_7 := R.cell (j := 7) rfl
      refine bodyPost_ret (v := .tuple #[.agg #[.int .i64 c, .int .i64 sl, .slice a N cp, .bool true, .int .i64 k0, .int .i64 m0, .int .i64 n0, .string s0], .bool false, .int .i64 260]) ?_ rfl ⟨rfl, hb⟩
      rw [r_cell1tt rfl]
      go_simp
    · go_enter Tryz.func90, Tryz.ntmps90
      go_upto_region 1 with fail
      obtain ⟨gX, hgX⟩ : ∃ g, (w).heap.size = g := ⟨_, rfl⟩
      have X := Blk.newV hgX 55 #[.int .i64 c, .int .i64 sl, .slice a N cp, .bool true, .int .i64 k0, .int .i64 m0, .int .i64 n0, .string s0]
      have hbn := (Below.refl (w).heap.size w).alloc (Nat.le_refl _) (.cells #[.int .i64 c, .int .i64 sl, .slice a N cp, .bool true, .int .i64 k0, .int .i64 m0, .int .i64 n0, .string s0] 55)
      replace hb := hb.step hbn
      clear hbn
      rw [hgX]
      have szX := alloc_size hgX (.cells #[.int .i64 c, .int .i64 sl, .slice a N cp, .bool true, .int .i64 k0, .int .i64 m0, .int .i64 n0, .string s0] 55)
      generalize (w).alloc (.cells #[.int .i64 c, .int .i64 sl, .slice a N cp, .bool true, .int .i64 k0, .int .i64 m0, .int .i64 n0, .string s0] 55) = w1 at *
      obtain ⟨gE, hgE⟩ : ∃ g, (w1).heap.size = g := ⟨_, rfl⟩
      have lt_X_E := X.lt
      rw [hgE] at lt_X_E
      have E := Blk.newV hgE 24 #[.int .i64 k, .int .i64 m, .int .i64 n, .string s]
      have hbn := (Below.refl (w1).heap.size w1).alloc (Nat.le_refl _) (.cells #[.int .i64 k, .int .i64 m, .int .i64 n, .string s] 24)
      replace hb := hb.step hbn
      replace X := X.step hbn
      clear hbn
      have egE : gX + 1 = gE := szX.symm.trans hgE
      rw [egE]
      clear szX
      have szE := alloc_size hgE (.cells #[.int .i64 k, .int .i64 m, .int .i64 n, .string s] 24)
      generalize (w1).alloc (.cells #[.int .i64 k, .int .i64 m, .int .i64 n, .string s] 24) = w2 at *
      obtain ⟨gR, hgR⟩ : ∃ g, (w2).heap.size = g := ⟨_, rfl⟩
      have lt_X_R := X.lt
      rw [hgR] at lt_X_R
      have lt_E_R := E.lt
      rw [hgR] at lt_E_R
      have R := Blk.newV hgR 55 #[.int .i64 0, .int .i64 0, .slice none 0 0, .bool false, .int .i64 0, .int .i64 0, .int .i64 0, .string ⟨#[]⟩]
      have hbn := (Below.refl (w2).heap.size w2).alloc (Nat.le_refl _) (.cells #[.int .i64 0, .int .i64 0, .slice none 0 0, .bool false, .int .i64 0, .int .i64 0, .int .i64 0, .string ⟨#[]⟩] 55)
      replace hb := hb.step hbn
      replace X := X.step hbn
      replace E := E.step hbn
      clear hbn
      have egR : gE + 1 = gR := szE.symm.trans hgR
      rw [egR]
      clear szE
      generalize (w2).alloc (.cells #[.int .i64 0, .int .i64 0, .slice none 0 0, .bool false, .int .i64 0, .int .i64 0, .int .i64 0, .string ⟨#[]⟩] 55) = w3 at *
      have hXw : w.heap.size ≤ gX := by omega
      have hRw : w.heap.size ≤ gR := by omega
      have hXE : gX < gE := by omega
      have hER : gE < gR := by omega
      clear hgX hgE hgR egR egE
      have X_0 := X.cell (j := 0) rfl
      have X_1 := X.cell (j := 1) rfl
      have X_2 := X.cell (j := 2) rfl
      have X_3 := X.cell (j := 3) rfl
      have X_4 := X.cell (j := 4) rfl
      have X_5 := X.cell (j := 5) rfl
      have X_6 := X.cell (j := 6) rfl
      have X_7 := X.cell (j := 7) rfl
      have R_0 := R.cell (j := 0) rfl
      have R_1 := R.cell (j := 1) rfl
      have R_2 := R.cell (j := 2) rfl
      have R_3 := R.cell (j := 3) rfl
      have R_4 := R.cell (j := 4) rfl
      have R_5 := R.cell (j := 5) rfl
      have R_6 := R.cell (j := 6) rfl
      have R_7 := R.cell (j := 7) rfl
      have Rf0 := R.frozen 0
      have Rf1 := R.frozen 1
      have Rf2 := R.frozen 2
      have Rf3 := R.frozen 3
      have Rf4 := R.frozen 4
      have Rf5 := R.frozen 5
      have Rf6 := R.frozen 6
      have Rf7 := R.frozen 7
      have E_0 := E.cell (j := 0) rfl
      have E_1 := E.cell (j := 1) rfl
      have E_2 := E.cell (j := 2) rfl
      have E_3 := E.cell (j := 3) rfl
      go_wp2_with fail
      (try simp only [Exit.inBlock, Exit.then])
      clear X_0 X_1 X_2 X_3 X_4 X_5 X_6 X_7 Rf0 Rf1 Rf2 Rf3 Rf4 Rf5 Rf6 Rf7 R_0 R_1 R_2 R_3 R_4 R_5 R_6 R_7 E_0 E_1 E_2 E_3
      have hkn : Kx [gR] w3 ((((((((w3.setCell ⟨gR, 0, none⟩ (.int .i64 c)).setCell ⟨gR, 1, none⟩ (.int .i64 sl)).setCell ⟨gR, 2, none⟩ (.slice a N cp)).setCell ⟨gR, 3, none⟩ (.bool true)).setCell ⟨gR, 4, none⟩ (.int .i64 k0)).setCell ⟨gR, 5, none⟩ (.int .i64 m0)).setCell ⟨gR, 6, none⟩ (.int .i64 n0)).setCell ⟨gR, 7, none⟩ (.string s0)) := Kx.setCells [.int .i64 c, .int .i64 sl, .slice a N cp, .bool true, .int .i64 k0, .int .i64 m0, .int .i64 n0, .string s0] 0 _ (Kx.refl _ _) (.inl (by simp))
      replace R : Blk ((((((((w3.setCell ⟨gR, 0, none⟩ (.int .i64 c)).setCell ⟨gR, 1, none⟩ (.int .i64 sl)).setCell ⟨gR, 2, none⟩ (.slice a N cp)).setCell ⟨gR, 3, none⟩ (.bool true)).setCell ⟨gR, 4, none⟩ (.int .i64 k0)).setCell ⟨gR, 5, none⟩ (.int .i64 m0)).setCell ⟨gR, 6, none⟩ (.int .i64 n0)).setCell ⟨gR, 7, none⟩ (.string s0)) gR 55 [.int .i64 c, .int .i64 sl, .slice a N cp, .bool true, .int .i64 k0, .int .i64 m0, .int .i64 n0, .string s0] := Blk.puts [.int .i64 c, .int .i64 sl, .slice a N cp, .bool true, .int .i64 k0, .int .i64 m0, .int .i64 n0, .string s0] R rfl
      replace hb := hb.kx hkn (by first | (simp; done) | (simp; omega))
      replace X := X.kx hkn (by first | (simp; done) | (simp; omega))
      clear hkn
      generalize (((((((w3.setCell ⟨gR, 0, none⟩ (.int .i64 c)).setCell ⟨gR, 1, none⟩ (.int .i64 sl)).setCell ⟨gR, 2, none⟩ (.slice a N cp)).setCell ⟨gR, 3, none⟩ (.bool true)).setCell ⟨gR, 4, none⟩ (.int .i64 k0)).setCell ⟨gR, 5, none⟩ (.int .i64 m0)).setCell ⟨gR, 6, none⟩ (.int .i64 n0)).setCell ⟨gR, 7, none⟩ (.string s0) = w9 at *
      have R_0 := R.cell (j := 0) rfl
      have R_1 := R.cell (j := 1) rfl
      have R_2 := R.cell (j := 2) rfl
      have R_3 := R.cell (j := 3) rfl
      have R_4 := R.cell (j := 4) rfl
      have R_5 := R.cell (j := 5) rfl
      have R_6 := R.cell (j := 6) rfl
      have R_7 := R.cell (j := 7) rfl
      refine bodyPost_ret (v := .tuple #[.agg #[.int .i64 c, .int .i64 sl, .slice a N cp, .bool true, .int .i64 k0, .int .i64 m0, .int .i64 n0, .string s0], .bool false, .int .i64 0]) ?_ rfl ⟨rfl, hb⟩
      rw [r_cell1tt rfl]
      go_simp
set_option maxRecDepth 100000 in
set_option maxHeartbeats 2000000 in
theorem rskip_any (A : Lrn) (a : Option Addr) (N cp : Nat) (w : World) :
    Calls Tryz.prog 52 #[rV A (.slice a N cp)] w fun e w' => e = .returned (knoR A (.slice a N cp) 1 0 0 ⟨#[]⟩) ∧ Below w.heap.size w w' := by
  have cC := fun W => rchosen_any A a N cp 1 0 0 ⟨#[]⟩ W
  obtain ⟨⟨V1, V2, V3, V4, V5, V6, V7⟩, hV⟩ : ∃ B, (if knE A 1 0 0 ⟨#[]⟩ = 0 then knowA A 1 0 0 ⟨#[]⟩ else A) = B := ⟨_, rfl⟩
  unfold knoR at *
  simp only [hV] at cC ⊢
  clear hV
  obtain ⟨E, hE⟩ : ∃ E, knE A 1 0 0 ⟨#[]⟩ = E := ⟨_, rfl⟩
  simp only [hE] at cC ⊢
  clear hE
  obtain ⟨k0, m0, n0, s0, is, c, sl⟩ := A
  unfold rV kV at *
  simp only at cC ⊢
  generalize (decide (E = 0) && !is) = V at *
  have hb := From.refl w
  go_enter Tryz.func52, Tryz.ntmps52
  go_upto_region 1 with fail
  obtain ⟨gX, hgX⟩ : ∃ g, (w).heap.size = g := ⟨_, rfl⟩
  have X := Blk.newV hgX 55 #[.int .i64 c, .int .i64 sl, .slice a N cp, .bool is, .int .i64 k0, .int .i64 m0, .int .i64 n0, .string s0]
  have hbn := (Below.refl (w).heap.size w).alloc (Nat.le_refl _) (.cells #[.int .i64 c, .int .i64 sl, .slice a N cp, .bool is, .int .i64 k0, .int .i64 m0, .int .i64 n0, .string s0] 55)
  replace hb := hb.step hbn
  clear hbn
  rw [hgX]
  have szX := alloc_size hgX (.cells #[.int .i64 c, .int .i64 sl, .slice a N cp, .bool is, .int .i64 k0, .int .i64 m0, .int .i64 n0, .string s0] 55)
  generalize (w).alloc (.cells #[.int .i64 c, .int .i64 sl, .slice a N cp, .bool is, .int .i64 k0, .int .i64 m0, .int .i64 n0, .string s0] 55) = w1 at *
  obtain ⟨gR, hgR⟩ : ∃ g, (w1).heap.size = g := ⟨_, rfl⟩
  have lt_X_R := X.lt
  rw [hgR] at lt_X_R
  have R := Blk.newV hgR 55 #[.int .i64 0, .int .i64 0, .slice none 0 0, .bool false, .int .i64 0, .int .i64 0, .int .i64 0, .string ⟨#[]⟩]
  have hbn := (Below.refl (w1).heap.size w1).alloc (Nat.le_refl _) (.cells #[.int .i64 0, .int .i64 0, .slice none 0 0, .bool false, .int .i64 0, .int .i64 0, .int .i64 0, .string ⟨#[]⟩] 55)
  replace hb := hb.step hbn
  replace X := X.step hbn
  clear hbn
  have egR : gX + 1 = gR := szX.symm.trans hgR
  rw [egR]
  clear szX
  generalize (w1).alloc (.cells #[.int .i64 0, .int .i64 0, .slice none 0 0, .bool false, .int .i64 0, .int .i64 0, .int .i64 0, .string ⟨#[]⟩] 55) = w2 at *
  have hRw : w.heap.size ≤ gR := by omega
  clear hgX hgR egR
  have X_0 := X.cell (j := 0) rfl
  have X_1 := X.cell (j := 1) rfl
  have X_2 := X.cell (j := 2) rfl
  have X_3 := X.cell (j := 3) rfl
  have X_4 := X.cell (j := 4) rfl
  have X_5 := X.cell (j := 5) rfl
  have X_6 := X.cell (j := 6) rfl
  have X_7 := X.cell (j := 7) rfl
  go_wp2_with fail
  refine (cC _).mono ?_
  rintro e w3 ⟨rfl, hbn⟩
  replace hb := hb.step hbn
  replace X := X.step hbn
  replace R := R.step hbn
  clear hbn
  clear X_0 X_1 X_2 X_3 X_4 X_5 X_6 X_7
  have R_0 := R.cell (j := 0) rfl
  have R_1 := R.cell (j := 1) rfl
  have R_2 := R.cell (j := 2) rfl
  have R_3 := R.cell (j := 3) rfl
  have R_4 := R.cell (j := 4) rfl
  have R_5 := R.cell (j := 5) rfl
  have R_6 := R.cell (j := 6) rfl
  have R_7 := R.cell (j := 7) rfl
  have Rf0 := R.frozen 0
  have Rf1 := R.frozen 1
  have Rf2 := R.frozen 2
  have Rf3 := R.frozen 3
  have Rf4 := R.frozen 4
  have Rf5 := R.frozen 5
  have Rf6 := R.frozen 6
  have Rf7 := R.frozen 7
  go_wp2_with fail
  (try simp only [Exit.inBlock, Exit.then])
  clear Rf0 Rf1 Rf2 Rf3 Rf4 Rf5 Rf6 Rf7 R_0 R_1 R_2 R_3 R_4 R_5 R_6 R_7
  have hkn : Kx [gR] w3 ((((((((w3.setCell ⟨gR, 0, none⟩ (.int .i64 V6)).setCell ⟨gR, 1, none⟩ (.int .i64 V7)).setCell ⟨gR, 2, none⟩ (.slice a N cp)).setCell ⟨gR, 3, none⟩ (.bool V5)).setCell ⟨gR, 4, none⟩ (.int .i64 V1)).setCell ⟨gR, 5, none⟩ (.int .i64 V2)).setCell ⟨gR, 6, none⟩ (.int .i64 V3)).setCell ⟨gR, 7, none⟩ (.string V4)) := Kx.setCells [.int .i64 V6, .int .i64 V7, .slice a N cp, .bool V5, .int .i64 V1, .int .i64 V2, .int .i64 V3, .string V4] 0 _ (Kx.refl _ _) (.inl (by simp))
  replace R : Blk ((((((((w3.setCell ⟨gR, 0, none⟩ (.int .i64 V6)).setCell ⟨gR, 1, none⟩ (.int .i64 V7)).setCell ⟨gR, 2, none⟩ (.slice a N cp)).setCell ⟨gR, 3, none⟩ (.bool V5)).setCell ⟨gR, 4, none⟩ (.int .i64 V1)).setCell ⟨gR, 5, none⟩ (.int .i64 V2)).setCell ⟨gR, 6, none⟩ (.int .i64 V3)).setCell ⟨gR, 7, none⟩ (.string V4)) gR 55 [.int .i64 V6, .int .i64 V7, .slice a N cp, .bool V5, .int .i64 V1, .int .i64 V2, .int .i64 V3, .string V4] := Blk.puts [.int .i64 V6, .int .i64 V7, .slice a N cp, .bool V5, .int .i64 V1, .int .i64 V2, .int .i64 V3, .string V4] R rfl
  replace hb := hb.kx hkn (by first | (simp; done) | (simp; omega))
  replace X := X.kx hkn (by first | (simp; done) | (simp; omega))
  clear hkn
  generalize (((((((w3.setCell ⟨gR, 0, none⟩ (.int .i64 V6)).setCell ⟨gR, 1, none⟩ (.int .i64 V7)).setCell ⟨gR, 2, none⟩ (.slice a N cp)).setCell ⟨gR, 3, none⟩ (.bool V5)).setCell ⟨gR, 4, none⟩ (.int .i64 V1)).setCell ⟨gR, 5, none⟩ (.int .i64 V2)).setCell ⟨gR, 6, none⟩ (.int .i64 V3)).setCell ⟨gR, 7, none⟩ (.string V4) = w9 at *
  have R_0 := R.cell (j := 0) rfl
  have R_1 := R.cell (j := 1) rfl
  have R_2 := R.cell (j := 2) rfl
  have R_3 := R.cell (j := 3) rfl
  have R_4 := R.cell (j := 4) rfl
  have R_5 := R.cell (j := 5) rfl
  have R_6 := R.cell (j := 6) rfl
  have R_7 := R.cell (j := 7) rfl
  refine bodyPost_ret (v := .tuple #[.agg #[.int .i64 V6, .int .i64 V7, .slice a N cp, .bool V5, .int .i64 V1, .int .i64 V2, .int .i64 V3, .string V4], .bool V, .int .i64 E]) ?_ rfl ⟨rfl, hb⟩
  rw [r_cell1tt rfl]
  go_simp
end Go.Proofs.YthhpblchiodahaaGreatDoor
