
/- The document's learner: New, Told. -/
import Derived.Test.YthhpblchiodahaaGreatDoorLpA
import Derived.Test.YthhpblchiodahaaGreatDoorAcD
namespace Go.Proofs.YthhpblchiodahaaGreatDoor
set_option linter.unusedSimpArgs false
set_option linter.unusedVariables false
open Go.RowKit Go.Maps
def zeroR : Value := rV ⟨0, 0, 0, ⟨#[]⟩, false, 0, 0⟩ (.slice none 0 0)
set_option maxRecDepth 100000 in
set_option maxHeartbeats 1000000 in
theorem rnew16_any (c sl : Int) (w : World) : Calls Tryz.prog 14 #[.int .i64 c, .int .i64 sl] w fun e w' => e = .returned (.tuple #[if opErr c sl = 0 then rV (newA c sl) (.slice none 0 0) else zeroR, .int .i64 (opErr c sl)]) ∧ Below w.heap.size w w' := by
  have c1 := fun W => refRight_any c W
  have c2 := fun W => refSlot_any sl W
  cases hr : rightB c
  · have e1 : opErr c sl = 2 := by simp [opErr, hr]
    rw [e1, if_neg (by decide)]
    unfold zeroR rV
    simp only
    rw [hr] at c1
    clear e1 hr c2
    have hb := From.refl w
    go_enter Tryz.func14, Tryz.ntmps14
    go_upto_region 1 with fail
    obtain ⟨gR, hgR⟩ : ∃ g, (w).heap.size = g := ⟨_, rfl⟩
    have R := Blk.newV hgR 55 #[.int .i64 0, .int .i64 0, .slice none 0 0, .bool false, .int .i64 0, .int .i64 0, .int .i64 0, .string ⟨#[]⟩]
    have hbn := (Below.refl (w).heap.size w).alloc (Nat.le_refl _) (.cells #[.int .i64 0, .int .i64 0, .slice none 0 0, .bool false, .int .i64 0, .int .i64 0, .int .i64 0, .string ⟨#[]⟩] 55)
    replace hb := hb.step hbn
    clear hbn
    rw [hgR]
    generalize (w).alloc (.cells #[.int .i64 0, .int .i64 0, .slice none 0 0, .bool false, .int .i64 0, .int .i64 0, .int .i64 0, .string ⟨#[]⟩] 55) = w1 at *
    have hRw : w.heap.size ≤ gR := by omega
    clear hgR
    have R_0 := R.cell (j := 0) rfl
    have R_1 := R.cell (j := 1) rfl
    have R_2 := R.cell (j := 2) rfl
    have R_3 := R.cell (j := 3) rfl
    have R_4 := R.cell (j := 4) rfl
    have R_5 := R.cell (j := 5) rfl
    have R_6 := R.cell (j := 6) rfl
    have R_7 := R.cell (j := 7) rfl
    have Rf0 := R.frozen 0
    have Rf1 := R.frozen 1
    have Rf2 := R.frozen 2
    have Rf3 := R.frozen 3
    have Rf4 := R.frozen 4
    have Rf5 := R.frozen 5
    have Rf6 := R.frozen 6
    have Rf7 := R.frozen 7
    go_wp2_with fail
    refine (c1 _).mono ?_
    rintro e wx ⟨rfl, rfl⟩
    go_wp2_with fail
    (try simp only [Exit.inBlock, Exit.then])
    clear Rf0 Rf1 Rf2 Rf3 Rf4 Rf5 Rf6 Rf7 R_0 R_1 R_2 R_3 R_4 R_5 R_6 R_7
    have hkn : Kx [gR] w1 ((((((((w1.setCell ⟨gR, 0, none⟩ (.int .i64 0)).setCell ⟨gR, 1, none⟩ (.int .i64 0)).setCell ⟨gR, 2, none⟩ (.slice none 0 0)).setCell ⟨gR, 3, none⟩ (.bool false)).setCell ⟨gR, 4, none⟩ (.int .i64 0)).setCell ⟨gR, 5, none⟩ (.int .i64 0)).setCell ⟨gR, 6, none⟩ (.int .i64 0)).setCell ⟨gR, 7, none⟩ (.string ⟨#[]⟩)) := Kx.setCells [.int .i64 0, .int .i64 0, .slice none 0 0, .bool false, .int .i64 0, .int .i64 0, .int .i64 0, .string ⟨#[]⟩] 0 _ (Kx.refl _ _) (.inl (by simp))
    replace R : Blk ((((((((w1.setCell ⟨gR, 0, none⟩ (.int .i64 0)).setCell ⟨gR, 1, none⟩ (.int .i64 0)).setCell ⟨gR, 2, none⟩ (.slice none 0 0)).setCell ⟨gR, 3, none⟩ (.bool false)).setCell ⟨gR, 4, none⟩ (.int .i64 0)).setCell ⟨gR, 5, none⟩ (.int .i64 0)).setCell ⟨gR, 6, none⟩ (.int .i64 0)).setCell ⟨gR, 7, none⟩ (.string ⟨#[]⟩)) gR 55 [.int .i64 0, .int .i64 0, .slice none 0 0, .bool false, .int .i64 0, .int .i64 0, .int .i64 0, .string ⟨#[]⟩] := Blk.puts [.int .i64 0, .int .i64 0, .slice none 0 0, .bool false, .int .i64 0, .int .i64 0, .int .i64 0, .string ⟨#[]⟩] R rfl
    replace hb := hb.kx hkn (by first | (simp; done) | (simp; omega))
    clear hkn
    generalize (((((((w1.setCell ⟨gR, 0, none⟩ (.int .i64 0)).setCell ⟨gR, 1, none⟩ (.int .i64 0)).setCell ⟨gR, 2, none⟩ (.slice none 0 0)).setCell ⟨gR, 3, none⟩ (.bool false)).setCell ⟨gR, 4, none⟩ (.int .i64 0)).setCell ⟨gR, 5, none⟩ (.int .i64 0)).setCell ⟨gR, 6, none⟩ (.int .i64 0)).setCell ⟨gR, 7, none⟩ (.string ⟨#[]⟩) = w9 at *
    have R_0 := R.cell (j := 0) rfl
    have R_1 := R.cell (j := 1) rfl
    have R_2 := R.cell (j := 2) rfl
    have R_3 := R.cell (j := 3) rfl
    have R_4 := R.cell (j := 4) rfl
    have R_5 := R.cell (j := 5) rfl
    have R_6 := R.cell (j := 6) rfl
    have R_7 := R.cell (j := 7) rfl
    refine bodyPost_ret (v := .tuple #[.agg #[.int .i64 0, .int .i64 0, .slice none 0 0, .bool false, .int .i64 0, .int .i64 0, .int .i64 0, .string ⟨#[]⟩], .int .i64 2]) ?_ rfl ⟨rfl, hb⟩
    rw [r_cell1t rfl]
    go_simp
  · cases hs : slotB sl
    · have e1 : opErr c sl = 4 := by simp [opErr, hr, hs]
      rw [e1, if_neg (by decide)]
      unfold zeroR rV
      simp only
      rw [hr] at c1
      rw [hs] at c2
      clear e1 hr hs
      have hb := From.refl w
      go_enter Tryz.func14, Tryz.ntmps14
      go_upto_region 1 with fail
      obtain ⟨gR, hgR⟩ : ∃ g, (w).heap.size = g := ⟨_, rfl⟩
      have R := Blk.newV hgR 55 #[.int .i64 0, .int .i64 0, .slice none 0 0, .bool false, .int .i64 0, .int .i64 0, .int .i64 0, .string ⟨#[]⟩]
      have hbn := (Below.refl (w).heap.size w).alloc (Nat.le_refl _) (.cells #[.int .i64 0, .int .i64 0, .slice none 0 0, .bool false, .int .i64 0, .int .i64 0, .int .i64 0, .string ⟨#[]⟩] 55)
      replace hb := hb.step hbn
      clear hbn
      rw [hgR]
      generalize (w).alloc (.cells #[.int .i64 0, .int .i64 0, .slice none 0 0, .bool false, .int .i64 0, .int .i64 0, .int .i64 0, .string ⟨#[]⟩] 55) = w1 at *
      have hRw : w.heap.size ≤ gR := by omega
      clear hgR
      have R_0 := R.cell (j := 0) rfl
      have R_1 := R.cell (j := 1) rfl
      have R_2 := R.cell (j := 2) rfl
      have R_3 := R.cell (j := 3) rfl
      have R_4 := R.cell (j := 4) rfl
      have R_5 := R.cell (j := 5) rfl
      have R_6 := R.cell (j := 6) rfl
      have R_7 := R.cell (j := 7) rfl
      have Rf0 := R.frozen 0
      have Rf1 := R.frozen 1
      have Rf2 := R.frozen 2
      have Rf3 := R.frozen 3
      have Rf4 := R.frozen 4
      have Rf5 := R.frozen 5
      have Rf6 := R.frozen 6
      have Rf7 := R.frozen 7
      go_wp2_with fail
      refine (c1 _).mono ?_
      rintro e wx ⟨rfl, rfl⟩
      go_wp2_with fail
      refine (c2 _).mono ?_
      rintro e wx ⟨rfl, rfl⟩
      go_wp2_with fail
      (try simp only [Exit.inBlock, Exit.then])
      clear Rf0 Rf1 Rf2 Rf3 Rf4 Rf5 Rf6 Rf7 R_0 R_1 R_2 R_3 R_4 R_5 R_6 R_7
      have hkn : Kx [gR] w1 ((((((((w1.setCell ⟨gR, 0, none⟩ (.int .i64 0)).setCell ⟨gR, 1, none⟩ (.int .i64 0)).setCell ⟨gR, 2, none⟩ (.slice none 0 0)).setCell ⟨gR, 3, none⟩ (.bool false)).setCell ⟨gR, 4, none⟩ (.int .i64 0)).setCell ⟨gR, 5, none⟩ (.int .i64 0)).setCell ⟨gR, 6, none⟩ (.int .i64 0)).setCell ⟨gR, 7, none⟩ (.string ⟨#[]⟩)) := Kx.setCells [.int .i64 0, .int .i64 0, .slice none 0 0, .bool false, .int .i64 0, .int .i64 0, .int .i64 0, .string ⟨#[]⟩] 0 _ (Kx.refl _ _) (.inl (by simp))
      replace R : Blk ((((((((w1.setCell ⟨gR, 0, none⟩ (.int .i64 0)).setCell ⟨gR, 1, none⟩ (.int .i64 0)).setCell ⟨gR, 2, none⟩ (.slice none 0 0)).setCell ⟨gR, 3, none⟩ (.bool false)).setCell ⟨gR, 4, none⟩ (.int .i64 0)).setCell ⟨gR, 5, none⟩ (.int .i64 0)).setCell ⟨gR, 6, none⟩ (.int .i64 0)).setCell ⟨gR, 7, none⟩ (.string ⟨#[]⟩)) gR 55 [.int .i64 0, .int .i64 0, .slice none 0 0, .bool false, .int .i64 0, .int .i64 0, .int .i64 0, .string ⟨#[]⟩] := Blk.puts [.int .i64 0, .int .i64 0, .slice none 0 0, .bool false, .int .i64 0, .int .i64 0, .int .i64 0, .string ⟨#[]⟩] R rfl
      replace hb := hb.kx hkn (by first | (simp; done) | (simp; omega))
      clear hkn
      generalize (((((((w1.setCell ⟨gR, 0, none⟩ (.int .i64 0)).setCell ⟨gR, 1, none⟩ (.int .i64 0)).setCell ⟨gR, 2, none⟩ (.slice none 0 0)).setCell ⟨gR, 3, none⟩ (.bool false)).setCell ⟨gR, 4, none⟩ (.int .i64 0)).setCell ⟨gR, 5, none⟩ (.int .i64 0)).setCell ⟨gR, 6, none⟩ (.int .i64 0)).setCell ⟨gR, 7, none⟩ (.string ⟨#[]⟩) = w9 at *
      have R_0 := R.cell (j := 0) rfl
      have R_1 := R.cell (j := 1) rfl
      have R_2 := R.cell (j := 2) rfl
      have R_3 := R.cell (j := 3) rfl
      have R_4 := R.cell (j := 4) rfl
      have R_5 := R.cell (j := 5) rfl
      have R_6 := R.cell (j := 6) rfl
      have R_7 := R.cell (j := 7) rfl
      refine bodyPost_ret (v := .tuple #[.agg #[.int .i64 0, .int .i64 0, .slice none 0 0, .bool false, .int .i64 0, .int .i64 0, .int .i64 0, .string ⟨#[]⟩], .int .i64 4]) ?_ rfl ⟨rfl, hb⟩
      rw [r_cell1t rfl]
      go_simp
    · have e1 : opErr c sl = 0 := by simp [opErr, hr, hs]
      rw [e1, if_pos rfl]
      unfold newA rV
      simp only
      rw [hr] at c1
      rw [hs] at c2
      clear e1 hr hs
      have hb := From.refl w
      go_enter Tryz.func14, Tryz.ntmps14
      go_upto_region 1 with fail
      obtain ⟨gR, hgR⟩ : ∃ g, (w).heap.size = g := ⟨_, rfl⟩
      have R := Blk.newV hgR 55 #[.int .i64 0, .int .i64 0, .slice none 0 0, .bool false, .int .i64 0, .int .i64 0, .int .i64 0, .string ⟨#[]⟩]
      have hbn := (Below.refl (w).heap.size w).alloc (Nat.le_refl _) (.cells #[.int .i64 0, .int .i64 0, .slice none 0 0, .bool false, .int .i64 0, .int .i64 0, .int .i64 0, .string ⟨#[]⟩] 55)
      replace hb := hb.step hbn
      clear hbn
      rw [hgR]
      generalize (w).alloc (.cells #[.int .i64 0, .int .i64 0, .slice none 0 0, .bool false, .int .i64 0, .int .i64 0, .int .i64 0, .string ⟨#[]⟩] 55) = w1 at *
      have hRw : w.heap.size ≤ gR := by omega
      clear hgR
      have R_0 := R.cell (j := 0) rfl
      have R_1 := R.cell (j := 1) rfl
      have R_2 := R.cell (j := 2) rfl
      have R_3 := R.cell (j := 3) rfl
      have R_4 := R.cell (j := 4) rfl
      have R_5 := R.cell (j := 5) rfl
      have R_6 := R.cell (j := 6) rfl
      have R_7 := R.cell (j := 7) rfl
      have Rf0 := R.frozen 0
      have Rf1 := R.frozen 1
      have Rf2 := R.frozen 2
      have Rf3 := R.frozen 3
      have Rf4 := R.frozen 4
      have Rf5 := R.frozen 5
      have Rf6 := R.frozen 6
      have Rf7 := R.frozen 7
      go_wp2_with fail
      refine (c1 _).mono ?_
      rintro e wx ⟨rfl, rfl⟩
      go_wp2_with fail
      refine (c2 _).mono ?_
      rintro e wx ⟨rfl, rfl⟩
      go_wp2_with fail
      (try simp only [Exit.inBlock, Exit.then])
      clear Rf0 Rf1 Rf2 Rf3 Rf4 Rf5 Rf6 Rf7 R_0 R_1 R_2 R_3 R_4 R_5 R_6 R_7
      have hkn : Kx [gR] w1 ((((((((w1.setCell ⟨gR, 0, none⟩ (.int .i64 c)).setCell ⟨gR, 1, none⟩ (.int .i64 sl)).setCell ⟨gR, 2, none⟩ (.slice none 0 0)).setCell ⟨gR, 3, none⟩ (.bool false)).setCell ⟨gR, 4, none⟩ (.int .i64 0)).setCell ⟨gR, 5, none⟩ (.int .i64 0)).setCell ⟨gR, 6, none⟩ (.int .i64 0)).setCell ⟨gR, 7, none⟩ (.string ⟨#[]⟩)) := Kx.setCells [.int .i64 c, .int .i64 sl, .slice none 0 0, .bool false, .int .i64 0, .int .i64 0, .int .i64 0, .string ⟨#[]⟩] 0 _ (Kx.refl _ _) (.inl (by simp))
      replace R : Blk ((((((((w1.setCell ⟨gR, 0, none⟩ (.int .i64 c)).setCell ⟨gR, 1, none⟩ (.int .i64 sl)).setCell ⟨gR, 2, none⟩ (.slice none 0 0)).setCell ⟨gR, 3, none⟩ (.bool false)).setCell ⟨gR, 4, none⟩ (.int .i64 0)).setCell ⟨gR, 5, none⟩ (.int .i64 0)).setCell ⟨gR, 6, none⟩ (.int .i64 0)).setCell ⟨gR, 7, none⟩ (.string ⟨#[]⟩)) gR 55 [.int .i64 c, .int .i64 sl, .slice none 0 0, .bool false, .int .i64 0, .int .i64 0, .int .i64 0, .string ⟨#[]⟩] := Blk.puts [.int .i64 c, .int .i64 sl, .slice none 0 0, .bool false, .int .i64 0, .int .i64 0, .int .i64 0, .string ⟨#[]⟩] R rfl
      replace hb := hb.kx hkn (by first | (simp; done) | (simp; omega))
      clear hkn
      generalize (((((((w1.setCell ⟨gR, 0, none⟩ (.int .i64 c)).setCell ⟨gR, 1, none⟩ (.int .i64 sl)).setCell ⟨gR, 2, none⟩ (.slice none 0 0)).setCell ⟨gR, 3, none⟩ (.bool false)).setCell ⟨gR, 4, none⟩ (.int .i64 0)).setCell ⟨gR, 5, none⟩ (.int .i64 0)).setCell ⟨gR, 6, none⟩ (.int .i64 0)).setCell ⟨gR, 7, none⟩ (.string ⟨#[]⟩) = w9 at *
      have R_0 := R.cell (j := 0) rfl
      have R_1 := R.cell (j := 1) rfl
      have R_2 := R.cell (j := 2) rfl
      have R_3 := R.cell (j := 3) rfl
      have R_4 := R.cell (j := 4) rfl
      have R_5 := R.cell (j := 5) rfl
      have R_6 := R.cell (j := 6) rfl
      have R_7 := R.cell (j := 7) rfl
      refine bodyPost_ret (v := .tuple #[.agg #[.int .i64 c, .int .i64 sl, .slice none 0 0, .bool false, .int .i64 0, .int .i64 0, .int .i64 0, .string ⟨#[]⟩], .int .i64 0]) ?_ rfl ⟨rfl, hb⟩
      rw [r_cell1t rfl]
      go_simp
set_option maxRecDepth 100000 in
set_option maxHeartbeats 2000000 in
theorem rtold_bad16 (A : Lrn) (a : Option Addr) (N cp : Nat) (k m n : Int) (s : ByteArray) (w : World) (hs : s.size ≤ 9223372036854775807) (hq : entB k m n s = false) :
    Calls Tryz.prog 51 #[rV A (.slice a N cp), kV k m n s] w fun e w' => e = .returned (.tuple #[rV A (.slice a N cp), .bool false, .int .i64 2]) ∧ Below w.heap.size w w' := by
  have cE := fun W => ref14_any k m n s W hs
  rw [hq] at cE
  obtain ⟨k0, m0, n0, s0, is, c, sl⟩ := A
  unfold rV kV
  simp only
  have hb := From.refl w
  go_enter Tryz.func51, Tryz.ntmps51
  go_upto_region 1 with fail
  obtain ⟨gX, hgX⟩ : ∃ g, (w).heap.size = g := ⟨_, rfl⟩
  have X := Blk.newV hgX 55 #[.int .i64 c, .int .i64 sl, .slice a N cp, .bool is, .int .i64 k0, .int .i64 m0, .int .i64 n0, .string s0]
  have hbn := (Below.refl (w).heap.size w).alloc (Nat.le_refl _) (.cells #[.int .i64 c, .int .i64 sl, .slice a N cp, .bool is, .int .i64 k0, .int .i64 m0, .int .i64 n0, .string s0] 55)
  replace hb := hb.step hbn
  clear hbn
  rw [hgX]
  have szX := alloc_size hgX (.cells #[.int .i64 c, .int .i64 sl, .slice a N cp, .bool is, .int .i64 k0, .int .i64 m0, .int .i64 n0, .string s0] 55)
  generalize (w).alloc (.cells #[.int .i64 c, .int .i64 sl, .slice a N cp, .bool is, .int .i64 k0, .int .i64 m0, .int .i64 n0, .string s0] 55) = w1 at *
  obtain ⟨gE, hgE⟩ : ∃ g, (w1).heap.size = g := ⟨_, rfl⟩
  have lt_X_E := X.lt
  rw [hgE] at lt_X_E
  have E := Blk.newV hgE 24 #[.int .i64 k, .int .i64 m, .int .i64 n, .string s]
  have hbn := (Below.refl (w1).heap.size w1).alloc (Nat.le_refl _) (.cells #[.int .i64 k, .int .i64 m, .int .i64 n, .string s] 24)
  replace hb := hb.step hbn
  replace X := X.step hbn
  clear hbn
  have egE : gX + 1 = gE := szX.symm.trans hgE
  rw [egE]
  clear szX
  have szE := alloc_size hgE (.cells #[.int .i64 k, .int .i64 m, .int .i64 n, .string s] 24)
  generalize (w1).alloc (.cells #[.int .i64 k, .int .i64 m, .int .i64 n, .string s] 24) = w2 at *
  obtain ⟨gR, hgR⟩ : ∃ g, (w2).heap.size = g := ⟨_, rfl⟩
  have lt_X_R := X.lt
  rw [hgR] at lt_X_R
  have lt_E_R := E.lt
  rw [hgR] at lt_E_R
  have R := Blk.newV hgR 55 #[.int .i64 0, .int .i64 0, .slice none 0 0, .bool false, .int .i64 0, .int .i64 0, .int .i64 0, .string ⟨#[]⟩]
  have hbn := (Below.refl (w2).heap.size w2).alloc (Nat.le_refl _) (.cells #[.int .i64 0, .int .i64 0, .slice none 0 0, .bool false, .int .i64 0, .int .i64 0, .int .i64 0, .string ⟨#[]⟩] 55)
  replace hb := hb.step hbn
  replace X := X.step hbn
  replace E := E.step hbn
  clear hbn
  have egR : gE + 1 = gR := szE.symm.trans hgR
  rw [egR]
  clear szE
  generalize (w2).alloc (.cells #[.int .i64 0, .int .i64 0, .slice none 0 0, .bool false, .int .i64 0, .int .i64 0, .int .i64 0, .string ⟨#[]⟩] 55) = w3 at *
  have hXw : w.heap.size ≤ gX := by omega
  have hRw : w.heap.size ≤ gR := by omega
  have hXE : gX < gE := by omega
  have hER : gE < gR := by omega
  clear hgX hgE hgR egR egE
  have E_0 := E.cell (j := 0) rfl
  have E_1 := E.cell (j := 1) rfl
  have E_2 := E.cell (j := 2) rfl
  have E_3 := E.cell (j := 3) rfl
  go_wp2_with fail
  refine (cE _).mono ?_
  rintro e w4 ⟨rfl, hbn⟩
  replace hb := hb.step hbn
  replace X := X.step hbn
  replace R := R.step hbn
  clear hbn
  clear E_0 E_1 E_2 E_3
  have X_0 := X.cell (j := 0) rfl
  have X_1 := X.cell (j := 1) rfl
  have X_2 := X.cell (j := 2) rfl
  have X_3 := X.cell (j := 3) rfl
  have X_4 := X.cell (j := 4) rfl
  have X_5 := X.cell (j := 5) rfl
  have X_6 := X.cell (j := 6) rfl
  have X_7 := X.cell (j := 7) rfl
  have R_0 := R.cell (j := 0) rfl
  have R_1 := R.cell (j := 1) rfl
  have R_2 := R.cell (j := 2) rfl
  have R_3 := R.cell (j := 3) rfl
  have R_4 := R.cell (j := 4) rfl
  have R_5 := R.cell (j := 5) rfl
  have R_6 := R.cell (j := 6) rfl
  have R_7 := R.cell (j := 7) rfl
  have Rf0 := R.frozen 0
  have Rf1 := R.frozen 1
  have Rf2 := R.frozen 2
  have Rf3 := R.frozen 3
  have Rf4 := R.frozen 4
  have Rf5 := R.frozen 5
  have Rf6 := R.frozen 6
  have Rf7 := R.frozen 7
  go_wp2_with fail
  (try simp only [Exit.inBlock, Exit.then])
  clear X_0 X_1 X_2 X_3 X_4 X_5 X_6 X_7 Rf0 Rf1 Rf2 Rf3 Rf4 Rf5 Rf6 Rf7 R_0 R_1 R_2 R_3 R_4 R_5 R_6 R_7
  have hkn : Kx [gR] w4 ((((((((w4.setCell ⟨gR, 0, none⟩ (.int .i64 c)).setCell ⟨gR, 1, none⟩ (.int .i64 sl)).setCell ⟨gR, 2, none⟩ (.slice a N cp)).setCell ⟨gR, 3, none⟩ (.bool is)).setCell ⟨gR, 4, none⟩ (.int .i64 k0)).setCell ⟨gR, 5, none⟩ (.int .i64 m0)).setCell ⟨gR, 6, none⟩ (.int .i64 n0)).setCell ⟨gR, 7, none⟩ (.string s0)) := Kx.setCells [.int .i64 c, .int .i64 sl, .slice a N cp, .bool is, .int .i64 k0, .int .i64 m0, .int .i64 n0, .string s0] 0 _ (Kx.refl _ _) (.inl (by simp))
  replace R : Blk ((((((((w4.setCell ⟨gR, 0, none⟩ (.int .i64 c)).setCell ⟨gR, 1, none⟩ (.int .i64 sl)).setCell ⟨gR, 2, none⟩ (.slice a N cp)).setCell ⟨gR, 3, none⟩ (.bool is)).setCell ⟨gR, 4, none⟩ (.int .i64 k0)).setCell ⟨gR, 5, none⟩ (.int .i64 m0)).setCell ⟨gR, 6, none⟩ (.int .i64 n0)).setCell ⟨gR, 7, none⟩ (.string s0)) gR 55 [.int .i64 c, .int .i64 sl, .slice a N cp, .bool is, .int .i64 k0, .int .i64 m0, .int .i64 n0, .string s0] := Blk.puts [.int .i64 c, .int .i64 sl, .slice a N cp, .bool is, .int .i64 k0, .int .i64 m0, .int .i64 n0, .string s0] R rfl
  replace hb := hb.kx hkn (by first | (simp; done) | (simp; omega))
  replace X := X.kx hkn (by first | (simp; done) | (simp; omega))
  clear hkn
  generalize (((((((w4.setCell ⟨gR, 0, none⟩ (.int .i64 c)).setCell ⟨gR, 1, none⟩ (.int .i64 sl)).setCell ⟨gR, 2, none⟩ (.slice a N cp)).setCell ⟨gR, 3, none⟩ (.bool is)).setCell ⟨gR, 4, none⟩ (.int .i64 k0)).setCell ⟨gR, 5, none⟩ (.int .i64 m0)).setCell ⟨gR, 6, none⟩ (.int .i64 n0)).setCell ⟨gR, 7, none⟩ (.string s0) = w9 at *
  have R_0 := R.cell (j := 0) rfl
  have R_1 := R.cell (j := 1) rfl
  have R_2 := R.cell (j := 2) rfl
  have R_3 := R.cell (j := 3) rfl
  have R_4 := R.cell (j := 4) rfl
  have R_5 := R.cell (j := 5) rfl
  have R_6 := R.cell (j := 6) rfl
  have R_7 := R.cell (j := 7) rfl
  refine bodyPost_ret (v := .tuple #[.agg #[.int .i64 c, .int .i64 sl, .slice a N cp, .bool is, .int .i64 k0, .int .i64 m0, .int .i64 n0, .string s0], .bool false, .int .i64 2]) ?_ rfl ⟨rfl, hb⟩
  rw [r_cell1tt rfl]
  go_simp
set_option maxRecDepth 100000 in
set_option maxHeartbeats 2000000 in
theorem rtold_ok16 (A : Lrn) (a : Option Addr) (N cp : Nat) (k m n : Int) (s : ByteArray) (w : World) (hs : s.size ≤ 9223372036854775807) (hq : entB k m n s = true) :
    Calls Tryz.prog 51 #[rV A (.slice a N cp), kV k m n s] w fun e w' => e = .returned (knoR A (.slice a N cp) k m n s) ∧ Below w.heap.size w w' := by
  have cE := fun W => ref14_any k m n s W hs
  rw [hq] at cE
  have cC := fun W => rchosen_any A a N cp k m n s W
  obtain ⟨⟨V1, V2, V3, V4, V5, V6, V7⟩, hV⟩ : ∃ B, (if knE A k m n s = 0 then knowA A k m n s else A) = B := ⟨_, rfl⟩
  unfold knoR at *
  simp only [hV] at cC ⊢
  clear hV
  obtain ⟨E9, hE⟩ : ∃ E, knE A k m n s = E := ⟨_, rfl⟩
  simp only [hE] at cC ⊢
  clear hE
  obtain ⟨k0, m0, n0, s0, is, c, sl⟩ := A
  unfold rV kV at *
  simp only at cC ⊢
  generalize (decide (E9 = 0) && !is) = V at *
  have hb := From.refl w
  go_enter Tryz.func51, Tryz.ntmps51
  go_upto_region 1 with fail
  obtain ⟨gX, hgX⟩ : ∃ g, (w).heap.size = g := ⟨_, rfl⟩
  have X := Blk.newV hgX 55 #[.int .i64 c, .int .i64 sl, .slice a N cp, .bool is, .int .i64 k0, .int .i64 m0, .int .i64 n0, .string s0]
  have hbn := (Below.refl (w).heap.size w).alloc (Nat.le_refl _) (.cells #[.int .i64 c, .int .i64 sl, .slice a N cp, .bool is, .int .i64 k0, .int .i64 m0, .int .i64 n0, .string s0] 55)
  replace hb := hb.step hbn
  clear hbn
  rw [hgX]
  have szX := alloc_size hgX (.cells #[.int .i64 c, .int .i64 sl, .slice a N cp, .bool is, .int .i64 k0, .int .i64 m0, .int .i64 n0, .string s0] 55)
  generalize (w).alloc (.cells #[.int .i64 c, .int .i64 sl, .slice a N cp, .bool is, .int .i64 k0, .int .i64 m0, .int .i64 n0, .string s0] 55) = w1 at *
  obtain ⟨gE, hgE⟩ : ∃ g, (w1).heap.size = g := ⟨_, rfl⟩
  have lt_X_E := X.lt
  rw [hgE] at lt_X_E
  have E := Blk.newV hgE 24 #[.int .i64 k, .int .i64 m, .int .i64 n, .string s]
  have hbn := (Below.refl (w1).heap.size w1).alloc (Nat.le_refl _) (.cells #[.int .i64 k, .int .i64 m, .int .i64 n, .string s] 24)
  replace hb := hb.step hbn
  replace X := X.step hbn
  clear hbn
  have egE : gX + 1 = gE := szX.symm.trans hgE
  rw [egE]
  clear szX
  have szE := alloc_size hgE (.cells #[.int .i64 k, .int .i64 m, .int .i64 n, .string s] 24)
  generalize (w1).alloc (.cells #[.int .i64 k, .int .i64 m, .int .i64 n, .string s] 24) = w2 at *
  obtain ⟨gR, hgR⟩ : ∃ g, (w2).heap.size = g := ⟨_, rfl⟩
  have lt_X_R := X.lt
  rw [hgR] at lt_X_R
  have lt_E_R := E.lt
  rw [hgR] at lt_E_R
  have R := Blk.newV hgR 55 #[.int .i64 0, .int .i64 0, .slice none 0 0, .bool false, .int .i64 0, .int .i64 0, .int .i64 0, .string ⟨#[]⟩]
  have hbn := (Below.refl (w2).heap.size w2).alloc (Nat.le_refl _) (.cells #[.int .i64 0, .int .i64 0, .slice none 0 0, .bool false, .int .i64 0, .int .i64 0, .int .i64 0, .string ⟨#[]⟩] 55)
  replace hb := hb.step hbn
  replace X := X.step hbn
  replace E := E.step hbn
  clear hbn
  have egR : gE + 1 = gR := szE.symm.trans hgR
  rw [egR]
  clear szE
  generalize (w2).alloc (.cells #[.int .i64 0, .int .i64 0, .slice none 0 0, .bool false, .int .i64 0, .int .i64 0, .int .i64 0, .string ⟨#[]⟩] 55) = w3 at *
  have hXw : w.heap.size ≤ gX := by omega
  have hRw : w.heap.size ≤ gR := by omega
  have hXE : gX < gE := by omega
  have hER : gE < gR := by omega
  clear hgX hgE hgR egR egE
  have E_0 := E.cell (j := 0) rfl
  have E_1 := E.cell (j := 1) rfl
  have E_2 := E.cell (j := 2) rfl
  have E_3 := E.cell (j := 3) rfl
  go_wp2_with fail
  refine (cE _).mono ?_
  rintro e w4 ⟨rfl, hbn⟩
  replace hb := hb.step hbn
  replace X := X.step hbn
  replace R := R.step hbn
  replace E := E.step hbn
  clear hbn
  clear E_0 E_1 E_2 E_3
  have E_0 := E.cell (j := 0) rfl
  have E_1 := E.cell (j := 1) rfl
  have E_2 := E.cell (j := 2) rfl
  have E_3 := E.cell (j := 3) rfl
  have X_0 := X.cell (j := 0) rfl
  have X_1 := X.cell (j := 1) rfl
  have X_2 := X.cell (j := 2) rfl
  have X_3 := X.cell (j := 3) rfl
  have X_4 := X.cell (j := 4) rfl
  have X_5 := X.cell (j := 5) rfl
  have X_6 := X.cell (j := 6) rfl
  have X_7 := X.cell (j := 7) rfl
  go_wp2_with fail
  refine (cC _).mono ?_
  rintro e w5 ⟨rfl, hbn⟩
  replace hb := hb.step hbn
  replace X := X.step hbn
  replace R := R.step hbn
  replace E := E.step hbn
  clear hbn
  clear E_0 E_1 E_2 E_3 X_0 X_1 X_2 X_3 X_4 X_5 X_6 X_7
  have R_0 := R.cell (j := 0) rfl
  have R_1 := R.cell (j := 1) rfl
  have R_2 := R.cell (j := 2) rfl
  have R_3 := R.cell (j := 3) rfl
  have R_4 := R.cell (j := 4) rfl
  have R_5 := R.cell (j := 5) rfl
  have R_6 := R.cell (j := 6) rfl
  have R_7 := R.cell (j := 7) rfl
  have Rf0 := R.frozen 0
  have Rf1 := R.frozen 1
  have Rf2 := R.frozen 2
  have Rf3 := R.frozen 3
  have Rf4 := R.frozen 4
  have Rf5 := R.frozen 5
  have Rf6 := R.frozen 6
  have Rf7 := R.frozen 7
  go_wp2_with fail
  (try simp only [Exit.inBlock, Exit.then])
  clear Rf0 Rf1 Rf2 Rf3 Rf4 Rf5 Rf6 Rf7 R_0 R_1 R_2 R_3 R_4 R_5 R_6 R_7
  have hkn : Kx [gR] w5 ((((((((w5.setCell ⟨gR, 0, none⟩ (.int .i64 V6)).setCell ⟨gR, 1, none⟩ (.int .i64 V7)).setCell ⟨gR, 2, none⟩ (.slice a N cp)).setCell ⟨gR, 3, none⟩ (.bool V5)).setCell ⟨gR, 4, none⟩ (.int .i64 V1)).setCell ⟨gR, 5, none⟩ (.int .i64 V2)).setCell ⟨gR, 6, none⟩ (.int .i64 V3)).setCell ⟨gR, 7, none⟩ (.string V4)) := Kx.setCells [.int .i64 V6, .int .i64 V7, .slice a N cp, .bool V5, .int .i64 V1, .int .i64 V2, .int .i64 V3, .string V4] 0 _ (Kx.refl _ _) (.inl (by simp))
  replace R : Blk ((((((((w5.setCell ⟨gR, 0, none⟩ (.int .i64 V6)).setCell ⟨gR, 1, none⟩ (.int .i64 V7)).setCell ⟨gR, 2, none⟩ (.slice a N cp)).setCell ⟨gR, 3, none⟩ (.bool V5)).setCell ⟨gR, 4, none⟩ (.int .i64 V1)).setCell ⟨gR, 5, none⟩ (.int .i64 V2)).setCell ⟨gR, 6, none⟩ (.int .i64 V3)).setCell ⟨gR, 7, none⟩ (.string V4)) gR 55 [.int .i64 V6, .int .i64 V7, .slice a N cp, .bool V5, .int .i64 V1, .int .i64 V2, .int .i64 V3, .string V4] := Blk.puts [.int .i64 V6, .int .i64 V7, .slice a N cp, .bool V5, .int .i64 V1, .int .i64 V2, .int .i64 V3, .string V4] R rfl
  replace hb := hb.kx hkn (by first | (simp; done) | (simp; omega))
  clear hkn
  generalize (((((((w5.setCell ⟨gR, 0, none⟩ (.int .i64 V6)).setCell ⟨gR, 1, none⟩ (.int .i64 V7)).setCell ⟨gR, 2, none⟩ (.slice a N cp)).setCell ⟨gR, 3, none⟩ (.bool V5)).setCell ⟨gR, 4, none⟩ (.int .i64 V1)).setCell ⟨gR, 5, none⟩ (.int .i64 V2)).setCell ⟨gR, 6, none⟩ (.int .i64 V3)).setCell ⟨gR, 7, none⟩ (.string V4) = w9 at *
  have R_0 := R.cell (j := 0) rfl
  have R_1 := R.cell (j := 1) rfl
  have R_2 := R.cell (j := 2) rfl
  have R_3 := R.cell (j := 3) rfl
  have R_4 := R.cell (j := 4) rfl
  have R_5 := R.cell (j := 5) rfl
  have R_6 := R.cell (j := 6) rfl
  have R_7 := R.cell (j := 7) rfl
  refine bodyPost_ret (v := .tuple #[.agg #[.int .i64 V6, .int .i64 V7, .slice a N cp, .bool V5, .int .i64 V1, .int .i64 V2, .int .i64 V3, .string V4], .bool V, .int .i64 E9]) ?_ rfl ⟨rfl, hb⟩
  rw [r_cell1tt rfl]
  go_simp
end Go.Proofs.YthhpblchiodahaaGreatDoor
