
/- The document's proposer: Tell, a promise that counts: a majority, some entry told. -/
import Derived.Test.YtcahkcbenanfnaaGreatDoorPrX
namespace Go.Proofs.YtcahkcbenanfnaaGreatDoor
set_option linter.unusedSimpArgs false
set_option linter.unusedVariables false
open Go.RowKit
set_option maxRecDepth 100000 in
set_option maxHeartbeats 4000000 in
theorem qtell_some (A : Prp) (j : Nat) (hj : j < 9) (x y k m n : Int) (s : ByteArray) (w : World) (hp : A.pr.length = 9) (ha : A.ac.length = 9) (hr : rightB A.c = true) (hs : s.size ≤ 9223372036854775807) (hin : inB j 0 A.c = true) (ht : toldB A x y k m n s = true) (hph : A.ph = 1) (hw : A.pr.getD j false = false) (hwon : wonP A.c (A.pr.set j true) = true) (hnb : eq2 (bestA A j x y k m n s).br (bestA A j x y k m n s).bp (-1) 0 = false) :
    Calls Tryz.prog 62 #[qV A, .int .i64 j, .agg #[.int .i64 x, .int .i64 y, .int .i64 k, .int .i64 m, .int .i64 n, .string s]] w fun e w' => e = .returned (.tuple #[qV (gvS (bestA A j x y k m n s)), .int .i64 0]) ∧ Below w.heap.size w w' := by
  obtain ⟨place, hpl⟩ : ∃ place : Int, (j : Int) = place := ⟨_, rfl⟩
  rw [hpl] at hin ⊢
  have cL2 := fun W => refLess_any A.br A.bp x y W
  have cMj := fun W => refMajority_any A.c W hr
  obtain ⟨MJ, hMJ⟩ : ∃ MJ, majI A.c = MJ := ⟨_, rfl⟩
  rw [hMJ] at cMj
  have hl9 : (A.pr.set j true).length = 9 := by simp [hp]
  have cMy := fun W => many15_any (A.pr.set j true) hl9 W
  have hB1 := bestA_eq A j x y k m n s
  obtain ⟨BL, hBL⟩ : ∃ BL, lessB A.br A.bp x y = BL := ⟨_, rfl⟩
  simp only [hBL] at cL2 hB1
  obtain ⟨B1, hB1e⟩ : ∃ B1, bestA A j x y k m n s = B1 := ⟨_, rfl⟩
  rw [hB1e] at hB1
  rw [hB1e]
  rw [show gvS B1 = Prp.sEnt (Prp.sPh B1 2) B1.bk B1.bm B1.bn B1.bs from rfl]
  have hBc : B1.c = A.c := by rw [hB1]; cases BL <;> rfl
  have hBpr : B1.pr = A.pr.set j true := by rw [hB1]; cases BL <;> rfl
  clear hBL
  have cP := fun W => refPlace_any A.c place W
  have cM := fun W => refMay_any A.c A.sl x y W
  have cL := fun W => refLess_any x y A.r A.p W
  have cE := fun W => ref14_any k m n s W hs
  have heb := fun W => eq_ballot x y (-1) 0 W
  have hee := fun W => eq_entry k m n s 0 0 0 ⟨#[]⟩ W
  have htold := told_eq A x y k m n s
  generalize eq2 x y (-1) 0 = N1 at heb htold
  generalize eq4 k m n s 0 0 0 ⟨#[]⟩ = N2 at hee htold
  generalize mayB A.c A.sl x y = M at cM htold
  obtain ⟨Lb, hLb⟩ : ∃ Lb, lessB x y A.r A.p = Lb := ⟨_, rfl⟩
  rw [hLb] at htold
  simp only [hLb] at cL
  generalize entB k m n s = E at cE htold
  obtain ⟨MT, hMT⟩ : ∃ MT, (M && (Lb && E)) = MT := ⟨_, rfl⟩
  rw [hMT] at htold
  have hb := From.refl w
  clear hs hLb
  unfold qV
  go_enter Tryz.func62, Tryz.ntmps62
  go_upto_region 1 with fail
  obtain ⟨gP, hgP⟩ : ∃ g, (w).heap.size = g := ⟨_, rfl⟩
  have P := Blk.newV hgP 35 (qL A).toArray
  have hbn := (Below.refl (w).heap.size w).alloc (Nat.le_refl _) (.cells (qL A).toArray 35)
  replace hb := hb.step hbn
  clear hbn
  rw [hgP]
  have szP := alloc_size hgP (.cells (qL A).toArray 35)
  generalize (w).alloc (.cells (qL A).toArray 35) = w1 at *
  obtain ⟨gX, hgX⟩ : ∃ g, (w1).heap.size = g := ⟨_, rfl⟩
  have lt_P_X := P.lt
  rw [hgX] at lt_P_X
  have X := Blk.newV hgX 33 #[.int .i64 x, .int .i64 y, .int .i64 k, .int .i64 m, .int .i64 n, .string s]
  have hbn := (Below.refl (w1).heap.size w1).alloc (Nat.le_refl _) (.cells #[.int .i64 x, .int .i64 y, .int .i64 k, .int .i64 m, .int .i64 n, .string s] 33)
  replace hb := hb.step hbn
  replace P := P.step hbn
  clear hbn
  have egX : gP + 1 = gX := szP.symm.trans hgX
  rw [egX]
  clear szP
  have szX := alloc_size hgX (.cells #[.int .i64 x, .int .i64 y, .int .i64 k, .int .i64 m, .int .i64 n, .string s] 33)
  generalize (w1).alloc (.cells #[.int .i64 x, .int .i64 y, .int .i64 k, .int .i64 m, .int .i64 n, .string s] 33) = w2 at *
  obtain ⟨gR, hgR⟩ : ∃ g, (w2).heap.size = g := ⟨_, rfl⟩
  have lt_P_R := P.lt
  rw [hgR] at lt_P_R
  have lt_X_R := X.lt
  rw [hgR] at lt_X_R
  have R := Blk.newV hgR 35 #[.int .i64 0, .int .i64 0, .int .i64 0, .int .i64 0, .int .i64 0, .int .i64 0, .int .i64 0, .int .i64 0, .string ⟨#[]⟩, .bool false, .bool false, .bool false, .bool false, .bool false, .bool false, .bool false, .bool false, .bool false, .bool false, .bool false, .bool false, .bool false, .bool false, .bool false, .bool false, .bool false, .bool false, .int .i64 0, .int .i64 0, .int .i64 0, .int .i64 0, .int .i64 0, .string ⟨#[]⟩, .int .i64 0, .int .i64 0]
  have hbn := (Below.refl (w2).heap.size w2).alloc (Nat.le_refl _) (.cells #[.int .i64 0, .int .i64 0, .int .i64 0, .int .i64 0, .int .i64 0, .int .i64 0, .int .i64 0, .int .i64 0, .string ⟨#[]⟩, .bool false, .bool false, .bool false, .bool false, .bool false, .bool false, .bool false, .bool false, .bool false, .bool false, .bool false, .bool false, .bool false, .bool false, .bool false, .bool false, .bool false, .bool false, .int .i64 0, .int .i64 0, .int .i64 0, .int .i64 0, .int .i64 0, .string ⟨#[]⟩, .int .i64 0, .int .i64 0] 35)
  replace hb := hb.step hbn
  replace P := P.step hbn
  replace X := X.step hbn
  clear hbn
  have egR : gX + 1 = gR := szX.symm.trans hgR
  rw [egR]
  clear szX
  generalize (w2).alloc (.cells #[.int .i64 0, .int .i64 0, .int .i64 0, .int .i64 0, .int .i64 0, .int .i64 0, .int .i64 0, .int .i64 0, .string ⟨#[]⟩, .bool false, .bool false, .bool false, .bool false, .bool false, .bool false, .bool false, .bool false, .bool false, .bool false, .bool false, .bool false, .bool false, .bool false, .bool false, .bool false, .bool false, .bool false, .int .i64 0, .int .i64 0, .int .i64 0, .int .i64 0, .int .i64 0, .string ⟨#[]⟩, .int .i64 0, .int .i64 0] 35) = w3 at *
  have hwR : w.heap.size ≤ gR := by omega
  have hwP : w.heap.size ≤ gP := by omega
  have hPR : gP ≠ gR := by omega
  have hPX : gP ≠ gX := by omega
  clear hgP hgX hgR egR egX
  replace P : QW w3 gP A := ⟨by simpa using P, hp, ha⟩
  have X_0 := extA_cell (X.cell (j := 0) rfl)
  have X_1 := extA_cell (X.cell (j := 1) rfl)
  have X_2 := extA_cell (X.cell (j := 2) rfl)
  have X_3 := extA_cell (X.cell (j := 3) rfl)
  have X_4 := extA_cell (X.cell (j := 4) rfl)
  have X_5 := extA_cell (X.cell (j := 5) rfl)
  go_cut [8] from 10 (fun v wx => v = .bool (N1 && N2) ∧ ExtA w3 wx)
  case first =>
    cases N1
    · refine wp_region_extB (by kernel_rfl) (by kernel_rfl) ?_
      repeat
        (first
          | go_big_quiet_skip
          | (go_big_quiet_want
             go_big_quiet_op
             first
               | go_big_quiet_on
               | (apply Exists.intro
                  refine ⟨fun w' hC9 => ?_, ?_⟩
                  · (first
                      | with_reducible rfl
                      | (go_at_call 109; refine (none14ref_any _).mono ?_; rintro e w2 ⟨rfl, hb9⟩; exact ⟨rfl, extA_then hC9 hb9⟩)
                      | (go_simp; done)
                      | (go_simp; with_reducible rfl))
                  go_big_quiet_on)))
      refine wpQuiet_nil ?_
      intro w4 hq
      go_wp2_with fail
      go_meet
      case rel => exact ⟨by simp, hq⟩
    · refine wp_region_extB (by kernel_rfl) (by kernel_rfl) ?_
      repeat
        (first
          | go_big_quiet_skip
          | (go_big_quiet_want
             go_big_quiet_op
             first
               | go_big_quiet_on
               | (apply Exists.intro
                  refine ⟨fun w' hC9 => ?_, ?_⟩
                  · (first
                      | with_reducible rfl
                      | (go_at_call 109; refine (none14ref_any _).mono ?_; rintro e w2 ⟨rfl, hb9⟩; exact ⟨rfl, extA_then hC9 hb9⟩)
                      | (go_simp; done)
                      | (go_simp; with_reducible rfl))
                  go_big_quiet_on)))
      refine wpQuiet_nil ?_
      intro w4 hq
      go_wp2_with fail
      go_meet
      case rel => exact ⟨by simp, hq⟩
  case' rest =>
    obtain ⟨rfl, hq⟩ := hcut
    clear X_0 X_1 X_2 X_3 X_4 X_5 heb hee
    replace hb := hb.step hq
    replace P := P.step hq
    replace R := R.step hq
    replace X := X.step hq
    clear hq
  go_upto_region 2 with fail
  have p0 := P.q0
  have p1 := P.q1
  have X_0 := X.cell (j := 0) rfl
  have X_1 := X.cell (j := 1) rfl
  have X_2 := X.cell (j := 2) rfl
  have X_3 := X.cell (j := 3) rfl
  have X_4 := X.cell (j := 4) rfl
  have X_5 := X.cell (j := 5) rfl
  go_cut [9] from 20 (fun v wx => v = .bool MT ∧ Below wc.heap.size wc wx)
  case first =>
    go_wp2_with fail
    refine (cM _).mono ?_
    rintro e wa ⟨rfl, h1⟩
    cases M
    · go_wp2_with fail
      go_meet
      case rel => exact ⟨by rw [← hMT]; simp, h1⟩
    · have P1 := P.step h1
      have X1 := X.step h1
      clear p0 p1 X_0 X_1 X_2 X_3 X_4 X_5
      have p2 := P1.q2
      have p3 := P1.q3
      have X1_0 := X1.cell (j := 0) rfl
      have X1_1 := X1.cell (j := 1) rfl
      have X1_2 := X1.cell (j := 2) rfl
      have X1_3 := X1.cell (j := 3) rfl
      have X1_4 := X1.cell (j := 4) rfl
      have X1_5 := X1.cell (j := 5) rfl
      go_wp2_with fail
      refine (cL _).mono ?_
      rintro e wb ⟨rfl, h2⟩
      cases Lb
      · go_wp2_with fail
        go_meet
        case rel => exact ⟨by rw [← hMT]; simp, h1.trans (h2.mono h1.size)⟩
      · have X2 := X1.step h2
        clear p2 p3 X1_0 X1_1 X1_2 X1_3 X1_4 X1_5
        have X2_0 := X2.cell (j := 0) rfl
        have X2_1 := X2.cell (j := 1) rfl
        have X2_2 := X2.cell (j := 2) rfl
        have X2_3 := X2.cell (j := 3) rfl
        have X2_4 := X2.cell (j := 4) rfl
        have X2_5 := X2.cell (j := 5) rfl
        go_wp2_with fail
        refine (cE _).mono ?_
        rintro e wd ⟨rfl, h3⟩
        go_wp2_with fail
        go_meet
        case rel => exact ⟨by rw [← hMT]; simp, h1.trans ((h2.mono h1.size).trans (h3.mono (Nat.le_trans h1.size h2.size)))⟩
  case' rest =>
    obtain ⟨rfl, hq⟩ := hcut
    clear p0 p1 X_0 X_1 X_2 X_3 X_4 X_5 cM cL cE hMT
    replace hb := hb.step hq
    replace P := P.step hq
    replace R := R.step hq
    replace X := X.step hq
    clear hq
    have p0 := P.q0
  rw [hin] at cP
  rw [ht] at htold
  obtain ⟨NN, hNN⟩ : ∃ NN, (N1 && N2) = NN := ⟨_, rfl⟩
  rw [hNN] at htold ⊢
  clear hNN
  go_upto_region 3 with fail
  go_cut [51] from 39 (fun v wx => v = .bool false ∧ wx = wc)
  case first =>
    cases NN
    · cases MT
      · simp at htold
      · clear htold ht
        go_wp2_with fail
        refine (cP _).mono ?_
        rintro e wx ⟨rfl, rfl⟩
        go_wp2_with fail
        go_meet
        case rel => exact ⟨rfl, rfl⟩
    · clear htold ht
      go_wp2_with fail
      refine (cP _).mono ?_
      rintro e wx ⟨rfl, rfl⟩
      go_wp2_with fail
      go_meet
      case rel => exact ⟨rfl, rfl⟩
  case' rest =>
    obtain ⟨rfl, rfl⟩ := hcut
    clear p0 htold
    have p4 := P.q4
  subst hpl
  rw [hph] at p4
  have cj := P.qpr j hj
  rw [hw] at cj
  have fj := P.frozen (9 + j)
  have j0 : (0 : Int) ≤ (j : Int) := by omega
  have j9 : (j : Int) < 9 := by omega
  go_upto_region 8 with fail
  have hk1 : Kx [gP] wc (wc.setCell ⟨gP, 9 + j, none⟩ (.bool true)) := (Kx.refl [gP] wc).setCell (p := ⟨gP, 9 + j, none⟩) (.inl (by simp)) _
  replace P := P.setPr j hj
  replace R := R.kx hk1 (by simp; omega)
  replace X := X.kx hk1 (by simp; omega)
  replace hb := hb.kx hk1 (by simp; omega)
  generalize wc.setCell ⟨gP, 9 + j, none⟩ (.bool true) = w5 at *
  clear hk1 cj fj p4
  have p27 : w5.cell? ⟨gP, 27, none⟩ = some (.int .i64 A.br) := P.q27
  have p28 : w5.cell? ⟨gP, 28, none⟩ = some (.int .i64 A.bp) := P.q28
  have X_0 := X.cell (j := 0) rfl
  have X_1 := X.cell (j := 1) rfl
  have X_2 := X.cell (j := 2) rfl
  have X_3 := X.cell (j := 3) rfl
  have X_4 := X.cell (j := 4) rfl
  have X_5 := X.cell (j := 5) rfl
  go_wp2_with fail
  refine (cL2 _).mono ?_
  rintro e w6 ⟨rfl, h1⟩
  replace P := P.step h1
  replace R := R.step h1
  replace X := X.step h1
  replace hb := hb.step h1
  clear h1 p27 p28 X_0 X_1 X_2 X_3 X_4 X_5
  go_upto_if 71 with fail
  go_cut [71] from 72 (fun v wx => QW wx gP B1 ∧ Blk wx gR 35 [.int .i64 0, .int .i64 0, .int .i64 0, .int .i64 0, .int .i64 0, .int .i64 0, .int .i64 0, .int .i64 0, .string ⟨#[]⟩, .bool false, .bool false, .bool false, .bool false, .bool false, .bool false, .bool false, .bool false, .bool false, .bool false, .bool false, .bool false, .bool false, .bool false, .bool false, .bool false, .bool false, .bool false, .int .i64 0, .int .i64 0, .int .i64 0, .int .i64 0, .int .i64 0, .string ⟨#[]⟩, .int .i64 0, .int .i64 0] ∧ From w wx)
  case first =>
    cases BL
    · go_wp2_with fail
      go_meet
      case rel =>
        rw [hB1]
        exact ⟨P, R, hb⟩
    · skip
      have X_0 := X.cell (j := 0) rfl
      have X_1 := X.cell (j := 1) rfl
      have X_2 := X.cell (j := 2) rfl
      have X_3 := X.cell (j := 3) rfl
      have X_4 := X.cell (j := 4) rfl
      have X_5 := X.cell (j := 5) rfl
      have x27 := P.q27
      have x28 := P.q28
      have x29 := P.q29
      have x30 := P.q30
      have x31 := P.q31
      have x32 := P.q32
      have f27 := P.frozen 27
      have f28 := P.frozen 28
      have f29 := P.frozen 29
      have f30 := P.frozen 30
      have f31 := P.frozen 31
      have f32 := P.frozen 32
      dsimp only at x27 x28 x29 x30 x31 x32
      have hk1 : Kx [gP] w6 ((((((w6.setCell ⟨gP, 27, none⟩ (.int .i64 x)).setCell ⟨gP, 28, none⟩ (.int .i64 y)).setCell ⟨gP, 29, none⟩ (.int .i64 k)).setCell ⟨gP, 30, none⟩ (.int .i64 m)).setCell ⟨gP, 31, none⟩ (.int .i64 n)).setCell ⟨gP, 32, none⟩ (.string s)) := Kx.setCells [.int .i64 x, .int .i64 y, .int .i64 k, .int .i64 m, .int .i64 n, .string s] 27 w6 (Kx.refl [gP] w6) (.inl (by simp))
      go_wp2_with fail
      go_meet
      case rel =>
        rw [hB1]
        exact ⟨P.setBest x y k m n s, R.kx hk1 (by simp; omega), hb.kx hk1 (by simp; omega)⟩
  case' rest =>
    obtain ⟨P, R, hb⟩ := hcut
    clear X cL2 hB1
    obtain ⟨L, hLs⟩ : ∃ L, A.pr.set j true = L := ⟨_, rfl⟩
    rw [hLs] at cMy hl9 hBpr hwon
    obtain ⟨N, hN⟩ : ∃ N : Nat, (plK 0 L).length = N := ⟨_, rfl⟩
    rw [hN] at cMy
    unfold wonP at hwon
    rw [hMJ, hN] at hwon
    obtain ⟨b0, b1, b2, b3, b4, b5, b6, b7, b8, rfl⟩ := nine hl9
    have e0 := P.q0
    rw [hBc] at e0
    replace e0 := extA_cell e0
    have c0 := extA_cell (P.qpr 0 (by omega))
    have c1 := extA_cell (P.qpr 1 (by omega))
    have c2 := extA_cell (P.qpr 2 (by omega))
    have c3 := extA_cell (P.qpr 3 (by omega))
    have c4 := extA_cell (P.qpr 4 (by omega))
    have c5 := extA_cell (P.qpr 5 (by omega))
    have c6 := extA_cell (P.qpr 6 (by omega))
    have c7 := extA_cell (P.qpr 7 (by omega))
    have c8 := extA_cell (P.qpr 8 (by omega))
    rw [hBpr] at c0 c1 c2 c3 c4 c5 c6 c7 c8
    simp only [List.getD_cons_zero, List.getD_cons_succ] at c0 c1 c2 c3 c4 c5 c6 c7 c8
    unfold setV at cMy
    simp only [List.map_cons, List.map_nil] at cMy
    go_upto_region 10 with fail
    refine wp_region_extB (by kernel_rfl) (by kernel_rfl) ?_
    repeat
      (first
        | go_big_quiet_skip
        | (go_big_quiet_want
           go_big_quiet_op
           first
             | go_big_quiet_on
             | (apply Exists.intro
                refine ⟨fun w' hC9 => ?_, ?_⟩
                · (first
                    | with_reducible rfl
                    | (go_at_call 112; refine (cMy _).mono ?_; rintro e w2 ⟨rfl, hb9⟩; exact ⟨rfl, extA_then hC9 hb9⟩) | (go_at_call 113; refine (cMj _).mono ?_; rintro e w2 ⟨rfl, rfl⟩; exact ⟨rfl, hC9⟩)
                    | (go_simp; done)
                    | (go_simp; with_reducible rfl))
                go_big_quiet_on)))
    refine wpQuiet_nil ?_
    intro w7 hq
    replace P := P.step hq
    replace R := R.step hq
    replace hb := hb.step hq
    clear hq c0 c1 c2 c3 c4 c5 c6 c7 c8 e0 cMy cMj
  have hw2 : MJ ≤ (N : Int) := by simpa using hwon
  have x4 := P.q4
  have f4 := P.frozen 4
  have x5 := P.q5
  have x6 := P.q6
  have x7 := P.q7
  have x8 := P.q8
  have f5 := P.frozen 5
  have f6 := P.frozen 6
  have f7 := P.frozen 7
  have f8 := P.frozen 8
  have x29 := P.q29
  have x30 := P.q30
  have x31 := P.q31
  have x32 := P.q32
  have hk1 : Kx [gP] w7 (((((w7.setCell ⟨gP, 4, none⟩ (.int .i64 2)).setCell ⟨gP, 5, none⟩ (.int .i64 B1.bk)).setCell ⟨gP, 6, none⟩ (.int .i64 B1.bm)).setCell ⟨gP, 7, none⟩ (.int .i64 B1.bn)).setCell ⟨gP, 8, none⟩ (.string B1.bs)) := Kx.setCells [.int .i64 2, .int .i64 B1.bk, .int .i64 B1.bm, .int .i64 B1.bn, .string B1.bs] 4 w7 (Kx.refl [gP] w7) (.inl (by simp))
  go_upto_region 12 with fail
  replace P := (P.setPh 2).setEnt B1.bk B1.bm B1.bn B1.bs
  replace R := R.kx hk1 (by simp; omega)
  replace hb := hb.kx hk1 (by simp; omega)
  generalize ((((w7.setCell ⟨gP, 4, none⟩ (.int .i64 2)).setCell ⟨gP, 5, none⟩ (.int .i64 B1.bk)).setCell ⟨gP, 6, none⟩ (.int .i64 B1.bm)).setCell ⟨gP, 7, none⟩ (.int .i64 B1.bn)).setCell ⟨gP, 8, none⟩ (.string B1.bs) = w8 at *
  clear hk1 x4 f4 x5 x6 x7 x8 f5 f6 f7 f8 x29 x30 x31 x32
  have x27 : w8.cell? ⟨gP, 27, none⟩ = some (.int .i64 B1.br) := P.q27
  have x28 : w8.cell? ⟨gP, 28, none⟩ = some (.int .i64 B1.bp) := P.q28
  replace x27 := extA_cell x27
  replace x28 := extA_cell x28
  have heb := fun W => eq_ballot B1.br B1.bp (-1) 0 W
  rw [hB1e] at hnb
  simp only [hnb] at heb
  refine wp_region_extB (by kernel_rfl) (by kernel_rfl) ?_
  repeat
    (first
      | go_big_quiet_skip
      | (go_big_quiet_want
         go_big_quiet_op
         first
           | go_big_quiet_on
           | (apply Exists.intro
              refine ⟨fun w' hC9 => ?_, ?_⟩
              · (first
                  | with_reducible rfl
                  | (go_at_call 109; refine (none14ref_any _).mono ?_; rintro e w2 ⟨rfl, hb9⟩; exact ⟨rfl, extA_then hC9 hb9⟩)
                  | (go_simp; done)
                  | (go_simp; with_reducible rfl))
              go_big_quiet_on)))
  refine wpQuiet_nil ?_
  intro w9 hq
  replace P := P.step hq
  replace R := R.step hq
  replace hb := hb.step hq
  clear hq x27 x28 heb
  go_upto_region 14 with fail
  obtain ⟨wz, hwz⟩ : ∃ wz, wz = w9 := ⟨_, rfl⟩
  rw [← hwz] at P R hb ⊢
  clear hwz
  apply wp_region_lit
  refine wpList_load_row rfl 35 (.tmp 3) rfl gP (by kernel_rfl) _ _ (0, 0) _ P.1 Tryz.underlying35 rfl (qinfo P.2.1 P.2.2) ?_
  dsimp only [Act.put]
  refine wpList_store_rowTo rfl 35 (.tmp 6) (.tmp 93) rfl rfl gR (qL (Prp.sEnt (Prp.sPh B1 2) B1.bk B1.bm B1.bn B1.bs)).toArray (by kernel_rfl) (by kernel_rfl) _ _ R (qinfo P.2.1 P.2.2) (by rw [qsize P.2.1 P.2.2]; rfl) (qone _) ?_
  have hkn := kx_row wz gR (qL (Prp.sEnt (Prp.sPh B1 2) B1.bk B1.bm B1.bn B1.bs)).toArray
  replace R := R.row (qL (Prp.sEnt (Prp.sPh B1 2) B1.bk B1.bm B1.bn B1.bs))
  replace hb := hb.kx hkn (by simp; omega)
  generalize wz.setRow gR (qL (Prp.sEnt (Prp.sPh B1 2) B1.bk B1.bm B1.bn B1.bs)).toArray = w9 at *
  refine wpList_pure (v := ?_) rfl ?_ ?_
  rotate_left
  · go_simp
    try with_reducible rfl
  dsimp only [Act.put]
  refine wpList_nil ?_
  go_wp2_with fail
  (try simp only [Exit.inBlock, Exit.then])
  exact bodyPost_ret (res_cell1t rfl (by kernel_rfl) (by kernel_rfl) (run_loadVar_row _ _ _ _ _ (0, 0) _ R Tryz.underlying35 rfl (qinfo P.2.1 P.2.2))) rfl ⟨rfl, hb⟩
end Go.Proofs.YtcahkcbenanfnaaGreatDoor
