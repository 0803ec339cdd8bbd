
/- The document's proposer: Tell. -/
import Derived.Test.YtcahkcbenanfnaaGreatDoorPrV
import Derived.Deep.CutRange
namespace Go.Proofs.YtcahkcbenanfnaaGreatDoor
set_option linter.unusedSimpArgs false
set_option linter.unusedVariables false
open Go.RowKit
theorem noneE_eq (x y k m n : Int) (s : ByteArray) : noneE x y k m n s = (eq2 x y (-1) 0 && eq4 k m n s 0 0 0 ⟨#[]⟩) := by
  unfold noneE eq6 eq2 eq4
  rw [Bool.eq_iff_iff]
  simp only [decide_eq_true_eq, Bool.and_eq_true]
  constructor
  · rintro ⟨a, b, c, d, e, f⟩; exact ⟨⟨a, b⟩, c, d, e, f⟩
  · rintro ⟨⟨a, b⟩, c, d, e, f⟩; exact ⟨a, b, c, d, e, f⟩
theorem lessB_cmp (x y r p : Int) : lessB x y r p = decide (cmpI x y r p < 0) := by
  rcases less_cmp x y r p with ⟨h1, h2⟩ | ⟨h1, -, h2⟩ | ⟨h1, -, h2⟩ <;> (rw [h1, h2]; rfl)
theorem told_eq (A : Prp) (x y k m n : Int) (s : ByteArray) : toldB A x y k m n s = ((eq2 x y (-1) 0 && eq4 k m n s 0 0 0 ⟨#[]⟩) || (mayB A.c A.sl x y && (lessB x y A.r A.p && entB k m n s))) := by
  unfold toldB
  rw [noneE_eq, lessB_cmp, Bool.and_true]
set_option maxRecDepth 100000 in
set_option maxHeartbeats 2000000 in
theorem qtell_out (A : Prp) (place x y k m n : Int) (s : ByteArray) (w : World) (hp : A.pr.length = 9) (ha : A.ac.length = 9) (hs : s.size ≤ 9223372036854775807) (hin : inB place 0 A.c = false) :
    Calls Tryz.prog 62 #[qV A, .int .i64 place, .agg #[.int .i64 x, .int .i64 y, .int .i64 k, .int .i64 m, .int .i64 n, .string s]] w
      fun e w' => e = .returned (.tuple #[qV A, .int .i64 2]) ∧ Below w.heap.size w w' := by
  have cP := fun W => refPlace_any A.c place W
  have cM := fun W => refMay_any A.c A.sl x y W
  have cL := fun W => refLess_any x y A.r A.p W
  have cE := fun W => ref14_any k m n s W hs
  have heb := fun W => eq_ballot x y (-1) 0 W
  have hee := fun W => eq_entry k m n s 0 0 0 ⟨#[]⟩ W
  have htold := told_eq A x y k m n s
  generalize eq2 x y (-1) 0 = N1 at heb htold
  generalize eq4 k m n s 0 0 0 ⟨#[]⟩ = N2 at hee htold
  generalize mayB A.c A.sl x y = M at cM htold
  obtain ⟨Lb, hLb⟩ : ∃ Lb, lessB x y A.r A.p = Lb := ⟨_, rfl⟩
  rw [hLb] at htold
  simp only [hLb] at cL
  generalize entB k m n s = E at cE htold
  obtain ⟨MT, hMT⟩ : ∃ MT, (M && (Lb && E)) = MT := ⟨_, rfl⟩
  rw [hMT] at htold
  have hb := From.refl w
  clear hs hLb
  unfold qV
  go_enter Tryz.func62, Tryz.ntmps62
  go_upto_region 1 with fail
  obtain ⟨gP, hgP⟩ : ∃ g, (w).heap.size = g := ⟨_, rfl⟩
  have P := Blk.newV hgP 35 (qL A).toArray
  have hbn := (Below.refl (w).heap.size w).alloc (Nat.le_refl _) (.cells (qL A).toArray 35)
  replace hb := hb.step hbn
  clear hbn
  rw [hgP]
  have szP := alloc_size hgP (.cells (qL A).toArray 35)
  generalize (w).alloc (.cells (qL A).toArray 35) = w1 at *
  obtain ⟨gX, hgX⟩ : ∃ g, (w1).heap.size = g := ⟨_, rfl⟩
  have lt_P_X := P.lt
  rw [hgX] at lt_P_X
  have X := Blk.newV hgX 33 #[.int .i64 x, .int .i64 y, .int .i64 k, .int .i64 m, .int .i64 n, .string s]
  have hbn := (Below.refl (w1).heap.size w1).alloc (Nat.le_refl _) (.cells #[.int .i64 x, .int .i64 y, .int .i64 k, .int .i64 m, .int .i64 n, .string s] 33)
  replace hb := hb.step hbn
  replace P := P.step hbn
  clear hbn
  have egX : gP + 1 = gX := szP.symm.trans hgX
  rw [egX]
  clear szP
  have szX := alloc_size hgX (.cells #[.int .i64 x, .int .i64 y, .int .i64 k, .int .i64 m, .int .i64 n, .string s] 33)
  generalize (w1).alloc (.cells #[.int .i64 x, .int .i64 y, .int .i64 k, .int .i64 m, .int .i64 n, .string s] 33) = w2 at *
  obtain ⟨gR, hgR⟩ : ∃ g, (w2).heap.size = g := ⟨_, rfl⟩
  have lt_P_R := P.lt
  rw [hgR] at lt_P_R
  have lt_X_R := X.lt
  rw [hgR] at lt_X_R
  have R := Blk.newV hgR 35 #[.int .i64 0, .int .i64 0, .int .i64 0, .int .i64 0, .int .i64 0, .int .i64 0, .int .i64 0, .int .i64 0, .string ⟨#[]⟩, .bool false, .bool false, .bool false, .bool false, .bool false, .bool false, .bool false, .bool false, .bool false, .bool false, .bool false, .bool false, .bool false, .bool false, .bool false, .bool false, .bool false, .bool false, .int .i64 0, .int .i64 0, .int .i64 0, .int .i64 0, .int .i64 0, .string ⟨#[]⟩, .int .i64 0, .int .i64 0]
  have hbn := (Below.refl (w2).heap.size w2).alloc (Nat.le_refl _) (.cells #[.int .i64 0, .int .i64 0, .int .i64 0, .int .i64 0, .int .i64 0, .int .i64 0, .int .i64 0, .int .i64 0, .string ⟨#[]⟩, .bool false, .bool false, .bool false, .bool false, .bool false, .bool false, .bool false, .bool false, .bool false, .bool false, .bool false, .bool false, .bool false, .bool false, .bool false, .bool false, .bool false, .bool false, .int .i64 0, .int .i64 0, .int .i64 0, .int .i64 0, .int .i64 0, .string ⟨#[]⟩, .int .i64 0, .int .i64 0] 35)
  replace hb := hb.step hbn
  replace P := P.step hbn
  replace X := X.step hbn
  clear hbn
  have egR : gX + 1 = gR := szX.symm.trans hgR
  rw [egR]
  clear szX
  generalize (w2).alloc (.cells #[.int .i64 0, .int .i64 0, .int .i64 0, .int .i64 0, .int .i64 0, .int .i64 0, .int .i64 0, .int .i64 0, .string ⟨#[]⟩, .bool false, .bool false, .bool false, .bool false, .bool false, .bool false, .bool false, .bool false, .bool false, .bool false, .bool false, .bool false, .bool false, .bool false, .bool false, .bool false, .bool false, .bool false, .int .i64 0, .int .i64 0, .int .i64 0, .int .i64 0, .int .i64 0, .string ⟨#[]⟩, .int .i64 0, .int .i64 0] 35) = w3 at *
  have hwR : w.heap.size ≤ gR := by omega
  have hwP : w.heap.size ≤ gP := by omega
  have hPR : gP ≠ gR := by omega
  have hPX : gP ≠ gX := by omega
  clear hgP hgX hgR egR egX
  replace P : QW w3 gP A := ⟨by simpa using P, hp, ha⟩
  have X_0 := extA_cell (X.cell (j := 0) rfl)
  have X_1 := extA_cell (X.cell (j := 1) rfl)
  have X_2 := extA_cell (X.cell (j := 2) rfl)
  have X_3 := extA_cell (X.cell (j := 3) rfl)
  have X_4 := extA_cell (X.cell (j := 4) rfl)
  have X_5 := extA_cell (X.cell (j := 5) rfl)
  go_cut [8] from 10 (fun v wx => v = .bool (N1 && N2) ∧ ExtA w3 wx)
  case first =>
    cases N1
    · refine wp_region_extB (by kernel_rfl) (by kernel_rfl) ?_
      repeat
        (first
          | go_big_quiet_skip
          | (go_big_quiet_want
             go_big_quiet_op
             first
               | go_big_quiet_on
               | (apply Exists.intro
                  refine ⟨fun w' hC9 => ?_, ?_⟩
                  · (first
                      | with_reducible rfl
                      | (go_at_call 109; refine (none14ref_any _).mono ?_; rintro e w2 ⟨rfl, hb9⟩; exact ⟨rfl, extA_then hC9 hb9⟩)
                      | (go_simp; done)
                      | (go_simp; with_reducible rfl))
                  go_big_quiet_on)))
      refine wpQuiet_nil ?_
      intro w4 hq
      go_wp2_with fail
      go_meet
      case rel => exact ⟨by simp, hq⟩
    · refine wp_region_extB (by kernel_rfl) (by kernel_rfl) ?_
      repeat
        (first
          | go_big_quiet_skip
          | (go_big_quiet_want
             go_big_quiet_op
             first
               | go_big_quiet_on
               | (apply Exists.intro
                  refine ⟨fun w' hC9 => ?_, ?_⟩
                  · (first
                      | with_reducible rfl
                      | (go_at_call 109; refine (none14ref_any _).mono ?_; rintro e w2 ⟨rfl, hb9⟩; exact ⟨rfl, extA_then hC9 hb9⟩)
                      | (go_simp; done)
                      | (go_simp; with_reducible rfl))
                  go_big_quiet_on)))
      refine wpQuiet_nil ?_
      intro w4 hq
      go_wp2_with fail
      go_meet
      case rel => exact ⟨by simp, hq⟩
  case' rest =>
    obtain ⟨rfl, hq⟩ := hcut
    clear X_0 X_1 X_2 X_3 X_4 X_5 heb hee
    replace hb := hb.step hq
    replace P := P.step hq
    replace R := R.step hq
    replace X := X.step hq
    clear hq
  go_upto_region 2 with fail
  have p0 := P.q0
  have p1 := P.q1
  have X_0 := X.cell (j := 0) rfl
  have X_1 := X.cell (j := 1) rfl
  have X_2 := X.cell (j := 2) rfl
  have X_3 := X.cell (j := 3) rfl
  have X_4 := X.cell (j := 4) rfl
  have X_5 := X.cell (j := 5) rfl
  go_cut [9] from 20 (fun v wx => v = .bool MT ∧ Below wc.heap.size wc wx)
  case first =>
    go_wp2_with fail
    refine (cM _).mono ?_
    rintro e wa ⟨rfl, h1⟩
    cases M
    · go_wp2_with fail
      go_meet
      case rel => exact ⟨by rw [← hMT]; simp, h1⟩
    · have P1 := P.step h1
      have X1 := X.step h1
      clear p0 p1 X_0 X_1 X_2 X_3 X_4 X_5
      have p2 := P1.q2
      have p3 := P1.q3
      have X1_0 := X1.cell (j := 0) rfl
      have X1_1 := X1.cell (j := 1) rfl
      have X1_2 := X1.cell (j := 2) rfl
      have X1_3 := X1.cell (j := 3) rfl
      have X1_4 := X1.cell (j := 4) rfl
      have X1_5 := X1.cell (j := 5) rfl
      go_wp2_with fail
      refine (cL _).mono ?_
      rintro e wb ⟨rfl, h2⟩
      cases Lb
      · go_wp2_with fail
        go_meet
        case rel => exact ⟨by rw [← hMT]; simp, h1.trans (h2.mono h1.size)⟩
      · have X2 := X1.step h2
        clear p2 p3 X1_0 X1_1 X1_2 X1_3 X1_4 X1_5
        have X2_0 := X2.cell (j := 0) rfl
        have X2_1 := X2.cell (j := 1) rfl
        have X2_2 := X2.cell (j := 2) rfl
        have X2_3 := X2.cell (j := 3) rfl
        have X2_4 := X2.cell (j := 4) rfl
        have X2_5 := X2.cell (j := 5) rfl
        go_wp2_with fail
        refine (cE _).mono ?_
        rintro e wd ⟨rfl, h3⟩
        go_wp2_with fail
        go_meet
        case rel => exact ⟨by rw [← hMT]; simp, h1.trans ((h2.mono h1.size).trans (h3.mono (Nat.le_trans h1.size h2.size)))⟩
  case' rest =>
    obtain ⟨rfl, hq⟩ := hcut
    clear p0 p1 X_0 X_1 X_2 X_3 X_4 X_5 cM cL cE hMT
    replace hb := hb.step hq
    replace P := P.step hq
    replace R := R.step hq
    replace X := X.step hq
    clear hq
    have p0 := P.q0
  rw [hin] at cP
  go_wp2_with fail
  refine (cP _).mono ?_
  rintro e wx ⟨rfl, rfl⟩
  go_upto_region 4 with fail
  apply wp_region_lit
  refine wpList_load_row rfl 35 (.tmp 3) rfl gP (by kernel_rfl) _ _ (0, 0) _ P.1 Tryz.underlying35 rfl (qinfo P.2.1 P.2.2) ?_
  dsimp only [Act.put]
  refine wpList_store_rowTo rfl 35 (.tmp 6) (.tmp 52) rfl rfl gR (qL (A)).toArray (by kernel_rfl) (by kernel_rfl) _ _ R (qinfo P.2.1 P.2.2) (by rw [qsize P.2.1 P.2.2]; rfl) (qone _) ?_
  have hkn := kx_row wc gR (qL (A)).toArray
  replace R := R.row (qL (A))
  replace hb := hb.kx hkn (by simp; omega)
  generalize wc.setRow gR (qL (A)).toArray = w9 at *
  refine wpList_pure (v := ?_) rfl ?_ ?_
  rotate_left
  · go_simp
    try with_reducible rfl
  dsimp only [Act.put]
  refine wpList_nil ?_
  go_wp2_with fail
  (try simp only [Exit.inBlock, Exit.then])
  exact bodyPost_ret (res_cell1t rfl (by kernel_rfl) (by kernel_rfl) (run_loadVar_row _ _ _ _ _ (0, 0) _ R Tryz.underlying35 rfl (qinfo P.2.1 P.2.2))) rfl ⟨rfl, hb⟩
set_option maxRecDepth 100000 in
set_option maxHeartbeats 2000000 in
theorem qtell_bad (A : Prp) (place x y k m n : Int) (s : ByteArray) (w : World) (hp : A.pr.length = 9) (ha : A.ac.length = 9) (hs : s.size ≤ 9223372036854775807) (hin : inB place 0 A.c = true) (ht : toldB A x y k m n s = false) :
    Calls Tryz.prog 62 #[qV A, .int .i64 place, .agg #[.int .i64 x, .int .i64 y, .int .i64 k, .int .i64 m, .int .i64 n, .string s]] w
      fun e w' => e = .returned (.tuple #[qV A, .int .i64 2]) ∧ Below w.heap.size w w' := by
  have cP := fun W => refPlace_any A.c place W
  have cM := fun W => refMay_any A.c A.sl x y W
  have cL := fun W => refLess_any x y A.r A.p W
  have cE := fun W => ref14_any k m n s W hs
  have heb := fun W => eq_ballot x y (-1) 0 W
  have hee := fun W => eq_entry k m n s 0 0 0 ⟨#[]⟩ W
  have htold := told_eq A x y k m n s
  generalize eq2 x y (-1) 0 = N1 at heb htold
  generalize eq4 k m n s 0 0 0 ⟨#[]⟩ = N2 at hee htold
  generalize mayB A.c A.sl x y = M at cM htold
  obtain ⟨Lb, hLb⟩ : ∃ Lb, lessB x y A.r A.p = Lb := ⟨_, rfl⟩
  rw [hLb] at htold
  simp only [hLb] at cL
  generalize entB k m n s = E at cE htold
  obtain ⟨MT, hMT⟩ : ∃ MT, (M && (Lb && E)) = MT := ⟨_, rfl⟩
  rw [hMT] at htold
  have hb := From.refl w
  clear hs hLb
  unfold qV
  go_enter Tryz.func62, Tryz.ntmps62
  go_upto_region 1 with fail
  obtain ⟨gP, hgP⟩ : ∃ g, (w).heap.size = g := ⟨_, rfl⟩
  have P := Blk.newV hgP 35 (qL A).toArray
  have hbn := (Below.refl (w).heap.size w).alloc (Nat.le_refl _) (.cells (qL A).toArray 35)
  replace hb := hb.step hbn
  clear hbn
  rw [hgP]
  have szP := alloc_size hgP (.cells (qL A).toArray 35)
  generalize (w).alloc (.cells (qL A).toArray 35) = w1 at *
  obtain ⟨gX, hgX⟩ : ∃ g, (w1).heap.size = g := ⟨_, rfl⟩
  have lt_P_X := P.lt
  rw [hgX] at lt_P_X
  have X := Blk.newV hgX 33 #[.int .i64 x, .int .i64 y, .int .i64 k, .int .i64 m, .int .i64 n, .string s]
  have hbn := (Below.refl (w1).heap.size w1).alloc (Nat.le_refl _) (.cells #[.int .i64 x, .int .i64 y, .int .i64 k, .int .i64 m, .int .i64 n, .string s] 33)
  replace hb := hb.step hbn
  replace P := P.step hbn
  clear hbn
  have egX : gP + 1 = gX := szP.symm.trans hgX
  rw [egX]
  clear szP
  have szX := alloc_size hgX (.cells #[.int .i64 x, .int .i64 y, .int .i64 k, .int .i64 m, .int .i64 n, .string s] 33)
  generalize (w1).alloc (.cells #[.int .i64 x, .int .i64 y, .int .i64 k, .int .i64 m, .int .i64 n, .string s] 33) = w2 at *
  obtain ⟨gR, hgR⟩ : ∃ g, (w2).heap.size = g := ⟨_, rfl⟩
  have lt_P_R := P.lt
  rw [hgR] at lt_P_R
  have lt_X_R := X.lt
  rw [hgR] at lt_X_R
  have R := Blk.newV hgR 35 #[.int .i64 0, .int .i64 0, .int .i64 0, .int .i64 0, .int .i64 0, .int .i64 0, .int .i64 0, .int .i64 0, .string ⟨#[]⟩, .bool false, .bool false, .bool false, .bool false, .bool false, .bool false, .bool false, .bool false, .bool false, .bool false, .bool false, .bool false, .bool false, .bool false, .bool false, .bool false, .bool false, .bool false, .int .i64 0, .int .i64 0, .int .i64 0, .int .i64 0, .int .i64 0, .string ⟨#[]⟩, .int .i64 0, .int .i64 0]
  have hbn := (Below.refl (w2).heap.size w2).alloc (Nat.le_refl _) (.cells #[.int .i64 0, .int .i64 0, .int .i64 0, .int .i64 0, .int .i64 0, .int .i64 0, .int .i64 0, .int .i64 0, .string ⟨#[]⟩, .bool false, .bool false, .bool false, .bool false, .bool false, .bool false, .bool false, .bool false, .bool false, .bool false, .bool false, .bool false, .bool false, .bool false, .bool false, .bool false, .bool false, .bool false, .int .i64 0, .int .i64 0, .int .i64 0, .int .i64 0, .int .i64 0, .string ⟨#[]⟩, .int .i64 0, .int .i64 0] 35)
  replace hb := hb.step hbn
  replace P := P.step hbn
  replace X := X.step hbn
  clear hbn
  have egR : gX + 1 = gR := szX.symm.trans hgR
  rw [egR]
  clear szX
  generalize (w2).alloc (.cells #[.int .i64 0, .int .i64 0, .int .i64 0, .int .i64 0, .int .i64 0, .int .i64 0, .int .i64 0, .int .i64 0, .string ⟨#[]⟩, .bool false, .bool false, .bool false, .bool false, .bool false, .bool false, .bool false, .bool false, .bool false, .bool false, .bool false, .bool false, .bool false, .bool false, .bool false, .bool false, .bool false, .bool false, .int .i64 0, .int .i64 0, .int .i64 0, .int .i64 0, .int .i64 0, .string ⟨#[]⟩, .int .i64 0, .int .i64 0] 35) = w3 at *
  have hwR : w.heap.size ≤ gR := by omega
  have hwP : w.heap.size ≤ gP := by omega
  have hPR : gP ≠ gR := by omega
  have hPX : gP ≠ gX := by omega
  clear hgP hgX hgR egR egX
  replace P : QW w3 gP A := ⟨by simpa using P, hp, ha⟩
  have X_0 := extA_cell (X.cell (j := 0) rfl)
  have X_1 := extA_cell (X.cell (j := 1) rfl)
  have X_2 := extA_cell (X.cell (j := 2) rfl)
  have X_3 := extA_cell (X.cell (j := 3) rfl)
  have X_4 := extA_cell (X.cell (j := 4) rfl)
  have X_5 := extA_cell (X.cell (j := 5) rfl)
  go_cut [8] from 10 (fun v wx => v = .bool (N1 && N2) ∧ ExtA w3 wx)
  case first =>
    cases N1
    · refine wp_region_extB (by kernel_rfl) (by kernel_rfl) ?_
      repeat
        (first
          | go_big_quiet_skip
          | (go_big_quiet_want
             go_big_quiet_op
             first
               | go_big_quiet_on
               | (apply Exists.intro
                  refine ⟨fun w' hC9 => ?_, ?_⟩
                  · (first
                      | with_reducible rfl
                      | (go_at_call 109; refine (none14ref_any _).mono ?_; rintro e w2 ⟨rfl, hb9⟩; exact ⟨rfl, extA_then hC9 hb9⟩)
                      | (go_simp; done)
                      | (go_simp; with_reducible rfl))
                  go_big_quiet_on)))
      refine wpQuiet_nil ?_
      intro w4 hq
      go_wp2_with fail
      go_meet
      case rel => exact ⟨by simp, hq⟩
    · refine wp_region_extB (by kernel_rfl) (by kernel_rfl) ?_
      repeat
        (first
          | go_big_quiet_skip
          | (go_big_quiet_want
             go_big_quiet_op
             first
               | go_big_quiet_on
               | (apply Exists.intro
                  refine ⟨fun w' hC9 => ?_, ?_⟩
                  · (first
                      | with_reducible rfl
                      | (go_at_call 109; refine (none14ref_any _).mono ?_; rintro e w2 ⟨rfl, hb9⟩; exact ⟨rfl, extA_then hC9 hb9⟩)
                      | (go_simp; done)
                      | (go_simp; with_reducible rfl))
                  go_big_quiet_on)))
      refine wpQuiet_nil ?_
      intro w4 hq
      go_wp2_with fail
      go_meet
      case rel => exact ⟨by simp, hq⟩
  case' rest =>
    obtain ⟨rfl, hq⟩ := hcut
    clear X_0 X_1 X_2 X_3 X_4 X_5 heb hee
    replace hb := hb.step hq
    replace P := P.step hq
    replace R := R.step hq
    replace X := X.step hq
    clear hq
  go_upto_region 2 with fail
  have p0 := P.q0
  have p1 := P.q1
  have X_0 := X.cell (j := 0) rfl
  have X_1 := X.cell (j := 1) rfl
  have X_2 := X.cell (j := 2) rfl
  have X_3 := X.cell (j := 3) rfl
  have X_4 := X.cell (j := 4) rfl
  have X_5 := X.cell (j := 5) rfl
  go_cut [9] from 20 (fun v wx => v = .bool MT ∧ Below wc.heap.size wc wx)
  case first =>
    go_wp2_with fail
    refine (cM _).mono ?_
    rintro e wa ⟨rfl, h1⟩
    cases M
    · go_wp2_with fail
      go_meet
      case rel => exact ⟨by rw [← hMT]; simp, h1⟩
    · have P1 := P.step h1
      have X1 := X.step h1
      clear p0 p1 X_0 X_1 X_2 X_3 X_4 X_5
      have p2 := P1.q2
      have p3 := P1.q3
      have X1_0 := X1.cell (j := 0) rfl
      have X1_1 := X1.cell (j := 1) rfl
      have X1_2 := X1.cell (j := 2) rfl
      have X1_3 := X1.cell (j := 3) rfl
      have X1_4 := X1.cell (j := 4) rfl
      have X1_5 := X1.cell (j := 5) rfl
      go_wp2_with fail
      refine (cL _).mono ?_
      rintro e wb ⟨rfl, h2⟩
      cases Lb
      · go_wp2_with fail
        go_meet
        case rel => exact ⟨by rw [← hMT]; simp, h1.trans (h2.mono h1.size)⟩
      · have X2 := X1.step h2
        clear p2 p3 X1_0 X1_1 X1_2 X1_3 X1_4 X1_5
        have X2_0 := X2.cell (j := 0) rfl
        have X2_1 := X2.cell (j := 1) rfl
        have X2_2 := X2.cell (j := 2) rfl
        have X2_3 := X2.cell (j := 3) rfl
        have X2_4 := X2.cell (j := 4) rfl
        have X2_5 := X2.cell (j := 5) rfl
        go_wp2_with fail
        refine (cE _).mono ?_
        rintro e wd ⟨rfl, h3⟩
        go_wp2_with fail
        go_meet
        case rel => exact ⟨by rw [← hMT]; simp, h1.trans ((h2.mono h1.size).trans (h3.mono (Nat.le_trans h1.size h2.size)))⟩
  case' rest =>
    obtain ⟨rfl, hq⟩ := hcut
    clear p0 p1 X_0 X_1 X_2 X_3 X_4 X_5 cM cL cE hMT
    replace hb := hb.step hq
    replace P := P.step hq
    replace R := R.step hq
    replace X := X.step hq
    clear hq
    have p0 := P.q0
  rw [hin] at cP
  rw [ht] at htold
  obtain ⟨NN, hNN⟩ : ∃ NN, (N1 && N2) = NN := ⟨_, rfl⟩
  rw [hNN] at htold ⊢
  cases NN <;> cases MT <;> simp at htold
  clear hNN
  go_wp2_with fail
  refine (cP _).mono ?_
  rintro e wx ⟨rfl, rfl⟩
  go_upto_region 4 with fail
  apply wp_region_lit
  refine wpList_load_row rfl 35 (.tmp 3) rfl gP (by kernel_rfl) _ _ (0, 0) _ P.1 Tryz.underlying35 rfl (qinfo P.2.1 P.2.2) ?_
  dsimp only [Act.put]
  refine wpList_store_rowTo rfl 35 (.tmp 6) (.tmp 52) rfl rfl gR (qL (A)).toArray (by kernel_rfl) (by kernel_rfl) _ _ R (qinfo P.2.1 P.2.2) (by rw [qsize P.2.1 P.2.2]; rfl) (qone _) ?_
  have hkn := kx_row wc gR (qL (A)).toArray
  replace R := R.row (qL (A))
  replace hb := hb.kx hkn (by simp; omega)
  generalize wc.setRow gR (qL (A)).toArray = w9 at *
  refine wpList_pure (v := ?_) rfl ?_ ?_
  rotate_left
  · go_simp
    try with_reducible rfl
  dsimp only [Act.put]
  refine wpList_nil ?_
  go_wp2_with fail
  (try simp only [Exit.inBlock, Exit.then])
  exact bodyPost_ret (res_cell1t rfl (by kernel_rfl) (by kernel_rfl) (run_loadVar_row _ _ _ _ _ (0, 0) _ R Tryz.underlying35 rfl (qinfo P.2.1 P.2.2))) rfl ⟨rfl, hb⟩
set_option maxRecDepth 100000 in
set_option maxHeartbeats 2000000 in
theorem qtell_idle (A : Prp) (place x y k m n : Int) (s : ByteArray) (w : World) (hp : A.pr.length = 9) (ha : A.ac.length = 9) (hs : s.size ≤ 9223372036854775807) (hin : inB place 0 A.c = true) (ht : toldB A x y k m n s = true) (hph : (A.ph != 1) = true) :
    Calls Tryz.prog 62 #[qV A, .int .i64 place, .agg #[.int .i64 x, .int .i64 y, .int .i64 k, .int .i64 m, .int .i64 n, .string s]] w
      fun e w' => e = .returned (.tuple #[qV A, .int .i64 0]) ∧ Below w.heap.size w w' := by
  have cP := fun W => refPlace_any A.c place W
  have cM := fun W => refMay_any A.c A.sl x y W
  have cL := fun W => refLess_any x y A.r A.p W
  have cE := fun W => ref14_any k m n s W hs
  have heb := fun W => eq_ballot x y (-1) 0 W
  have hee := fun W => eq_entry k m n s 0 0 0 ⟨#[]⟩ W
  have htold := told_eq A x y k m n s
  generalize eq2 x y (-1) 0 = N1 at heb htold
  generalize eq4 k m n s 0 0 0 ⟨#[]⟩ = N2 at hee htold
  generalize mayB A.c A.sl x y = M at cM htold
  obtain ⟨Lb, hLb⟩ : ∃ Lb, lessB x y A.r A.p = Lb := ⟨_, rfl⟩
  rw [hLb] at htold
  simp only [hLb] at cL
  generalize entB k m n s = E at cE htold
  obtain ⟨MT, hMT⟩ : ∃ MT, (M && (Lb && E)) = MT := ⟨_, rfl⟩
  rw [hMT] at htold
  have hb := From.refl w
  clear hs hLb
  unfold qV
  go_enter Tryz.func62, Tryz.ntmps62
  go_upto_region 1 with fail
  obtain ⟨gP, hgP⟩ : ∃ g, (w).heap.size = g := ⟨_, rfl⟩
  have P := Blk.newV hgP 35 (qL A).toArray
  have hbn := (Below.refl (w).heap.size w).alloc (Nat.le_refl _) (.cells (qL A).toArray 35)
  replace hb := hb.step hbn
  clear hbn
  rw [hgP]
  have szP := alloc_size hgP (.cells (qL A).toArray 35)
  generalize (w).alloc (.cells (qL A).toArray 35) = w1 at *
  obtain ⟨gX, hgX⟩ : ∃ g, (w1).heap.size = g := ⟨_, rfl⟩
  have lt_P_X := P.lt
  rw [hgX] at lt_P_X
  have X := Blk.newV hgX 33 #[.int .i64 x, .int .i64 y, .int .i64 k, .int .i64 m, .int .i64 n, .string s]
  have hbn := (Below.refl (w1).heap.size w1).alloc (Nat.le_refl _) (.cells #[.int .i64 x, .int .i64 y, .int .i64 k, .int .i64 m, .int .i64 n, .string s] 33)
  replace hb := hb.step hbn
  replace P := P.step hbn
  clear hbn
  have egX : gP + 1 = gX := szP.symm.trans hgX
  rw [egX]
  clear szP
  have szX := alloc_size hgX (.cells #[.int .i64 x, .int .i64 y, .int .i64 k, .int .i64 m, .int .i64 n, .string s] 33)
  generalize (w1).alloc (.cells #[.int .i64 x, .int .i64 y, .int .i64 k, .int .i64 m, .int .i64 n, .string s] 33) = w2 at *
  obtain ⟨gR, hgR⟩ : ∃ g, (w2).heap.size = g := ⟨_, rfl⟩
  have lt_P_R := P.lt
  rw [hgR] at lt_P_R
  have lt_X_R := X.lt
  rw [hgR] at lt_X_R
  have R := Blk.newV hgR 35 #[.int .i64 0, .int .i64 0, .int .i64 0, .int .i64 0, .int .i64 0, .int .i64 0, .int .i64 0, .int .i64 0, .string ⟨#[]⟩, .bool false, .bool false, .bool false, .bool false, .bool false, .bool false, .bool false, .bool false, .bool false, .bool false, .bool false, .bool false, .bool false, .bool false, .bool false, .bool false, .bool false, .bool false, .int .i64 0, .int .i64 0, .int .i64 0, .int .i64 0, .int .i64 0, .string ⟨#[]⟩, .int .i64 0, .int .i64 0]
  have hbn := (Below.refl (w2).heap.size w2).alloc (Nat.le_refl _) (.cells #[.int .i64 0, .int .i64 0, .int .i64 0, .int .i64 0, .int .i64 0, .int .i64 0, .int .i64 0, .int .i64 0, .string ⟨#[]⟩, .bool false, .bool false, .bool false, .bool false, .bool false, .bool false, .bool false, .bool false, .bool false, .bool false, .bool false, .bool false, .bool false, .bool false, .bool false, .bool false, .bool false, .bool false, .int .i64 0, .int .i64 0, .int .i64 0, .int .i64 0, .int .i64 0, .string ⟨#[]⟩, .int .i64 0, .int .i64 0] 35)
  replace hb := hb.step hbn
  replace P := P.step hbn
  replace X := X.step hbn
  clear hbn
  have egR : gX + 1 = gR := szX.symm.trans hgR
  rw [egR]
  clear szX
  generalize (w2).alloc (.cells #[.int .i64 0, .int .i64 0, .int .i64 0, .int .i64 0, .int .i64 0, .int .i64 0, .int .i64 0, .int .i64 0, .string ⟨#[]⟩, .bool false, .bool false, .bool false, .bool false, .bool false, .bool false, .bool false, .bool false, .bool false, .bool false, .bool false, .bool false, .bool false, .bool false, .bool false, .bool false, .bool false, .bool false, .int .i64 0, .int .i64 0, .int .i64 0, .int .i64 0, .int .i64 0, .string ⟨#[]⟩, .int .i64 0, .int .i64 0] 35) = w3 at *
  have hwR : w.heap.size ≤ gR := by omega
  have hwP : w.heap.size ≤ gP := by omega
  have hPR : gP ≠ gR := by omega
  have hPX : gP ≠ gX := by omega
  clear hgP hgX hgR egR egX
  replace P : QW w3 gP A := ⟨by simpa using P, hp, ha⟩
  have X_0 := extA_cell (X.cell (j := 0) rfl)
  have X_1 := extA_cell (X.cell (j := 1) rfl)
  have X_2 := extA_cell (X.cell (j := 2) rfl)
  have X_3 := extA_cell (X.cell (j := 3) rfl)
  have X_4 := extA_cell (X.cell (j := 4) rfl)
  have X_5 := extA_cell (X.cell (j := 5) rfl)
  go_cut [8] from 10 (fun v wx => v = .bool (N1 && N2) ∧ ExtA w3 wx)
  case first =>
    cases N1
    · refine wp_region_extB (by kernel_rfl) (by kernel_rfl) ?_
      repeat
        (first
          | go_big_quiet_skip
          | (go_big_quiet_want
             go_big_quiet_op
             first
               | go_big_quiet_on
               | (apply Exists.intro
                  refine ⟨fun w' hC9 => ?_, ?_⟩
                  · (first
                      | with_reducible rfl
                      | (go_at_call 109; refine (none14ref_any _).mono ?_; rintro e w2 ⟨rfl, hb9⟩; exact ⟨rfl, extA_then hC9 hb9⟩)
                      | (go_simp; done)
                      | (go_simp; with_reducible rfl))
                  go_big_quiet_on)))
      refine wpQuiet_nil ?_
      intro w4 hq
      go_wp2_with fail
      go_meet
      case rel => exact ⟨by simp, hq⟩
    · refine wp_region_extB (by kernel_rfl) (by kernel_rfl) ?_
      repeat
        (first
          | go_big_quiet_skip
          | (go_big_quiet_want
             go_big_quiet_op
             first
               | go_big_quiet_on
               | (apply Exists.intro
                  refine ⟨fun w' hC9 => ?_, ?_⟩
                  · (first
                      | with_reducible rfl
                      | (go_at_call 109; refine (none14ref_any _).mono ?_; rintro e w2 ⟨rfl, hb9⟩; exact ⟨rfl, extA_then hC9 hb9⟩)
                      | (go_simp; done)
                      | (go_simp; with_reducible rfl))
                  go_big_quiet_on)))
      refine wpQuiet_nil ?_
      intro w4 hq
      go_wp2_with fail
      go_meet
      case rel => exact ⟨by simp, hq⟩
  case' rest =>
    obtain ⟨rfl, hq⟩ := hcut
    clear X_0 X_1 X_2 X_3 X_4 X_5 heb hee
    replace hb := hb.step hq
    replace P := P.step hq
    replace R := R.step hq
    replace X := X.step hq
    clear hq
  go_upto_region 2 with fail
  have p0 := P.q0
  have p1 := P.q1
  have X_0 := X.cell (j := 0) rfl
  have X_1 := X.cell (j := 1) rfl
  have X_2 := X.cell (j := 2) rfl
  have X_3 := X.cell (j := 3) rfl
  have X_4 := X.cell (j := 4) rfl
  have X_5 := X.cell (j := 5) rfl
  go_cut [9] from 20 (fun v wx => v = .bool MT ∧ Below wc.heap.size wc wx)
  case first =>
    go_wp2_with fail
    refine (cM _).mono ?_
    rintro e wa ⟨rfl, h1⟩
    cases M
    · go_wp2_with fail
      go_meet
      case rel => exact ⟨by rw [← hMT]; simp, h1⟩
    · have P1 := P.step h1
      have X1 := X.step h1
      clear p0 p1 X_0 X_1 X_2 X_3 X_4 X_5
      have p2 := P1.q2
      have p3 := P1.q3
      have X1_0 := X1.cell (j := 0) rfl
      have X1_1 := X1.cell (j := 1) rfl
      have X1_2 := X1.cell (j := 2) rfl
      have X1_3 := X1.cell (j := 3) rfl
      have X1_4 := X1.cell (j := 4) rfl
      have X1_5 := X1.cell (j := 5) rfl
      go_wp2_with fail
      refine (cL _).mono ?_
      rintro e wb ⟨rfl, h2⟩
      cases Lb
      · go_wp2_with fail
        go_meet
        case rel => exact ⟨by rw [← hMT]; simp, h1.trans (h2.mono h1.size)⟩
      · have X2 := X1.step h2
        clear p2 p3 X1_0 X1_1 X1_2 X1_3 X1_4 X1_5
        have X2_0 := X2.cell (j := 0) rfl
        have X2_1 := X2.cell (j := 1) rfl
        have X2_2 := X2.cell (j := 2) rfl
        have X2_3 := X2.cell (j := 3) rfl
        have X2_4 := X2.cell (j := 4) rfl
        have X2_5 := X2.cell (j := 5) rfl
        go_wp2_with fail
        refine (cE _).mono ?_
        rintro e wd ⟨rfl, h3⟩
        go_wp2_with fail
        go_meet
        case rel => exact ⟨by rw [← hMT]; simp, h1.trans ((h2.mono h1.size).trans (h3.mono (Nat.le_trans h1.size h2.size)))⟩
  case' rest =>
    obtain ⟨rfl, hq⟩ := hcut
    clear p0 p1 X_0 X_1 X_2 X_3 X_4 X_5 cM cL cE hMT
    replace hb := hb.step hq
    replace P := P.step hq
    replace R := R.step hq
    replace X := X.step hq
    clear hq
    have p0 := P.q0
  rw [hin] at cP
  rw [ht] at htold
  obtain ⟨NN, hNN⟩ : ∃ NN, (N1 && N2) = NN := ⟨_, rfl⟩
  rw [hNN] at htold ⊢
  clear hNN
  go_upto_region 3 with fail
  go_cut [51] from 39 (fun v wx => v = .bool false ∧ wx = wc)
  case first =>
    cases NN
    · cases MT
      · simp at htold
      · clear htold ht
        go_wp2_with fail
        refine (cP _).mono ?_
        rintro e wx ⟨rfl, rfl⟩
        go_wp2_with fail
        go_meet
        case rel => exact ⟨rfl, rfl⟩
    · clear htold ht
      go_wp2_with fail
      refine (cP _).mono ?_
      rintro e wx ⟨rfl, rfl⟩
      go_wp2_with fail
      go_meet
      case rel => exact ⟨rfl, rfl⟩
  case' rest =>
    obtain ⟨rfl, rfl⟩ := hcut
    clear p0 htold
    have p4 := P.q4
  go_upto_region 6 with fail
  apply wp_region_lit
  refine wpList_load_row rfl 35 (.tmp 3) rfl gP (by kernel_rfl) _ _ (0, 0) _ P.1 Tryz.underlying35 rfl (qinfo P.2.1 P.2.2) ?_
  dsimp only [Act.put]
  refine wpList_store_rowTo rfl 35 (.tmp 6) (.tmp 62) rfl rfl gR (qL (A)).toArray (by kernel_rfl) (by kernel_rfl) _ _ R (qinfo P.2.1 P.2.2) (by rw [qsize P.2.1 P.2.2]; rfl) (qone _) ?_
  have hkn := kx_row wc gR (qL (A)).toArray
  replace R := R.row (qL (A))
  replace hb := hb.kx hkn (by simp; omega)
  generalize wc.setRow gR (qL (A)).toArray = w9 at *
  refine wpList_pure (v := ?_) rfl ?_ ?_
  rotate_left
  · go_simp
    try with_reducible rfl
  dsimp only [Act.put]
  refine wpList_nil ?_
  go_wp2_with fail
  (try simp only [Exit.inBlock, Exit.then])
  exact bodyPost_ret (res_cell1t rfl (by kernel_rfl) (by kernel_rfl) (run_loadVar_row _ _ _ _ _ (0, 0) _ R Tryz.underlying35 rfl (qinfo P.2.1 P.2.2))) rfl ⟨rfl, hb⟩
set_option maxRecDepth 100000 in
set_option maxHeartbeats 2000000 in
theorem qtell_was (A : Prp) (j : Nat) (hj : j < 9) (x y k m n : Int) (s : ByteArray) (w : World) (hp : A.pr.length = 9) (ha : A.ac.length = 9) (hs : s.size ≤ 9223372036854775807) (hin : inB j 0 A.c = true) (ht : toldB A x y k m n s = true) (hph : A.ph = 1) (hw : A.pr.getD j false = true) :
    Calls Tryz.prog 62 #[qV A, .int .i64 j, .agg #[.int .i64 x, .int .i64 y, .int .i64 k, .int .i64 m, .int .i64 n, .string s]] w fun e w' => e = .returned (.tuple #[qV A, .int .i64 0]) ∧ Below w.heap.size w w' := by
  obtain ⟨place, hpl⟩ : ∃ place : Int, (j : Int) = place := ⟨_, rfl⟩
  rw [hpl] at hin ⊢
  have cP := fun W => refPlace_any A.c place W
  have cM := fun W => refMay_any A.c A.sl x y W
  have cL := fun W => refLess_any x y A.r A.p W
  have cE := fun W => ref14_any k m n s W hs
  have heb := fun W => eq_ballot x y (-1) 0 W
  have hee := fun W => eq_entry k m n s 0 0 0 ⟨#[]⟩ W
  have htold := told_eq A x y k m n s
  generalize eq2 x y (-1) 0 = N1 at heb htold
  generalize eq4 k m n s 0 0 0 ⟨#[]⟩ = N2 at hee htold
  generalize mayB A.c A.sl x y = M at cM htold
  obtain ⟨Lb, hLb⟩ : ∃ Lb, lessB x y A.r A.p = Lb := ⟨_, rfl⟩
  rw [hLb] at htold
  simp only [hLb] at cL
  generalize entB k m n s = E at cE htold
  obtain ⟨MT, hMT⟩ : ∃ MT, (M && (Lb && E)) = MT := ⟨_, rfl⟩
  rw [hMT] at htold
  have hb := From.refl w
  clear hs hLb
  unfold qV
  go_enter Tryz.func62, Tryz.ntmps62
  go_upto_region 1 with fail
  obtain ⟨gP, hgP⟩ : ∃ g, (w).heap.size = g := ⟨_, rfl⟩
  have P := Blk.newV hgP 35 (qL A).toArray
  have hbn := (Below.refl (w).heap.size w).alloc (Nat.le_refl _) (.cells (qL A).toArray 35)
  replace hb := hb.step hbn
  clear hbn
  rw [hgP]
  have szP := alloc_size hgP (.cells (qL A).toArray 35)
  generalize (w).alloc (.cells (qL A).toArray 35) = w1 at *
  obtain ⟨gX, hgX⟩ : ∃ g, (w1).heap.size = g := ⟨_, rfl⟩
  have lt_P_X := P.lt
  rw [hgX] at lt_P_X
  have X := Blk.newV hgX 33 #[.int .i64 x, .int .i64 y, .int .i64 k, .int .i64 m, .int .i64 n, .string s]
  have hbn := (Below.refl (w1).heap.size w1).alloc (Nat.le_refl _) (.cells #[.int .i64 x, .int .i64 y, .int .i64 k, .int .i64 m, .int .i64 n, .string s] 33)
  replace hb := hb.step hbn
  replace P := P.step hbn
  clear hbn
  have egX : gP + 1 = gX := szP.symm.trans hgX
  rw [egX]
  clear szP
  have szX := alloc_size hgX (.cells #[.int .i64 x, .int .i64 y, .int .i64 k, .int .i64 m, .int .i64 n, .string s] 33)
  generalize (w1).alloc (.cells #[.int .i64 x, .int .i64 y, .int .i64 k, .int .i64 m, .int .i64 n, .string s] 33) = w2 at *
  obtain ⟨gR, hgR⟩ : ∃ g, (w2).heap.size = g := ⟨_, rfl⟩
  have lt_P_R := P.lt
  rw [hgR] at lt_P_R
  have lt_X_R := X.lt
  rw [hgR] at lt_X_R
  have R := Blk.newV hgR 35 #[.int .i64 0, .int .i64 0, .int .i64 0, .int .i64 0, .int .i64 0, .int .i64 0, .int .i64 0, .int .i64 0, .string ⟨#[]⟩, .bool false, .bool false, .bool false, .bool false, .bool false, .bool false, .bool false, .bool false, .bool false, .bool false, .bool false, .bool false, .bool false, .bool false, .bool false, .bool false, .bool false, .bool false, .int .i64 0, .int .i64 0, .int .i64 0, .int .i64 0, .int .i64 0, .string ⟨#[]⟩, .int .i64 0, .int .i64 0]
  have hbn := (Below.refl (w2).heap.size w2).alloc (Nat.le_refl _) (.cells #[.int .i64 0, .int .i64 0, .int .i64 0, .int .i64 0, .int .i64 0, .int .i64 0, .int .i64 0, .int .i64 0, .string ⟨#[]⟩, .bool false, .bool false, .bool false, .bool false, .bool false, .bool false, .bool false, .bool false, .bool false, .bool false, .bool false, .bool false, .bool false, .bool false, .bool false, .bool false, .bool false, .bool false, .int .i64 0, .int .i64 0, .int .i64 0, .int .i64 0, .int .i64 0, .string ⟨#[]⟩, .int .i64 0, .int .i64 0] 35)
  replace hb := hb.step hbn
  replace P := P.step hbn
  replace X := X.step hbn
  clear hbn
  have egR : gX + 1 = gR := szX.symm.trans hgR
  rw [egR]
  clear szX
  generalize (w2).alloc (.cells #[.int .i64 0, .int .i64 0, .int .i64 0, .int .i64 0, .int .i64 0, .int .i64 0, .int .i64 0, .int .i64 0, .string ⟨#[]⟩, .bool false, .bool false, .bool false, .bool false, .bool false, .bool false, .bool false, .bool false, .bool false, .bool false, .bool false, .bool false, .bool false, .bool false, .bool false, .bool false, .bool false, .bool false, .int .i64 0, .int .i64 0, .int .i64 0, .int .i64 0, .int .i64 0, .string ⟨#[]⟩, .int .i64 0, .int .i64 0] 35) = w3 at *
  have hwR : w.heap.size ≤ gR := by omega
  have hwP : w.heap.size ≤ gP := by omega
  have hPR : gP ≠ gR := by omega
  have hPX : gP ≠ gX := by omega
  clear hgP hgX hgR egR egX
  replace P : QW w3 gP A := ⟨by simpa using P, hp, ha⟩
  have X_0 := extA_cell (X.cell (j := 0) rfl)
  have X_1 := extA_cell (X.cell (j := 1) rfl)
  have X_2 := extA_cell (X.cell (j := 2) rfl)
  have X_3 := extA_cell (X.cell (j := 3) rfl)
  have X_4 := extA_cell (X.cell (j := 4) rfl)
  have X_5 := extA_cell (X.cell (j := 5) rfl)
  go_cut [8] from 10 (fun v wx => v = .bool (N1 && N2) ∧ ExtA w3 wx)
  case first =>
    cases N1
    · refine wp_region_extB (by kernel_rfl) (by kernel_rfl) ?_
      repeat
        (first
          | go_big_quiet_skip
          | (go_big_quiet_want
             go_big_quiet_op
             first
               | go_big_quiet_on
               | (apply Exists.intro
                  refine ⟨fun w' hC9 => ?_, ?_⟩
                  · (first
                      | with_reducible rfl
                      | (go_at_call 109; refine (none14ref_any _).mono ?_; rintro e w2 ⟨rfl, hb9⟩; exact ⟨rfl, extA_then hC9 hb9⟩)
                      | (go_simp; done)
                      | (go_simp; with_reducible rfl))
                  go_big_quiet_on)))
      refine wpQuiet_nil ?_
      intro w4 hq
      go_wp2_with fail
      go_meet
      case rel => exact ⟨by simp, hq⟩
    · refine wp_region_extB (by kernel_rfl) (by kernel_rfl) ?_
      repeat
        (first
          | go_big_quiet_skip
          | (go_big_quiet_want
             go_big_quiet_op
             first
               | go_big_quiet_on
               | (apply Exists.intro
                  refine ⟨fun w' hC9 => ?_, ?_⟩
                  · (first
                      | with_reducible rfl
                      | (go_at_call 109; refine (none14ref_any _).mono ?_; rintro e w2 ⟨rfl, hb9⟩; exact ⟨rfl, extA_then hC9 hb9⟩)
                      | (go_simp; done)
                      | (go_simp; with_reducible rfl))
                  go_big_quiet_on)))
      refine wpQuiet_nil ?_
      intro w4 hq
      go_wp2_with fail
      go_meet
      case rel => exact ⟨by simp, hq⟩
  case' rest =>
    obtain ⟨rfl, hq⟩ := hcut
    clear X_0 X_1 X_2 X_3 X_4 X_5 heb hee
    replace hb := hb.step hq
    replace P := P.step hq
    replace R := R.step hq
    replace X := X.step hq
    clear hq
  go_upto_region 2 with fail
  have p0 := P.q0
  have p1 := P.q1
  have X_0 := X.cell (j := 0) rfl
  have X_1 := X.cell (j := 1) rfl
  have X_2 := X.cell (j := 2) rfl
  have X_3 := X.cell (j := 3) rfl
  have X_4 := X.cell (j := 4) rfl
  have X_5 := X.cell (j := 5) rfl
  go_cut [9] from 20 (fun v wx => v = .bool MT ∧ Below wc.heap.size wc wx)
  case first =>
    go_wp2_with fail
    refine (cM _).mono ?_
    rintro e wa ⟨rfl, h1⟩
    cases M
    · go_wp2_with fail
      go_meet
      case rel => exact ⟨by rw [← hMT]; simp, h1⟩
    · have P1 := P.step h1
      have X1 := X.step h1
      clear p0 p1 X_0 X_1 X_2 X_3 X_4 X_5
      have p2 := P1.q2
      have p3 := P1.q3
      have X1_0 := X1.cell (j := 0) rfl
      have X1_1 := X1.cell (j := 1) rfl
      have X1_2 := X1.cell (j := 2) rfl
      have X1_3 := X1.cell (j := 3) rfl
      have X1_4 := X1.cell (j := 4) rfl
      have X1_5 := X1.cell (j := 5) rfl
      go_wp2_with fail
      refine (cL _).mono ?_
      rintro e wb ⟨rfl, h2⟩
      cases Lb
      · go_wp2_with fail
        go_meet
        case rel => exact ⟨by rw [← hMT]; simp, h1.trans (h2.mono h1.size)⟩
      · have X2 := X1.step h2
        clear p2 p3 X1_0 X1_1 X1_2 X1_3 X1_4 X1_5
        have X2_0 := X2.cell (j := 0) rfl
        have X2_1 := X2.cell (j := 1) rfl
        have X2_2 := X2.cell (j := 2) rfl
        have X2_3 := X2.cell (j := 3) rfl
        have X2_4 := X2.cell (j := 4) rfl
        have X2_5 := X2.cell (j := 5) rfl
        go_wp2_with fail
        refine (cE _).mono ?_
        rintro e wd ⟨rfl, h3⟩
        go_wp2_with fail
        go_meet
        case rel => exact ⟨by rw [← hMT]; simp, h1.trans ((h2.mono h1.size).trans (h3.mono (Nat.le_trans h1.size h2.size)))⟩
  case' rest =>
    obtain ⟨rfl, hq⟩ := hcut
    clear p0 p1 X_0 X_1 X_2 X_3 X_4 X_5 cM cL cE hMT
    replace hb := hb.step hq
    replace P := P.step hq
    replace R := R.step hq
    replace X := X.step hq
    clear hq
    have p0 := P.q0
  rw [hin] at cP
  rw [ht] at htold
  obtain ⟨NN, hNN⟩ : ∃ NN, (N1 && N2) = NN := ⟨_, rfl⟩
  rw [hNN] at htold ⊢
  clear hNN
  go_upto_region 3 with fail
  go_cut [51] from 39 (fun v wx => v = .bool false ∧ wx = wc)
  case first =>
    cases NN
    · cases MT
      · simp at htold
      · clear htold ht
        go_wp2_with fail
        refine (cP _).mono ?_
        rintro e wx ⟨rfl, rfl⟩
        go_wp2_with fail
        go_meet
        case rel => exact ⟨rfl, rfl⟩
    · clear htold ht
      go_wp2_with fail
      refine (cP _).mono ?_
      rintro e wx ⟨rfl, rfl⟩
      go_wp2_with fail
      go_meet
      case rel => exact ⟨rfl, rfl⟩
  case' rest =>
    obtain ⟨rfl, rfl⟩ := hcut
    clear p0 htold
    have p4 := P.q4
  subst hpl
  rw [hph] at p4
  have cj := P.qpr j hj
  rw [hw] at cj
  have j0 : (0 : Int) ≤ (j : Int) := by omega
  have j9 : (j : Int) < 9 := by omega
  go_upto_region 6 with fail
  apply wp_region_lit
  refine wpList_load_row rfl 35 (.tmp 3) rfl gP (by kernel_rfl) _ _ (0, 0) _ P.1 Tryz.underlying35 rfl (qinfo P.2.1 P.2.2) ?_
  dsimp only [Act.put]
  refine wpList_store_rowTo rfl 35 (.tmp 6) (.tmp 62) rfl rfl gR (qL (A)).toArray (by kernel_rfl) (by kernel_rfl) _ _ R (qinfo P.2.1 P.2.2) (by rw [qsize P.2.1 P.2.2]; rfl) (qone _) ?_
  have hkn := kx_row wc gR (qL (A)).toArray
  replace R := R.row (qL (A))
  replace hb := hb.kx hkn (by simp; omega)
  generalize wc.setRow gR (qL (A)).toArray = w9 at *
  refine wpList_pure (v := ?_) rfl ?_ ?_
  rotate_left
  · go_simp
    try with_reducible rfl
  dsimp only [Act.put]
  refine wpList_nil ?_
  go_wp2_with fail
  (try simp only [Exit.inBlock, Exit.then])
  exact bodyPost_ret (res_cell1t rfl (by kernel_rfl) (by kernel_rfl) (run_loadVar_row _ _ _ _ _ (0, 0) _ R Tryz.underlying35 rfl (qinfo P.2.1 P.2.2))) rfl ⟨rfl, hb⟩
end Go.Proofs.YtcahkcbenanfnaaGreatDoor
