
/- The document's acceptor: Of. -/
import Derived.Test.YtcokbljlgbcpkaaDoorAdQ
namespace Go.Proofs.YtcokbljlgbcpkaaDoor
open Go.RowKit
set_option maxRecDepth 100000 in
set_option maxHeartbeats 1000000 in
theorem refOf_right (c sl r p ar ap k m n : Int) (s : ByteArray) (w : World) (h1 : rightB c = false) :
    Calls Tryd.prog 26 #[.int .i64 c, .int .i64 sl, .agg #[.int .i64 r, .int .i64 p], .agg #[.int .i64 ar, .int .i64 ap, .int .i64 k, .int .i64 m, .int .i64 n, .string s]] w
      fun e w' => e = .returned (.tuple #[.agg #[.int .i64 0, .int .i64 0, .int .i64 0, .int .i64 0, .int .i64 0, .int .i64 0, .int .i64 0, .int .i64 0, .int .i64 0, .string ⟨#[]⟩], .int .i64 2]) ∧ Below w.heap.size w w' := by
  have H1 := Lib.hid h1
  clear h1
  have hb := From.refl w
  go_enter Tryd.func26, Tryd.ntmps26
  go_upto_region 1 with fail
  obtain ⟨gP, hgP⟩ : ∃ g, (w).heap.size = g := ⟨_, rfl⟩
  have P := Blk.newV hgP 36 #[.int .i64 r, .int .i64 p]
  have hbn := (Below.refl (w).heap.size w).alloc (Nat.le_refl _) (.cells #[.int .i64 r, .int .i64 p] 36)
  replace hb := hb.step hbn
  clear hbn
  rw [hgP]
  have szP := alloc_size hgP (.cells #[.int .i64 r, .int .i64 p] 36)
  generalize (w).alloc (.cells #[.int .i64 r, .int .i64 p] 36) = w1 at *
  obtain ⟨gX, hgX⟩ : ∃ g, (w1).heap.size = g := ⟨_, rfl⟩
  have lt_P_X := P.lt
  rw [hgX] at lt_P_X
  have X := Blk.newV hgX 39 #[.int .i64 ar, .int .i64 ap, .int .i64 k, .int .i64 m, .int .i64 n, .string s]
  have hbn := (Below.refl (w1).heap.size w1).alloc (Nat.le_refl _) (.cells #[.int .i64 ar, .int .i64 ap, .int .i64 k, .int .i64 m, .int .i64 n, .string s] 39)
  replace hb := hb.step hbn
  replace P := P.step hbn
  clear hbn
  have egX : gP + 1 = gX := szP.symm.trans hgX
  rw [egX]
  clear szP
  have szX := alloc_size hgX (.cells #[.int .i64 ar, .int .i64 ap, .int .i64 k, .int .i64 m, .int .i64 n, .string s] 39)
  generalize (w1).alloc (.cells #[.int .i64 ar, .int .i64 ap, .int .i64 k, .int .i64 m, .int .i64 n, .string s] 39) = w2 at *
  obtain ⟨gR, hgR⟩ : ∃ g, (w2).heap.size = g := ⟨_, rfl⟩
  have lt_P_R := P.lt
  rw [hgR] at lt_P_R
  have lt_X_R := X.lt
  rw [hgR] at lt_X_R
  have R := Blk.newV hgR 51 #[.int .i64 0, .int .i64 0, .int .i64 0, .int .i64 0, .int .i64 0, .int .i64 0, .int .i64 0, .int .i64 0, .int .i64 0, .string ⟨#[]⟩]
  have hbn := (Below.refl (w2).heap.size w2).alloc (Nat.le_refl _) (.cells #[.int .i64 0, .int .i64 0, .int .i64 0, .int .i64 0, .int .i64 0, .int .i64 0, .int .i64 0, .int .i64 0, .int .i64 0, .string ⟨#[]⟩] 51)
  replace hb := hb.step hbn
  replace P := P.step hbn
  replace X := X.step hbn
  clear hbn
  have egR : gX + 1 = gR := szX.symm.trans hgR
  rw [egR]
  clear szX
  generalize (w2).alloc (.cells #[.int .i64 0, .int .i64 0, .int .i64 0, .int .i64 0, .int .i64 0, .int .i64 0, .int .i64 0, .int .i64 0, .int .i64 0, .string ⟨#[]⟩] 51) = w3 at *
  go_wp2_with fail
  refine (refRight_at c _ H1.out _).mono ?_
  rintro e w4 ⟨rfl, rfl⟩
  have R_0 := R.cell (j := 0) rfl
  have R_1 := R.cell (j := 1) rfl
  have R_2 := R.cell (j := 2) rfl
  have R_3 := R.cell (j := 3) rfl
  have R_4 := R.cell (j := 4) rfl
  have R_5 := R.cell (j := 5) rfl
  have R_6 := R.cell (j := 6) rfl
  have R_7 := R.cell (j := 7) rfl
  have R_8 := R.cell (j := 8) rfl
  have R_9 := R.cell (j := 9) rfl
  have Rf0 := R.frozen 0
  have Rf1 := R.frozen 1
  have Rf2 := R.frozen 2
  have Rf3 := R.frozen 3
  have Rf4 := R.frozen 4
  have Rf5 := R.frozen 5
  have Rf6 := R.frozen 6
  have Rf7 := R.frozen 7
  have Rf8 := R.frozen 8
  have Rf9 := R.frozen 9
  go_wp2
  (try simp only [Exit.inBlock, Exit.then])
  refine bodyPost_ret (v := .tuple #[.agg #[.int .i64 0, .int .i64 0, .int .i64 0, .int .i64 0, .int .i64 0, .int .i64 0, .int .i64 0, .int .i64 0, .int .i64 0, .string ⟨#[]⟩], .int .i64 2]) ?_ rfl ⟨rfl, ?_⟩
  · rw [r_cell1t rfl]
    go_simp
  · exact below10 hb.out (by omega) _ _ _ _ _ _ _ _ _ _
set_option maxRecDepth 100000 in
set_option maxHeartbeats 1000000 in
theorem refOf_slot (c sl r p ar ap k m n : Int) (s : ByteArray) (w : World) (h1 : rightB c = true) (h2 : slotB sl = false) :
    Calls Tryd.prog 26 #[.int .i64 c, .int .i64 sl, .agg #[.int .i64 r, .int .i64 p], .agg #[.int .i64 ar, .int .i64 ap, .int .i64 k, .int .i64 m, .int .i64 n, .string s]] w
      fun e w' => e = .returned (.tuple #[.agg #[.int .i64 0, .int .i64 0, .int .i64 0, .int .i64 0, .int .i64 0, .int .i64 0, .int .i64 0, .int .i64 0, .int .i64 0, .string ⟨#[]⟩], .int .i64 4]) ∧ Below w.heap.size w w' := by
  have H1 := Lib.hid h1
  clear h1
  have H2 := Lib.hid h2
  clear h2
  have hb := From.refl w
  go_enter Tryd.func26, Tryd.ntmps26
  go_upto_region 1 with fail
  obtain ⟨gP, hgP⟩ : ∃ g, (w).heap.size = g := ⟨_, rfl⟩
  have P := Blk.newV hgP 36 #[.int .i64 r, .int .i64 p]
  have hbn := (Below.refl (w).heap.size w).alloc (Nat.le_refl _) (.cells #[.int .i64 r, .int .i64 p] 36)
  replace hb := hb.step hbn
  clear hbn
  rw [hgP]
  have szP := alloc_size hgP (.cells #[.int .i64 r, .int .i64 p] 36)
  generalize (w).alloc (.cells #[.int .i64 r, .int .i64 p] 36) = w1 at *
  obtain ⟨gX, hgX⟩ : ∃ g, (w1).heap.size = g := ⟨_, rfl⟩
  have lt_P_X := P.lt
  rw [hgX] at lt_P_X
  have X := Blk.newV hgX 39 #[.int .i64 ar, .int .i64 ap, .int .i64 k, .int .i64 m, .int .i64 n, .string s]
  have hbn := (Below.refl (w1).heap.size w1).alloc (Nat.le_refl _) (.cells #[.int .i64 ar, .int .i64 ap, .int .i64 k, .int .i64 m, .int .i64 n, .string s] 39)
  replace hb := hb.step hbn
  replace P := P.step hbn
  clear hbn
  have egX : gP + 1 = gX := szP.symm.trans hgX
  rw [egX]
  clear szP
  have szX := alloc_size hgX (.cells #[.int .i64 ar, .int .i64 ap, .int .i64 k, .int .i64 m, .int .i64 n, .string s] 39)
  generalize (w1).alloc (.cells #[.int .i64 ar, .int .i64 ap, .int .i64 k, .int .i64 m, .int .i64 n, .string s] 39) = w2 at *
  obtain ⟨gR, hgR⟩ : ∃ g, (w2).heap.size = g := ⟨_, rfl⟩
  have lt_P_R := P.lt
  rw [hgR] at lt_P_R
  have lt_X_R := X.lt
  rw [hgR] at lt_X_R
  have R := Blk.newV hgR 51 #[.int .i64 0, .int .i64 0, .int .i64 0, .int .i64 0, .int .i64 0, .int .i64 0, .int .i64 0, .int .i64 0, .int .i64 0, .string ⟨#[]⟩]
  have hbn := (Below.refl (w2).heap.size w2).alloc (Nat.le_refl _) (.cells #[.int .i64 0, .int .i64 0, .int .i64 0, .int .i64 0, .int .i64 0, .int .i64 0, .int .i64 0, .int .i64 0, .int .i64 0, .string ⟨#[]⟩] 51)
  replace hb := hb.step hbn
  replace P := P.step hbn
  replace X := X.step hbn
  clear hbn
  have egR : gX + 1 = gR := szX.symm.trans hgR
  rw [egR]
  clear szX
  generalize (w2).alloc (.cells #[.int .i64 0, .int .i64 0, .int .i64 0, .int .i64 0, .int .i64 0, .int .i64 0, .int .i64 0, .int .i64 0, .int .i64 0, .string ⟨#[]⟩] 51) = w3 at *
  go_wp2_with fail
  refine (refRight_at c _ H1.out _).mono ?_
  rintro e w4 ⟨rfl, rfl⟩
  go_wp2_with fail
  refine (refSlot_at sl _ H2.out _).mono ?_
  rintro e w5 ⟨rfl, rfl⟩
  have R_0 := R.cell (j := 0) rfl
  have R_1 := R.cell (j := 1) rfl
  have R_2 := R.cell (j := 2) rfl
  have R_3 := R.cell (j := 3) rfl
  have R_4 := R.cell (j := 4) rfl
  have R_5 := R.cell (j := 5) rfl
  have R_6 := R.cell (j := 6) rfl
  have R_7 := R.cell (j := 7) rfl
  have R_8 := R.cell (j := 8) rfl
  have R_9 := R.cell (j := 9) rfl
  have Rf0 := R.frozen 0
  have Rf1 := R.frozen 1
  have Rf2 := R.frozen 2
  have Rf3 := R.frozen 3
  have Rf4 := R.frozen 4
  have Rf5 := R.frozen 5
  have Rf6 := R.frozen 6
  have Rf7 := R.frozen 7
  have Rf8 := R.frozen 8
  have Rf9 := R.frozen 9
  go_wp2
  (try simp only [Exit.inBlock, Exit.then])
  refine bodyPost_ret (v := .tuple #[.agg #[.int .i64 0, .int .i64 0, .int .i64 0, .int .i64 0, .int .i64 0, .int .i64 0, .int .i64 0, .int .i64 0, .int .i64 0, .string ⟨#[]⟩], .int .i64 4]) ?_ rfl ⟨rfl, ?_⟩
  · rw [r_cell1t rfl]
    go_simp
  · exact below10 hb.out (by omega) _ _ _ _ _ _ _ _ _ _
set_option maxRecDepth 100000 in
set_option maxHeartbeats 1000000 in
theorem refOf_may (c sl r p ar ap k m n : Int) (s : ByteArray) (w : World) (h1 : rightB c = true) (h2 : slotB sl = true) (h3 : mayB c sl r p = false) :
    Calls Tryd.prog 26 #[.int .i64 c, .int .i64 sl, .agg #[.int .i64 r, .int .i64 p], .agg #[.int .i64 ar, .int .i64 ap, .int .i64 k, .int .i64 m, .int .i64 n, .string s]] w
      fun e w' => e = .returned (.tuple #[.agg #[.int .i64 0, .int .i64 0, .int .i64 0, .int .i64 0, .int .i64 0, .int .i64 0, .int .i64 0, .int .i64 0, .int .i64 0, .string ⟨#[]⟩], .int .i64 2]) ∧ Below w.heap.size w w' := by
  have H1 := Lib.hid h1
  clear h1
  have H2 := Lib.hid h2
  clear h2
  have cM := fun W => refMay_any c sl r p W
  rw [h3] at cM
  clear h3
  have hb := From.refl w
  go_enter Tryd.func26, Tryd.ntmps26
  go_upto_region 1 with fail
  obtain ⟨gP, hgP⟩ : ∃ g, (w).heap.size = g := ⟨_, rfl⟩
  have P := Blk.newV hgP 36 #[.int .i64 r, .int .i64 p]
  have hbn := (Below.refl (w).heap.size w).alloc (Nat.le_refl _) (.cells #[.int .i64 r, .int .i64 p] 36)
  replace hb := hb.step hbn
  clear hbn
  rw [hgP]
  have szP := alloc_size hgP (.cells #[.int .i64 r, .int .i64 p] 36)
  generalize (w).alloc (.cells #[.int .i64 r, .int .i64 p] 36) = w1 at *
  obtain ⟨gX, hgX⟩ : ∃ g, (w1).heap.size = g := ⟨_, rfl⟩
  have lt_P_X := P.lt
  rw [hgX] at lt_P_X
  have X := Blk.newV hgX 39 #[.int .i64 ar, .int .i64 ap, .int .i64 k, .int .i64 m, .int .i64 n, .string s]
  have hbn := (Below.refl (w1).heap.size w1).alloc (Nat.le_refl _) (.cells #[.int .i64 ar, .int .i64 ap, .int .i64 k, .int .i64 m, .int .i64 n, .string s] 39)
  replace hb := hb.step hbn
  replace P := P.step hbn
  clear hbn
  have egX : gP + 1 = gX := szP.symm.trans hgX
  rw [egX]
  clear szP
  have szX := alloc_size hgX (.cells #[.int .i64 ar, .int .i64 ap, .int .i64 k, .int .i64 m, .int .i64 n, .string s] 39)
  generalize (w1).alloc (.cells #[.int .i64 ar, .int .i64 ap, .int .i64 k, .int .i64 m, .int .i64 n, .string s] 39) = w2 at *
  obtain ⟨gR, hgR⟩ : ∃ g, (w2).heap.size = g := ⟨_, rfl⟩
  have lt_P_R := P.lt
  rw [hgR] at lt_P_R
  have lt_X_R := X.lt
  rw [hgR] at lt_X_R
  have R := Blk.newV hgR 51 #[.int .i64 0, .int .i64 0, .int .i64 0, .int .i64 0, .int .i64 0, .int .i64 0, .int .i64 0, .int .i64 0, .int .i64 0, .string ⟨#[]⟩]
  have hbn := (Below.refl (w2).heap.size w2).alloc (Nat.le_refl _) (.cells #[.int .i64 0, .int .i64 0, .int .i64 0, .int .i64 0, .int .i64 0, .int .i64 0, .int .i64 0, .int .i64 0, .int .i64 0, .string ⟨#[]⟩] 51)
  replace hb := hb.step hbn
  replace P := P.step hbn
  replace X := X.step hbn
  clear hbn
  have egR : gX + 1 = gR := szX.symm.trans hgR
  rw [egR]
  clear szX
  generalize (w2).alloc (.cells #[.int .i64 0, .int .i64 0, .int .i64 0, .int .i64 0, .int .i64 0, .int .i64 0, .int .i64 0, .int .i64 0, .int .i64 0, .string ⟨#[]⟩] 51) = w3 at *
  go_wp2_with fail
  refine (refRight_at c _ H1.out _).mono ?_
  rintro e w4 ⟨rfl, rfl⟩
  go_wp2_with fail
  refine (refSlot_at sl _ H2.out _).mono ?_
  rintro e w5 ⟨rfl, rfl⟩
  have P_0 := P.cell (j := 0) rfl
  have P_1 := P.cell (j := 1) rfl
  go_wp2_with fail
  refine (cM _).mono ?_
  rintro e w6 ⟨rfl, hbn⟩
  replace hb := hb.step hbn
  replace P := P.step hbn
  replace P_0 := P.cell (j := 0) rfl
  replace P_1 := P.cell (j := 1) rfl
  replace X := X.step hbn
  replace R := R.step hbn
  clear hbn
  have R_0 := R.cell (j := 0) rfl
  have R_1 := R.cell (j := 1) rfl
  have R_2 := R.cell (j := 2) rfl
  have R_3 := R.cell (j := 3) rfl
  have R_4 := R.cell (j := 4) rfl
  have R_5 := R.cell (j := 5) rfl
  have R_6 := R.cell (j := 6) rfl
  have R_7 := R.cell (j := 7) rfl
  have R_8 := R.cell (j := 8) rfl
  have R_9 := R.cell (j := 9) rfl
  have Rf0 := R.frozen 0
  have Rf1 := R.frozen 1
  have Rf2 := R.frozen 2
  have Rf3 := R.frozen 3
  have Rf4 := R.frozen 4
  have Rf5 := R.frozen 5
  have Rf6 := R.frozen 6
  have Rf7 := R.frozen 7
  have Rf8 := R.frozen 8
  have Rf9 := R.frozen 9
  go_wp2
  (try simp only [Exit.inBlock, Exit.then])
  refine bodyPost_ret (v := .tuple #[.agg #[.int .i64 0, .int .i64 0, .int .i64 0, .int .i64 0, .int .i64 0, .int .i64 0, .int .i64 0, .int .i64 0, .int .i64 0, .string ⟨#[]⟩], .int .i64 2]) ?_ rfl ⟨rfl, ?_⟩
  · rw [r_cell1t rfl]
    go_simp
  · exact below10 hb.out (by omega) _ _ _ _ _ _ _ _ _ _
set_option maxRecDepth 100000 in
set_option maxHeartbeats 1000000 in
theorem refOf_rest (c sl r p ar ap k m n : Int) (s : ByteArray) (w : World) (h1 : rightB c = true) (h2 : slotB sl = true) (h3 : mayB c sl r p = true) (hr : ar = -1) (hp : ap = 0) (he : emptB k m n s = false) :
    Calls Tryd.prog 26 #[.int .i64 c, .int .i64 sl, .agg #[.int .i64 r, .int .i64 p], .agg #[.int .i64 ar, .int .i64 ap, .int .i64 k, .int .i64 m, .int .i64 n, .string s]] w
      fun e w' => e = .returned (.tuple #[.agg #[.int .i64 0, .int .i64 0, .int .i64 0, .int .i64 0, .int .i64 0, .int .i64 0, .int .i64 0, .int .i64 0, .int .i64 0, .string ⟨#[]⟩], .int .i64 2]) ∧ Below w.heap.size w w' := by
  subst hr hp
  have hNE := fun W => ne_entry k m n s 0 0 0 ⟨#[]⟩ W
  unfold emptB at he
  rw [he] at hNE
  clear he
  have H1 := Lib.hid h1
  clear h1
  have H2 := Lib.hid h2
  clear h2
  have cM := fun W => refMay_any c sl r p W
  rw [h3] at cM
  clear h3
  have hb := From.refl w
  go_enter Tryd.func26, Tryd.ntmps26
  go_upto_region 1 with fail
  obtain ⟨gP, hgP⟩ : ∃ g, (w).heap.size = g := ⟨_, rfl⟩
  have P := Blk.newV hgP 36 #[.int .i64 r, .int .i64 p]
  have hbn := (Below.refl (w).heap.size w).alloc (Nat.le_refl _) (.cells #[.int .i64 r, .int .i64 p] 36)
  replace hb := hb.step hbn
  clear hbn
  rw [hgP]
  have szP := alloc_size hgP (.cells #[.int .i64 r, .int .i64 p] 36)
  generalize (w).alloc (.cells #[.int .i64 r, .int .i64 p] 36) = w1 at *
  obtain ⟨gX, hgX⟩ : ∃ g, (w1).heap.size = g := ⟨_, rfl⟩
  have lt_P_X := P.lt
  rw [hgX] at lt_P_X
  have X := Blk.newV hgX 39 #[.int .i64 (-1), .int .i64 0, .int .i64 k, .int .i64 m, .int .i64 n, .string s]
  have hbn := (Below.refl (w1).heap.size w1).alloc (Nat.le_refl _) (.cells #[.int .i64 (-1), .int .i64 0, .int .i64 k, .int .i64 m, .int .i64 n, .string s] 39)
  replace hb := hb.step hbn
  replace P := P.step hbn
  clear hbn
  have egX : gP + 1 = gX := szP.symm.trans hgX
  rw [egX]
  clear szP
  have szX := alloc_size hgX (.cells #[.int .i64 (-1), .int .i64 0, .int .i64 k, .int .i64 m, .int .i64 n, .string s] 39)
  generalize (w1).alloc (.cells #[.int .i64 (-1), .int .i64 0, .int .i64 k, .int .i64 m, .int .i64 n, .string s] 39) = w2 at *
  obtain ⟨gR, hgR⟩ : ∃ g, (w2).heap.size = g := ⟨_, rfl⟩
  have lt_P_R := P.lt
  rw [hgR] at lt_P_R
  have lt_X_R := X.lt
  rw [hgR] at lt_X_R
  have R := Blk.newV hgR 51 #[.int .i64 0, .int .i64 0, .int .i64 0, .int .i64 0, .int .i64 0, .int .i64 0, .int .i64 0, .int .i64 0, .int .i64 0, .string ⟨#[]⟩]
  have hbn := (Below.refl (w2).heap.size w2).alloc (Nat.le_refl _) (.cells #[.int .i64 0, .int .i64 0, .int .i64 0, .int .i64 0, .int .i64 0, .int .i64 0, .int .i64 0, .int .i64 0, .int .i64 0, .string ⟨#[]⟩] 51)
  replace hb := hb.step hbn
  replace P := P.step hbn
  replace X := X.step hbn
  clear hbn
  have egR : gX + 1 = gR := szX.symm.trans hgR
  rw [egR]
  clear szX
  generalize (w2).alloc (.cells #[.int .i64 0, .int .i64 0, .int .i64 0, .int .i64 0, .int .i64 0, .int .i64 0, .int .i64 0, .int .i64 0, .int .i64 0, .string ⟨#[]⟩] 51) = w3 at *
  go_wp2_with fail
  refine (refRight_at c _ H1.out _).mono ?_
  rintro e w4 ⟨rfl, rfl⟩
  go_wp2_with fail
  refine (refSlot_at sl _ H2.out _).mono ?_
  rintro e w5 ⟨rfl, rfl⟩
  have P_0 := P.cell (j := 0) rfl
  have P_1 := P.cell (j := 1) rfl
  go_wp2_with fail
  refine (cM _).mono ?_
  rintro e w6 ⟨rfl, hbn⟩
  replace hb := hb.step hbn
  replace P := P.step hbn
  replace P_0 := P.cell (j := 0) rfl
  replace P_1 := P.cell (j := 1) rfl
  replace X := X.step hbn
  replace R := R.step hbn
  clear hbn
  go_upto_region 6 with fail
  clear P_0 P_1
  have X_0 := extA_cell (X.cell (j := 0) rfl)
  have X_1 := extA_cell (X.cell (j := 1) rfl)
  have X_2 := extA_cell (X.cell (j := 2) rfl)
  have X_3 := extA_cell (X.cell (j := 3) rfl)
  have X_4 := extA_cell (X.cell (j := 4) rfl)
  have X_5 := extA_cell (X.cell (j := 5) rfl)
  refine wp_region_extB (by kernel_rfl) (by kernel_rfl) ?_
  repeat
    (first
      | go_big_quiet_skip
      | (go_big_quiet_want
         go_big_quiet_op
         first
           | go_big_quiet_on
           | (apply Exists.intro
              refine ⟨fun w' hC => ?_, ?_⟩
              · (first
                  | with_reducible rfl
                  | (go_at_call 43; refine (none14ref_any _).mono ?_; rintro e w2 ⟨rfl, hb9⟩; exact ⟨rfl, extA_then hC hb9⟩)
                  | (go_simp; done)
                  | (go_simp; with_reducible rfl))
              go_big_quiet_on)))
  refine wpQuiet_nil ?_
  intro w7 hbn
  replace hb := hb.step hbn
  replace P := P.step hbn
  replace X := X.step hbn
  replace R := R.step hbn
  clear hbn
  clear X_0 X_1 X_2 X_3 X_4 X_5
  have X_0 := X.cell (j := 0) rfl
  have X_1 := X.cell (j := 1) rfl
  have X_2 := X.cell (j := 2) rfl
  have X_3 := X.cell (j := 3) rfl
  have X_4 := X.cell (j := 4) rfl
  have X_5 := X.cell (j := 5) rfl
  have R_0 := R.cell (j := 0) rfl
  have R_1 := R.cell (j := 1) rfl
  have R_2 := R.cell (j := 2) rfl
  have R_3 := R.cell (j := 3) rfl
  have R_4 := R.cell (j := 4) rfl
  have R_5 := R.cell (j := 5) rfl
  have R_6 := R.cell (j := 6) rfl
  have R_7 := R.cell (j := 7) rfl
  have R_8 := R.cell (j := 8) rfl
  have R_9 := R.cell (j := 9) rfl
  have Rf0 := R.frozen 0
  have Rf1 := R.frozen 1
  have Rf2 := R.frozen 2
  have Rf3 := R.frozen 3
  have Rf4 := R.frozen 4
  have Rf5 := R.frozen 5
  have Rf6 := R.frozen 6
  have Rf7 := R.frozen 7
  have Rf8 := R.frozen 8
  have Rf9 := R.frozen 9
  go_wp2
  (try simp only [Exit.inBlock, Exit.then])
  refine bodyPost_ret (v := .tuple #[.agg #[.int .i64 0, .int .i64 0, .int .i64 0, .int .i64 0, .int .i64 0, .int .i64 0, .int .i64 0, .int .i64 0, .int .i64 0, .string ⟨#[]⟩], .int .i64 2]) ?_ rfl ⟨rfl, ?_⟩
  · rw [r_cell1t rfl]
    go_simp
  · exact below10 hb.out (by omega) _ _ _ _ _ _ _ _ _ _
set_option maxRecDepth 100000 in
set_option maxHeartbeats 1000000 in
theorem refOf_ok0 (c sl r p ar ap k m n : Int) (s : ByteArray) (w : World) (h1 : rightB c = true) (h2 : slotB sl = true) (h3 : mayB c sl r p = true) (hr : ar = -1) (hp : ap = 0) (he : emptB k m n s = true) :
    Calls Tryd.prog 26 #[.int .i64 c, .int .i64 sl, .agg #[.int .i64 r, .int .i64 p], .agg #[.int .i64 ar, .int .i64 ap, .int .i64 k, .int .i64 m, .int .i64 n, .string s]] w
      fun e w' => e = .returned (.tuple #[.agg #[.int .i64 c, .int .i64 sl, .int .i64 r, .int .i64 p, .int .i64 ar, .int .i64 ap, .int .i64 k, .int .i64 m, .int .i64 n, .string s], .int .i64 0]) ∧ Below w.heap.size w w' := by
  subst hr hp
  have hNE := fun W => ne_entry k m n s 0 0 0 ⟨#[]⟩ W
  unfold emptB at he
  rw [he] at hNE
  clear he
  have H1 := Lib.hid h1
  clear h1
  have H2 := Lib.hid h2
  clear h2
  have cM := fun W => refMay_any c sl r p W
  rw [h3] at cM
  clear h3
  have hb := From.refl w
  go_enter Tryd.func26, Tryd.ntmps26
  go_upto_region 1 with fail
  obtain ⟨gP, hgP⟩ : ∃ g, (w).heap.size = g := ⟨_, rfl⟩
  have P := Blk.newV hgP 36 #[.int .i64 r, .int .i64 p]
  have hbn := (Below.refl (w).heap.size w).alloc (Nat.le_refl _) (.cells #[.int .i64 r, .int .i64 p] 36)
  replace hb := hb.step hbn
  clear hbn
  rw [hgP]
  have szP := alloc_size hgP (.cells #[.int .i64 r, .int .i64 p] 36)
  generalize (w).alloc (.cells #[.int .i64 r, .int .i64 p] 36) = w1 at *
  obtain ⟨gX, hgX⟩ : ∃ g, (w1).heap.size = g := ⟨_, rfl⟩
  have lt_P_X := P.lt
  rw [hgX] at lt_P_X
  have X := Blk.newV hgX 39 #[.int .i64 (-1), .int .i64 0, .int .i64 k, .int .i64 m, .int .i64 n, .string s]
  have hbn := (Below.refl (w1).heap.size w1).alloc (Nat.le_refl _) (.cells #[.int .i64 (-1), .int .i64 0, .int .i64 k, .int .i64 m, .int .i64 n, .string s] 39)
  replace hb := hb.step hbn
  replace P := P.step hbn
  clear hbn
  have egX : gP + 1 = gX := szP.symm.trans hgX
  rw [egX]
  clear szP
  have szX := alloc_size hgX (.cells #[.int .i64 (-1), .int .i64 0, .int .i64 k, .int .i64 m, .int .i64 n, .string s] 39)
  generalize (w1).alloc (.cells #[.int .i64 (-1), .int .i64 0, .int .i64 k, .int .i64 m, .int .i64 n, .string s] 39) = w2 at *
  obtain ⟨gR, hgR⟩ : ∃ g, (w2).heap.size = g := ⟨_, rfl⟩
  have lt_P_R := P.lt
  rw [hgR] at lt_P_R
  have lt_X_R := X.lt
  rw [hgR] at lt_X_R
  have R := Blk.newV hgR 51 #[.int .i64 0, .int .i64 0, .int .i64 0, .int .i64 0, .int .i64 0, .int .i64 0, .int .i64 0, .int .i64 0, .int .i64 0, .string ⟨#[]⟩]
  have hbn := (Below.refl (w2).heap.size w2).alloc (Nat.le_refl _) (.cells #[.int .i64 0, .int .i64 0, .int .i64 0, .int .i64 0, .int .i64 0, .int .i64 0, .int .i64 0, .int .i64 0, .int .i64 0, .string ⟨#[]⟩] 51)
  replace hb := hb.step hbn
  replace P := P.step hbn
  replace X := X.step hbn
  clear hbn
  have egR : gX + 1 = gR := szX.symm.trans hgR
  rw [egR]
  clear szX
  generalize (w2).alloc (.cells #[.int .i64 0, .int .i64 0, .int .i64 0, .int .i64 0, .int .i64 0, .int .i64 0, .int .i64 0, .int .i64 0, .int .i64 0, .string ⟨#[]⟩] 51) = w3 at *
  go_wp2_with fail
  refine (refRight_at c _ H1.out _).mono ?_
  rintro e w4 ⟨rfl, rfl⟩
  go_wp2_with fail
  refine (refSlot_at sl _ H2.out _).mono ?_
  rintro e w5 ⟨rfl, rfl⟩
  have P_0 := P.cell (j := 0) rfl
  have P_1 := P.cell (j := 1) rfl
  go_wp2_with fail
  refine (cM _).mono ?_
  rintro e w6 ⟨rfl, hbn⟩
  replace hb := hb.step hbn
  replace P := P.step hbn
  replace P_0 := P.cell (j := 0) rfl
  replace P_1 := P.cell (j := 1) rfl
  replace X := X.step hbn
  replace R := R.step hbn
  clear hbn
  go_upto_region 6 with fail
  clear P_0 P_1
  have X_0 := extA_cell (X.cell (j := 0) rfl)
  have X_1 := extA_cell (X.cell (j := 1) rfl)
  have X_2 := extA_cell (X.cell (j := 2) rfl)
  have X_3 := extA_cell (X.cell (j := 3) rfl)
  have X_4 := extA_cell (X.cell (j := 4) rfl)
  have X_5 := extA_cell (X.cell (j := 5) rfl)
  refine wp_region_extB (by kernel_rfl) (by kernel_rfl) ?_
  repeat
    (first
      | go_big_quiet_skip
      | (go_big_quiet_want
         go_big_quiet_op
         first
           | go_big_quiet_on
           | (apply Exists.intro
              refine ⟨fun w' hC => ?_, ?_⟩
              · (first
                  | with_reducible rfl
                  | (go_at_call 43; refine (none14ref_any _).mono ?_; rintro e w2 ⟨rfl, hb9⟩; exact ⟨rfl, extA_then hC hb9⟩)
                  | (go_simp; done)
                  | (go_simp; with_reducible rfl))
              go_big_quiet_on)))
  refine wpQuiet_nil ?_
  intro w7 hbn
  replace hb := hb.step hbn
  replace P := P.step hbn
  replace X := X.step hbn
  replace R := R.step hbn
  clear hbn
  clear X_0 X_1 X_2 X_3 X_4 X_5
  have P_0 := P.cell (j := 0) rfl
  have P_1 := P.cell (j := 1) rfl
  have X_0 := X.cell (j := 0) rfl
  have X_1 := X.cell (j := 1) rfl
  have X_2 := X.cell (j := 2) rfl
  have X_3 := X.cell (j := 3) rfl
  have X_4 := X.cell (j := 4) rfl
  have X_5 := X.cell (j := 5) rfl
  have R_0 := R.cell (j := 0) rfl
  have R_1 := R.cell (j := 1) rfl
  have R_2 := R.cell (j := 2) rfl
  have R_3 := R.cell (j := 3) rfl
  have R_4 := R.cell (j := 4) rfl
  have R_5 := R.cell (j := 5) rfl
  have R_6 := R.cell (j := 6) rfl
  have R_7 := R.cell (j := 7) rfl
  have R_8 := R.cell (j := 8) rfl
  have R_9 := R.cell (j := 9) rfl
  have Rf0 := R.frozen 0
  have Rf1 := R.frozen 1
  have Rf2 := R.frozen 2
  have Rf3 := R.frozen 3
  have Rf4 := R.frozen 4
  have Rf5 := R.frozen 5
  have Rf6 := R.frozen 6
  have Rf7 := R.frozen 7
  have Rf8 := R.frozen 8
  have Rf9 := R.frozen 9
  go_wp2
  (try simp only [Exit.inBlock, Exit.then])
  refine bodyPost_ret (v := .tuple #[.agg #[.int .i64 c, .int .i64 sl, .int .i64 r, .int .i64 p, .int .i64 (-1), .int .i64 0, .int .i64 k, .int .i64 m, .int .i64 n, .string s], .int .i64 0]) ?_ rfl ⟨rfl, ?_⟩
  · rw [r_cell1t rfl]
    go_simp
  · exact below10 hb.out (by omega) _ _ _ _ _ _ _ _ _ _
set_option maxRecDepth 100000 in
set_option maxHeartbeats 1000000 in
theorem refOf_not (c sl r p ar ap k m n : Int) (s : ByteArray) (w : World) (hs : s.size ≤ 9223372036854775807) (h1 : rightB c = true) (h2 : slotB sl = true) (h3 : mayB c sl r p = true) (hn : (ar == -1 && ap == 0) = false) (hv : (mayB c sl ar ap && (entB k m n s && !lessB r p ar ap)) = false) :
    Calls Tryd.prog 26 #[.int .i64 c, .int .i64 sl, .agg #[.int .i64 r, .int .i64 p], .agg #[.int .i64 ar, .int .i64 ap, .int .i64 k, .int .i64 m, .int .i64 n, .string s]] w
      fun e w' => e = .returned (.tuple #[.agg #[.int .i64 0, .int .i64 0, .int .i64 0, .int .i64 0, .int .i64 0, .int .i64 0, .int .i64 0, .int .i64 0, .int .i64 0, .string ⟨#[]⟩], .int .i64 2]) ∧ Below w.heap.size w w' := by
  have hEB := fun W => eq_ballot ar ap (-1) 0 W
  rw [show eq2 ar ap (-1) 0 = false by unfold eq2; simpa using hn] at hEB
  clear hn
  have cN := fun W => refMay_any c sl ar ap W
  have cE := fun W => ref14_any k m n s W hs
  have cL := fun W => refLess_at r p ar ap _ rfl W
  cases h4 : mayB c sl ar ap
  · rw [h4] at cN
    clear hv h4 cE cL
    have H1 := Lib.hid h1
    clear h1
    have H2 := Lib.hid h2
    clear h2
    have cM := fun W => refMay_any c sl r p W
    rw [h3] at cM
    clear h3
    have hb := From.refl w
    go_enter Tryd.func26, Tryd.ntmps26
    go_upto_region 1 with fail
    obtain ⟨gP, hgP⟩ : ∃ g, (w).heap.size = g := ⟨_, rfl⟩
    have P := Blk.newV hgP 36 #[.int .i64 r, .int .i64 p]
    have hbn := (Below.refl (w).heap.size w).alloc (Nat.le_refl _) (.cells #[.int .i64 r, .int .i64 p] 36)
    replace hb := hb.step hbn
    clear hbn
    rw [hgP]
    have szP := alloc_size hgP (.cells #[.int .i64 r, .int .i64 p] 36)
    generalize (w).alloc (.cells #[.int .i64 r, .int .i64 p] 36) = w1 at *
    obtain ⟨gX, hgX⟩ : ∃ g, (w1).heap.size = g := ⟨_, rfl⟩
    have lt_P_X := P.lt
    rw [hgX] at lt_P_X
    have X := Blk.newV hgX 39 #[.int .i64 ar, .int .i64 ap, .int .i64 k, .int .i64 m, .int .i64 n, .string s]
    have hbn := (Below.refl (w1).heap.size w1).alloc (Nat.le_refl _) (.cells #[.int .i64 ar, .int .i64 ap, .int .i64 k, .int .i64 m, .int .i64 n, .string s] 39)
    replace hb := hb.step hbn
    replace P := P.step hbn
    clear hbn
    have egX : gP + 1 = gX := szP.symm.trans hgX
    rw [egX]
    clear szP
    have szX := alloc_size hgX (.cells #[.int .i64 ar, .int .i64 ap, .int .i64 k, .int .i64 m, .int .i64 n, .string s] 39)
    generalize (w1).alloc (.cells #[.int .i64 ar, .int .i64 ap, .int .i64 k, .int .i64 m, .int .i64 n, .string s] 39) = w2 at *
    obtain ⟨gR, hgR⟩ : ∃ g, (w2).heap.size = g := ⟨_, rfl⟩
    have lt_P_R := P.lt
    rw [hgR] at lt_P_R
    have lt_X_R := X.lt
    rw [hgR] at lt_X_R
    have R := Blk.newV hgR 51 #[.int .i64 0, .int .i64 0, .int .i64 0, .int .i64 0, .int .i64 0, .int .i64 0, .int .i64 0, .int .i64 0, .int .i64 0, .string ⟨#[]⟩]
    have hbn := (Below.refl (w2).heap.size w2).alloc (Nat.le_refl _) (.cells #[.int .i64 0, .int .i64 0, .int .i64 0, .int .i64 0, .int .i64 0, .int .i64 0, .int .i64 0, .int .i64 0, .int .i64 0, .string ⟨#[]⟩] 51)
    replace hb := hb.step hbn
    replace P := P.step hbn
    replace X := X.step hbn
    clear hbn
    have egR : gX + 1 = gR := szX.symm.trans hgR
    rw [egR]
    clear szX
    generalize (w2).alloc (.cells #[.int .i64 0, .int .i64 0, .int .i64 0, .int .i64 0, .int .i64 0, .int .i64 0, .int .i64 0, .int .i64 0, .int .i64 0, .string ⟨#[]⟩] 51) = w3 at *
    go_wp2_with fail
    refine (refRight_at c _ H1.out _).mono ?_
    rintro e w4 ⟨rfl, rfl⟩
    go_wp2_with fail
    refine (refSlot_at sl _ H2.out _).mono ?_
    rintro e w5 ⟨rfl, rfl⟩
    have P_0 := P.cell (j := 0) rfl
    have P_1 := P.cell (j := 1) rfl
    go_wp2_with fail
    refine (cM _).mono ?_
    rintro e w6 ⟨rfl, hbn⟩
    replace hb := hb.step hbn
    replace P := P.step hbn
    replace P_0 := P.cell (j := 0) rfl
    replace P_1 := P.cell (j := 1) rfl
    replace X := X.step hbn
    replace R := R.step hbn
    clear hbn
    go_upto_region 6 with fail
    clear P_0 P_1
    have X_0 := extA_cell (X.cell (j := 0) rfl)
    have X_1 := extA_cell (X.cell (j := 1) rfl)
    have X_2 := extA_cell (X.cell (j := 2) rfl)
    have X_3 := extA_cell (X.cell (j := 3) rfl)
    have X_4 := extA_cell (X.cell (j := 4) rfl)
    have X_5 := extA_cell (X.cell (j := 5) rfl)
    refine wp_region_extB (by kernel_rfl) (by kernel_rfl) ?_
    repeat
      (first
        | go_big_quiet_skip
        | (go_big_quiet_want
           go_big_quiet_op
           first
             | go_big_quiet_on
             | (apply Exists.intro
                refine ⟨fun w' hC => ?_, ?_⟩
                · (first
                    | with_reducible rfl
                    | (go_at_call 43; refine (none14ref_any _).mono ?_; rintro e w2 ⟨rfl, hb9⟩; exact ⟨rfl, extA_then hC hb9⟩)
                    | (go_simp; done)
                    | (go_simp; with_reducible rfl))
                go_big_quiet_on)))
    refine wpQuiet_nil ?_
    intro w7 hbn
    replace hb := hb.step hbn
    replace P := P.step hbn
    replace X := X.step hbn
    replace R := R.step hbn
    clear hbn
    clear X_0 X_1 X_2 X_3 X_4 X_5
    have P_0 := P.cell (j := 0) rfl
    have P_1 := P.cell (j := 1) rfl
    have X_0 := X.cell (j := 0) rfl
    have X_1 := X.cell (j := 1) rfl
    have X_2 := X.cell (j := 2) rfl
    have X_3 := X.cell (j := 3) rfl
    have X_4 := X.cell (j := 4) rfl
    have X_5 := X.cell (j := 5) rfl
    go_wp2_with fail
    refine (cN _).mono ?_
    rintro e w8 ⟨rfl, hbn⟩
    replace hb := hb.step hbn
    replace P := P.step hbn
    replace P_0 := P.cell (j := 0) rfl
    replace P_1 := P.cell (j := 1) rfl
    replace X := X.step hbn
    replace X_0 := X.cell (j := 0) rfl
    replace X_1 := X.cell (j := 1) rfl
    replace X_2 := X.cell (j := 2) rfl
    replace X_3 := X.cell (j := 3) rfl
    replace X_4 := X.cell (j := 4) rfl
    replace X_5 := X.cell (j := 5) rfl
    replace R := R.step hbn
    clear hbn
    have R_0 := R.cell (j := 0) rfl
    have R_1 := R.cell (j := 1) rfl
    have R_2 := R.cell (j := 2) rfl
    have R_3 := R.cell (j := 3) rfl
    have R_4 := R.cell (j := 4) rfl
    have R_5 := R.cell (j := 5) rfl
    have R_6 := R.cell (j := 6) rfl
    have R_7 := R.cell (j := 7) rfl
    have R_8 := R.cell (j := 8) rfl
    have R_9 := R.cell (j := 9) rfl
    have Rf0 := R.frozen 0
    have Rf1 := R.frozen 1
    have Rf2 := R.frozen 2
    have Rf3 := R.frozen 3
    have Rf4 := R.frozen 4
    have Rf5 := R.frozen 5
    have Rf6 := R.frozen 6
    have Rf7 := R.frozen 7
    have Rf8 := R.frozen 8
    have Rf9 := R.frozen 9
    go_wp2
    (try simp only [Exit.inBlock, Exit.then])
    refine bodyPost_ret (v := .tuple #[.agg #[.int .i64 0, .int .i64 0, .int .i64 0, .int .i64 0, .int .i64 0, .int .i64 0, .int .i64 0, .int .i64 0, .int .i64 0, .string ⟨#[]⟩], .int .i64 2]) ?_ rfl ⟨rfl, ?_⟩
    · rw [r_cell1t rfl]
      go_simp
    · exact below10 hb.out (by omega) _ _ _ _ _ _ _ _ _ _
  · rw [h4] at cN hv
    clear h4
    cases h5 : entB k m n s
    · rw [h5] at cE
      clear hv h5 cL
      have H1 := Lib.hid h1
      clear h1
      have H2 := Lib.hid h2
      clear h2
      have cM := fun W => refMay_any c sl r p W
      rw [h3] at cM
      clear h3
      have hb := From.refl w
      go_enter Tryd.func26, Tryd.ntmps26
      go_upto_region 1 with fail
      obtain ⟨gP, hgP⟩ : ∃ g, (w).heap.size = g := ⟨_, rfl⟩
      have P := Blk.newV hgP 36 #[.int .i64 r, .int .i64 p]
      have hbn := (Below.refl (w).heap.size w).alloc (Nat.le_refl _) (.cells #[.int .i64 r, .int .i64 p] 36)
      replace hb := hb.step hbn
      clear hbn
      rw [hgP]
      have szP := alloc_size hgP (.cells #[.int .i64 r, .int .i64 p] 36)
      generalize (w).alloc (.cells #[.int .i64 r, .int .i64 p] 36) = w1 at *
      obtain ⟨gX, hgX⟩ : ∃ g, (w1).heap.size = g := ⟨_, rfl⟩
      have lt_P_X := P.lt
      rw [hgX] at lt_P_X
      have X := Blk.newV hgX 39 #[.int .i64 ar, .int .i64 ap, .int .i64 k, .int .i64 m, .int .i64 n, .string s]
      have hbn := (Below.refl (w1).heap.size w1).alloc (Nat.le_refl _) (.cells #[.int .i64 ar, .int .i64 ap, .int .i64 k, .int .i64 m, .int .i64 n, .string s] 39)
      replace hb := hb.step hbn
      replace P := P.step hbn
      clear hbn
      have egX : gP + 1 = gX := szP.symm.trans hgX
      rw [egX]
      clear szP
      have szX := alloc_size hgX (.cells #[.int .i64 ar, .int .i64 ap, .int .i64 k, .int .i64 m, .int .i64 n, .string s] 39)
      generalize (w1).alloc (.cells #[.int .i64 ar, .int .i64 ap, .int .i64 k, .int .i64 m, .int .i64 n, .string s] 39) = w2 at *
      obtain ⟨gR, hgR⟩ : ∃ g, (w2).heap.size = g := ⟨_, rfl⟩
      have lt_P_R := P.lt
      rw [hgR] at lt_P_R
      have lt_X_R := X.lt
      rw [hgR] at lt_X_R
      have R := Blk.newV hgR 51 #[.int .i64 0, .int .i64 0, .int .i64 0, .int .i64 0, .int .i64 0, .int .i64 0, .int .i64 0, .int .i64 0, .int .i64 0, .string ⟨#[]⟩]
      have hbn := (Below.refl (w2).heap.size w2).alloc (Nat.le_refl _) (.cells #[.int .i64 0, .int .i64 0, .int .i64 0, .int .i64 0, .int .i64 0, .int .i64 0, .int .i64 0, .int .i64 0, .int .i64 0, .string ⟨#[]⟩] 51)
      replace hb := hb.step hbn
      replace P := P.step hbn
      replace X := X.step hbn
      clear hbn
      have egR : gX + 1 = gR := szX.symm.trans hgR
      rw [egR]
      clear szX
      generalize (w2).alloc (.cells #[.int .i64 0, .int .i64 0, .int .i64 0, .int .i64 0, .int .i64 0, .int .i64 0, .int .i64 0, .int .i64 0, .int .i64 0, .string ⟨#[]⟩] 51) = w3 at *
      go_wp2_with fail
      refine (refRight_at c _ H1.out _).mono ?_
      rintro e w4 ⟨rfl, rfl⟩
      go_wp2_with fail
      refine (refSlot_at sl _ H2.out _).mono ?_
      rintro e w5 ⟨rfl, rfl⟩
      have P_0 := P.cell (j := 0) rfl
      have P_1 := P.cell (j := 1) rfl
      go_wp2_with fail
      refine (cM _).mono ?_
      rintro e w6 ⟨rfl, hbn⟩
      replace hb := hb.step hbn
      replace P := P.step hbn
      replace P_0 := P.cell (j := 0) rfl
      replace P_1 := P.cell (j := 1) rfl
      replace X := X.step hbn
      replace R := R.step hbn
      clear hbn
      go_upto_region 6 with fail
      clear P_0 P_1
      have X_0 := extA_cell (X.cell (j := 0) rfl)
      have X_1 := extA_cell (X.cell (j := 1) rfl)
      have X_2 := extA_cell (X.cell (j := 2) rfl)
      have X_3 := extA_cell (X.cell (j := 3) rfl)
      have X_4 := extA_cell (X.cell (j := 4) rfl)
      have X_5 := extA_cell (X.cell (j := 5) rfl)
      refine wp_region_extB (by kernel_rfl) (by kernel_rfl) ?_
      repeat
        (first
          | go_big_quiet_skip
          | (go_big_quiet_want
             go_big_quiet_op
             first
               | go_big_quiet_on
               | (apply Exists.intro
                  refine ⟨fun w' hC => ?_, ?_⟩
                  · (first
                      | with_reducible rfl
                      | (go_at_call 43; refine (none14ref_any _).mono ?_; rintro e w2 ⟨rfl, hb9⟩; exact ⟨rfl, extA_then hC hb9⟩)
                      | (go_simp; done)
                      | (go_simp; with_reducible rfl))
                  go_big_quiet_on)))
      refine wpQuiet_nil ?_
      intro w7 hbn
      replace hb := hb.step hbn
      replace P := P.step hbn
      replace X := X.step hbn
      replace R := R.step hbn
      clear hbn
      clear X_0 X_1 X_2 X_3 X_4 X_5
      have P_0 := P.cell (j := 0) rfl
      have P_1 := P.cell (j := 1) rfl
      have X_0 := X.cell (j := 0) rfl
      have X_1 := X.cell (j := 1) rfl
      have X_2 := X.cell (j := 2) rfl
      have X_3 := X.cell (j := 3) rfl
      have X_4 := X.cell (j := 4) rfl
      have X_5 := X.cell (j := 5) rfl
      go_wp2_with fail
      refine (cN _).mono ?_
      rintro e w8 ⟨rfl, hbn⟩
      replace hb := hb.step hbn
      replace P := P.step hbn
      replace P_0 := P.cell (j := 0) rfl
      replace P_1 := P.cell (j := 1) rfl
      replace X := X.step hbn
      replace X_0 := X.cell (j := 0) rfl
      replace X_1 := X.cell (j := 1) rfl
      replace X_2 := X.cell (j := 2) rfl
      replace X_3 := X.cell (j := 3) rfl
      replace X_4 := X.cell (j := 4) rfl
      replace X_5 := X.cell (j := 5) rfl
      replace R := R.step hbn
      clear hbn
      go_wp2_with fail
      refine (cE _).mono ?_
      rintro e w9 ⟨rfl, hbn⟩
      replace hb := hb.step hbn
      replace P := P.step hbn
      replace P_0 := P.cell (j := 0) rfl
      replace P_1 := P.cell (j := 1) rfl
      replace X := X.step hbn
      replace X_0 := X.cell (j := 0) rfl
      replace X_1 := X.cell (j := 1) rfl
      replace X_2 := X.cell (j := 2) rfl
      replace X_3 := X.cell (j := 3) rfl
      replace X_4 := X.cell (j := 4) rfl
      replace X_5 := X.cell (j := 5) rfl
      replace R := R.step hbn
      clear hbn
      have R_0 := R.cell (j := 0) rfl
      have R_1 := R.cell (j := 1) rfl
      have R_2 := R.cell (j := 2) rfl
      have R_3 := R.cell (j := 3) rfl
      have R_4 := R.cell (j := 4) rfl
      have R_5 := R.cell (j := 5) rfl
      have R_6 := R.cell (j := 6) rfl
      have R_7 := R.cell (j := 7) rfl
      have R_8 := R.cell (j := 8) rfl
      have R_9 := R.cell (j := 9) rfl
      have Rf0 := R.frozen 0
      have Rf1 := R.frozen 1
      have Rf2 := R.frozen 2
      have Rf3 := R.frozen 3
      have Rf4 := R.frozen 4
      have Rf5 := R.frozen 5
      have Rf6 := R.frozen 6
      have Rf7 := R.frozen 7
      have Rf8 := R.frozen 8
      have Rf9 := R.frozen 9
      go_wp2
      (try simp only [Exit.inBlock, Exit.then])
      refine bodyPost_ret (v := .tuple #[.agg #[.int .i64 0, .int .i64 0, .int .i64 0, .int .i64 0, .int .i64 0, .int .i64 0, .int .i64 0, .int .i64 0, .int .i64 0, .string ⟨#[]⟩], .int .i64 2]) ?_ rfl ⟨rfl, ?_⟩
      · rw [r_cell1t rfl]
        go_simp
      · exact below10 hb.out (by omega) _ _ _ _ _ _ _ _ _ _
    · rw [h5] at cE hv
      have h6 : lessB r p ar ap = true := by simpa using hv
      rw [h6] at cL
      clear hv h5 h6
      have H1 := Lib.hid h1
      clear h1
      have H2 := Lib.hid h2
      clear h2
      have cM := fun W => refMay_any c sl r p W
      rw [h3] at cM
      clear h3
      have hb := From.refl w
      go_enter Tryd.func26, Tryd.ntmps26
      go_upto_region 1 with fail
      obtain ⟨gP, hgP⟩ : ∃ g, (w).heap.size = g := ⟨_, rfl⟩
      have P := Blk.newV hgP 36 #[.int .i64 r, .int .i64 p]
      have hbn := (Below.refl (w).heap.size w).alloc (Nat.le_refl _) (.cells #[.int .i64 r, .int .i64 p] 36)
      replace hb := hb.step hbn
      clear hbn
      rw [hgP]
      have szP := alloc_size hgP (.cells #[.int .i64 r, .int .i64 p] 36)
      generalize (w).alloc (.cells #[.int .i64 r, .int .i64 p] 36) = w1 at *
      obtain ⟨gX, hgX⟩ : ∃ g, (w1).heap.size = g := ⟨_, rfl⟩
      have lt_P_X := P.lt
      rw [hgX] at lt_P_X
      have X := Blk.newV hgX 39 #[.int .i64 ar, .int .i64 ap, .int .i64 k, .int .i64 m, .int .i64 n, .string s]
      have hbn := (Below.refl (w1).heap.size w1).alloc (Nat.le_refl _) (.cells #[.int .i64 ar, .int .i64 ap, .int .i64 k, .int .i64 m, .int .i64 n, .string s] 39)
      replace hb := hb.step hbn
      replace P := P.step hbn
      clear hbn
      have egX : gP + 1 = gX := szP.symm.trans hgX
      rw [egX]
      clear szP
      have szX := alloc_size hgX (.cells #[.int .i64 ar, .int .i64 ap, .int .i64 k, .int .i64 m, .int .i64 n, .string s] 39)
      generalize (w1).alloc (.cells #[.int .i64 ar, .int .i64 ap, .int .i64 k, .int .i64 m, .int .i64 n, .string s] 39) = w2 at *
      obtain ⟨gR, hgR⟩ : ∃ g, (w2).heap.size = g := ⟨_, rfl⟩
      have lt_P_R := P.lt
      rw [hgR] at lt_P_R
      have lt_X_R := X.lt
      rw [hgR] at lt_X_R
      have R := Blk.newV hgR 51 #[.int .i64 0, .int .i64 0, .int .i64 0, .int .i64 0, .int .i64 0, .int .i64 0, .int .i64 0, .int .i64 0, .int .i64 0, .string ⟨#[]⟩]
      have hbn := (Below.refl (w2).heap.size w2).alloc (Nat.le_refl _) (.cells #[.int .i64 0, .int .i64 0, .int .i64 0, .int .i64 0, .int .i64 0, .int .i64 0, .int .i64 0, .int .i64 0, .int .i64 0, .string ⟨#[]⟩] 51)
      replace hb := hb.step hbn
      replace P := P.step hbn
      replace X := X.step hbn
      clear hbn
      have egR : gX + 1 = gR := szX.symm.trans hgR
      rw [egR]
      clear szX
      generalize (w2).alloc (.cells #[.int .i64 0, .int .i64 0, .int .i64 0, .int .i64 0, .int .i64 0, .int .i64 0, .int .i64 0, .int .i64 0, .int .i64 0, .string ⟨#[]⟩] 51) = w3 at *
      go_wp2_with fail
      refine (refRight_at c _ H1.out _).mono ?_
      rintro e w4 ⟨rfl, rfl⟩
      go_wp2_with fail
      refine (refSlot_at sl _ H2.out _).mono ?_
      rintro e w5 ⟨rfl, rfl⟩
      have P_0 := P.cell (j := 0) rfl
      have P_1 := P.cell (j := 1) rfl
      go_wp2_with fail
      refine (cM _).mono ?_
      rintro e w6 ⟨rfl, hbn⟩
      replace hb := hb.step hbn
      replace P := P.step hbn
      replace P_0 := P.cell (j := 0) rfl
      replace P_1 := P.cell (j := 1) rfl
      replace X := X.step hbn
      replace R := R.step hbn
      clear hbn
      go_upto_region 6 with fail
      clear P_0 P_1
      have X_0 := extA_cell (X.cell (j := 0) rfl)
      have X_1 := extA_cell (X.cell (j := 1) rfl)
      have X_2 := extA_cell (X.cell (j := 2) rfl)
      have X_3 := extA_cell (X.cell (j := 3) rfl)
      have X_4 := extA_cell (X.cell (j := 4) rfl)
      have X_5 := extA_cell (X.cell (j := 5) rfl)
      refine wp_region_extB (by kernel_rfl) (by kernel_rfl) ?_
      repeat
        (first
          | go_big_quiet_skip
          | (go_big_quiet_want
             go_big_quiet_op
             first
               | go_big_quiet_on
               | (apply Exists.intro
                  refine ⟨fun w' hC => ?_, ?_⟩
                  · (first
                      | with_reducible rfl
                      | (go_at_call 43; refine (none14ref_any _).mono ?_; rintro e w2 ⟨rfl, hb9⟩; exact ⟨rfl, extA_then hC hb9⟩)
                      | (go_simp; done)
                      | (go_simp; with_reducible rfl))
                  go_big_quiet_on)))
      refine wpQuiet_nil ?_
      intro w7 hbn
      replace hb := hb.step hbn
      replace P := P.step hbn
      replace X := X.step hbn
      replace R := R.step hbn
      clear hbn
      clear X_0 X_1 X_2 X_3 X_4 X_5
      have P_0 := P.cell (j := 0) rfl
      have P_1 := P.cell (j := 1) rfl
      have X_0 := X.cell (j := 0) rfl
      have X_1 := X.cell (j := 1) rfl
      have X_2 := X.cell (j := 2) rfl
      have X_3 := X.cell (j := 3) rfl
      have X_4 := X.cell (j := 4) rfl
      have X_5 := X.cell (j := 5) rfl
      go_wp2_with fail
      refine (cN _).mono ?_
      rintro e w8 ⟨rfl, hbn⟩
      replace hb := hb.step hbn
      replace P := P.step hbn
      replace P_0 := P.cell (j := 0) rfl
      replace P_1 := P.cell (j := 1) rfl
      replace X := X.step hbn
      replace X_0 := X.cell (j := 0) rfl
      replace X_1 := X.cell (j := 1) rfl
      replace X_2 := X.cell (j := 2) rfl
      replace X_3 := X.cell (j := 3) rfl
      replace X_4 := X.cell (j := 4) rfl
      replace X_5 := X.cell (j := 5) rfl
      replace R := R.step hbn
      clear hbn
      go_wp2_with fail
      refine (cE _).mono ?_
      rintro e w9 ⟨rfl, hbn⟩
      replace hb := hb.step hbn
      replace P := P.step hbn
      replace P_0 := P.cell (j := 0) rfl
      replace P_1 := P.cell (j := 1) rfl
      replace X := X.step hbn
      replace X_0 := X.cell (j := 0) rfl
      replace X_1 := X.cell (j := 1) rfl
      replace X_2 := X.cell (j := 2) rfl
      replace X_3 := X.cell (j := 3) rfl
      replace X_4 := X.cell (j := 4) rfl
      replace X_5 := X.cell (j := 5) rfl
      replace R := R.step hbn
      clear hbn
      go_wp2_with fail
      refine (cL _).mono ?_
      rintro e w10 ⟨rfl, hbn⟩
      replace hb := hb.step hbn
      replace P := P.step hbn
      replace P_0 := P.cell (j := 0) rfl
      replace P_1 := P.cell (j := 1) rfl
      replace X := X.step hbn
      replace X_0 := X.cell (j := 0) rfl
      replace X_1 := X.cell (j := 1) rfl
      replace X_2 := X.cell (j := 2) rfl
      replace X_3 := X.cell (j := 3) rfl
      replace X_4 := X.cell (j := 4) rfl
      replace X_5 := X.cell (j := 5) rfl
      replace R := R.step hbn
      clear hbn
      have R_0 := R.cell (j := 0) rfl
      have R_1 := R.cell (j := 1) rfl
      have R_2 := R.cell (j := 2) rfl
      have R_3 := R.cell (j := 3) rfl
      have R_4 := R.cell (j := 4) rfl
      have R_5 := R.cell (j := 5) rfl
      have R_6 := R.cell (j := 6) rfl
      have R_7 := R.cell (j := 7) rfl
      have R_8 := R.cell (j := 8) rfl
      have R_9 := R.cell (j := 9) rfl
      have Rf0 := R.frozen 0
      have Rf1 := R.frozen 1
      have Rf2 := R.frozen 2
      have Rf3 := R.frozen 3
      have Rf4 := R.frozen 4
      have Rf5 := R.frozen 5
      have Rf6 := R.frozen 6
      have Rf7 := R.frozen 7
      have Rf8 := R.frozen 8
      have Rf9 := R.frozen 9
      go_wp2
      (try simp only [Exit.inBlock, Exit.then])
      refine bodyPost_ret (v := .tuple #[.agg #[.int .i64 0, .int .i64 0, .int .i64 0, .int .i64 0, .int .i64 0, .int .i64 0, .int .i64 0, .int .i64 0, .int .i64 0, .string ⟨#[]⟩], .int .i64 2]) ?_ rfl ⟨rfl, ?_⟩
      · rw [r_cell1t rfl]
        go_simp
      · exact below10 hb.out (by omega) _ _ _ _ _ _ _ _ _ _
set_option maxRecDepth 100000 in
set_option maxHeartbeats 1000000 in
theorem refOf_yes (c sl r p ar ap k m n : Int) (s : ByteArray) (w : World) (hs : s.size ≤ 9223372036854775807) (h1 : rightB c = true) (h2 : slotB sl = true) (h3 : mayB c sl r p = true) (hn : (ar == -1 && ap == 0) = false) (hv : (mayB c sl ar ap && (entB k m n s && !lessB r p ar ap)) = true) :
    Calls Tryd.prog 26 #[.int .i64 c, .int .i64 sl, .agg #[.int .i64 r, .int .i64 p], .agg #[.int .i64 ar, .int .i64 ap, .int .i64 k, .int .i64 m, .int .i64 n, .string s]] w
      fun e w' => e = .returned (.tuple #[.agg #[.int .i64 c, .int .i64 sl, .int .i64 r, .int .i64 p, .int .i64 ar, .int .i64 ap, .int .i64 k, .int .i64 m, .int .i64 n, .string s], .int .i64 0]) ∧ Below w.heap.size w w' := by
  have hEB := fun W => eq_ballot ar ap (-1) 0 W
  rw [show eq2 ar ap (-1) 0 = false by unfold eq2; simpa using hn] at hEB
  clear hn
  have cN := fun W => refMay_any c sl ar ap W
  have cE := fun W => ref14_any k m n s W hs
  have cL := fun W => refLess_at r p ar ap _ rfl W
  simp only [Bool.and_eq_true, Bool.not_eq_true'] at hv
  obtain ⟨h4, h5, h6⟩ := hv
  rw [h4] at cN
  rw [h5] at cE
  rw [h6] at cL
  clear h4 h5 h6
  have H1 := Lib.hid h1
  clear h1
  have H2 := Lib.hid h2
  clear h2
  have cM := fun W => refMay_any c sl r p W
  rw [h3] at cM
  clear h3
  have hb := From.refl w
  go_enter Tryd.func26, Tryd.ntmps26
  go_upto_region 1 with fail
  obtain ⟨gP, hgP⟩ : ∃ g, (w).heap.size = g := ⟨_, rfl⟩
  have P := Blk.newV hgP 36 #[.int .i64 r, .int .i64 p]
  have hbn := (Below.refl (w).heap.size w).alloc (Nat.le_refl _) (.cells #[.int .i64 r, .int .i64 p] 36)
  replace hb := hb.step hbn
  clear hbn
  rw [hgP]
  have szP := alloc_size hgP (.cells #[.int .i64 r, .int .i64 p] 36)
  generalize (w).alloc (.cells #[.int .i64 r, .int .i64 p] 36) = w1 at *
  obtain ⟨gX, hgX⟩ : ∃ g, (w1).heap.size = g := ⟨_, rfl⟩
  have lt_P_X := P.lt
  rw [hgX] at lt_P_X
  have X := Blk.newV hgX 39 #[.int .i64 ar, .int .i64 ap, .int .i64 k, .int .i64 m, .int .i64 n, .string s]
  have hbn := (Below.refl (w1).heap.size w1).alloc (Nat.le_refl _) (.cells #[.int .i64 ar, .int .i64 ap, .int .i64 k, .int .i64 m, .int .i64 n, .string s] 39)
  replace hb := hb.step hbn
  replace P := P.step hbn
  clear hbn
  have egX : gP + 1 = gX := szP.symm.trans hgX
  rw [egX]
  clear szP
  have szX := alloc_size hgX (.cells #[.int .i64 ar, .int .i64 ap, .int .i64 k, .int .i64 m, .int .i64 n, .string s] 39)
  generalize (w1).alloc (.cells #[.int .i64 ar, .int .i64 ap, .int .i64 k, .int .i64 m, .int .i64 n, .string s] 39) = w2 at *
  obtain ⟨gR, hgR⟩ : ∃ g, (w2).heap.size = g := ⟨_, rfl⟩
  have lt_P_R := P.lt
  rw [hgR] at lt_P_R
  have lt_X_R := X.lt
  rw [hgR] at lt_X_R
  have R := Blk.newV hgR 51 #[.int .i64 0, .int .i64 0, .int .i64 0, .int .i64 0, .int .i64 0, .int .i64 0, .int .i64 0, .int .i64 0, .int .i64 0, .string ⟨#[]⟩]
  have hbn := (Below.refl (w2).heap.size w2).alloc (Nat.le_refl _) (.cells #[.int .i64 0, .int .i64 0, .int .i64 0, .int .i64 0, .int .i64 0, .int .i64 0, .int .i64 0, .int .i64 0, .int .i64 0, .string ⟨#[]⟩] 51)
  replace hb := hb.step hbn
  replace P := P.step hbn
  replace X := X.step hbn
  clear hbn
  have egR : gX + 1 = gR := szX.symm.trans hgR
  rw [egR]
  clear szX
  generalize (w2).alloc (.cells #[.int .i64 0, .int .i64 0, .int .i64 0, .int .i64 0, .int .i64 0, .int .i64 0, .int .i64 0, .int .i64 0, .int .i64 0, .string ⟨#[]⟩] 51) = w3 at *
  go_wp2_with fail
  refine (refRight_at c _ H1.out _).mono ?_
  rintro e w4 ⟨rfl, rfl⟩
  go_wp2_with fail
  refine (refSlot_at sl _ H2.out _).mono ?_
  rintro e w5 ⟨rfl, rfl⟩
  have P_0 := P.cell (j := 0) rfl
  have P_1 := P.cell (j := 1) rfl
  go_wp2_with fail
  refine (cM _).mono ?_
  rintro e w6 ⟨rfl, hbn⟩
  replace hb := hb.step hbn
  replace P := P.step hbn
  replace P_0 := P.cell (j := 0) rfl
  replace P_1 := P.cell (j := 1) rfl
  replace X := X.step hbn
  replace R := R.step hbn
  clear hbn
  go_upto_region 6 with fail
  clear P_0 P_1
  have X_0 := extA_cell (X.cell (j := 0) rfl)
  have X_1 := extA_cell (X.cell (j := 1) rfl)
  have X_2 := extA_cell (X.cell (j := 2) rfl)
  have X_3 := extA_cell (X.cell (j := 3) rfl)
  have X_4 := extA_cell (X.cell (j := 4) rfl)
  have X_5 := extA_cell (X.cell (j := 5) rfl)
  refine wp_region_extB (by kernel_rfl) (by kernel_rfl) ?_
  repeat
    (first
      | go_big_quiet_skip
      | (go_big_quiet_want
         go_big_quiet_op
         first
           | go_big_quiet_on
           | (apply Exists.intro
              refine ⟨fun w' hC => ?_, ?_⟩
              · (first
                  | with_reducible rfl
                  | (go_at_call 43; refine (none14ref_any _).mono ?_; rintro e w2 ⟨rfl, hb9⟩; exact ⟨rfl, extA_then hC hb9⟩)
                  | (go_simp; done)
                  | (go_simp; with_reducible rfl))
              go_big_quiet_on)))
  refine wpQuiet_nil ?_
  intro w7 hbn
  replace hb := hb.step hbn
  replace P := P.step hbn
  replace X := X.step hbn
  replace R := R.step hbn
  clear hbn
  clear X_0 X_1 X_2 X_3 X_4 X_5
  have P_0 := P.cell (j := 0) rfl
  have P_1 := P.cell (j := 1) rfl
  have X_0 := X.cell (j := 0) rfl
  have X_1 := X.cell (j := 1) rfl
  have X_2 := X.cell (j := 2) rfl
  have X_3 := X.cell (j := 3) rfl
  have X_4 := X.cell (j := 4) rfl
  have X_5 := X.cell (j := 5) rfl
  go_wp2_with fail
  refine (cN _).mono ?_
  rintro e w8 ⟨rfl, hbn⟩
  replace hb := hb.step hbn
  replace P := P.step hbn
  replace P_0 := P.cell (j := 0) rfl
  replace P_1 := P.cell (j := 1) rfl
  replace X := X.step hbn
  replace X_0 := X.cell (j := 0) rfl
  replace X_1 := X.cell (j := 1) rfl
  replace X_2 := X.cell (j := 2) rfl
  replace X_3 := X.cell (j := 3) rfl
  replace X_4 := X.cell (j := 4) rfl
  replace X_5 := X.cell (j := 5) rfl
  replace R := R.step hbn
  clear hbn
  go_wp2_with fail
  refine (cE _).mono ?_
  rintro e w9 ⟨rfl, hbn⟩
  replace hb := hb.step hbn
  replace P := P.step hbn
  replace P_0 := P.cell (j := 0) rfl
  replace P_1 := P.cell (j := 1) rfl
  replace X := X.step hbn
  replace X_0 := X.cell (j := 0) rfl
  replace X_1 := X.cell (j := 1) rfl
  replace X_2 := X.cell (j := 2) rfl
  replace X_3 := X.cell (j := 3) rfl
  replace X_4 := X.cell (j := 4) rfl
  replace X_5 := X.cell (j := 5) rfl
  replace R := R.step hbn
  clear hbn
  go_wp2_with fail
  refine (cL _).mono ?_
  rintro e w10 ⟨rfl, hbn⟩
  replace hb := hb.step hbn
  replace P := P.step hbn
  replace P_0 := P.cell (j := 0) rfl
  replace P_1 := P.cell (j := 1) rfl
  replace X := X.step hbn
  replace X_0 := X.cell (j := 0) rfl
  replace X_1 := X.cell (j := 1) rfl
  replace X_2 := X.cell (j := 2) rfl
  replace X_3 := X.cell (j := 3) rfl
  replace X_4 := X.cell (j := 4) rfl
  replace X_5 := X.cell (j := 5) rfl
  replace R := R.step hbn
  clear hbn
  clear P_0 P_1
  clear X_0 X_1 X_2 X_3 X_4 X_5
  have P_0 := P.cell (j := 0) rfl
  have P_1 := P.cell (j := 1) rfl
  have X_0 := X.cell (j := 0) rfl
  have X_1 := X.cell (j := 1) rfl
  have X_2 := X.cell (j := 2) rfl
  have X_3 := X.cell (j := 3) rfl
  have X_4 := X.cell (j := 4) rfl
  have X_5 := X.cell (j := 5) rfl
  have R_0 := R.cell (j := 0) rfl
  have R_1 := R.cell (j := 1) rfl
  have R_2 := R.cell (j := 2) rfl
  have R_3 := R.cell (j := 3) rfl
  have R_4 := R.cell (j := 4) rfl
  have R_5 := R.cell (j := 5) rfl
  have R_6 := R.cell (j := 6) rfl
  have R_7 := R.cell (j := 7) rfl
  have R_8 := R.cell (j := 8) rfl
  have R_9 := R.cell (j := 9) rfl
  have Rf0 := R.frozen 0
  have Rf1 := R.frozen 1
  have Rf2 := R.frozen 2
  have Rf3 := R.frozen 3
  have Rf4 := R.frozen 4
  have Rf5 := R.frozen 5
  have Rf6 := R.frozen 6
  have Rf7 := R.frozen 7
  have Rf8 := R.frozen 8
  have Rf9 := R.frozen 9
  go_wp2
  (try simp only [Exit.inBlock, Exit.then])
  refine bodyPost_ret (v := .tuple #[.agg #[.int .i64 c, .int .i64 sl, .int .i64 r, .int .i64 p, .int .i64 ar, .int .i64 ap, .int .i64 k, .int .i64 m, .int .i64 n, .string s], .int .i64 0]) ?_ rfl ⟨rfl, ?_⟩
  · rw [r_cell1t rfl]
    go_simp
  · exact below10 hb.out (by omega) _ _ _ _ _ _ _ _ _ _
end Go.Proofs.YtcokbljlgbcpkaaDoor
