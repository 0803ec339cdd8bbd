
/- The document's proposer: Own, Ask. -/
import Derived.Test.YtcahkcbenanfnaaGreatDoorPrR
namespace Go.Proofs.YtcahkcbenanfnaaGreatDoor
set_option linter.unusedSimpArgs false
set_option linter.unusedVariables false
open Go.RowKit
set_option maxRecDepth 100000 in
set_option maxHeartbeats 2000000 in
theorem rown_no (c sl k m n : Int) (s : ByteArray) (w : World) (he : opErr c sl ≠ 0) :
    Calls Tryz.prog 42 #[.int .i64 c, .int .i64 sl, .agg #[.int .i64 k, .int .i64 m, .int .i64 n, .string s]] w fun e w' => e = .returned (.tuple #[qV zP, .int .i64 (opErr c sl)]) ∧ Below w.heap.size w w' := by
  have cK := fun W => check15_any c sl W
  obtain ⟨E, hE⟩ : ∃ E, opErr c sl = E := ⟨_, rfl⟩
  rw [hE] at he ⊢
  simp only [hE] at cK
  clear hE
  have hb := From.refl w
  go_enter Tryz.func42, Tryz.ntmps42
  go_upto_region 1 with fail
  obtain ⟨gB, hgB⟩ : ∃ g, (w).heap.size = g := ⟨_, rfl⟩
  have B := Blk.newV hgB 26 #[.int .i64 k, .int .i64 m, .int .i64 n, .string s]
  have hbn := (Below.refl (w).heap.size w).alloc (Nat.le_refl _) (.cells #[.int .i64 k, .int .i64 m, .int .i64 n, .string s] 26)
  replace hb := hb.step hbn
  clear hbn
  rw [hgB]
  have szB := alloc_size hgB (.cells #[.int .i64 k, .int .i64 m, .int .i64 n, .string s] 26)
  generalize (w).alloc (.cells #[.int .i64 k, .int .i64 m, .int .i64 n, .string s] 26) = w1 at *
  obtain ⟨gR, hgR⟩ : ∃ g, (w1).heap.size = g := ⟨_, rfl⟩
  have lt_B_R := B.lt
  rw [hgR] at lt_B_R
  have R := Blk.newV hgR 35 #[.int .i64 0, .int .i64 0, .int .i64 0, .int .i64 0, .int .i64 0, .int .i64 0, .int .i64 0, .int .i64 0, .string ⟨#[]⟩, .bool false, .bool false, .bool false, .bool false, .bool false, .bool false, .bool false, .bool false, .bool false, .bool false, .bool false, .bool false, .bool false, .bool false, .bool false, .bool false, .bool false, .bool false, .int .i64 0, .int .i64 0, .int .i64 0, .int .i64 0, .int .i64 0, .string ⟨#[]⟩, .int .i64 0, .int .i64 0]
  have hbn := (Below.refl (w1).heap.size w1).alloc (Nat.le_refl _) (.cells #[.int .i64 0, .int .i64 0, .int .i64 0, .int .i64 0, .int .i64 0, .int .i64 0, .int .i64 0, .int .i64 0, .string ⟨#[]⟩, .bool false, .bool false, .bool false, .bool false, .bool false, .bool false, .bool false, .bool false, .bool false, .bool false, .bool false, .bool false, .bool false, .bool false, .bool false, .bool false, .bool false, .bool false, .int .i64 0, .int .i64 0, .int .i64 0, .int .i64 0, .int .i64 0, .string ⟨#[]⟩, .int .i64 0, .int .i64 0] 35)
  replace hb := hb.step hbn
  replace B := B.step hbn
  clear hbn
  have egR : gB + 1 = gR := szB.symm.trans hgR
  rw [egR]
  clear szB
  generalize (w1).alloc (.cells #[.int .i64 0, .int .i64 0, .int .i64 0, .int .i64 0, .int .i64 0, .int .i64 0, .int .i64 0, .int .i64 0, .string ⟨#[]⟩, .bool false, .bool false, .bool false, .bool false, .bool false, .bool false, .bool false, .bool false, .bool false, .bool false, .bool false, .bool false, .bool false, .bool false, .bool false, .bool false, .bool false, .bool false, .int .i64 0, .int .i64 0, .int .i64 0, .int .i64 0, .int .i64 0, .string ⟨#[]⟩, .int .i64 0, .int .i64 0] 35) = w2 at *
  have hwR : w.heap.size ≤ gR := by omega
  clear hgB hgR egR
  go_wp2_with fail
  refine (cK _).mono ?_
  rintro e wx ⟨rfl, rfl⟩
  go_upto_region 3 with fail
  apply wp_region_lit
  refine wpList_pure (v := ?_) rfl ?_ ?_
  rotate_left
  · go_simp
    try with_reducible rfl
  dsimp only [Act.put]
  refine wpList_pure (v := ?_) rfl ?_ ?_
  rotate_left
  · go_simp
    try with_reducible rfl
  dsimp only [Act.put]
  refine wpList_store_rowTo rfl 35 (.tmp 6) (.tmp 15) rfl rfl gR #[.int .i64 0, .int .i64 0, .int .i64 0, .int .i64 0, .int .i64 0, .int .i64 0, .int .i64 0, .int .i64 0, .string ⟨#[]⟩, .bool false, .bool false, .bool false, .bool false, .bool false, .bool false, .bool false, .bool false, .bool false, .bool false, .bool false, .bool false, .bool false, .bool false, .bool false, .bool false, .bool false, .bool false, .int .i64 0, .int .i64 0, .int .i64 0, .int .i64 0, .int .i64 0, .string ⟨#[]⟩, .int .i64 0, .int .i64 0] (by kernel_rfl) (by kernel_rfl) _ _ R (by kernel_rfl) (by kernel_rfl) (by kernel_rfl) ?_
  have hkn := kx_row w2 gR #[.int .i64 0, .int .i64 0, .int .i64 0, .int .i64 0, .int .i64 0, .int .i64 0, .int .i64 0, .int .i64 0, .string ⟨#[]⟩, .bool false, .bool false, .bool false, .bool false, .bool false, .bool false, .bool false, .bool false, .bool false, .bool false, .bool false, .bool false, .bool false, .bool false, .bool false, .bool false, .bool false, .bool false, .int .i64 0, .int .i64 0, .int .i64 0, .int .i64 0, .int .i64 0, .string ⟨#[]⟩, .int .i64 0, .int .i64 0]
  replace R := R.row [.int .i64 0, .int .i64 0, .int .i64 0, .int .i64 0, .int .i64 0, .int .i64 0, .int .i64 0, .int .i64 0, .string ⟨#[]⟩, .bool false, .bool false, .bool false, .bool false, .bool false, .bool false, .bool false, .bool false, .bool false, .bool false, .bool false, .bool false, .bool false, .bool false, .bool false, .bool false, .bool false, .bool false, .int .i64 0, .int .i64 0, .int .i64 0, .int .i64 0, .int .i64 0, .string ⟨#[]⟩, .int .i64 0, .int .i64 0]
  generalize w2.setRow gR #[.int .i64 0, .int .i64 0, .int .i64 0, .int .i64 0, .int .i64 0, .int .i64 0, .int .i64 0, .int .i64 0, .string ⟨#[]⟩, .bool false, .bool false, .bool false, .bool false, .bool false, .bool false, .bool false, .bool false, .bool false, .bool false, .bool false, .bool false, .bool false, .bool false, .bool false, .bool false, .bool false, .bool false, .int .i64 0, .int .i64 0, .int .i64 0, .int .i64 0, .int .i64 0, .string ⟨#[]⟩, .int .i64 0, .int .i64 0] = w3 at *
  refine wpList_pure (v := ?_) rfl ?_ ?_
  rotate_left
  · go_simp
    try with_reducible rfl
  dsimp only [Act.put]
  refine wpList_nil ?_
  replace hb := hb.kx hkn (by simp; omega)
  go_wp2_with fail
  (try simp only [Exit.inBlock, Exit.then])
  exact bodyPost_ret (res_cell1t rfl (by kernel_rfl) (by kernel_rfl) (run_loadVar_row _ _ _ _ _ (0, 0) _ R Tryz.underlying35 rfl (by kernel_rfl))) rfl ⟨rfl, hb⟩
set_option maxRecDepth 100000 in
set_option maxHeartbeats 2000000 in
theorem rown_bad (c sl k m n : Int) (s : ByteArray) (w : World) (hs : s.size ≤ 9223372036854775807) (he : opErr c sl = 0) (hq : entB k m n s = false) :
    Calls Tryz.prog 42 #[.int .i64 c, .int .i64 sl, .agg #[.int .i64 k, .int .i64 m, .int .i64 n, .string s]] w fun e w' => e = .returned (.tuple #[qV zP, .int .i64 2]) ∧ Below w.heap.size w w' := by
  have cK := fun W => check15_any c sl W
  simp only [he] at cK
  have cE := fun W => ref14_any k m n s W hs
  rw [hq] at cE
  have hb := From.refl w
  go_enter Tryz.func42, Tryz.ntmps42
  go_upto_region 1 with fail
  obtain ⟨gB, hgB⟩ : ∃ g, (w).heap.size = g := ⟨_, rfl⟩
  have B := Blk.newV hgB 26 #[.int .i64 k, .int .i64 m, .int .i64 n, .string s]
  have hbn := (Below.refl (w).heap.size w).alloc (Nat.le_refl _) (.cells #[.int .i64 k, .int .i64 m, .int .i64 n, .string s] 26)
  replace hb := hb.step hbn
  clear hbn
  rw [hgB]
  have szB := alloc_size hgB (.cells #[.int .i64 k, .int .i64 m, .int .i64 n, .string s] 26)
  generalize (w).alloc (.cells #[.int .i64 k, .int .i64 m, .int .i64 n, .string s] 26) = w1 at *
  obtain ⟨gR, hgR⟩ : ∃ g, (w1).heap.size = g := ⟨_, rfl⟩
  have lt_B_R := B.lt
  rw [hgR] at lt_B_R
  have R := Blk.newV hgR 35 #[.int .i64 0, .int .i64 0, .int .i64 0, .int .i64 0, .int .i64 0, .int .i64 0, .int .i64 0, .int .i64 0, .string ⟨#[]⟩, .bool false, .bool false, .bool false, .bool false, .bool false, .bool false, .bool false, .bool false, .bool false, .bool false, .bool false, .bool false, .bool false, .bool false, .bool false, .bool false, .bool false, .bool false, .int .i64 0, .int .i64 0, .int .i64 0, .int .i64 0, .int .i64 0, .string ⟨#[]⟩, .int .i64 0, .int .i64 0]
  have hbn := (Below.refl (w1).heap.size w1).alloc (Nat.le_refl _) (.cells #[.int .i64 0, .int .i64 0, .int .i64 0, .int .i64 0, .int .i64 0, .int .i64 0, .int .i64 0, .int .i64 0, .string ⟨#[]⟩, .bool false, .bool false, .bool false, .bool false, .bool false, .bool false, .bool false, .bool false, .bool false, .bool false, .bool false, .bool false, .bool false, .bool false, .bool false, .bool false, .bool false, .bool false, .int .i64 0, .int .i64 0, .int .i64 0, .int .i64 0, .int .i64 0, .string ⟨#[]⟩, .int .i64 0, .int .i64 0] 35)
  replace hb := hb.step hbn
  replace B := B.step hbn
  clear hbn
  have egR : gB + 1 = gR := szB.symm.trans hgR
  rw [egR]
  clear szB
  generalize (w1).alloc (.cells #[.int .i64 0, .int .i64 0, .int .i64 0, .int .i64 0, .int .i64 0, .int .i64 0, .int .i64 0, .int .i64 0, .string ⟨#[]⟩, .bool false, .bool false, .bool false, .bool false, .bool false, .bool false, .bool false, .bool false, .bool false, .bool false, .bool false, .bool false, .bool false, .bool false, .bool false, .bool false, .bool false, .bool false, .int .i64 0, .int .i64 0, .int .i64 0, .int .i64 0, .int .i64 0, .string ⟨#[]⟩, .int .i64 0, .int .i64 0] 35) = w2 at *
  have hwR : w.heap.size ≤ gR := by omega
  clear hgB hgR egR
  go_wp2_with fail
  refine (cK _).mono ?_
  rintro e wx ⟨rfl, rfl⟩
  have B_0 := B.cell (j := 0) rfl
  have B_1 := B.cell (j := 1) rfl
  have B_2 := B.cell (j := 2) rfl
  have B_3 := B.cell (j := 3) rfl
  go_wp2_with fail
  refine (cE _).mono ?_
  rintro e w4 ⟨rfl, hbn⟩
  replace hb := hb.step hbn
  replace B := B.step hbn
  replace R := R.step hbn
  clear hbn
  go_upto_region 5 with fail
  apply wp_region_lit
  refine wpList_pure (v := ?_) rfl ?_ ?_
  rotate_left
  · go_simp
    try with_reducible rfl
  dsimp only [Act.put]
  refine wpList_store_rowTo rfl 35 (.tmp 6) (.tmp 20) rfl rfl gR #[.int .i64 0, .int .i64 0, .int .i64 0, .int .i64 0, .int .i64 0, .int .i64 0, .int .i64 0, .int .i64 0, .string ⟨#[]⟩, .bool false, .bool false, .bool false, .bool false, .bool false, .bool false, .bool false, .bool false, .bool false, .bool false, .bool false, .bool false, .bool false, .bool false, .bool false, .bool false, .bool false, .bool false, .int .i64 0, .int .i64 0, .int .i64 0, .int .i64 0, .int .i64 0, .string ⟨#[]⟩, .int .i64 0, .int .i64 0] (by kernel_rfl) (by kernel_rfl) _ _ R (by kernel_rfl) (by kernel_rfl) (by kernel_rfl) ?_
  have hkn := kx_row w4 gR #[.int .i64 0, .int .i64 0, .int .i64 0, .int .i64 0, .int .i64 0, .int .i64 0, .int .i64 0, .int .i64 0, .string ⟨#[]⟩, .bool false, .bool false, .bool false, .bool false, .bool false, .bool false, .bool false, .bool false, .bool false, .bool false, .bool false, .bool false, .bool false, .bool false, .bool false, .bool false, .bool false, .bool false, .int .i64 0, .int .i64 0, .int .i64 0, .int .i64 0, .int .i64 0, .string ⟨#[]⟩, .int .i64 0, .int .i64 0]
  replace R := R.row [.int .i64 0, .int .i64 0, .int .i64 0, .int .i64 0, .int .i64 0, .int .i64 0, .int .i64 0, .int .i64 0, .string ⟨#[]⟩, .bool false, .bool false, .bool false, .bool false, .bool false, .bool false, .bool false, .bool false, .bool false, .bool false, .bool false, .bool false, .bool false, .bool false, .bool false, .bool false, .bool false, .bool false, .int .i64 0, .int .i64 0, .int .i64 0, .int .i64 0, .int .i64 0, .string ⟨#[]⟩, .int .i64 0, .int .i64 0]
  generalize w4.setRow gR #[.int .i64 0, .int .i64 0, .int .i64 0, .int .i64 0, .int .i64 0, .int .i64 0, .int .i64 0, .int .i64 0, .string ⟨#[]⟩, .bool false, .bool false, .bool false, .bool false, .bool false, .bool false, .bool false, .bool false, .bool false, .bool false, .bool false, .bool false, .bool false, .bool false, .bool false, .bool false, .bool false, .bool false, .int .i64 0, .int .i64 0, .int .i64 0, .int .i64 0, .int .i64 0, .string ⟨#[]⟩, .int .i64 0, .int .i64 0] = w5 at *
  refine wpList_pure (v := ?_) rfl ?_ ?_
  rotate_left
  · go_simp
    try with_reducible rfl
  dsimp only [Act.put]
  refine wpList_nil ?_
  replace hb := hb.kx hkn (by simp; omega)
  go_wp2_with fail
  (try simp only [Exit.inBlock, Exit.then])
  exact bodyPost_ret (res_cell1t rfl (by kernel_rfl) (by kernel_rfl) (run_loadVar_row _ _ _ _ _ (0, 0) _ R Tryz.underlying35 rfl (by kernel_rfl))) rfl ⟨rfl, hb⟩
set_option maxRecDepth 100000 in
set_option maxHeartbeats 4000000 in
theorem rown_ok (c sl k m n : Int) (s : ByteArray) (w : World) (hs : s.size ≤ 9223372036854775807) (he : opErr c sl = 0) (hq : entB k m n s = true) :
    Calls Tryz.prog 42 #[.int .i64 c, .int .i64 sl, .agg #[.int .i64 k, .int .i64 m, .int .i64 n, .string s]] w fun e w' => e = .returned (.tuple #[qV (ownA c sl (ownerI c sl) k m n s), .int .i64 0]) ∧ Below w.heap.size w w' := by
  have cK := fun W => check15_any c sl W
  simp only [he] at cK
  have cE := fun W => ref14_any k m n s W hs
  rw [hq] at cE
  obtain ⟨ho, g1, g2, g3, g4, -, -⟩ := own_mod he
  have cF := fun W => refFirst_any c sl W g1 g2 g3 g4
  rw [← ho] at cF
  generalize ownerI c sl = o at *
  clear ho
  have cR := fun W => rfresh_any c sl 0 o 2 W
  generalize hqf : qV { freshA c sl 0 o with ph := 2 } = qf at cR
  unfold qV qL ownA
  simp only [List.map_cons, List.map_nil, List.cons_append, List.nil_append]
  have hb := From.refl w
  go_enter Tryz.func42, Tryz.ntmps42
  go_upto_region 1 with fail
  obtain ⟨gB, hgB⟩ : ∃ g, (w).heap.size = g := ⟨_, rfl⟩
  have B := Blk.newV hgB 26 #[.int .i64 k, .int .i64 m, .int .i64 n, .string s]
  have hbn := (Below.refl (w).heap.size w).alloc (Nat.le_refl _) (.cells #[.int .i64 k, .int .i64 m, .int .i64 n, .string s] 26)
  replace hb := hb.step hbn
  clear hbn
  rw [hgB]
  have szB := alloc_size hgB (.cells #[.int .i64 k, .int .i64 m, .int .i64 n, .string s] 26)
  generalize (w).alloc (.cells #[.int .i64 k, .int .i64 m, .int .i64 n, .string s] 26) = w1 at *
  obtain ⟨gR, hgR⟩ : ∃ g, (w1).heap.size = g := ⟨_, rfl⟩
  have lt_B_R := B.lt
  rw [hgR] at lt_B_R
  have R := Blk.newV hgR 35 #[.int .i64 0, .int .i64 0, .int .i64 0, .int .i64 0, .int .i64 0, .int .i64 0, .int .i64 0, .int .i64 0, .string ⟨#[]⟩, .bool false, .bool false, .bool false, .bool false, .bool false, .bool false, .bool false, .bool false, .bool false, .bool false, .bool false, .bool false, .bool false, .bool false, .bool false, .bool false, .bool false, .bool false, .int .i64 0, .int .i64 0, .int .i64 0, .int .i64 0, .int .i64 0, .string ⟨#[]⟩, .int .i64 0, .int .i64 0]
  have hbn := (Below.refl (w1).heap.size w1).alloc (Nat.le_refl _) (.cells #[.int .i64 0, .int .i64 0, .int .i64 0, .int .i64 0, .int .i64 0, .int .i64 0, .int .i64 0, .int .i64 0, .string ⟨#[]⟩, .bool false, .bool false, .bool false, .bool false, .bool false, .bool false, .bool false, .bool false, .bool false, .bool false, .bool false, .bool false, .bool false, .bool false, .bool false, .bool false, .bool false, .bool false, .int .i64 0, .int .i64 0, .int .i64 0, .int .i64 0, .int .i64 0, .string ⟨#[]⟩, .int .i64 0, .int .i64 0] 35)
  replace hb := hb.step hbn
  replace B := B.step hbn
  clear hbn
  have egR : gB + 1 = gR := szB.symm.trans hgR
  rw [egR]
  clear szB
  generalize (w1).alloc (.cells #[.int .i64 0, .int .i64 0, .int .i64 0, .int .i64 0, .int .i64 0, .int .i64 0, .int .i64 0, .int .i64 0, .string ⟨#[]⟩, .bool false, .bool false, .bool false, .bool false, .bool false, .bool false, .bool false, .bool false, .bool false, .bool false, .bool false, .bool false, .bool false, .bool false, .bool false, .bool false, .bool false, .bool false, .int .i64 0, .int .i64 0, .int .i64 0, .int .i64 0, .int .i64 0, .string ⟨#[]⟩, .int .i64 0, .int .i64 0] 35) = w2 at *
  have hwR : w.heap.size ≤ gR := by omega
  clear hgB hgR egR
  go_wp2_with fail
  refine (cK _).mono ?_
  rintro e wx ⟨rfl, rfl⟩
  have B_0 := B.cell (j := 0) rfl
  have B_1 := B.cell (j := 1) rfl
  have B_2 := B.cell (j := 2) rfl
  have B_3 := B.cell (j := 3) rfl
  go_wp2_with fail
  refine (cE _).mono ?_
  rintro e w4 ⟨rfl, hbn⟩
  replace hb := hb.step hbn
  replace B := B.step hbn
  replace B_0 := B.cell (j := 0) rfl
  replace B_1 := B.cell (j := 1) rfl
  replace B_2 := B.cell (j := 2) rfl
  replace B_3 := B.cell (j := 3) rfl
  replace R := R.step hbn
  clear hbn
  go_upto_region 6 with fail
  clear B_0 B_1 B_2 B_3
  apply wp_region_lit
  refine wpList_pure (v := ?_) rfl ?_ ?_
  rotate_left
  · go_simp
    try with_reducible rfl
  dsimp only [Act.put]
  refine wpList_pure (v := ?_) rfl ?_ ?_
  rotate_left
  · go_simp
    try with_reducible rfl
  dsimp only [Act.put]
  refine wpList_pure (v := ?_) rfl ?_ ?_
  rotate_left
  · go_simp
    try with_reducible rfl
  dsimp only [Act.put]
  refine wpList_pure (v := ?_) rfl ?_ ?_
  rotate_left
  · go_simp
    try with_reducible rfl
  dsimp only [Act.put]
  refine wpList_plain rfl fun K hK => ?_
  go_simp
  refine (cF _).mono ?_
  rintro e w5 ⟨rfl, hbn⟩
  replace hb := hb.step hbn
  replace R := R.step hbn
  replace B := B.step hbn
  refine hK _ _ ?_
  clear hK K hbn
  refine wpList_plain rfl fun K hK => ?_
  go_simp
  refine (cR _).mono ?_
  rintro e w6 ⟨rfl, hbn⟩
  replace hb := hb.step hbn
  replace R := R.step hbn
  replace B := B.step hbn
  refine hK _ _ ?_
  clear hK K hbn
  refine wpList_plain rfl fun K hK => ?_
  go_simp
  obtain ⟨gN, hgN⟩ : ∃ g, w6.heap.size = g := ⟨_, rfl⟩
  have N := Blk.newV hgN 35 #[.int .i64 0, .int .i64 0, .int .i64 0, .int .i64 0, .int .i64 0, .int .i64 0, .int .i64 0, .int .i64 0, .string ⟨#[]⟩, .bool false, .bool false, .bool false, .bool false, .bool false, .bool false, .bool false, .bool false, .bool false, .bool false, .bool false, .bool false, .bool false, .bool false, .bool false, .bool false, .bool false, .bool false, .int .i64 0, .int .i64 0, .int .i64 0, .int .i64 0, .int .i64 0, .string ⟨#[]⟩, .int .i64 0, .int .i64 0]
  have hbn := (Below.refl w6.heap.size w6).alloc (Nat.le_refl _) (.cells #[.int .i64 0, .int .i64 0, .int .i64 0, .int .i64 0, .int .i64 0, .int .i64 0, .int .i64 0, .int .i64 0, .string ⟨#[]⟩, .bool false, .bool false, .bool false, .bool false, .bool false, .bool false, .bool false, .bool false, .bool false, .bool false, .bool false, .bool false, .bool false, .bool false, .bool false, .bool false, .bool false, .bool false, .int .i64 0, .int .i64 0, .int .i64 0, .int .i64 0, .int .i64 0, .string ⟨#[]⟩, .int .i64 0, .int .i64 0] 35)
  have hz6 := hb.size
  have hR6 := R.lt
  have hB6 := B.lt
  replace hb := hb.step hbn
  replace R := R.step hbn
  replace B := B.step hbn
  refine hK _ _ ?_
  clear hK K hbn
  rw [hgN]
  generalize w6.alloc (.cells #[.int .i64 0, .int .i64 0, .int .i64 0, .int .i64 0, .int .i64 0, .int .i64 0, .int .i64 0, .int .i64 0, .string ⟨#[]⟩, .bool false, .bool false, .bool false, .bool false, .bool false, .bool false, .bool false, .bool false, .bool false, .bool false, .bool false, .bool false, .bool false, .bool false, .bool false, .bool false, .bool false, .bool false, .int .i64 0, .int .i64 0, .int .i64 0, .int .i64 0, .int .i64 0, .string ⟨#[]⟩, .int .i64 0, .int .i64 0] 35) = w7a at *
  subst hqf
  refine wpList_store_rowTo rfl 35 (.tmp 9) (.tmp 26) rfl rfl gN #[.int .i64 c, .int .i64 sl, .int .i64 0, .int .i64 o, .int .i64 2, .int .i64 0, .int .i64 0, .int .i64 0, .string ⟨#[]⟩, .bool false, .bool false, .bool false, .bool false, .bool false, .bool false, .bool false, .bool false, .bool false, .bool false, .bool false, .bool false, .bool false, .bool false, .bool false, .bool false, .bool false, .bool false, .int .i64 (-1), .int .i64 0, .int .i64 0, .int .i64 0, .int .i64 0, .string ⟨#[]⟩, .int .i64 (-1), .int .i64 0] (by kernel_rfl) (by kernel_rfl) _ _ N (by kernel_rfl) (by kernel_rfl) (by kernel_rfl) ?_
  have hkn := kx_row w7a gN #[.int .i64 c, .int .i64 sl, .int .i64 0, .int .i64 o, .int .i64 2, .int .i64 0, .int .i64 0, .int .i64 0, .string ⟨#[]⟩, .bool false, .bool false, .bool false, .bool false, .bool false, .bool false, .bool false, .bool false, .bool false, .bool false, .bool false, .bool false, .bool false, .bool false, .bool false, .bool false, .bool false, .bool false, .int .i64 (-1), .int .i64 0, .int .i64 0, .int .i64 0, .int .i64 0, .string ⟨#[]⟩, .int .i64 (-1), .int .i64 0]
  replace N := N.row [.int .i64 c, .int .i64 sl, .int .i64 0, .int .i64 o, .int .i64 2, .int .i64 0, .int .i64 0, .int .i64 0, .string ⟨#[]⟩, .bool false, .bool false, .bool false, .bool false, .bool false, .bool false, .bool false, .bool false, .bool false, .bool false, .bool false, .bool false, .bool false, .bool false, .bool false, .bool false, .bool false, .bool false, .int .i64 (-1), .int .i64 0, .int .i64 0, .int .i64 0, .int .i64 0, .string ⟨#[]⟩, .int .i64 (-1), .int .i64 0]
  generalize w7a.setRow gN #[.int .i64 c, .int .i64 sl, .int .i64 0, .int .i64 o, .int .i64 2, .int .i64 0, .int .i64 0, .int .i64 0, .string ⟨#[]⟩, .bool false, .bool false, .bool false, .bool false, .bool false, .bool false, .bool false, .bool false, .bool false, .bool false, .bool false, .bool false, .bool false, .bool false, .bool false, .bool false, .bool false, .bool false, .int .i64 (-1), .int .i64 0, .int .i64 0, .int .i64 0, .int .i64 0, .string ⟨#[]⟩, .int .i64 (-1), .int .i64 0] = w7 at *
  refine wpList_nil ?_
  replace hb := hb.kx hkn (by simp; omega)
  replace R := R.kx hkn (by simp; omega)
  replace B := B.kx hkn (by simp; omega)
  clear hkn
  go_upto_region 7 with fail
  have n5 := N.cell (j := 5) rfl
  have n6 := N.cell (j := 6) rfl
  have n7 := N.cell (j := 7) rfl
  have n8 := N.cell (j := 8) rfl
  have f5 := N.frozen 5
  have f6 := N.frozen 6
  have f7 := N.frozen 7
  have f8 := N.frozen 8
  have B_0 := B.cell (j := 0) rfl
  have B_1 := B.cell (j := 1) rfl
  have B_2 := B.cell (j := 2) rfl
  have B_3 := B.cell (j := 3) rfl
  have hk1 : Kx [gN] w7 ((((w7.setCell ⟨gN, 5, none⟩ (.int .i64 k)).setCell ⟨gN, 6, none⟩ (.int .i64 m)).setCell ⟨gN, 7, none⟩ (.int .i64 n)).setCell ⟨gN, 8, none⟩ (.string s)) := Kx.setCells [.int .i64 k, .int .i64 m, .int .i64 n, .string s] 5 w7 (Kx.refl [gN] w7) (.inl (by simp))
  have hwN : w.heap.size ≤ gN := by omega
  have hRN : gR ≠ gN := by omega
  have hBN : gB ≠ gN := by omega
  go_upto_region 8 with fail
  clear n5 n6 n7 n8 f5 f6 f7 f8 B_0 B_1 B_2 B_3
  replace N := (((N.set 5 (.int .i64 k)).set 6 (.int .i64 m)).set 7 (.int .i64 n)).set 8 (.string s)
  replace R := R.kx hk1 (by simp; omega)
  replace hb := hb.kx hk1 (by simp; omega)
  generalize ((((w7.setCell ⟨gN, 5, none⟩ (.int .i64 k)).setCell ⟨gN, 6, none⟩ (.int .i64 m)).setCell ⟨gN, 7, none⟩ (.int .i64 n)).setCell ⟨gN, 8, none⟩ (.string s)) = w8 at *
  replace N : Blk w8 gN 35 [.int .i64 c, .int .i64 sl, .int .i64 0, .int .i64 o, .int .i64 2, .int .i64 k, .int .i64 m, .int .i64 n, .string s, .bool false, .bool false, .bool false, .bool false, .bool false, .bool false, .bool false, .bool false, .bool false, .bool false, .bool false, .bool false, .bool false, .bool false, .bool false, .bool false, .bool false, .bool false, .int .i64 (-1), .int .i64 0, .int .i64 0, .int .i64 0, .int .i64 0, .string ⟨#[]⟩, .int .i64 (-1), .int .i64 0] := N
  apply wp_region_lit
  refine wpList_load_row rfl 35 (.tmp 9) rfl gN (by kernel_rfl) _ _ (0, 0) _ N Tryz.underlying35 rfl (by kernel_rfl) ?_
  dsimp only [Act.put]
  refine wpList_store_rowTo rfl 35 (.tmp 6) (.tmp 29) rfl rfl gR #[.int .i64 c, .int .i64 sl, .int .i64 0, .int .i64 o, .int .i64 2, .int .i64 k, .int .i64 m, .int .i64 n, .string s, .bool false, .bool false, .bool false, .bool false, .bool false, .bool false, .bool false, .bool false, .bool false, .bool false, .bool false, .bool false, .bool false, .bool false, .bool false, .bool false, .bool false, .bool false, .int .i64 (-1), .int .i64 0, .int .i64 0, .int .i64 0, .int .i64 0, .string ⟨#[]⟩, .int .i64 (-1), .int .i64 0] (by kernel_rfl) (by kernel_rfl) _ _ R (by kernel_rfl) (by kernel_rfl) (by kernel_rfl) ?_
  have hkn := kx_row w8 gR #[.int .i64 c, .int .i64 sl, .int .i64 0, .int .i64 o, .int .i64 2, .int .i64 k, .int .i64 m, .int .i64 n, .string s, .bool false, .bool false, .bool false, .bool false, .bool false, .bool false, .bool false, .bool false, .bool false, .bool false, .bool false, .bool false, .bool false, .bool false, .bool false, .bool false, .bool false, .bool false, .int .i64 (-1), .int .i64 0, .int .i64 0, .int .i64 0, .int .i64 0, .string ⟨#[]⟩, .int .i64 (-1), .int .i64 0]
  replace R := R.row [.int .i64 c, .int .i64 sl, .int .i64 0, .int .i64 o, .int .i64 2, .int .i64 k, .int .i64 m, .int .i64 n, .string s, .bool false, .bool false, .bool false, .bool false, .bool false, .bool false, .bool false, .bool false, .bool false, .bool false, .bool false, .bool false, .bool false, .bool false, .bool false, .bool false, .bool false, .bool false, .int .i64 (-1), .int .i64 0, .int .i64 0, .int .i64 0, .int .i64 0, .string ⟨#[]⟩, .int .i64 (-1), .int .i64 0]
  generalize w8.setRow gR #[.int .i64 c, .int .i64 sl, .int .i64 0, .int .i64 o, .int .i64 2, .int .i64 k, .int .i64 m, .int .i64 n, .string s, .bool false, .bool false, .bool false, .bool false, .bool false, .bool false, .bool false, .bool false, .bool false, .bool false, .bool false, .bool false, .bool false, .bool false, .bool false, .bool false, .bool false, .bool false, .int .i64 (-1), .int .i64 0, .int .i64 0, .int .i64 0, .int .i64 0, .string ⟨#[]⟩, .int .i64 (-1), .int .i64 0] = w9 at *
  refine wpList_pure (v := ?_) rfl ?_ ?_
  rotate_left
  · go_simp
    try with_reducible rfl
  dsimp only [Act.put]
  refine wpList_nil ?_
  replace hb := hb.kx hkn (by simp; omega)
  go_wp2_with fail
  (try simp only [Exit.inBlock, Exit.then])
  exact bodyPost_ret (res_cell1t rfl (by kernel_rfl) (by kernel_rfl) (run_loadVar_row _ _ _ _ _ (0, 0) _ R Tryz.underlying35 rfl (by kernel_rfl))) rfl ⟨rfl, hb⟩
set_option maxRecDepth 100000 in
set_option maxHeartbeats 2000000 in
theorem rask_no (c sl r p : Int) (w : World) (he : opErr c sl ≠ 0) :
    Calls Tryz.prog 43 #[.int .i64 c, .int .i64 sl, .agg #[.int .i64 r, .int .i64 p]] w fun e w' => e = .returned (.tuple #[qV zP, .int .i64 (opErr c sl)]) ∧ Below w.heap.size w w' := by
  have cK := fun W => check15_any c sl W
  obtain ⟨E, hE⟩ : ∃ E, opErr c sl = E := ⟨_, rfl⟩
  rw [hE] at he ⊢
  simp only [hE] at cK
  clear hE
  have hb := From.refl w
  go_enter Tryz.func43, Tryz.ntmps43
  go_upto_region 1 with fail
  obtain ⟨gB, hgB⟩ : ∃ g, (w).heap.size = g := ⟨_, rfl⟩
  have B := Blk.newV hgB 23 #[.int .i64 r, .int .i64 p]
  have hbn := (Below.refl (w).heap.size w).alloc (Nat.le_refl _) (.cells #[.int .i64 r, .int .i64 p] 23)
  replace hb := hb.step hbn
  clear hbn
  rw [hgB]
  have szB := alloc_size hgB (.cells #[.int .i64 r, .int .i64 p] 23)
  generalize (w).alloc (.cells #[.int .i64 r, .int .i64 p] 23) = w1 at *
  obtain ⟨gR, hgR⟩ : ∃ g, (w1).heap.size = g := ⟨_, rfl⟩
  have lt_B_R := B.lt
  rw [hgR] at lt_B_R
  have R := Blk.newV hgR 35 #[.int .i64 0, .int .i64 0, .int .i64 0, .int .i64 0, .int .i64 0, .int .i64 0, .int .i64 0, .int .i64 0, .string ⟨#[]⟩, .bool false, .bool false, .bool false, .bool false, .bool false, .bool false, .bool false, .bool false, .bool false, .bool false, .bool false, .bool false, .bool false, .bool false, .bool false, .bool false, .bool false, .bool false, .int .i64 0, .int .i64 0, .int .i64 0, .int .i64 0, .int .i64 0, .string ⟨#[]⟩, .int .i64 0, .int .i64 0]
  have hbn := (Below.refl (w1).heap.size w1).alloc (Nat.le_refl _) (.cells #[.int .i64 0, .int .i64 0, .int .i64 0, .int .i64 0, .int .i64 0, .int .i64 0, .int .i64 0, .int .i64 0, .string ⟨#[]⟩, .bool false, .bool false, .bool false, .bool false, .bool false, .bool false, .bool false, .bool false, .bool false, .bool false, .bool false, .bool false, .bool false, .bool false, .bool false, .bool false, .bool false, .bool false, .int .i64 0, .int .i64 0, .int .i64 0, .int .i64 0, .int .i64 0, .string ⟨#[]⟩, .int .i64 0, .int .i64 0] 35)
  replace hb := hb.step hbn
  replace B := B.step hbn
  clear hbn
  have egR : gB + 1 = gR := szB.symm.trans hgR
  rw [egR]
  clear szB
  generalize (w1).alloc (.cells #[.int .i64 0, .int .i64 0, .int .i64 0, .int .i64 0, .int .i64 0, .int .i64 0, .int .i64 0, .int .i64 0, .string ⟨#[]⟩, .bool false, .bool false, .bool false, .bool false, .bool false, .bool false, .bool false, .bool false, .bool false, .bool false, .bool false, .bool false, .bool false, .bool false, .bool false, .bool false, .bool false, .bool false, .int .i64 0, .int .i64 0, .int .i64 0, .int .i64 0, .int .i64 0, .string ⟨#[]⟩, .int .i64 0, .int .i64 0] 35) = w2 at *
  have hwR : w.heap.size ≤ gR := by omega
  clear hgB hgR egR
  go_wp2_with fail
  refine (cK _).mono ?_
  rintro e wx ⟨rfl, rfl⟩
  go_upto_region 3 with fail
  apply wp_region_lit
  refine wpList_pure (v := ?_) rfl ?_ ?_
  rotate_left
  · go_simp
    try with_reducible rfl
  dsimp only [Act.put]
  refine wpList_pure (v := ?_) rfl ?_ ?_
  rotate_left
  · go_simp
    try with_reducible rfl
  dsimp only [Act.put]
  refine wpList_store_rowTo rfl 35 (.tmp 6) (.tmp 14) rfl rfl gR #[.int .i64 0, .int .i64 0, .int .i64 0, .int .i64 0, .int .i64 0, .int .i64 0, .int .i64 0, .int .i64 0, .string ⟨#[]⟩, .bool false, .bool false, .bool false, .bool false, .bool false, .bool false, .bool false, .bool false, .bool false, .bool false, .bool false, .bool false, .bool false, .bool false, .bool false, .bool false, .bool false, .bool false, .int .i64 0, .int .i64 0, .int .i64 0, .int .i64 0, .int .i64 0, .string ⟨#[]⟩, .int .i64 0, .int .i64 0] (by kernel_rfl) (by kernel_rfl) _ _ R (by kernel_rfl) (by kernel_rfl) (by kernel_rfl) ?_
  have hkn := kx_row w2 gR #[.int .i64 0, .int .i64 0, .int .i64 0, .int .i64 0, .int .i64 0, .int .i64 0, .int .i64 0, .int .i64 0, .string ⟨#[]⟩, .bool false, .bool false, .bool false, .bool false, .bool false, .bool false, .bool false, .bool false, .bool false, .bool false, .bool false, .bool false, .bool false, .bool false, .bool false, .bool false, .bool false, .bool false, .int .i64 0, .int .i64 0, .int .i64 0, .int .i64 0, .int .i64 0, .string ⟨#[]⟩, .int .i64 0, .int .i64 0]
  replace R := R.row [.int .i64 0, .int .i64 0, .int .i64 0, .int .i64 0, .int .i64 0, .int .i64 0, .int .i64 0, .int .i64 0, .string ⟨#[]⟩, .bool false, .bool false, .bool false, .bool false, .bool false, .bool false, .bool false, .bool false, .bool false, .bool false, .bool false, .bool false, .bool false, .bool false, .bool false, .bool false, .bool false, .bool false, .int .i64 0, .int .i64 0, .int .i64 0, .int .i64 0, .int .i64 0, .string ⟨#[]⟩, .int .i64 0, .int .i64 0]
  generalize w2.setRow gR #[.int .i64 0, .int .i64 0, .int .i64 0, .int .i64 0, .int .i64 0, .int .i64 0, .int .i64 0, .int .i64 0, .string ⟨#[]⟩, .bool false, .bool false, .bool false, .bool false, .bool false, .bool false, .bool false, .bool false, .bool false, .bool false, .bool false, .bool false, .bool false, .bool false, .bool false, .bool false, .bool false, .bool false, .int .i64 0, .int .i64 0, .int .i64 0, .int .i64 0, .int .i64 0, .string ⟨#[]⟩, .int .i64 0, .int .i64 0] = w3 at *
  refine wpList_pure (v := ?_) rfl ?_ ?_
  rotate_left
  · go_simp
    try with_reducible rfl
  dsimp only [Act.put]
  refine wpList_nil ?_
  replace hb := hb.kx hkn (by simp; omega)
  go_wp2_with fail
  (try simp only [Exit.inBlock, Exit.then])
  exact bodyPost_ret (res_cell1t rfl (by kernel_rfl) (by kernel_rfl) (run_loadVar_row _ _ _ _ _ (0, 0) _ R Tryz.underlying35 rfl (by kernel_rfl))) rfl ⟨rfl, hb⟩
set_option maxRecDepth 100000 in
set_option maxHeartbeats 2000000 in
theorem rask_badfalse (c sl r p : Int) (w : World) (he : opErr c sl = 0) (hm : mayB c sl r p = false) :
    Calls Tryz.prog 43 #[.int .i64 c, .int .i64 sl, .agg #[.int .i64 r, .int .i64 p]] w fun e w' => e = .returned (.tuple #[qV zP, .int .i64 2]) ∧ Below w.heap.size w w' := by
  have cK := fun W => check15_any c sl W
  simp only [he] at cK
  have cM := fun W => refMay_any c sl r p W
  simp only [hm] at cM
  have hb := From.refl w
  go_enter Tryz.func43, Tryz.ntmps43
  go_upto_region 1 with fail
  obtain ⟨gB, hgB⟩ : ∃ g, (w).heap.size = g := ⟨_, rfl⟩
  have B := Blk.newV hgB 23 #[.int .i64 r, .int .i64 p]
  have hbn := (Below.refl (w).heap.size w).alloc (Nat.le_refl _) (.cells #[.int .i64 r, .int .i64 p] 23)
  replace hb := hb.step hbn
  clear hbn
  rw [hgB]
  have szB := alloc_size hgB (.cells #[.int .i64 r, .int .i64 p] 23)
  generalize (w).alloc (.cells #[.int .i64 r, .int .i64 p] 23) = w1 at *
  obtain ⟨gR, hgR⟩ : ∃ g, (w1).heap.size = g := ⟨_, rfl⟩
  have lt_B_R := B.lt
  rw [hgR] at lt_B_R
  have R := Blk.newV hgR 35 #[.int .i64 0, .int .i64 0, .int .i64 0, .int .i64 0, .int .i64 0, .int .i64 0, .int .i64 0, .int .i64 0, .string ⟨#[]⟩, .bool false, .bool false, .bool false, .bool false, .bool false, .bool false, .bool false, .bool false, .bool false, .bool false, .bool false, .bool false, .bool false, .bool false, .bool false, .bool false, .bool false, .bool false, .int .i64 0, .int .i64 0, .int .i64 0, .int .i64 0, .int .i64 0, .string ⟨#[]⟩, .int .i64 0, .int .i64 0]
  have hbn := (Below.refl (w1).heap.size w1).alloc (Nat.le_refl _) (.cells #[.int .i64 0, .int .i64 0, .int .i64 0, .int .i64 0, .int .i64 0, .int .i64 0, .int .i64 0, .int .i64 0, .string ⟨#[]⟩, .bool false, .bool false, .bool false, .bool false, .bool false, .bool false, .bool false, .bool false, .bool false, .bool false, .bool false, .bool false, .bool false, .bool false, .bool false, .bool false, .bool false, .bool false, .int .i64 0, .int .i64 0, .int .i64 0, .int .i64 0, .int .i64 0, .string ⟨#[]⟩, .int .i64 0, .int .i64 0] 35)
  replace hb := hb.step hbn
  replace B := B.step hbn
  clear hbn
  have egR : gB + 1 = gR := szB.symm.trans hgR
  rw [egR]
  clear szB
  generalize (w1).alloc (.cells #[.int .i64 0, .int .i64 0, .int .i64 0, .int .i64 0, .int .i64 0, .int .i64 0, .int .i64 0, .int .i64 0, .string ⟨#[]⟩, .bool false, .bool false, .bool false, .bool false, .bool false, .bool false, .bool false, .bool false, .bool false, .bool false, .bool false, .bool false, .bool false, .bool false, .bool false, .bool false, .bool false, .bool false, .int .i64 0, .int .i64 0, .int .i64 0, .int .i64 0, .int .i64 0, .string ⟨#[]⟩, .int .i64 0, .int .i64 0] 35) = w2 at *
  have hwR : w.heap.size ≤ gR := by omega
  clear hgB hgR egR
  go_wp2_with fail
  refine (cK _).mono ?_
  rintro e wx ⟨rfl, rfl⟩
  have B_0 := B.cell (j := 0) rfl
  have B_1 := B.cell (j := 1) rfl
  go_wp2_with fail
  refine (cM _).mono ?_
  rintro e w4 ⟨rfl, hbn⟩
  replace hb := hb.step hbn
  replace B := B.step hbn
  replace B_0 := B.cell (j := 0) rfl
  replace B_1 := B.cell (j := 1) rfl
  replace R := R.step hbn
  clear hbn
  go_upto_region 5 with fail
  clear B_0 B_1
  apply wp_region_lit
  refine wpList_pure (v := ?_) rfl ?_ ?_
  rotate_left
  · go_simp
    try with_reducible rfl
  dsimp only [Act.put]
  refine wpList_store_rowTo rfl 35 (.tmp 6) (.tmp 26) rfl rfl gR #[.int .i64 0, .int .i64 0, .int .i64 0, .int .i64 0, .int .i64 0, .int .i64 0, .int .i64 0, .int .i64 0, .string ⟨#[]⟩, .bool false, .bool false, .bool false, .bool false, .bool false, .bool false, .bool false, .bool false, .bool false, .bool false, .bool false, .bool false, .bool false, .bool false, .bool false, .bool false, .bool false, .bool false, .int .i64 0, .int .i64 0, .int .i64 0, .int .i64 0, .int .i64 0, .string ⟨#[]⟩, .int .i64 0, .int .i64 0] (by kernel_rfl) (by kernel_rfl) _ _ R (by kernel_rfl) (by kernel_rfl) (by kernel_rfl) ?_
  have hkn := kx_row w4 gR #[.int .i64 0, .int .i64 0, .int .i64 0, .int .i64 0, .int .i64 0, .int .i64 0, .int .i64 0, .int .i64 0, .string ⟨#[]⟩, .bool false, .bool false, .bool false, .bool false, .bool false, .bool false, .bool false, .bool false, .bool false, .bool false, .bool false, .bool false, .bool false, .bool false, .bool false, .bool false, .bool false, .bool false, .int .i64 0, .int .i64 0, .int .i64 0, .int .i64 0, .int .i64 0, .string ⟨#[]⟩, .int .i64 0, .int .i64 0]
  replace R := R.row [.int .i64 0, .int .i64 0, .int .i64 0, .int .i64 0, .int .i64 0, .int .i64 0, .int .i64 0, .int .i64 0, .string ⟨#[]⟩, .bool false, .bool false, .bool false, .bool false, .bool false, .bool false, .bool false, .bool false, .bool false, .bool false, .bool false, .bool false, .bool false, .bool false, .bool false, .bool false, .bool false, .bool false, .int .i64 0, .int .i64 0, .int .i64 0, .int .i64 0, .int .i64 0, .string ⟨#[]⟩, .int .i64 0, .int .i64 0]
  generalize w4.setRow gR #[.int .i64 0, .int .i64 0, .int .i64 0, .int .i64 0, .int .i64 0, .int .i64 0, .int .i64 0, .int .i64 0, .string ⟨#[]⟩, .bool false, .bool false, .bool false, .bool false, .bool false, .bool false, .bool false, .bool false, .bool false, .bool false, .bool false, .bool false, .bool false, .bool false, .bool false, .bool false, .bool false, .bool false, .int .i64 0, .int .i64 0, .int .i64 0, .int .i64 0, .int .i64 0, .string ⟨#[]⟩, .int .i64 0, .int .i64 0] = w5 at *
  refine wpList_pure (v := ?_) rfl ?_ ?_
  rotate_left
  · go_simp
    try with_reducible rfl
  dsimp only [Act.put]
  refine wpList_nil ?_
  replace hb := hb.kx hkn (by simp; omega)
  go_wp2_with fail
  (try simp only [Exit.inBlock, Exit.then])
  exact bodyPost_ret (res_cell1t rfl (by kernel_rfl) (by kernel_rfl) (run_loadVar_row _ _ _ _ _ (0, 0) _ R Tryz.underlying35 rfl (by kernel_rfl))) rfl ⟨rfl, hb⟩
set_option maxRecDepth 100000 in
set_option maxHeartbeats 2000000 in
theorem rask_badtrue (c sl p : Int) (w : World) (he : opErr c sl = 0) (hm : mayB c sl 0 p = true) :
    Calls Tryz.prog 43 #[.int .i64 c, .int .i64 sl, .agg #[.int .i64 0, .int .i64 p]] w fun e w' => e = .returned (.tuple #[qV zP, .int .i64 2]) ∧ Below w.heap.size w w' := by
  have cK := fun W => check15_any c sl W
  simp only [he] at cK
  have cM := fun W => refMay_any c sl 0 p W
  simp only [hm] at cM
  have hb := From.refl w
  go_enter Tryz.func43, Tryz.ntmps43
  go_upto_region 1 with fail
  obtain ⟨gB, hgB⟩ : ∃ g, (w).heap.size = g := ⟨_, rfl⟩
  have B := Blk.newV hgB 23 #[.int .i64 0, .int .i64 p]
  have hbn := (Below.refl (w).heap.size w).alloc (Nat.le_refl _) (.cells #[.int .i64 0, .int .i64 p] 23)
  replace hb := hb.step hbn
  clear hbn
  rw [hgB]
  have szB := alloc_size hgB (.cells #[.int .i64 0, .int .i64 p] 23)
  generalize (w).alloc (.cells #[.int .i64 0, .int .i64 p] 23) = w1 at *
  obtain ⟨gR, hgR⟩ : ∃ g, (w1).heap.size = g := ⟨_, rfl⟩
  have lt_B_R := B.lt
  rw [hgR] at lt_B_R
  have R := Blk.newV hgR 35 #[.int .i64 0, .int .i64 0, .int .i64 0, .int .i64 0, .int .i64 0, .int .i64 0, .int .i64 0, .int .i64 0, .string ⟨#[]⟩, .bool false, .bool false, .bool false, .bool false, .bool false, .bool false, .bool false, .bool false, .bool false, .bool false, .bool false, .bool false, .bool false, .bool false, .bool false, .bool false, .bool false, .bool false, .int .i64 0, .int .i64 0, .int .i64 0, .int .i64 0, .int .i64 0, .string ⟨#[]⟩, .int .i64 0, .int .i64 0]
  have hbn := (Below.refl (w1).heap.size w1).alloc (Nat.le_refl _) (.cells #[.int .i64 0, .int .i64 0, .int .i64 0, .int .i64 0, .int .i64 0, .int .i64 0, .int .i64 0, .int .i64 0, .string ⟨#[]⟩, .bool false, .bool false, .bool false, .bool false, .bool false, .bool false, .bool false, .bool false, .bool false, .bool false, .bool false, .bool false, .bool false, .bool false, .bool false, .bool false, .bool false, .bool false, .int .i64 0, .int .i64 0, .int .i64 0, .int .i64 0, .int .i64 0, .string ⟨#[]⟩, .int .i64 0, .int .i64 0] 35)
  replace hb := hb.step hbn
  replace B := B.step hbn
  clear hbn
  have egR : gB + 1 = gR := szB.symm.trans hgR
  rw [egR]
  clear szB
  generalize (w1).alloc (.cells #[.int .i64 0, .int .i64 0, .int .i64 0, .int .i64 0, .int .i64 0, .int .i64 0, .int .i64 0, .int .i64 0, .string ⟨#[]⟩, .bool false, .bool false, .bool false, .bool false, .bool false, .bool false, .bool false, .bool false, .bool false, .bool false, .bool false, .bool false, .bool false, .bool false, .bool false, .bool false, .bool false, .bool false, .int .i64 0, .int .i64 0, .int .i64 0, .int .i64 0, .int .i64 0, .string ⟨#[]⟩, .int .i64 0, .int .i64 0] 35) = w2 at *
  have hwR : w.heap.size ≤ gR := by omega
  clear hgB hgR egR
  go_wp2_with fail
  refine (cK _).mono ?_
  rintro e wx ⟨rfl, rfl⟩
  have B_0 := B.cell (j := 0) rfl
  have B_1 := B.cell (j := 1) rfl
  go_wp2_with fail
  refine (cM _).mono ?_
  rintro e w4 ⟨rfl, hbn⟩
  replace hb := hb.step hbn
  replace B := B.step hbn
  replace B_0 := B.cell (j := 0) rfl
  replace B_1 := B.cell (j := 1) rfl
  replace R := R.step hbn
  clear hbn
  go_upto_region 5 with fail
  clear B_0 B_1
  apply wp_region_lit
  refine wpList_pure (v := ?_) rfl ?_ ?_
  rotate_left
  · go_simp
    try with_reducible rfl
  dsimp only [Act.put]
  refine wpList_store_rowTo rfl 35 (.tmp 6) (.tmp 26) rfl rfl gR #[.int .i64 0, .int .i64 0, .int .i64 0, .int .i64 0, .int .i64 0, .int .i64 0, .int .i64 0, .int .i64 0, .string ⟨#[]⟩, .bool false, .bool false, .bool false, .bool false, .bool false, .bool false, .bool false, .bool false, .bool false, .bool false, .bool false, .bool false, .bool false, .bool false, .bool false, .bool false, .bool false, .bool false, .int .i64 0, .int .i64 0, .int .i64 0, .int .i64 0, .int .i64 0, .string ⟨#[]⟩, .int .i64 0, .int .i64 0] (by kernel_rfl) (by kernel_rfl) _ _ R (by kernel_rfl) (by kernel_rfl) (by kernel_rfl) ?_
  have hkn := kx_row w4 gR #[.int .i64 0, .int .i64 0, .int .i64 0, .int .i64 0, .int .i64 0, .int .i64 0, .int .i64 0, .int .i64 0, .string ⟨#[]⟩, .bool false, .bool false, .bool false, .bool false, .bool false, .bool false, .bool false, .bool false, .bool false, .bool false, .bool false, .bool false, .bool false, .bool false, .bool false, .bool false, .bool false, .bool false, .int .i64 0, .int .i64 0, .int .i64 0, .int .i64 0, .int .i64 0, .string ⟨#[]⟩, .int .i64 0, .int .i64 0]
  replace R := R.row [.int .i64 0, .int .i64 0, .int .i64 0, .int .i64 0, .int .i64 0, .int .i64 0, .int .i64 0, .int .i64 0, .string ⟨#[]⟩, .bool false, .bool false, .bool false, .bool false, .bool false, .bool false, .bool false, .bool false, .bool false, .bool false, .bool false, .bool false, .bool false, .bool false, .bool false, .bool false, .bool false, .bool false, .int .i64 0, .int .i64 0, .int .i64 0, .int .i64 0, .int .i64 0, .string ⟨#[]⟩, .int .i64 0, .int .i64 0]
  generalize w4.setRow gR #[.int .i64 0, .int .i64 0, .int .i64 0, .int .i64 0, .int .i64 0, .int .i64 0, .int .i64 0, .int .i64 0, .string ⟨#[]⟩, .bool false, .bool false, .bool false, .bool false, .bool false, .bool false, .bool false, .bool false, .bool false, .bool false, .bool false, .bool false, .bool false, .bool false, .bool false, .bool false, .bool false, .bool false, .int .i64 0, .int .i64 0, .int .i64 0, .int .i64 0, .int .i64 0, .string ⟨#[]⟩, .int .i64 0, .int .i64 0] = w5 at *
  refine wpList_pure (v := ?_) rfl ?_ ?_
  rotate_left
  · go_simp
    try with_reducible rfl
  dsimp only [Act.put]
  refine wpList_nil ?_
  replace hb := hb.kx hkn (by simp; omega)
  go_wp2_with fail
  (try simp only [Exit.inBlock, Exit.then])
  exact bodyPost_ret (res_cell1t rfl (by kernel_rfl) (by kernel_rfl) (run_loadVar_row _ _ _ _ _ (0, 0) _ R Tryz.underlying35 rfl (by kernel_rfl))) rfl ⟨rfl, hb⟩
set_option maxRecDepth 100000 in
set_option maxHeartbeats 4000000 in
theorem rask_ok (c sl r p : Int) (w : World) (he : opErr c sl = 0) (hm : mayB c sl r p = true) (hr : r ≠ 0) :
    Calls Tryz.prog 43 #[.int .i64 c, .int .i64 sl, .agg #[.int .i64 r, .int .i64 p]] w fun e w' => e = .returned (.tuple #[qV (freshA c sl r p), .int .i64 0]) ∧ Below w.heap.size w w' := by
  have cK := fun W => check15_any c sl W
  simp only [he] at cK
  have cM := fun W => refMay_any c sl r p W
  simp only [hm] at cM
  have cR := fun W => rfresh_any c sl r p 1 W
  unfold qV qL freshA at cR
  unfold qV qL freshA
  simp only [List.map_cons, List.map_nil, List.cons_append, List.nil_append] at cR ⊢
  have hb := From.refl w
  go_enter Tryz.func43, Tryz.ntmps43
  go_upto_region 1 with fail
  obtain ⟨gB, hgB⟩ : ∃ g, (w).heap.size = g := ⟨_, rfl⟩
  have B := Blk.newV hgB 23 #[.int .i64 r, .int .i64 p]
  have hbn := (Below.refl (w).heap.size w).alloc (Nat.le_refl _) (.cells #[.int .i64 r, .int .i64 p] 23)
  replace hb := hb.step hbn
  clear hbn
  rw [hgB]
  have szB := alloc_size hgB (.cells #[.int .i64 r, .int .i64 p] 23)
  generalize (w).alloc (.cells #[.int .i64 r, .int .i64 p] 23) = w1 at *
  obtain ⟨gR, hgR⟩ : ∃ g, (w1).heap.size = g := ⟨_, rfl⟩
  have lt_B_R := B.lt
  rw [hgR] at lt_B_R
  have R := Blk.newV hgR 35 #[.int .i64 0, .int .i64 0, .int .i64 0, .int .i64 0, .int .i64 0, .int .i64 0, .int .i64 0, .int .i64 0, .string ⟨#[]⟩, .bool false, .bool false, .bool false, .bool false, .bool false, .bool false, .bool false, .bool false, .bool false, .bool false, .bool false, .bool false, .bool false, .bool false, .bool false, .bool false, .bool false, .bool false, .int .i64 0, .int .i64 0, .int .i64 0, .int .i64 0, .int .i64 0, .string ⟨#[]⟩, .int .i64 0, .int .i64 0]
  have hbn := (Below.refl (w1).heap.size w1).alloc (Nat.le_refl _) (.cells #[.int .i64 0, .int .i64 0, .int .i64 0, .int .i64 0, .int .i64 0, .int .i64 0, .int .i64 0, .int .i64 0, .string ⟨#[]⟩, .bool false, .bool false, .bool false, .bool false, .bool false, .bool false, .bool false, .bool false, .bool false, .bool false, .bool false, .bool false, .bool false, .bool false, .bool false, .bool false, .bool false, .bool false, .int .i64 0, .int .i64 0, .int .i64 0, .int .i64 0, .int .i64 0, .string ⟨#[]⟩, .int .i64 0, .int .i64 0] 35)
  replace hb := hb.step hbn
  replace B := B.step hbn
  clear hbn
  have egR : gB + 1 = gR := szB.symm.trans hgR
  rw [egR]
  clear szB
  generalize (w1).alloc (.cells #[.int .i64 0, .int .i64 0, .int .i64 0, .int .i64 0, .int .i64 0, .int .i64 0, .int .i64 0, .int .i64 0, .string ⟨#[]⟩, .bool false, .bool false, .bool false, .bool false, .bool false, .bool false, .bool false, .bool false, .bool false, .bool false, .bool false, .bool false, .bool false, .bool false, .bool false, .bool false, .bool false, .bool false, .int .i64 0, .int .i64 0, .int .i64 0, .int .i64 0, .int .i64 0, .string ⟨#[]⟩, .int .i64 0, .int .i64 0] 35) = w2 at *
  have hwR : w.heap.size ≤ gR := by omega
  clear hgB hgR egR
  go_wp2_with fail
  refine (cK _).mono ?_
  rintro e wx ⟨rfl, rfl⟩
  have B_0 := B.cell (j := 0) rfl
  have B_1 := B.cell (j := 1) rfl
  go_wp2_with fail
  refine (cM _).mono ?_
  rintro e w4 ⟨rfl, hbn⟩
  replace hb := hb.step hbn
  replace B := B.step hbn
  replace B_0 := B.cell (j := 0) rfl
  replace B_1 := B.cell (j := 1) rfl
  replace R := R.step hbn
  clear hbn
  go_upto_region 6 with fail
  clear B_0 B_1
  have q0 := B.cell (j := 0) rfl
  have q1 := B.cell (j := 1) rfl
  apply wp_region_lit
  refine wpList_pure (v := ?_) rfl ?_ ?_
  rotate_left
  · go_simp
    try with_reducible rfl
  dsimp only [Act.put]
  refine wpList_pure (v := ?_) rfl ?_ ?_
  rotate_left
  · go_simp
    try with_reducible rfl
  dsimp only [Act.put]
  refine wpList_pure (v := ?_) rfl ?_ ?_
  rotate_left
  · go_simp
    try with_reducible rfl
  dsimp only [Act.put]
  refine wpList_plain rfl fun K hK => ?_
  go_simp
  refine (cR _).mono ?_
  rintro e w5 ⟨rfl, hbn⟩
  replace hb := hb.step hbn
  replace R := R.step hbn
  refine hK _ _ ?_
  clear hK K
  refine wpList_store_rowTo rfl 35 (.tmp 6) (.tmp 30) rfl rfl gR #[.int .i64 c, .int .i64 sl, .int .i64 r, .int .i64 p, .int .i64 1, .int .i64 0, .int .i64 0, .int .i64 0, .string ⟨#[]⟩, .bool false, .bool false, .bool false, .bool false, .bool false, .bool false, .bool false, .bool false, .bool false, .bool false, .bool false, .bool false, .bool false, .bool false, .bool false, .bool false, .bool false, .bool false, .int .i64 (-1), .int .i64 0, .int .i64 0, .int .i64 0, .int .i64 0, .string ⟨#[]⟩, .int .i64 (-1), .int .i64 0] (by kernel_rfl) (by kernel_rfl) _ _ R (by kernel_rfl) (by kernel_rfl) (by kernel_rfl) ?_
  have hkn := kx_row w5 gR #[.int .i64 c, .int .i64 sl, .int .i64 r, .int .i64 p, .int .i64 1, .int .i64 0, .int .i64 0, .int .i64 0, .string ⟨#[]⟩, .bool false, .bool false, .bool false, .bool false, .bool false, .bool false, .bool false, .bool false, .bool false, .bool false, .bool false, .bool false, .bool false, .bool false, .bool false, .bool false, .bool false, .bool false, .int .i64 (-1), .int .i64 0, .int .i64 0, .int .i64 0, .int .i64 0, .string ⟨#[]⟩, .int .i64 (-1), .int .i64 0]
  replace R := R.row [.int .i64 c, .int .i64 sl, .int .i64 r, .int .i64 p, .int .i64 1, .int .i64 0, .int .i64 0, .int .i64 0, .string ⟨#[]⟩, .bool false, .bool false, .bool false, .bool false, .bool false, .bool false, .bool false, .bool false, .bool false, .bool false, .bool false, .bool false, .bool false, .bool false, .bool false, .bool false, .bool false, .bool false, .int .i64 (-1), .int .i64 0, .int .i64 0, .int .i64 0, .int .i64 0, .string ⟨#[]⟩, .int .i64 (-1), .int .i64 0]
  generalize w5.setRow gR #[.int .i64 c, .int .i64 sl, .int .i64 r, .int .i64 p, .int .i64 1, .int .i64 0, .int .i64 0, .int .i64 0, .string ⟨#[]⟩, .bool false, .bool false, .bool false, .bool false, .bool false, .bool false, .bool false, .bool false, .bool false, .bool false, .bool false, .bool false, .bool false, .bool false, .bool false, .bool false, .bool false, .bool false, .int .i64 (-1), .int .i64 0, .int .i64 0, .int .i64 0, .int .i64 0, .string ⟨#[]⟩, .int .i64 (-1), .int .i64 0] = w6 at *
  refine wpList_pure (v := ?_) rfl ?_ ?_
  rotate_left
  · go_simp
    try with_reducible rfl
  dsimp only [Act.put]
  refine wpList_nil ?_
  replace hb := hb.kx hkn (by simp; omega)
  go_wp2_with fail
  (try simp only [Exit.inBlock, Exit.then])
  exact bodyPost_ret (res_cell1t rfl (by kernel_rfl) (by kernel_rfl) (run_loadVar_row _ _ _ _ _ (0, 0) _ R Tryz.underlying35 rfl (by kernel_rfl))) rfl ⟨rfl, hb⟩
end Go.Proofs.YtcahkcbenanfnaaGreatDoor
