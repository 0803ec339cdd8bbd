
/- The document's proposer: Take, Refuse. -/
import Derived.Test.YtcahkcbenanfnaaGreatDoorPrU
namespace Go.Proofs.YtcahkcbenanfnaaGreatDoor
set_option linter.unusedSimpArgs false
set_option linter.unusedVariables false
open Go.RowKit
set_option maxRecDepth 100000 in
set_option maxHeartbeats 1000000 in
theorem qtake_out (A : Prp) (place : Int) (w : World) (hp : A.pr.length = 9) (ha : A.ac.length = 9) (hin : inB place 0 A.c = false) :
    Calls Tryz.prog 63 #[qV A, .int .i64 place] w fun e w' => e = .returned (.tuple #[qV A, .int .i64 2]) ∧ Below w.heap.size w w' := by
  have cP := fun W => refPlace_any A.c place W
  have hb := From.refl w
  unfold qV
  go_enter Tryz.func63, Tryz.ntmps63
  go_upto_region 1 with fail
  obtain ⟨gP, hgP⟩ : ∃ g, (w).heap.size = g := ⟨_, rfl⟩
  have P := Blk.newV hgP 35 (qL A).toArray
  have hbn := (Below.refl (w).heap.size w).alloc (Nat.le_refl _) (.cells (qL A).toArray 35)
  replace hb := hb.step hbn
  clear hbn
  rw [hgP]
  have szP := alloc_size hgP (.cells (qL A).toArray 35)
  generalize (w).alloc (.cells (qL A).toArray 35) = w1 at *
  obtain ⟨gR, hgR⟩ : ∃ g, (w1).heap.size = g := ⟨_, rfl⟩
  have lt_P_R := P.lt
  rw [hgR] at lt_P_R
  have R := Blk.newV hgR 35 #[.int .i64 0, .int .i64 0, .int .i64 0, .int .i64 0, .int .i64 0, .int .i64 0, .int .i64 0, .int .i64 0, .string ⟨#[]⟩, .bool false, .bool false, .bool false, .bool false, .bool false, .bool false, .bool false, .bool false, .bool false, .bool false, .bool false, .bool false, .bool false, .bool false, .bool false, .bool false, .bool false, .bool false, .int .i64 0, .int .i64 0, .int .i64 0, .int .i64 0, .int .i64 0, .string ⟨#[]⟩, .int .i64 0, .int .i64 0]
  have hbn := (Below.refl (w1).heap.size w1).alloc (Nat.le_refl _) (.cells #[.int .i64 0, .int .i64 0, .int .i64 0, .int .i64 0, .int .i64 0, .int .i64 0, .int .i64 0, .int .i64 0, .string ⟨#[]⟩, .bool false, .bool false, .bool false, .bool false, .bool false, .bool false, .bool false, .bool false, .bool false, .bool false, .bool false, .bool false, .bool false, .bool false, .bool false, .bool false, .bool false, .bool false, .int .i64 0, .int .i64 0, .int .i64 0, .int .i64 0, .int .i64 0, .string ⟨#[]⟩, .int .i64 0, .int .i64 0] 35)
  replace hb := hb.step hbn
  replace P := P.step hbn
  clear hbn
  have egR : gP + 1 = gR := szP.symm.trans hgR
  rw [egR]
  clear szP
  generalize (w1).alloc (.cells #[.int .i64 0, .int .i64 0, .int .i64 0, .int .i64 0, .int .i64 0, .int .i64 0, .int .i64 0, .int .i64 0, .string ⟨#[]⟩, .bool false, .bool false, .bool false, .bool false, .bool false, .bool false, .bool false, .bool false, .bool false, .bool false, .bool false, .bool false, .bool false, .bool false, .bool false, .bool false, .bool false, .bool false, .int .i64 0, .int .i64 0, .int .i64 0, .int .i64 0, .int .i64 0, .string ⟨#[]⟩, .int .i64 0, .int .i64 0] 35) = w2 at *
  have hwR : w.heap.size ≤ gR := by omega
  have hwP : w.heap.size ≤ gP := by omega
  have hPR : gP ≠ gR := by omega
  clear hgP hgR egR
  replace P : QW w2 gP A := ⟨by simpa using P, hp, ha⟩
  have p0 := P.q0
  rw [hin] at cP
  go_wp2_with fail
  refine (cP _).mono ?_
  rintro e wx ⟨rfl, rfl⟩
  go_upto_region 2 with fail
  apply wp_region_lit
  refine wpList_load_row rfl 35 (.tmp 2) rfl gP (by kernel_rfl) _ _ (0, 0) _ P.1 Tryz.underlying35 rfl (qinfo P.2.1 P.2.2) ?_
  dsimp only [Act.put]
  refine wpList_store_rowTo rfl 35 (.tmp 4) (.tmp 11) rfl rfl gR (qL (A)).toArray (by kernel_rfl) (by kernel_rfl) _ _ R (qinfo P.2.1 P.2.2) (by rw [qsize P.2.1 P.2.2]; rfl) (qone _) ?_
  have hkn := kx_row w2 gR (qL (A)).toArray
  replace R := R.row (qL (A))
  replace hb := hb.kx hkn (by simp; omega)
  generalize w2.setRow gR (qL (A)).toArray = w9 at *
  refine wpList_pure (v := ?_) rfl ?_ ?_
  rotate_left
  · go_simp
    try with_reducible rfl
  dsimp only [Act.put]
  refine wpList_nil ?_
  go_wp2_with fail
  (try simp only [Exit.inBlock, Exit.then])
  exact bodyPost_ret (res_cell1t rfl (by kernel_rfl) (by kernel_rfl) (run_loadVar_row _ _ _ _ _ (0, 0) _ R Tryz.underlying35 rfl (qinfo P.2.1 P.2.2))) rfl ⟨rfl, hb⟩
set_option maxRecDepth 100000 in
set_option maxHeartbeats 1000000 in
theorem qtake_idle (A : Prp) (place : Int) (w : World) (hp : A.pr.length = 9) (ha : A.ac.length = 9) (hin : inB place 0 A.c = true) (hph : (A.ph == 2) = false) :
    Calls Tryz.prog 63 #[qV A, .int .i64 place] w fun e w' => e = .returned (.tuple #[qV A, .int .i64 0]) ∧ Below w.heap.size w w' := by
  have cP := fun W => refPlace_any A.c place W
  have hb := From.refl w
  unfold qV
  go_enter Tryz.func63, Tryz.ntmps63
  go_upto_region 1 with fail
  obtain ⟨gP, hgP⟩ : ∃ g, (w).heap.size = g := ⟨_, rfl⟩
  have P := Blk.newV hgP 35 (qL A).toArray
  have hbn := (Below.refl (w).heap.size w).alloc (Nat.le_refl _) (.cells (qL A).toArray 35)
  replace hb := hb.step hbn
  clear hbn
  rw [hgP]
  have szP := alloc_size hgP (.cells (qL A).toArray 35)
  generalize (w).alloc (.cells (qL A).toArray 35) = w1 at *
  obtain ⟨gR, hgR⟩ : ∃ g, (w1).heap.size = g := ⟨_, rfl⟩
  have lt_P_R := P.lt
  rw [hgR] at lt_P_R
  have R := Blk.newV hgR 35 #[.int .i64 0, .int .i64 0, .int .i64 0, .int .i64 0, .int .i64 0, .int .i64 0, .int .i64 0, .int .i64 0, .string ⟨#[]⟩, .bool false, .bool false, .bool false, .bool false, .bool false, .bool false, .bool false, .bool false, .bool false, .bool false, .bool false, .bool false, .bool false, .bool false, .bool false, .bool false, .bool false, .bool false, .int .i64 0, .int .i64 0, .int .i64 0, .int .i64 0, .int .i64 0, .string ⟨#[]⟩, .int .i64 0, .int .i64 0]
  have hbn := (Below.refl (w1).heap.size w1).alloc (Nat.le_refl _) (.cells #[.int .i64 0, .int .i64 0, .int .i64 0, .int .i64 0, .int .i64 0, .int .i64 0, .int .i64 0, .int .i64 0, .string ⟨#[]⟩, .bool false, .bool false, .bool false, .bool false, .bool false, .bool false, .bool false, .bool false, .bool false, .bool false, .bool false, .bool false, .bool false, .bool false, .bool false, .bool false, .bool false, .bool false, .int .i64 0, .int .i64 0, .int .i64 0, .int .i64 0, .int .i64 0, .string ⟨#[]⟩, .int .i64 0, .int .i64 0] 35)
  replace hb := hb.step hbn
  replace P := P.step hbn
  clear hbn
  have egR : gP + 1 = gR := szP.symm.trans hgR
  rw [egR]
  clear szP
  generalize (w1).alloc (.cells #[.int .i64 0, .int .i64 0, .int .i64 0, .int .i64 0, .int .i64 0, .int .i64 0, .int .i64 0, .int .i64 0, .string ⟨#[]⟩, .bool false, .bool false, .bool false, .bool false, .bool false, .bool false, .bool false, .bool false, .bool false, .bool false, .bool false, .bool false, .bool false, .bool false, .bool false, .bool false, .bool false, .bool false, .int .i64 0, .int .i64 0, .int .i64 0, .int .i64 0, .int .i64 0, .string ⟨#[]⟩, .int .i64 0, .int .i64 0] 35) = w2 at *
  have hwR : w.heap.size ≤ gR := by omega
  have hwP : w.heap.size ≤ gP := by omega
  have hPR : gP ≠ gR := by omega
  clear hgP hgR egR
  replace P : QW w2 gP A := ⟨by simpa using P, hp, ha⟩
  have p0 := P.q0
  rw [hin] at cP
  have p4 := P.q4
  go_wp2_with fail
  refine (cP _).mono ?_
  rintro e wx ⟨rfl, rfl⟩
  go_upto_region 7 with fail
  apply wp_region_lit
  refine wpList_load_row rfl 35 (.tmp 2) rfl gP (by kernel_rfl) _ _ (0, 0) _ P.1 Tryz.underlying35 rfl (qinfo P.2.1 P.2.2) ?_
  dsimp only [Act.put]
  refine wpList_store_rowTo rfl 35 (.tmp 4) (.tmp 26) rfl rfl gR (qL (A)).toArray (by kernel_rfl) (by kernel_rfl) _ _ R (qinfo P.2.1 P.2.2) (by rw [qsize P.2.1 P.2.2]; rfl) (qone _) ?_
  have hkn := kx_row w2 gR (qL (A)).toArray
  replace R := R.row (qL (A))
  replace hb := hb.kx hkn (by simp; omega)
  generalize w2.setRow gR (qL (A)).toArray = w9 at *
  refine wpList_pure (v := ?_) rfl ?_ ?_
  rotate_left
  · go_simp
    try with_reducible rfl
  dsimp only [Act.put]
  refine wpList_nil ?_
  go_wp2_with fail
  (try simp only [Exit.inBlock, Exit.then])
  exact bodyPost_ret (res_cell1t rfl (by kernel_rfl) (by kernel_rfl) (run_loadVar_row _ _ _ _ _ (0, 0) _ R Tryz.underlying35 rfl (qinfo P.2.1 P.2.2))) rfl ⟨rfl, hb⟩
set_option maxRecDepth 100000 in
set_option maxHeartbeats 2000000 in
theorem qtake_few (A : Prp) (j : Nat) (hj : j < 9) (w : World) (hp : A.pr.length = 9) (ha : A.ac.length = 9) (hr : rightB A.c = true) (hin : inB j 0 A.c = true) (hph : A.ph = 2) (hw : wonP A.c (A.ac.set j true) = false) :
    Calls Tryz.prog 63 #[qV A, .int .i64 j] w fun e w' => e = .returned (.tuple #[qV (takeA A j), .int .i64 0]) ∧ Below w.heap.size w w' := by
  obtain ⟨B, hBe⟩ : ∃ B, ({ A with ac := A.ac.set j true } : Prp) = B := ⟨_, rfl⟩
  have hgoal : takeA A j = B := by unfold takeA; rw [hw, ← hBe]; simp [Prp.sPh]
  rw [hgoal]
  clear hgoal
  obtain ⟨place, hpl⟩ : ∃ place : Int, (j : Int) = place := ⟨_, rfl⟩
  rw [hpl] at hin ⊢
  have cP := fun W => refPlace_any A.c place W
  have hb := From.refl w
  unfold qV
  go_enter Tryz.func63, Tryz.ntmps63
  go_upto_region 1 with fail
  obtain ⟨gP, hgP⟩ : ∃ g, (w).heap.size = g := ⟨_, rfl⟩
  have P := Blk.newV hgP 35 (qL A).toArray
  have hbn := (Below.refl (w).heap.size w).alloc (Nat.le_refl _) (.cells (qL A).toArray 35)
  replace hb := hb.step hbn
  clear hbn
  rw [hgP]
  have szP := alloc_size hgP (.cells (qL A).toArray 35)
  generalize (w).alloc (.cells (qL A).toArray 35) = w1 at *
  obtain ⟨gR, hgR⟩ : ∃ g, (w1).heap.size = g := ⟨_, rfl⟩
  have lt_P_R := P.lt
  rw [hgR] at lt_P_R
  have R := Blk.newV hgR 35 #[.int .i64 0, .int .i64 0, .int .i64 0, .int .i64 0, .int .i64 0, .int .i64 0, .int .i64 0, .int .i64 0, .string ⟨#[]⟩, .bool false, .bool false, .bool false, .bool false, .bool false, .bool false, .bool false, .bool false, .bool false, .bool false, .bool false, .bool false, .bool false, .bool false, .bool false, .bool false, .bool false, .bool false, .int .i64 0, .int .i64 0, .int .i64 0, .int .i64 0, .int .i64 0, .string ⟨#[]⟩, .int .i64 0, .int .i64 0]
  have hbn := (Below.refl (w1).heap.size w1).alloc (Nat.le_refl _) (.cells #[.int .i64 0, .int .i64 0, .int .i64 0, .int .i64 0, .int .i64 0, .int .i64 0, .int .i64 0, .int .i64 0, .string ⟨#[]⟩, .bool false, .bool false, .bool false, .bool false, .bool false, .bool false, .bool false, .bool false, .bool false, .bool false, .bool false, .bool false, .bool false, .bool false, .bool false, .bool false, .bool false, .bool false, .int .i64 0, .int .i64 0, .int .i64 0, .int .i64 0, .int .i64 0, .string ⟨#[]⟩, .int .i64 0, .int .i64 0] 35)
  replace hb := hb.step hbn
  replace P := P.step hbn
  clear hbn
  have egR : gP + 1 = gR := szP.symm.trans hgR
  rw [egR]
  clear szP
  generalize (w1).alloc (.cells #[.int .i64 0, .int .i64 0, .int .i64 0, .int .i64 0, .int .i64 0, .int .i64 0, .int .i64 0, .int .i64 0, .string ⟨#[]⟩, .bool false, .bool false, .bool false, .bool false, .bool false, .bool false, .bool false, .bool false, .bool false, .bool false, .bool false, .bool false, .bool false, .bool false, .bool false, .bool false, .bool false, .bool false, .int .i64 0, .int .i64 0, .int .i64 0, .int .i64 0, .int .i64 0, .string ⟨#[]⟩, .int .i64 0, .int .i64 0] 35) = w2 at *
  have hwR : w.heap.size ≤ gR := by omega
  have hwP : w.heap.size ≤ gP := by omega
  have hPR : gP ≠ gR := by omega
  clear hgP hgR egR
  replace P : QW w2 gP A := ⟨by simpa using P, hp, ha⟩
  have p0 := P.q0
  subst hpl
  rw [hin] at cP
  have p4 := P.q4
  rw [hph] at p4
  go_wp2_with fail
  refine (cP _).mono ?_
  rintro e wx ⟨rfl, rfl⟩
  have cMj := fun W => refMajority_any A.c W hr
  obtain ⟨M, hMe⟩ : ∃ M, majI A.c = M := ⟨_, rfl⟩
  rw [hMe] at cMj
  have hBc : B.c = A.c := by rw [← hBe]
  have hl9 : (A.ac.set j true).length = 9 := by simp [ha]
  have cMy := fun W => many15_any (A.ac.set j true) hl9 W
  have j0 : (0 : Int) ≤ (j : Int) := by omega
  have j9 : (j : Int) < 9 := by omega
  have cj := P.qac j hj
  have fj := P.frozen (18 + j)
  go_upto_region 5 with fail
  have hk1 : Kx [gP] w2 (w2.setCell ⟨gP, 18 + j, none⟩ (.bool true)) := (Kx.refl [gP] w2).setCell (p := ⟨gP, 18 + j, none⟩) (.inl (by simp)) _
  replace P := P.setAc j hj
  rw [hBe] at P
  replace R := R.kx hk1 (by simp; omega)
  replace hb := hb.kx hk1 (by simp; omega)
  generalize w2.setCell ⟨gP, 18 + j, none⟩ (.bool true) = w3 at *
  clear hk1 cj fj p0 p4
  have hBac : B.ac = A.ac.set j true := by rw [← hBe]
  obtain ⟨L, hLs⟩ : ∃ L, A.ac.set j true = L := ⟨_, rfl⟩
  rw [hLs] at cMy hl9 hBac hw
  obtain ⟨N, hN⟩ : ∃ N : Nat, (plK 0 L).length = N := ⟨_, rfl⟩
  rw [hN] at cMy
  obtain ⟨b0, b1, b2, b3, b4, b5, b6, b7, b8, rfl⟩ := nine hl9
  have e0 := P.q0
  rw [hBc] at e0
  replace e0 := extA_cell e0
  have c0 := extA_cell (P.qac 0 (by omega))
  have c1 := extA_cell (P.qac 1 (by omega))
  have c2 := extA_cell (P.qac 2 (by omega))
  have c3 := extA_cell (P.qac 3 (by omega))
  have c4 := extA_cell (P.qac 4 (by omega))
  have c5 := extA_cell (P.qac 5 (by omega))
  have c6 := extA_cell (P.qac 6 (by omega))
  have c7 := extA_cell (P.qac 7 (by omega))
  have c8 := extA_cell (P.qac 8 (by omega))
  rw [hBac] at c0 c1 c2 c3 c4 c5 c6 c7 c8
  simp only [List.getD_cons_zero, List.getD_cons_succ] at c0 c1 c2 c3 c4 c5 c6 c7 c8
  unfold setV at cMy
  simp only [List.map_cons, List.map_nil] at cMy
  unfold wonP at hw
  rw [hMe, hN] at hw
  refine wp_region_extB (by kernel_rfl) (by kernel_rfl) ?_
  repeat
    (first
      | go_big_quiet_skip
      | (go_big_quiet_want
         go_big_quiet_op
         first
           | go_big_quiet_on
           | (apply Exists.intro
              refine ⟨fun w' hC9 => ?_, ?_⟩
              · (first
                  | with_reducible rfl
                  | (go_at_call 112; refine (cMy _).mono ?_; rintro e w2 ⟨rfl, hb9⟩; exact ⟨rfl, extA_then hC9 hb9⟩) | (go_at_call 113; refine (cMj _).mono ?_; rintro e w2 ⟨rfl, rfl⟩; exact ⟨rfl, hC9⟩)
                  | (go_simp; done)
                  | (go_simp; with_reducible rfl))
              go_big_quiet_on)))
  refine wpQuiet_nil ?_
  intro w4 hq
  replace hb := hb.step hq
  replace P := P.step hq
  replace R := R.step hq
  clear hq c0 c1 c2 c3 c4 c5 c6 c7 c8 e0 cMy cMj
  have hw2 : ¬ M ≤ (N : Int) := by simpa using hw
  go_upto_region 7 with fail
  apply wp_region_lit
  refine wpList_load_row rfl 35 (.tmp 2) rfl gP (by kernel_rfl) _ _ (0, 0) _ P.1 Tryz.underlying35 rfl (qinfo P.2.1 P.2.2) ?_
  dsimp only [Act.put]
  refine wpList_store_rowTo rfl 35 (.tmp 4) (.tmp 26) rfl rfl gR (qL (B)).toArray (by kernel_rfl) (by kernel_rfl) _ _ R (qinfo P.2.1 P.2.2) (by rw [qsize P.2.1 P.2.2]; rfl) (qone _) ?_
  have hkn := kx_row w4 gR (qL (B)).toArray
  replace R := R.row (qL (B))
  replace hb := hb.kx hkn (by simp; omega)
  generalize w4.setRow gR (qL (B)).toArray = w9 at *
  refine wpList_pure (v := ?_) rfl ?_ ?_
  rotate_left
  · go_simp
    try with_reducible rfl
  dsimp only [Act.put]
  refine wpList_nil ?_
  go_wp2_with fail
  (try simp only [Exit.inBlock, Exit.then])
  exact bodyPost_ret (res_cell1t rfl (by kernel_rfl) (by kernel_rfl) (run_loadVar_row _ _ _ _ _ (0, 0) _ R Tryz.underlying35 rfl (qinfo P.2.1 P.2.2))) rfl ⟨rfl, hb⟩
set_option maxRecDepth 100000 in
set_option maxHeartbeats 2000000 in
theorem qtake_won (A : Prp) (j : Nat) (hj : j < 9) (w : World) (hp : A.pr.length = 9) (ha : A.ac.length = 9) (hr : rightB A.c = true) (hin : inB j 0 A.c = true) (hph : A.ph = 2) (hw : wonP A.c (A.ac.set j true) = true) :
    Calls Tryz.prog 63 #[qV A, .int .i64 j] w fun e w' => e = .returned (.tuple #[qV (takeA A j), .int .i64 0]) ∧ Below w.heap.size w w' := by
  obtain ⟨B, hBe⟩ : ∃ B, ({ A with ac := A.ac.set j true } : Prp) = B := ⟨_, rfl⟩
  have hgoal : takeA A j = Prp.sPh B 3 := by unfold takeA; rw [hw, ← hBe]; simp [Prp.sPh]
  rw [hgoal]
  clear hgoal
  obtain ⟨place, hpl⟩ : ∃ place : Int, (j : Int) = place := ⟨_, rfl⟩
  rw [hpl] at hin ⊢
  have cP := fun W => refPlace_any A.c place W
  have hb := From.refl w
  unfold qV
  go_enter Tryz.func63, Tryz.ntmps63
  go_upto_region 1 with fail
  obtain ⟨gP, hgP⟩ : ∃ g, (w).heap.size = g := ⟨_, rfl⟩
  have P := Blk.newV hgP 35 (qL A).toArray
  have hbn := (Below.refl (w).heap.size w).alloc (Nat.le_refl _) (.cells (qL A).toArray 35)
  replace hb := hb.step hbn
  clear hbn
  rw [hgP]
  have szP := alloc_size hgP (.cells (qL A).toArray 35)
  generalize (w).alloc (.cells (qL A).toArray 35) = w1 at *
  obtain ⟨gR, hgR⟩ : ∃ g, (w1).heap.size = g := ⟨_, rfl⟩
  have lt_P_R := P.lt
  rw [hgR] at lt_P_R
  have R := Blk.newV hgR 35 #[.int .i64 0, .int .i64 0, .int .i64 0, .int .i64 0, .int .i64 0, .int .i64 0, .int .i64 0, .int .i64 0, .string ⟨#[]⟩, .bool false, .bool false, .bool false, .bool false, .bool false, .bool false, .bool false, .bool false, .bool false, .bool false, .bool false, .bool false, .bool false, .bool false, .bool false, .bool false, .bool false, .bool false, .int .i64 0, .int .i64 0, .int .i64 0, .int .i64 0, .int .i64 0, .string ⟨#[]⟩, .int .i64 0, .int .i64 0]
  have hbn := (Below.refl (w1).heap.size w1).alloc (Nat.le_refl _) (.cells #[.int .i64 0, .int .i64 0, .int .i64 0, .int .i64 0, .int .i64 0, .int .i64 0, .int .i64 0, .int .i64 0, .string ⟨#[]⟩, .bool false, .bool false, .bool false, .bool false, .bool false, .bool false, .bool false, .bool false, .bool false, .bool false, .bool false, .bool false, .bool false, .bool false, .bool false, .bool false, .bool false, .bool false, .int .i64 0, .int .i64 0, .int .i64 0, .int .i64 0, .int .i64 0, .string ⟨#[]⟩, .int .i64 0, .int .i64 0] 35)
  replace hb := hb.step hbn
  replace P := P.step hbn
  clear hbn
  have egR : gP + 1 = gR := szP.symm.trans hgR
  rw [egR]
  clear szP
  generalize (w1).alloc (.cells #[.int .i64 0, .int .i64 0, .int .i64 0, .int .i64 0, .int .i64 0, .int .i64 0, .int .i64 0, .int .i64 0, .string ⟨#[]⟩, .bool false, .bool false, .bool false, .bool false, .bool false, .bool false, .bool false, .bool false, .bool false, .bool false, .bool false, .bool false, .bool false, .bool false, .bool false, .bool false, .bool false, .bool false, .int .i64 0, .int .i64 0, .int .i64 0, .int .i64 0, .int .i64 0, .string ⟨#[]⟩, .int .i64 0, .int .i64 0] 35) = w2 at *
  have hwR : w.heap.size ≤ gR := by omega
  have hwP : w.heap.size ≤ gP := by omega
  have hPR : gP ≠ gR := by omega
  clear hgP hgR egR
  replace P : QW w2 gP A := ⟨by simpa using P, hp, ha⟩
  have p0 := P.q0
  subst hpl
  rw [hin] at cP
  have p4 := P.q4
  rw [hph] at p4
  go_wp2_with fail
  refine (cP _).mono ?_
  rintro e wx ⟨rfl, rfl⟩
  have cMj := fun W => refMajority_any A.c W hr
  obtain ⟨M, hMe⟩ : ∃ M, majI A.c = M := ⟨_, rfl⟩
  rw [hMe] at cMj
  have hBc : B.c = A.c := by rw [← hBe]
  have hl9 : (A.ac.set j true).length = 9 := by simp [ha]
  have cMy := fun W => many15_any (A.ac.set j true) hl9 W
  have j0 : (0 : Int) ≤ (j : Int) := by omega
  have j9 : (j : Int) < 9 := by omega
  have cj := P.qac j hj
  have fj := P.frozen (18 + j)
  go_upto_region 5 with fail
  have hk1 : Kx [gP] w2 (w2.setCell ⟨gP, 18 + j, none⟩ (.bool true)) := (Kx.refl [gP] w2).setCell (p := ⟨gP, 18 + j, none⟩) (.inl (by simp)) _
  replace P := P.setAc j hj
  rw [hBe] at P
  replace R := R.kx hk1 (by simp; omega)
  replace hb := hb.kx hk1 (by simp; omega)
  generalize w2.setCell ⟨gP, 18 + j, none⟩ (.bool true) = w3 at *
  clear hk1 cj fj p0 p4
  have hBac : B.ac = A.ac.set j true := by rw [← hBe]
  obtain ⟨L, hLs⟩ : ∃ L, A.ac.set j true = L := ⟨_, rfl⟩
  rw [hLs] at cMy hl9 hBac hw
  obtain ⟨N, hN⟩ : ∃ N : Nat, (plK 0 L).length = N := ⟨_, rfl⟩
  rw [hN] at cMy
  obtain ⟨b0, b1, b2, b3, b4, b5, b6, b7, b8, rfl⟩ := nine hl9
  have e0 := P.q0
  rw [hBc] at e0
  replace e0 := extA_cell e0
  have c0 := extA_cell (P.qac 0 (by omega))
  have c1 := extA_cell (P.qac 1 (by omega))
  have c2 := extA_cell (P.qac 2 (by omega))
  have c3 := extA_cell (P.qac 3 (by omega))
  have c4 := extA_cell (P.qac 4 (by omega))
  have c5 := extA_cell (P.qac 5 (by omega))
  have c6 := extA_cell (P.qac 6 (by omega))
  have c7 := extA_cell (P.qac 7 (by omega))
  have c8 := extA_cell (P.qac 8 (by omega))
  rw [hBac] at c0 c1 c2 c3 c4 c5 c6 c7 c8
  simp only [List.getD_cons_zero, List.getD_cons_succ] at c0 c1 c2 c3 c4 c5 c6 c7 c8
  unfold setV at cMy
  simp only [List.map_cons, List.map_nil] at cMy
  unfold wonP at hw
  rw [hMe, hN] at hw
  refine wp_region_extB (by kernel_rfl) (by kernel_rfl) ?_
  repeat
    (first
      | go_big_quiet_skip
      | (go_big_quiet_want
         go_big_quiet_op
         first
           | go_big_quiet_on
           | (apply Exists.intro
              refine ⟨fun w' hC9 => ?_, ?_⟩
              · (first
                  | with_reducible rfl
                  | (go_at_call 112; refine (cMy _).mono ?_; rintro e w2 ⟨rfl, hb9⟩; exact ⟨rfl, extA_then hC9 hb9⟩) | (go_at_call 113; refine (cMj _).mono ?_; rintro e w2 ⟨rfl, rfl⟩; exact ⟨rfl, hC9⟩)
                  | (go_simp; done)
                  | (go_simp; with_reducible rfl))
              go_big_quiet_on)))
  refine wpQuiet_nil ?_
  intro w4 hq
  replace hb := hb.step hq
  replace P := P.step hq
  replace R := R.step hq
  clear hq c0 c1 c2 c3 c4 c5 c6 c7 c8 e0 cMy cMj
  have hw2 : M ≤ (N : Int) := by simpa using hw
  have p4 := P.q4
  have f4 := P.frozen 4
  have hk1 : Kx [gP] w4 (w4.setCell ⟨gP, 4, none⟩ (.int .i64 3)) := (Kx.refl [gP] w4).setCell (p := ⟨gP, 4, none⟩) (.inl (by simp)) _
  go_upto_region 7 with fail
  replace P := P.setPh 3
  replace R := R.kx hk1 (by simp; omega)
  replace hb := hb.kx hk1 (by simp; omega)
  generalize w4.setCell ⟨gP, 4, none⟩ (.int .i64 3) = w5 at *
  clear hk1 p4 f4
  apply wp_region_lit
  refine wpList_load_row rfl 35 (.tmp 2) rfl gP (by kernel_rfl) _ _ (0, 0) _ P.1 Tryz.underlying35 rfl (qinfo P.2.1 P.2.2) ?_
  dsimp only [Act.put]
  refine wpList_store_rowTo rfl 35 (.tmp 4) (.tmp 26) rfl rfl gR (qL (B.sPh 3)).toArray (by kernel_rfl) (by kernel_rfl) _ _ R (qinfo P.2.1 P.2.2) (by rw [qsize P.2.1 P.2.2]; rfl) (qone _) ?_
  have hkn := kx_row w5 gR (qL (B.sPh 3)).toArray
  replace R := R.row (qL (B.sPh 3))
  replace hb := hb.kx hkn (by simp; omega)
  generalize w5.setRow gR (qL (B.sPh 3)).toArray = w9 at *
  refine wpList_pure (v := ?_) rfl ?_ ?_
  rotate_left
  · go_simp
    try with_reducible rfl
  dsimp only [Act.put]
  refine wpList_nil ?_
  go_wp2_with fail
  (try simp only [Exit.inBlock, Exit.then])
  exact bodyPost_ret (res_cell1t rfl (by kernel_rfl) (by kernel_rfl) (run_loadVar_row _ _ _ _ _ (0, 0) _ R Tryz.underlying35 rfl (qinfo P.2.1 P.2.2))) rfl ⟨rfl, hb⟩
set_option maxRecDepth 100000 in
set_option maxHeartbeats 1000000 in
theorem qref_out (A : Prp) (place x y : Int) (w : World) (hp : A.pr.length = 9) (ha : A.ac.length = 9) (hin : inB place 0 A.c = false) :
    Calls Tryz.prog 64 #[qV A, .int .i64 place, .agg #[.int .i64 x, .int .i64 y]] w
      fun e w' => e = .returned (.tuple #[qV A, .int .i64 2]) ∧ Below w.heap.size w w' := by
  have cP := fun W => refPlace_any A.c place W
  have cM := fun W => refMay_any A.c A.sl x y W
  have cL := fun W => refLess_any A.r A.p x y W
  have hb := From.refl w
  unfold qV
  go_enter Tryz.func64, Tryz.ntmps64
  go_upto_region 1 with fail
  obtain ⟨gP, hgP⟩ : ∃ g, (w).heap.size = g := ⟨_, rfl⟩
  have P := Blk.newV hgP 35 (qL A).toArray
  have hbn := (Below.refl (w).heap.size w).alloc (Nat.le_refl _) (.cells (qL A).toArray 35)
  replace hb := hb.step hbn
  clear hbn
  rw [hgP]
  have szP := alloc_size hgP (.cells (qL A).toArray 35)
  generalize (w).alloc (.cells (qL A).toArray 35) = w1 at *
  obtain ⟨gB, hgB⟩ : ∃ g, (w1).heap.size = g := ⟨_, rfl⟩
  have lt_P_B := P.lt
  rw [hgB] at lt_P_B
  have B := Blk.newV hgB 23 #[.int .i64 x, .int .i64 y]
  have hbn := (Below.refl (w1).heap.size w1).alloc (Nat.le_refl _) (.cells #[.int .i64 x, .int .i64 y] 23)
  replace hb := hb.step hbn
  replace P := P.step hbn
  clear hbn
  have egB : gP + 1 = gB := szP.symm.trans hgB
  rw [egB]
  clear szP
  have szB := alloc_size hgB (.cells #[.int .i64 x, .int .i64 y] 23)
  generalize (w1).alloc (.cells #[.int .i64 x, .int .i64 y] 23) = w2 at *
  obtain ⟨gR, hgR⟩ : ∃ g, (w2).heap.size = g := ⟨_, rfl⟩
  have lt_P_R := P.lt
  rw [hgR] at lt_P_R
  have lt_B_R := B.lt
  rw [hgR] at lt_B_R
  have R := Blk.newV hgR 35 #[.int .i64 0, .int .i64 0, .int .i64 0, .int .i64 0, .int .i64 0, .int .i64 0, .int .i64 0, .int .i64 0, .string ⟨#[]⟩, .bool false, .bool false, .bool false, .bool false, .bool false, .bool false, .bool false, .bool false, .bool false, .bool false, .bool false, .bool false, .bool false, .bool false, .bool false, .bool false, .bool false, .bool false, .int .i64 0, .int .i64 0, .int .i64 0, .int .i64 0, .int .i64 0, .string ⟨#[]⟩, .int .i64 0, .int .i64 0]
  have hbn := (Below.refl (w2).heap.size w2).alloc (Nat.le_refl _) (.cells #[.int .i64 0, .int .i64 0, .int .i64 0, .int .i64 0, .int .i64 0, .int .i64 0, .int .i64 0, .int .i64 0, .string ⟨#[]⟩, .bool false, .bool false, .bool false, .bool false, .bool false, .bool false, .bool false, .bool false, .bool false, .bool false, .bool false, .bool false, .bool false, .bool false, .bool false, .bool false, .bool false, .bool false, .int .i64 0, .int .i64 0, .int .i64 0, .int .i64 0, .int .i64 0, .string ⟨#[]⟩, .int .i64 0, .int .i64 0] 35)
  replace hb := hb.step hbn
  replace P := P.step hbn
  replace B := B.step hbn
  clear hbn
  have egR : gB + 1 = gR := szB.symm.trans hgR
  rw [egR]
  clear szB
  generalize (w2).alloc (.cells #[.int .i64 0, .int .i64 0, .int .i64 0, .int .i64 0, .int .i64 0, .int .i64 0, .int .i64 0, .int .i64 0, .string ⟨#[]⟩, .bool false, .bool false, .bool false, .bool false, .bool false, .bool false, .bool false, .bool false, .bool false, .bool false, .bool false, .bool false, .bool false, .bool false, .bool false, .bool false, .bool false, .bool false, .int .i64 0, .int .i64 0, .int .i64 0, .int .i64 0, .int .i64 0, .string ⟨#[]⟩, .int .i64 0, .int .i64 0] 35) = w3 at *
  have hwR : w.heap.size ≤ gR := by omega
  have hwP : w.heap.size ≤ gP := by omega
  have hPR : gP ≠ gR := by omega
  have hPB : gP ≠ gB := by omega
  clear hgP hgB hgR egB egR
  replace P : QW w3 gP A := ⟨by simpa using P, hp, ha⟩
  have p0 := P.q0
  rw [hin] at cP
  go_wp2_with fail
  refine (cP _).mono ?_
  rintro e wx ⟨rfl, rfl⟩
  go_upto_region 2 with fail
  apply wp_region_lit
  refine wpList_load_row rfl 35 (.tmp 3) rfl gP (by kernel_rfl) _ _ (0, 0) _ P.1 Tryz.underlying35 rfl (qinfo P.2.1 P.2.2) ?_
  dsimp only [Act.put]
  refine wpList_store_rowTo rfl 35 (.tmp 6) (.tmp 29) rfl rfl gR (qL (A)).toArray (by kernel_rfl) (by kernel_rfl) _ _ R (qinfo P.2.1 P.2.2) (by rw [qsize P.2.1 P.2.2]; rfl) (qone _) ?_
  have hkn := kx_row w3 gR (qL (A)).toArray
  replace R := R.row (qL (A))
  replace hb := hb.kx hkn (by simp; omega)
  generalize w3.setRow gR (qL (A)).toArray = w9 at *
  refine wpList_pure (v := ?_) rfl ?_ ?_
  rotate_left
  · go_simp
    try with_reducible rfl
  dsimp only [Act.put]
  refine wpList_nil ?_
  go_wp2_with fail
  (try simp only [Exit.inBlock, Exit.then])
  exact bodyPost_ret (res_cell1t rfl (by kernel_rfl) (by kernel_rfl) (run_loadVar_row _ _ _ _ _ (0, 0) _ R Tryz.underlying35 rfl (qinfo P.2.1 P.2.2))) rfl ⟨rfl, hb⟩
set_option maxRecDepth 100000 in
set_option maxHeartbeats 1000000 in
theorem qref_may (A : Prp) (place x y : Int) (w : World) (hp : A.pr.length = 9) (ha : A.ac.length = 9) (hin : inB place 0 A.c = true) (hm : mayB A.c A.sl x y = false) :
    Calls Tryz.prog 64 #[qV A, .int .i64 place, .agg #[.int .i64 x, .int .i64 y]] w
      fun e w' => e = .returned (.tuple #[qV A, .int .i64 2]) ∧ Below w.heap.size w w' := by
  have cP := fun W => refPlace_any A.c place W
  have cM := fun W => refMay_any A.c A.sl x y W
  have cL := fun W => refLess_any A.r A.p x y W
  have hb := From.refl w
  unfold qV
  go_enter Tryz.func64, Tryz.ntmps64
  go_upto_region 1 with fail
  obtain ⟨gP, hgP⟩ : ∃ g, (w).heap.size = g := ⟨_, rfl⟩
  have P := Blk.newV hgP 35 (qL A).toArray
  have hbn := (Below.refl (w).heap.size w).alloc (Nat.le_refl _) (.cells (qL A).toArray 35)
  replace hb := hb.step hbn
  clear hbn
  rw [hgP]
  have szP := alloc_size hgP (.cells (qL A).toArray 35)
  generalize (w).alloc (.cells (qL A).toArray 35) = w1 at *
  obtain ⟨gB, hgB⟩ : ∃ g, (w1).heap.size = g := ⟨_, rfl⟩
  have lt_P_B := P.lt
  rw [hgB] at lt_P_B
  have B := Blk.newV hgB 23 #[.int .i64 x, .int .i64 y]
  have hbn := (Below.refl (w1).heap.size w1).alloc (Nat.le_refl _) (.cells #[.int .i64 x, .int .i64 y] 23)
  replace hb := hb.step hbn
  replace P := P.step hbn
  clear hbn
  have egB : gP + 1 = gB := szP.symm.trans hgB
  rw [egB]
  clear szP
  have szB := alloc_size hgB (.cells #[.int .i64 x, .int .i64 y] 23)
  generalize (w1).alloc (.cells #[.int .i64 x, .int .i64 y] 23) = w2 at *
  obtain ⟨gR, hgR⟩ : ∃ g, (w2).heap.size = g := ⟨_, rfl⟩
  have lt_P_R := P.lt
  rw [hgR] at lt_P_R
  have lt_B_R := B.lt
  rw [hgR] at lt_B_R
  have R := Blk.newV hgR 35 #[.int .i64 0, .int .i64 0, .int .i64 0, .int .i64 0, .int .i64 0, .int .i64 0, .int .i64 0, .int .i64 0, .string ⟨#[]⟩, .bool false, .bool false, .bool false, .bool false, .bool false, .bool false, .bool false, .bool false, .bool false, .bool false, .bool false, .bool false, .bool false, .bool false, .bool false, .bool false, .bool false, .bool false, .int .i64 0, .int .i64 0, .int .i64 0, .int .i64 0, .int .i64 0, .string ⟨#[]⟩, .int .i64 0, .int .i64 0]
  have hbn := (Below.refl (w2).heap.size w2).alloc (Nat.le_refl _) (.cells #[.int .i64 0, .int .i64 0, .int .i64 0, .int .i64 0, .int .i64 0, .int .i64 0, .int .i64 0, .int .i64 0, .string ⟨#[]⟩, .bool false, .bool false, .bool false, .bool false, .bool false, .bool false, .bool false, .bool false, .bool false, .bool false, .bool false, .bool false, .bool false, .bool false, .bool false, .bool false, .bool false, .bool false, .int .i64 0, .int .i64 0, .int .i64 0, .int .i64 0, .int .i64 0, .string ⟨#[]⟩, .int .i64 0, .int .i64 0] 35)
  replace hb := hb.step hbn
  replace P := P.step hbn
  replace B := B.step hbn
  clear hbn
  have egR : gB + 1 = gR := szB.symm.trans hgR
  rw [egR]
  clear szB
  generalize (w2).alloc (.cells #[.int .i64 0, .int .i64 0, .int .i64 0, .int .i64 0, .int .i64 0, .int .i64 0, .int .i64 0, .int .i64 0, .string ⟨#[]⟩, .bool false, .bool false, .bool false, .bool false, .bool false, .bool false, .bool false, .bool false, .bool false, .bool false, .bool false, .bool false, .bool false, .bool false, .bool false, .bool false, .bool false, .bool false, .int .i64 0, .int .i64 0, .int .i64 0, .int .i64 0, .int .i64 0, .string ⟨#[]⟩, .int .i64 0, .int .i64 0] 35) = w3 at *
  have hwR : w.heap.size ≤ gR := by omega
  have hwP : w.heap.size ≤ gP := by omega
  have hPR : gP ≠ gR := by omega
  have hPB : gP ≠ gB := by omega
  clear hgP hgB hgR egB egR
  replace P : QW w3 gP A := ⟨by simpa using P, hp, ha⟩
  have p0 := P.q0
  rw [hin] at cP
  rw [hm] at cM
  go_wp2_with fail
  refine (cP _).mono ?_
  rintro e wx ⟨rfl, rfl⟩
  have p0 := P.q0
  have p1 := P.q1
  have B_0 := B.cell (j := 0) rfl
  have B_1 := B.cell (j := 1) rfl
  go_wp2_with fail
  refine (cM _).mono ?_
  rintro e w5 ⟨rfl, hbn⟩
  replace hb := hb.step hbn
  replace P := P.step hbn
  replace R := R.step hbn
  replace B := B.step hbn
  clear hbn
  go_upto_region 2 with fail
  apply wp_region_lit
  refine wpList_load_row rfl 35 (.tmp 3) rfl gP (by kernel_rfl) _ _ (0, 0) _ P.1 Tryz.underlying35 rfl (qinfo P.2.1 P.2.2) ?_
  dsimp only [Act.put]
  refine wpList_store_rowTo rfl 35 (.tmp 6) (.tmp 29) rfl rfl gR (qL (A)).toArray (by kernel_rfl) (by kernel_rfl) _ _ R (qinfo P.2.1 P.2.2) (by rw [qsize P.2.1 P.2.2]; rfl) (qone _) ?_
  have hkn := kx_row w5 gR (qL (A)).toArray
  replace R := R.row (qL (A))
  replace hb := hb.kx hkn (by simp; omega)
  generalize w5.setRow gR (qL (A)).toArray = w9 at *
  refine wpList_pure (v := ?_) rfl ?_ ?_
  rotate_left
  · go_simp
    try with_reducible rfl
  dsimp only [Act.put]
  refine wpList_nil ?_
  go_wp2_with fail
  (try simp only [Exit.inBlock, Exit.then])
  exact bodyPost_ret (res_cell1t rfl (by kernel_rfl) (by kernel_rfl) (run_loadVar_row _ _ _ _ _ (0, 0) _ R Tryz.underlying35 rfl (qinfo P.2.1 P.2.2))) rfl ⟨rfl, hb⟩
set_option maxRecDepth 100000 in
set_option maxHeartbeats 1000000 in
theorem qref_less (A : Prp) (place x y : Int) (w : World) (hp : A.pr.length = 9) (ha : A.ac.length = 9) (hin : inB place 0 A.c = true) (hm : mayB A.c A.sl x y = true) (hl : lessB A.r A.p x y = false) :
    Calls Tryz.prog 64 #[qV A, .int .i64 place, .agg #[.int .i64 x, .int .i64 y]] w
      fun e w' => e = .returned (.tuple #[qV A, .int .i64 2]) ∧ Below w.heap.size w w' := by
  have cP := fun W => refPlace_any A.c place W
  have cM := fun W => refMay_any A.c A.sl x y W
  have cL := fun W => refLess_any A.r A.p x y W
  have hb := From.refl w
  unfold qV
  go_enter Tryz.func64, Tryz.ntmps64
  go_upto_region 1 with fail
  obtain ⟨gP, hgP⟩ : ∃ g, (w).heap.size = g := ⟨_, rfl⟩
  have P := Blk.newV hgP 35 (qL A).toArray
  have hbn := (Below.refl (w).heap.size w).alloc (Nat.le_refl _) (.cells (qL A).toArray 35)
  replace hb := hb.step hbn
  clear hbn
  rw [hgP]
  have szP := alloc_size hgP (.cells (qL A).toArray 35)
  generalize (w).alloc (.cells (qL A).toArray 35) = w1 at *
  obtain ⟨gB, hgB⟩ : ∃ g, (w1).heap.size = g := ⟨_, rfl⟩
  have lt_P_B := P.lt
  rw [hgB] at lt_P_B
  have B := Blk.newV hgB 23 #[.int .i64 x, .int .i64 y]
  have hbn := (Below.refl (w1).heap.size w1).alloc (Nat.le_refl _) (.cells #[.int .i64 x, .int .i64 y] 23)
  replace hb := hb.step hbn
  replace P := P.step hbn
  clear hbn
  have egB : gP + 1 = gB := szP.symm.trans hgB
  rw [egB]
  clear szP
  have szB := alloc_size hgB (.cells #[.int .i64 x, .int .i64 y] 23)
  generalize (w1).alloc (.cells #[.int .i64 x, .int .i64 y] 23) = w2 at *
  obtain ⟨gR, hgR⟩ : ∃ g, (w2).heap.size = g := ⟨_, rfl⟩
  have lt_P_R := P.lt
  rw [hgR] at lt_P_R
  have lt_B_R := B.lt
  rw [hgR] at lt_B_R
  have R := Blk.newV hgR 35 #[.int .i64 0, .int .i64 0, .int .i64 0, .int .i64 0, .int .i64 0, .int .i64 0, .int .i64 0, .int .i64 0, .string ⟨#[]⟩, .bool false, .bool false, .bool false, .bool false, .bool false, .bool false, .bool false, .bool false, .bool false, .bool false, .bool false, .bool false, .bool false, .bool false, .bool false, .bool false, .bool false, .bool false, .int .i64 0, .int .i64 0, .int .i64 0, .int .i64 0, .int .i64 0, .string ⟨#[]⟩, .int .i64 0, .int .i64 0]
  have hbn := (Below.refl (w2).heap.size w2).alloc (Nat.le_refl _) (.cells #[.int .i64 0, .int .i64 0, .int .i64 0, .int .i64 0, .int .i64 0, .int .i64 0, .int .i64 0, .int .i64 0, .string ⟨#[]⟩, .bool false, .bool false, .bool false, .bool false, .bool false, .bool false, .bool false, .bool false, .bool false, .bool false, .bool false, .bool false, .bool false, .bool false, .bool false, .bool false, .bool false, .bool false, .int .i64 0, .int .i64 0, .int .i64 0, .int .i64 0, .int .i64 0, .string ⟨#[]⟩, .int .i64 0, .int .i64 0] 35)
  replace hb := hb.step hbn
  replace P := P.step hbn
  replace B := B.step hbn
  clear hbn
  have egR : gB + 1 = gR := szB.symm.trans hgR
  rw [egR]
  clear szB
  generalize (w2).alloc (.cells #[.int .i64 0, .int .i64 0, .int .i64 0, .int .i64 0, .int .i64 0, .int .i64 0, .int .i64 0, .int .i64 0, .string ⟨#[]⟩, .bool false, .bool false, .bool false, .bool false, .bool false, .bool false, .bool false, .bool false, .bool false, .bool false, .bool false, .bool false, .bool false, .bool false, .bool false, .bool false, .bool false, .bool false, .int .i64 0, .int .i64 0, .int .i64 0, .int .i64 0, .int .i64 0, .string ⟨#[]⟩, .int .i64 0, .int .i64 0] 35) = w3 at *
  have hwR : w.heap.size ≤ gR := by omega
  have hwP : w.heap.size ≤ gP := by omega
  have hPR : gP ≠ gR := by omega
  have hPB : gP ≠ gB := by omega
  clear hgP hgB hgR egB egR
  replace P : QW w3 gP A := ⟨by simpa using P, hp, ha⟩
  have p0 := P.q0
  rw [hin] at cP
  rw [hm] at cM
  rw [hl] at cL
  go_wp2_with fail
  refine (cP _).mono ?_
  rintro e wx ⟨rfl, rfl⟩
  have p0 := P.q0
  have p1 := P.q1
  have B_0 := B.cell (j := 0) rfl
  have B_1 := B.cell (j := 1) rfl
  go_wp2_with fail
  refine (cM _).mono ?_
  rintro e w5 ⟨rfl, hbn⟩
  replace hb := hb.step hbn
  replace P := P.step hbn
  replace R := R.step hbn
  replace B := B.step hbn
  clear hbn
  clear p0 p1 B_0 B_1
  have p2 := P.q2
  have p3 := P.q3
  have B_0 := B.cell (j := 0) rfl
  have B_1 := B.cell (j := 1) rfl
  go_wp2_with fail
  refine (cL _).mono ?_
  rintro e w6 ⟨rfl, hbn⟩
  replace hb := hb.step hbn
  replace P := P.step hbn
  replace R := R.step hbn
  replace B := B.step hbn
  clear hbn
  go_upto_region 2 with fail
  apply wp_region_lit
  refine wpList_load_row rfl 35 (.tmp 3) rfl gP (by kernel_rfl) _ _ (0, 0) _ P.1 Tryz.underlying35 rfl (qinfo P.2.1 P.2.2) ?_
  dsimp only [Act.put]
  refine wpList_store_rowTo rfl 35 (.tmp 6) (.tmp 29) rfl rfl gR (qL (A)).toArray (by kernel_rfl) (by kernel_rfl) _ _ R (qinfo P.2.1 P.2.2) (by rw [qsize P.2.1 P.2.2]; rfl) (qone _) ?_
  have hkn := kx_row w6 gR (qL (A)).toArray
  replace R := R.row (qL (A))
  replace hb := hb.kx hkn (by simp; omega)
  generalize w6.setRow gR (qL (A)).toArray = w9 at *
  refine wpList_pure (v := ?_) rfl ?_ ?_
  rotate_left
  · go_simp
    try with_reducible rfl
  dsimp only [Act.put]
  refine wpList_nil ?_
  go_wp2_with fail
  (try simp only [Exit.inBlock, Exit.then])
  exact bodyPost_ret (res_cell1t rfl (by kernel_rfl) (by kernel_rfl) (run_loadVar_row _ _ _ _ _ (0, 0) _ R Tryz.underlying35 rfl (qinfo P.2.1 P.2.2))) rfl ⟨rfl, hb⟩
set_option maxRecDepth 100000 in
set_option maxHeartbeats 1000000 in
theorem qref_idle (A : Prp) (place x y : Int) (w : World) (hp : A.pr.length = 9) (ha : A.ac.length = 9) (hin : inB place 0 A.c = true) (hm : mayB A.c A.sl x y = true) (hl : lessB A.r A.p x y = true) (h1 : (A.ph == 1) = false) (h2 : (A.ph == 2) = false) :
    Calls Tryz.prog 64 #[qV A, .int .i64 place, .agg #[.int .i64 x, .int .i64 y]] w
      fun e w' => e = .returned (.tuple #[qV A, .int .i64 0]) ∧ Below w.heap.size w w' := by
  have cP := fun W => refPlace_any A.c place W
  have cM := fun W => refMay_any A.c A.sl x y W
  have cL := fun W => refLess_any A.r A.p x y W
  have hb := From.refl w
  unfold qV
  go_enter Tryz.func64, Tryz.ntmps64
  go_upto_region 1 with fail
  obtain ⟨gP, hgP⟩ : ∃ g, (w).heap.size = g := ⟨_, rfl⟩
  have P := Blk.newV hgP 35 (qL A).toArray
  have hbn := (Below.refl (w).heap.size w).alloc (Nat.le_refl _) (.cells (qL A).toArray 35)
  replace hb := hb.step hbn
  clear hbn
  rw [hgP]
  have szP := alloc_size hgP (.cells (qL A).toArray 35)
  generalize (w).alloc (.cells (qL A).toArray 35) = w1 at *
  obtain ⟨gB, hgB⟩ : ∃ g, (w1).heap.size = g := ⟨_, rfl⟩
  have lt_P_B := P.lt
  rw [hgB] at lt_P_B
  have B := Blk.newV hgB 23 #[.int .i64 x, .int .i64 y]
  have hbn := (Below.refl (w1).heap.size w1).alloc (Nat.le_refl _) (.cells #[.int .i64 x, .int .i64 y] 23)
  replace hb := hb.step hbn
  replace P := P.step hbn
  clear hbn
  have egB : gP + 1 = gB := szP.symm.trans hgB
  rw [egB]
  clear szP
  have szB := alloc_size hgB (.cells #[.int .i64 x, .int .i64 y] 23)
  generalize (w1).alloc (.cells #[.int .i64 x, .int .i64 y] 23) = w2 at *
  obtain ⟨gR, hgR⟩ : ∃ g, (w2).heap.size = g := ⟨_, rfl⟩
  have lt_P_R := P.lt
  rw [hgR] at lt_P_R
  have lt_B_R := B.lt
  rw [hgR] at lt_B_R
  have R := Blk.newV hgR 35 #[.int .i64 0, .int .i64 0, .int .i64 0, .int .i64 0, .int .i64 0, .int .i64 0, .int .i64 0, .int .i64 0, .string ⟨#[]⟩, .bool false, .bool false, .bool false, .bool false, .bool false, .bool false, .bool false, .bool false, .bool false, .bool false, .bool false, .bool false, .bool false, .bool false, .bool false, .bool false, .bool false, .bool false, .int .i64 0, .int .i64 0, .int .i64 0, .int .i64 0, .int .i64 0, .string ⟨#[]⟩, .int .i64 0, .int .i64 0]
  have hbn := (Below.refl (w2).heap.size w2).alloc (Nat.le_refl _) (.cells #[.int .i64 0, .int .i64 0, .int .i64 0, .int .i64 0, .int .i64 0, .int .i64 0, .int .i64 0, .int .i64 0, .string ⟨#[]⟩, .bool false, .bool false, .bool false, .bool false, .bool false, .bool false, .bool false, .bool false, .bool false, .bool false, .bool false, .bool false, .bool false, .bool false, .bool false, .bool false, .bool false, .bool false, .int .i64 0, .int .i64 0, .int .i64 0, .int .i64 0, .int .i64 0, .string ⟨#[]⟩, .int .i64 0, .int .i64 0] 35)
  replace hb := hb.step hbn
  replace P := P.step hbn
  replace B := B.step hbn
  clear hbn
  have egR : gB + 1 = gR := szB.symm.trans hgR
  rw [egR]
  clear szB
  generalize (w2).alloc (.cells #[.int .i64 0, .int .i64 0, .int .i64 0, .int .i64 0, .int .i64 0, .int .i64 0, .int .i64 0, .int .i64 0, .string ⟨#[]⟩, .bool false, .bool false, .bool false, .bool false, .bool false, .bool false, .bool false, .bool false, .bool false, .bool false, .bool false, .bool false, .bool false, .bool false, .bool false, .bool false, .bool false, .bool false, .int .i64 0, .int .i64 0, .int .i64 0, .int .i64 0, .int .i64 0, .string ⟨#[]⟩, .int .i64 0, .int .i64 0] 35) = w3 at *
  have hwR : w.heap.size ≤ gR := by omega
  have hwP : w.heap.size ≤ gP := by omega
  have hPR : gP ≠ gR := by omega
  have hPB : gP ≠ gB := by omega
  clear hgP hgB hgR egB egR
  replace P : QW w3 gP A := ⟨by simpa using P, hp, ha⟩
  have p0 := P.q0
  rw [hin] at cP
  rw [hm] at cM
  rw [hl] at cL
  go_wp2_with fail
  refine (cP _).mono ?_
  rintro e wx ⟨rfl, rfl⟩
  have p0 := P.q0
  have p1 := P.q1
  have B_0 := B.cell (j := 0) rfl
  have B_1 := B.cell (j := 1) rfl
  go_wp2_with fail
  refine (cM _).mono ?_
  rintro e w5 ⟨rfl, hbn⟩
  replace hb := hb.step hbn
  replace P := P.step hbn
  replace R := R.step hbn
  replace B := B.step hbn
  clear hbn
  clear p0 p1 B_0 B_1
  have p2 := P.q2
  have p3 := P.q3
  have B_0 := B.cell (j := 0) rfl
  have B_1 := B.cell (j := 1) rfl
  go_wp2_with fail
  refine (cL _).mono ?_
  rintro e w6 ⟨rfl, hbn⟩
  replace hb := hb.step hbn
  replace P := P.step hbn
  replace R := R.step hbn
  replace B := B.step hbn
  clear hbn
  have p4 := P.q4
  go_upto_region 5 with fail
  apply wp_region_lit
  refine wpList_load_row rfl 35 (.tmp 3) rfl gP (by kernel_rfl) _ _ (0, 0) _ P.1 Tryz.underlying35 rfl (qinfo P.2.1 P.2.2) ?_
  dsimp only [Act.put]
  refine wpList_store_rowTo rfl 35 (.tmp 6) (.tmp 41) rfl rfl gR (qL (A)).toArray (by kernel_rfl) (by kernel_rfl) _ _ R (qinfo P.2.1 P.2.2) (by rw [qsize P.2.1 P.2.2]; rfl) (qone _) ?_
  have hkn := kx_row w6 gR (qL (A)).toArray
  replace R := R.row (qL (A))
  replace hb := hb.kx hkn (by simp; omega)
  generalize w6.setRow gR (qL (A)).toArray = w9 at *
  refine wpList_pure (v := ?_) rfl ?_ ?_
  rotate_left
  · go_simp
    try with_reducible rfl
  dsimp only [Act.put]
  refine wpList_nil ?_
  go_wp2_with fail
  (try simp only [Exit.inBlock, Exit.then])
  exact bodyPost_ret (res_cell1t rfl (by kernel_rfl) (by kernel_rfl) (run_loadVar_row _ _ _ _ _ (0, 0) _ R Tryz.underlying35 rfl (qinfo P.2.1 P.2.2))) rfl ⟨rfl, hb⟩
set_option maxRecDepth 100000 in
set_option maxHeartbeats 2000000 in
theorem qref_do1 (A : Prp) (place x y : Int) (w : World) (hp : A.pr.length = 9) (ha : A.ac.length = 9) (hin : inB place 0 A.c = true) (hm : mayB A.c A.sl x y = true) (hl : lessB A.r A.p x y = true) (h1 : A.ph = 1) :
    Calls Tryz.prog 64 #[qV A, .int .i64 place, .agg #[.int .i64 x, .int .i64 y]] w
      fun e w' => e = .returned (.tuple #[qV (lostA A x y), .int .i64 0]) ∧ Below w.heap.size w w' := by
  rw [show lostA A x y = Prp.sUp (Prp.sPh A 4) x y from rfl]
  have cP := fun W => refPlace_any A.c place W
  have cM := fun W => refMay_any A.c A.sl x y W
  have cL := fun W => refLess_any A.r A.p x y W
  have hb := From.refl w
  unfold qV
  go_enter Tryz.func64, Tryz.ntmps64
  go_upto_region 1 with fail
  obtain ⟨gP, hgP⟩ : ∃ g, (w).heap.size = g := ⟨_, rfl⟩
  have P := Blk.newV hgP 35 (qL A).toArray
  have hbn := (Below.refl (w).heap.size w).alloc (Nat.le_refl _) (.cells (qL A).toArray 35)
  replace hb := hb.step hbn
  clear hbn
  rw [hgP]
  have szP := alloc_size hgP (.cells (qL A).toArray 35)
  generalize (w).alloc (.cells (qL A).toArray 35) = w1 at *
  obtain ⟨gB, hgB⟩ : ∃ g, (w1).heap.size = g := ⟨_, rfl⟩
  have lt_P_B := P.lt
  rw [hgB] at lt_P_B
  have B := Blk.newV hgB 23 #[.int .i64 x, .int .i64 y]
  have hbn := (Below.refl (w1).heap.size w1).alloc (Nat.le_refl _) (.cells #[.int .i64 x, .int .i64 y] 23)
  replace hb := hb.step hbn
  replace P := P.step hbn
  clear hbn
  have egB : gP + 1 = gB := szP.symm.trans hgB
  rw [egB]
  clear szP
  have szB := alloc_size hgB (.cells #[.int .i64 x, .int .i64 y] 23)
  generalize (w1).alloc (.cells #[.int .i64 x, .int .i64 y] 23) = w2 at *
  obtain ⟨gR, hgR⟩ : ∃ g, (w2).heap.size = g := ⟨_, rfl⟩
  have lt_P_R := P.lt
  rw [hgR] at lt_P_R
  have lt_B_R := B.lt
  rw [hgR] at lt_B_R
  have R := Blk.newV hgR 35 #[.int .i64 0, .int .i64 0, .int .i64 0, .int .i64 0, .int .i64 0, .int .i64 0, .int .i64 0, .int .i64 0, .string ⟨#[]⟩, .bool false, .bool false, .bool false, .bool false, .bool false, .bool false, .bool false, .bool false, .bool false, .bool false, .bool false, .bool false, .bool false, .bool false, .bool false, .bool false, .bool false, .bool false, .int .i64 0, .int .i64 0, .int .i64 0, .int .i64 0, .int .i64 0, .string ⟨#[]⟩, .int .i64 0, .int .i64 0]
  have hbn := (Below.refl (w2).heap.size w2).alloc (Nat.le_refl _) (.cells #[.int .i64 0, .int .i64 0, .int .i64 0, .int .i64 0, .int .i64 0, .int .i64 0, .int .i64 0, .int .i64 0, .string ⟨#[]⟩, .bool false, .bool false, .bool false, .bool false, .bool false, .bool false, .bool false, .bool false, .bool false, .bool false, .bool false, .bool false, .bool false, .bool false, .bool false, .bool false, .bool false, .bool false, .int .i64 0, .int .i64 0, .int .i64 0, .int .i64 0, .int .i64 0, .string ⟨#[]⟩, .int .i64 0, .int .i64 0] 35)
  replace hb := hb.step hbn
  replace P := P.step hbn
  replace B := B.step hbn
  clear hbn
  have egR : gB + 1 = gR := szB.symm.trans hgR
  rw [egR]
  clear szB
  generalize (w2).alloc (.cells #[.int .i64 0, .int .i64 0, .int .i64 0, .int .i64 0, .int .i64 0, .int .i64 0, .int .i64 0, .int .i64 0, .string ⟨#[]⟩, .bool false, .bool false, .bool false, .bool false, .bool false, .bool false, .bool false, .bool false, .bool false, .bool false, .bool false, .bool false, .bool false, .bool false, .bool false, .bool false, .bool false, .bool false, .int .i64 0, .int .i64 0, .int .i64 0, .int .i64 0, .int .i64 0, .string ⟨#[]⟩, .int .i64 0, .int .i64 0] 35) = w3 at *
  have hwR : w.heap.size ≤ gR := by omega
  have hwP : w.heap.size ≤ gP := by omega
  have hPR : gP ≠ gR := by omega
  have hPB : gP ≠ gB := by omega
  clear hgP hgB hgR egB egR
  replace P : QW w3 gP A := ⟨by simpa using P, hp, ha⟩
  have p0 := P.q0
  rw [hin] at cP
  rw [hm] at cM
  rw [hl] at cL
  go_wp2_with fail
  refine (cP _).mono ?_
  rintro e wx ⟨rfl, rfl⟩
  have p0 := P.q0
  have p1 := P.q1
  have B_0 := B.cell (j := 0) rfl
  have B_1 := B.cell (j := 1) rfl
  go_wp2_with fail
  refine (cM _).mono ?_
  rintro e w5 ⟨rfl, hbn⟩
  replace hb := hb.step hbn
  replace P := P.step hbn
  replace R := R.step hbn
  replace B := B.step hbn
  clear hbn
  clear p0 p1 B_0 B_1
  have p2 := P.q2
  have p3 := P.q3
  have B_0 := B.cell (j := 0) rfl
  have B_1 := B.cell (j := 1) rfl
  go_wp2_with fail
  refine (cL _).mono ?_
  rintro e w6 ⟨rfl, hbn⟩
  replace hb := hb.step hbn
  replace P := P.step hbn
  replace R := R.step hbn
  replace B := B.step hbn
  clear hbn
  clear p2 p3 B_0 B_1
  have p4 := P.q4
  rw [h1] at p4
  go_upto_region 4 with fail
  clear p4
  have hBg : gB ∉ [gP] := by simp; omega
  have B_0 := kx_all (B.cell (j := 0) rfl) hBg
  have B_1 := kx_all (B.cell (j := 1) rfl) hBg
  refine wp_region_held (S := Kx [gP] w6) (by kernel_rfl) ?_
  have hst : Below (w6).heap.size w6 { w6 with drawn := (w6).drawn + 1 } := ⟨rfl, rfl, rfl, Nat.le_refl _, fun _ _ => rfl⟩
  have hS : (Kx [gP] w6) { w6 with drawn := (w6).drawn + 1 } := by first | exact ⟨rfl, rfl, rfl, Nat.le_refl _, fun _ _ _ => rfl⟩ | exact ⟨rfl, rfl, rfl, Nat.le_refl _, fun _ _ => rfl⟩ | exact hS0
  replace hb := hb.step hst
  replace P := P.step hst
  replace R := R.step hst
  clear hst
  generalize ({ w6 with drawn := (w6).drawn + 1 } : World) = wq at *
  refine wpAnyH_take (i := 0) (v := ?_) rfl (by kernel_rfl) (by kernel_rfl) (by kernel_rfl) (fun _ _ _ h => h) (Or.inl ⟨by kernel_rfl, ?_⟩) hS ?_
  rotate_left
  · intro W hSW
    have y0 := B_0 _ hSW
    have y1 := B_1 _ hSW
    go_simp
    try with_reducible rfl
  dsimp only [Act.put]
  refine wpAnyH_take (i := 1) (v := ?_) rfl (by kernel_rfl) (by kernel_rfl) (by kernel_rfl) (fun _ _ _ h => h) (Or.inl ⟨by kernel_rfl, ?_⟩) hS ?_
  rotate_left
  · intro W hSW
    have y0 := B_0 _ hSW
    have y1 := B_1 _ hSW
    go_simp
    try with_reducible rfl
  dsimp only [Act.put]
  have x4 := P.q4
  have f4 := P.frozen 4
  refine wpAnyH_ready (rs := [2]) (by kernel_rfl) (by simp) ?_
  refine AllReadyH.cons rfl (fun K hK => ?_) AllReadyH.nil
  go_simp
  have hk1 : Kx [gP] wq (wq.setCell ⟨gP, 4, none⟩ (.int .i64 4)) := (Kx.refl [gP] wq).setCell (p := ⟨gP, 4, none⟩) (.inl (by simp)) _
  replace P := P.setPh 4
  replace R := R.kx hk1 (by simp; omega)
  replace hb := hb.kx hk1 (by simp; omega)
  refine hK.out _ _ (hS.kx hk1 (by simp)) (fun hS => ?_)
  generalize wq.setCell ⟨gP, 4, none⟩ (.int .i64 4) = w7 at *
  clear hk1 x4 f4
  clear hK K
  refine wpAnyH_take (i := 3) (v := ?_) rfl (by kernel_rfl) (by kernel_rfl) (by kernel_rfl) (fun _ _ _ h => h) (Or.inl ⟨by kernel_rfl, ?_⟩) hS ?_
  rotate_left
  · intro W hSW
    go_simp
    try with_reducible rfl
  dsimp only [Act.put]
  have x33 := P.q33
  have x34 := P.q34
  have f33 := P.frozen 33
  have f34 := P.frozen 34
  refine wpAnyH_ready (rs := [4]) (by kernel_rfl) (by simp) ?_
  refine AllReadyH.cons rfl (fun K hK => ?_) AllReadyH.nil
  go_simp
  have hk1 : Kx [gP] w7 ((w7.setCell ⟨gP, 33, none⟩ (.int .i64 x)).setCell ⟨gP, 34, none⟩ (.int .i64 y)) := Kx.setCells [.int .i64 x, .int .i64 y] 33 w7 (Kx.refl [gP] w7) (.inl (by simp))
  replace P := P.setUp x y
  replace R := R.kx hk1 (by simp; omega)
  replace hb := hb.kx hk1 (by simp; omega)
  refine hK.out _ _ (hS.kx hk1 (by simp)) (fun hS => ?_)
  generalize (w7.setCell ⟨gP, 33, none⟩ (.int .i64 x)).setCell ⟨gP, 34, none⟩ (.int .i64 y) = w8 at *
  clear hk1 x33 x34 f33 f34
  clear hK K
  refine wpAnyH_done (by kernel_rfl) ?_ _
  clear hS B_0 B_1
  go_upto_region 5 with fail
  apply wp_region_lit
  refine wpList_load_row rfl 35 (.tmp 3) rfl gP (by kernel_rfl) _ _ (0, 0) _ P.1 Tryz.underlying35 rfl (qinfo P.2.1 P.2.2) ?_
  dsimp only [Act.put]
  refine wpList_store_rowTo rfl 35 (.tmp 6) (.tmp 41) rfl rfl gR (qL (Prp.sUp (Prp.sPh A 4) x y)).toArray (by kernel_rfl) (by kernel_rfl) _ _ R (qinfo P.2.1 P.2.2) (by rw [qsize P.2.1 P.2.2]; rfl) (qone _) ?_
  have hkn := kx_row w8 gR (qL (Prp.sUp (Prp.sPh A 4) x y)).toArray
  replace R := R.row (qL (Prp.sUp (Prp.sPh A 4) x y))
  replace hb := hb.kx hkn (by simp; omega)
  generalize w8.setRow gR (qL (Prp.sUp (Prp.sPh A 4) x y)).toArray = w9 at *
  refine wpList_pure (v := ?_) rfl ?_ ?_
  rotate_left
  · go_simp
    try with_reducible rfl
  dsimp only [Act.put]
  refine wpList_nil ?_
  go_wp2_with fail
  (try simp only [Exit.inBlock, Exit.then])
  exact bodyPost_ret (res_cell1t rfl (by kernel_rfl) (by kernel_rfl) (run_loadVar_row _ _ _ _ _ (0, 0) _ R Tryz.underlying35 rfl (qinfo P.2.1 P.2.2))) rfl ⟨rfl, hb⟩
set_option maxRecDepth 100000 in
set_option maxHeartbeats 2000000 in
theorem qref_do2 (A : Prp) (place x y : Int) (w : World) (hp : A.pr.length = 9) (ha : A.ac.length = 9) (hin : inB place 0 A.c = true) (hm : mayB A.c A.sl x y = true) (hl : lessB A.r A.p x y = true) (h1 : A.ph = 2) :
    Calls Tryz.prog 64 #[qV A, .int .i64 place, .agg #[.int .i64 x, .int .i64 y]] w
      fun e w' => e = .returned (.tuple #[qV (lostA A x y), .int .i64 0]) ∧ Below w.heap.size w w' := by
  rw [show lostA A x y = Prp.sUp (Prp.sPh A 4) x y from rfl]
  have cP := fun W => refPlace_any A.c place W
  have cM := fun W => refMay_any A.c A.sl x y W
  have cL := fun W => refLess_any A.r A.p x y W
  have hb := From.refl w
  unfold qV
  go_enter Tryz.func64, Tryz.ntmps64
  go_upto_region 1 with fail
  obtain ⟨gP, hgP⟩ : ∃ g, (w).heap.size = g := ⟨_, rfl⟩
  have P := Blk.newV hgP 35 (qL A).toArray
  have hbn := (Below.refl (w).heap.size w).alloc (Nat.le_refl _) (.cells (qL A).toArray 35)
  replace hb := hb.step hbn
  clear hbn
  rw [hgP]
  have szP := alloc_size hgP (.cells (qL A).toArray 35)
  generalize (w).alloc (.cells (qL A).toArray 35) = w1 at *
  obtain ⟨gB, hgB⟩ : ∃ g, (w1).heap.size = g := ⟨_, rfl⟩
  have lt_P_B := P.lt
  rw [hgB] at lt_P_B
  have B := Blk.newV hgB 23 #[.int .i64 x, .int .i64 y]
  have hbn := (Below.refl (w1).heap.size w1).alloc (Nat.le_refl _) (.cells #[.int .i64 x, .int .i64 y] 23)
  replace hb := hb.step hbn
  replace P := P.step hbn
  clear hbn
  have egB : gP + 1 = gB := szP.symm.trans hgB
  rw [egB]
  clear szP
  have szB := alloc_size hgB (.cells #[.int .i64 x, .int .i64 y] 23)
  generalize (w1).alloc (.cells #[.int .i64 x, .int .i64 y] 23) = w2 at *
  obtain ⟨gR, hgR⟩ : ∃ g, (w2).heap.size = g := ⟨_, rfl⟩
  have lt_P_R := P.lt
  rw [hgR] at lt_P_R
  have lt_B_R := B.lt
  rw [hgR] at lt_B_R
  have R := Blk.newV hgR 35 #[.int .i64 0, .int .i64 0, .int .i64 0, .int .i64 0, .int .i64 0, .int .i64 0, .int .i64 0, .int .i64 0, .string ⟨#[]⟩, .bool false, .bool false, .bool false, .bool false, .bool false, .bool false, .bool false, .bool false, .bool false, .bool false, .bool false, .bool false, .bool false, .bool false, .bool false, .bool false, .bool false, .bool false, .int .i64 0, .int .i64 0, .int .i64 0, .int .i64 0, .int .i64 0, .string ⟨#[]⟩, .int .i64 0, .int .i64 0]
  have hbn := (Below.refl (w2).heap.size w2).alloc (Nat.le_refl _) (.cells #[.int .i64 0, .int .i64 0, .int .i64 0, .int .i64 0, .int .i64 0, .int .i64 0, .int .i64 0, .int .i64 0, .string ⟨#[]⟩, .bool false, .bool false, .bool false, .bool false, .bool false, .bool false, .bool false, .bool false, .bool false, .bool false, .bool false, .bool false, .bool false, .bool false, .bool false, .bool false, .bool false, .bool false, .int .i64 0, .int .i64 0, .int .i64 0, .int .i64 0, .int .i64 0, .string ⟨#[]⟩, .int .i64 0, .int .i64 0] 35)
  replace hb := hb.step hbn
  replace P := P.step hbn
  replace B := B.step hbn
  clear hbn
  have egR : gB + 1 = gR := szB.symm.trans hgR
  rw [egR]
  clear szB
  generalize (w2).alloc (.cells #[.int .i64 0, .int .i64 0, .int .i64 0, .int .i64 0, .int .i64 0, .int .i64 0, .int .i64 0, .int .i64 0, .string ⟨#[]⟩, .bool false, .bool false, .bool false, .bool false, .bool false, .bool false, .bool false, .bool false, .bool false, .bool false, .bool false, .bool false, .bool false, .bool false, .bool false, .bool false, .bool false, .bool false, .int .i64 0, .int .i64 0, .int .i64 0, .int .i64 0, .int .i64 0, .string ⟨#[]⟩, .int .i64 0, .int .i64 0] 35) = w3 at *
  have hwR : w.heap.size ≤ gR := by omega
  have hwP : w.heap.size ≤ gP := by omega
  have hPR : gP ≠ gR := by omega
  have hPB : gP ≠ gB := by omega
  clear hgP hgB hgR egB egR
  replace P : QW w3 gP A := ⟨by simpa using P, hp, ha⟩
  have p0 := P.q0
  rw [hin] at cP
  rw [hm] at cM
  rw [hl] at cL
  go_wp2_with fail
  refine (cP _).mono ?_
  rintro e wx ⟨rfl, rfl⟩
  have p0 := P.q0
  have p1 := P.q1
  have B_0 := B.cell (j := 0) rfl
  have B_1 := B.cell (j := 1) rfl
  go_wp2_with fail
  refine (cM _).mono ?_
  rintro e w5 ⟨rfl, hbn⟩
  replace hb := hb.step hbn
  replace P := P.step hbn
  replace R := R.step hbn
  replace B := B.step hbn
  clear hbn
  clear p0 p1 B_0 B_1
  have p2 := P.q2
  have p3 := P.q3
  have B_0 := B.cell (j := 0) rfl
  have B_1 := B.cell (j := 1) rfl
  go_wp2_with fail
  refine (cL _).mono ?_
  rintro e w6 ⟨rfl, hbn⟩
  replace hb := hb.step hbn
  replace P := P.step hbn
  replace R := R.step hbn
  replace B := B.step hbn
  clear hbn
  clear p2 p3 B_0 B_1
  have p4 := P.q4
  rw [h1] at p4
  go_upto_region 4 with fail
  clear p4
  have hBg : gB ∉ [gP] := by simp; omega
  have B_0 := kx_all (B.cell (j := 0) rfl) hBg
  have B_1 := kx_all (B.cell (j := 1) rfl) hBg
  refine wp_region_held (S := Kx [gP] w6) (by kernel_rfl) ?_
  have hst : Below (w6).heap.size w6 { w6 with drawn := (w6).drawn + 1 } := ⟨rfl, rfl, rfl, Nat.le_refl _, fun _ _ => rfl⟩
  have hS : (Kx [gP] w6) { w6 with drawn := (w6).drawn + 1 } := by first | exact ⟨rfl, rfl, rfl, Nat.le_refl _, fun _ _ _ => rfl⟩ | exact ⟨rfl, rfl, rfl, Nat.le_refl _, fun _ _ => rfl⟩ | exact hS0
  replace hb := hb.step hst
  replace P := P.step hst
  replace R := R.step hst
  clear hst
  generalize ({ w6 with drawn := (w6).drawn + 1 } : World) = wq at *
  refine wpAnyH_take (i := 0) (v := ?_) rfl (by kernel_rfl) (by kernel_rfl) (by kernel_rfl) (fun _ _ _ h => h) (Or.inl ⟨by kernel_rfl, ?_⟩) hS ?_
  rotate_left
  · intro W hSW
    have y0 := B_0 _ hSW
    have y1 := B_1 _ hSW
    go_simp
    try with_reducible rfl
  dsimp only [Act.put]
  refine wpAnyH_take (i := 1) (v := ?_) rfl (by kernel_rfl) (by kernel_rfl) (by kernel_rfl) (fun _ _ _ h => h) (Or.inl ⟨by kernel_rfl, ?_⟩) hS ?_
  rotate_left
  · intro W hSW
    have y0 := B_0 _ hSW
    have y1 := B_1 _ hSW
    go_simp
    try with_reducible rfl
  dsimp only [Act.put]
  have x4 := P.q4
  have f4 := P.frozen 4
  refine wpAnyH_ready (rs := [2]) (by kernel_rfl) (by simp) ?_
  refine AllReadyH.cons rfl (fun K hK => ?_) AllReadyH.nil
  go_simp
  have hk1 : Kx [gP] wq (wq.setCell ⟨gP, 4, none⟩ (.int .i64 4)) := (Kx.refl [gP] wq).setCell (p := ⟨gP, 4, none⟩) (.inl (by simp)) _
  replace P := P.setPh 4
  replace R := R.kx hk1 (by simp; omega)
  replace hb := hb.kx hk1 (by simp; omega)
  refine hK.out _ _ (hS.kx hk1 (by simp)) (fun hS => ?_)
  generalize wq.setCell ⟨gP, 4, none⟩ (.int .i64 4) = w7 at *
  clear hk1 x4 f4
  clear hK K
  refine wpAnyH_take (i := 3) (v := ?_) rfl (by kernel_rfl) (by kernel_rfl) (by kernel_rfl) (fun _ _ _ h => h) (Or.inl ⟨by kernel_rfl, ?_⟩) hS ?_
  rotate_left
  · intro W hSW
    go_simp
    try with_reducible rfl
  dsimp only [Act.put]
  have x33 := P.q33
  have x34 := P.q34
  have f33 := P.frozen 33
  have f34 := P.frozen 34
  refine wpAnyH_ready (rs := [4]) (by kernel_rfl) (by simp) ?_
  refine AllReadyH.cons rfl (fun K hK => ?_) AllReadyH.nil
  go_simp
  have hk1 : Kx [gP] w7 ((w7.setCell ⟨gP, 33, none⟩ (.int .i64 x)).setCell ⟨gP, 34, none⟩ (.int .i64 y)) := Kx.setCells [.int .i64 x, .int .i64 y] 33 w7 (Kx.refl [gP] w7) (.inl (by simp))
  replace P := P.setUp x y
  replace R := R.kx hk1 (by simp; omega)
  replace hb := hb.kx hk1 (by simp; omega)
  refine hK.out _ _ (hS.kx hk1 (by simp)) (fun hS => ?_)
  generalize (w7.setCell ⟨gP, 33, none⟩ (.int .i64 x)).setCell ⟨gP, 34, none⟩ (.int .i64 y) = w8 at *
  clear hk1 x33 x34 f33 f34
  clear hK K
  refine wpAnyH_done (by kernel_rfl) ?_ _
  clear hS B_0 B_1
  go_upto_region 5 with fail
  apply wp_region_lit
  refine wpList_load_row rfl 35 (.tmp 3) rfl gP (by kernel_rfl) _ _ (0, 0) _ P.1 Tryz.underlying35 rfl (qinfo P.2.1 P.2.2) ?_
  dsimp only [Act.put]
  refine wpList_store_rowTo rfl 35 (.tmp 6) (.tmp 41) rfl rfl gR (qL (Prp.sUp (Prp.sPh A 4) x y)).toArray (by kernel_rfl) (by kernel_rfl) _ _ R (qinfo P.2.1 P.2.2) (by rw [qsize P.2.1 P.2.2]; rfl) (qone _) ?_
  have hkn := kx_row w8 gR (qL (Prp.sUp (Prp.sPh A 4) x y)).toArray
  replace R := R.row (qL (Prp.sUp (Prp.sPh A 4) x y))
  replace hb := hb.kx hkn (by simp; omega)
  generalize w8.setRow gR (qL (Prp.sUp (Prp.sPh A 4) x y)).toArray = w9 at *
  refine wpList_pure (v := ?_) rfl ?_ ?_
  rotate_left
  · go_simp
    try with_reducible rfl
  dsimp only [Act.put]
  refine wpList_nil ?_
  go_wp2_with fail
  (try simp only [Exit.inBlock, Exit.then])
  exact bodyPost_ret (res_cell1t rfl (by kernel_rfl) (by kernel_rfl) (run_loadVar_row _ _ _ _ _ (0, 0) _ R Tryz.underlying35 rfl (qinfo P.2.1 P.2.2))) rfl ⟨rfl, hb⟩
end Go.Proofs.YtcahkcbenanfnaaGreatDoor
