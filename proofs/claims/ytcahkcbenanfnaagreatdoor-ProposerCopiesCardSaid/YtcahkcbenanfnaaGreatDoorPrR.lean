
/- The document's proposer: how many, check, fresh, Own, Ask. -/
import Derived.Test.YtcahkcbenanfnaaGreatDoorPrL
import Derived.Test.YtcahkcbenanfnaaGreatDoorAcD
import Derived.Test.YtcahkcbenanfnaaGreatDoorM5
import Derived.Test.YtcahkcbenanfnaaGreatDoorM2
namespace Go.Proofs.YtcahkcbenanfnaaGreatDoor
set_option linter.unusedSimpArgs false
set_option linter.unusedVariables false
open Go.RowKit


/-- The document's proposer, cell by cell. -/
def qL (A : Prp) : List Value := [.int .i64 A.c, .int .i64 A.sl, .int .i64 A.r, .int .i64 A.p, .int .i64 A.ph, .int .i64 A.k, .int .i64 A.m, .int .i64 A.n, .string A.s] ++ (A.pr.map Value.bool ++ (A.ac.map Value.bool ++
  [.int .i64 A.br, .int .i64 A.bp, .int .i64 A.bk, .int .i64 A.bm, .int .i64 A.bn, .string A.bs, .int .i64 A.ur, .int .i64 A.up]))
def qV (A : Prp) : Value := .agg (qL A).toArray
def zP : Prp := ⟨0, 0, 0, 0, ⟨#[]⟩, [false, false, false, false, false, false, false, false, false], [false, false, false, false, false, false, false, false, false], 0, 0, 0, 0, 0, ⟨#[]⟩, 0, 0, 0, 0, 0, 0⟩
theorem plK_cnt (hs : List Bool) : ∀ k : Int, (plK k hs).length = (hs.filter id).length := by
  induction hs with
  | nil => intro k; rfl
  | cons a t ih => intro k; cases a <;> simp [plK, ih]
theorem cnt_succ (hs : List Bool) (k : Nat) (hk : k < hs.length) : ((hs.take (k + 1)).filter id).length = ((hs.take k).filter id).length + (if hs.getD k false then 1 else 0) := by
  rw [List.take_add_one, List.getElem?_eq_getElem hk, List.filter_append, List.length_append]
  have : hs.getD k false = hs[k] := by simp [hk]
  rw [this]
  cases hs[k] <;> simp
set_option maxRecDepth 100000 in
set_option maxHeartbeats 1000000 in
theorem many15_any (hs : List Bool) (hl : hs.length = 9) (w : World) :
    Calls Tryz.prog 112 #[setV hs] w fun e w' => e = .returned (.int .i64 ((plK 0 hs).length : Int)) ∧ Below w.heap.size w w' := by
  rw [plK_cnt]
  obtain ⟨R, hR⟩ : ∃ R, (hs.filter id).length = R := ⟨_, rfl⟩
  rw [hR]
  have hlen : ∀ k, ((hs.take k).filter id).length ≤ 9 := fun k => by
    have h1 := List.length_filter_le id (hs.take k)
    have h2 := List.length_take_le k hs
    have h3 : (hs.take k).length ≤ hs.length := by rw [List.length_take]; omega
    omega
  have hcs := fun k (hk : k < 9) => cnt_succ hs k (by omega)
  have hfull : ((hs.take 9).filter id).length = R := by rw [List.take_of_length_le (by omega), hR]
  obtain ⟨f, hf⟩ : ∃ f : Nat → Nat, ∀ k, ((hs.take k).filter id).length = f k := ⟨_, fun _ => rfl⟩
  have f0 : f 0 = 0 := by rw [← hf]; rfl
  simp only [hf] at hlen hcs hfull
  have hB0 : ∀ k, k < 9 → ∃ v, hs.getD k false = v ∧ (hs.map Value.bool)[k]? = some (.bool v) := fun k hk => by
    refine ⟨_, rfl, ?_⟩
    have : k < hs.length := by omega
    simp [this]
  clear hf hR
  obtain ⟨a0, a1, a2, a3, a4, a5, a6, a7, a8, rfl⟩ := nine hl
  unfold setV
  simp only [List.map_cons, List.map_nil] at hB0 ⊢
  have hb := From.refl w
  have HL := Lib.hid hlen
  clear hlen
  have HC := Lib.hid hcs
  clear hcs
  have HB0 := Lib.hid hB0
  clear hB0
  go_enter Tryz.func112, Tryz.ntmps112
  go_upto_region 1 with fail
  obtain ⟨gX, hgX⟩ : ∃ g, (w).heap.size = g := ⟨_, rfl⟩
  have X := Blk.newV hgX 31 #[.bool a0, .bool a1, .bool a2, .bool a3, .bool a4, .bool a5, .bool a6, .bool a7, .bool a8]
  have hbn := (Below.refl (w).heap.size w).alloc (Nat.le_refl _) (.cells #[.bool a0, .bool a1, .bool a2, .bool a3, .bool a4, .bool a5, .bool a6, .bool a7, .bool a8] 31)
  replace hb := hb.step hbn
  clear hbn
  rw [hgX]
  generalize (w).alloc (.cells #[.bool a0, .bool a1, .bool a2, .bool a3, .bool a4, .bool a5, .bool a6, .bool a7, .bool a8] 31) = w1 at *
  go_wp2_with fail
  go_loopw [3, 4] (fun u3 u4 wr => ∃ k : Nat, u4 = .int .i64 k ∧ k ≤ 9 ∧ u3 = .int .i64 (f k : Nat) ∧ w1 = wr) (fun _ u _ => 9 - (intOf u).toNat)
  case atStart => exact ⟨0, rfl, by omega, by rw [f0]; rfl, by first | rfl | trivial⟩
  case round =>
    obtain ⟨k, rfl, hk, rfl, rfl⟩ := hrel
    have k0 : (0 : Int) ≤ (k : Int) := by omega
    have hfk := HL.out k
    by_cases hlt : k < 9
    · have k1 : (k : Int) < 9 := by omega
      obtain ⟨v, hv, hv2⟩ := HB0.out k hlt
      have c0 := X.cell hv2
      have hs := HC.out k hlt
      rw [hv] at hs
      clear hv hv2
      cases v
      · simp only [Bool.false_eq_true, if_false, Nat.add_zero] at hs
        obtain ⟨F, hF⟩ : ∃ F, f k = F := ⟨_, rfl⟩
        rw [hF] at hs hfk ⊢
        clear hF
        have Hs := Lib.hid hs
        clear hs
        go_wp2_with fail
        go_roundw
        case rel => exact ⟨k + 1, by go_num, by omega, by rw [Hs.out], by first | rfl | trivial⟩
        case measure => simp [intOf]; omega
      · simp only [if_true] at hs
        obtain ⟨F, hF⟩ : ∃ F, f k = F := ⟨_, rfl⟩
        rw [hF] at hs hfk ⊢
        clear hF
        have Hs := Lib.hid hs
        clear hs
        go_wp2_with fail
        go_roundw
        case rel => exact ⟨k + 1, by go_num, by omega, by rw [Hs.out]; go_num, by first | rfl | trivial⟩
        case measure => simp [intOf]; omega
    · obtain rfl : k = 9 := by omega
      rw [hfull]
      go_wp2_with fail
      go_ret
      exact ⟨rfl, by first | exact hb | (rw [← hgX]; exact hb)⟩
theorem check15_any (c sl : Int) (w : World) : Calls Tryz.prog 90 #[.int .i64 c, .int .i64 sl] w fun e w' => e = .returned (.int .i64 (opErr c sl)) ∧ w = w' := by
  unfold opErr
  cases h1 : rightB c
  · go_enter Tryz.func90, Tryz.ntmps90
    go_wp2_with fail
    refine (refRight_at _ _ h1 _).mono ?_
    rintro e w2 ⟨rfl, rfl⟩
    go_wp2
    go_ret
    exact ⟨rfl, rfl⟩
  · cases h2 : slotB sl
    · go_enter Tryz.func90, Tryz.ntmps90
      go_wp2_with fail
      refine (refRight_at _ _ h1 _).mono ?_
      rintro e w2 ⟨rfl, rfl⟩
      go_wp2_with fail
      refine (refSlot_at _ _ h2 _).mono ?_
      rintro e w2 ⟨rfl, rfl⟩
      go_wp2
      go_ret
      exact ⟨rfl, rfl⟩
    · go_enter Tryz.func90, Tryz.ntmps90
      go_wp2_with fail
      refine (refRight_at _ _ h1 _).mono ?_
      rintro e w2 ⟨rfl, rfl⟩
      go_wp2_with fail
      refine (refSlot_at _ _ h2 _).mono ?_
      rintro e w2 ⟨rfl, rfl⟩
      go_wp2
      go_ret
      exact ⟨rfl, rfl⟩
set_option maxRecDepth 100000 in
set_option maxHeartbeats 4000000 in
theorem rfresh_any (c sl r p ph : Int) (w : World) : Calls Tryz.prog 92 #[.int .i64 c, .int .i64 sl, .agg #[.int .i64 r, .int .i64 p], .int .i64 ph] w fun e w' => e = .returned (qV { freshA c sl r p with ph := ph }) ∧ Below w.heap.size w w' := by
  have hb := From.refl w
  go_enter Tryz.func92, Tryz.ntmps92
  go_upto_region 1 with fail
  obtain ⟨gB, hgB⟩ : ∃ g, (w).heap.size = g := ⟨_, rfl⟩
  have B := Blk.newV hgB 23 #[.int .i64 r, .int .i64 p]
  have hbn := (Below.refl (w).heap.size w).alloc (Nat.le_refl _) (.cells #[.int .i64 r, .int .i64 p] 23)
  replace hb := hb.step hbn
  clear hbn
  rw [hgB]
  have szB := alloc_size hgB (.cells #[.int .i64 r, .int .i64 p] 23)
  generalize (w).alloc (.cells #[.int .i64 r, .int .i64 p] 23) = w1 at *
  obtain ⟨gR, hgR⟩ : ∃ g, (w1).heap.size = g := ⟨_, rfl⟩
  have lt_B_R := B.lt
  rw [hgR] at lt_B_R
  have R := Blk.newV hgR 35 #[.int .i64 0, .int .i64 0, .int .i64 0, .int .i64 0, .int .i64 0, .int .i64 0, .int .i64 0, .int .i64 0, .string ⟨#[]⟩, .bool false, .bool false, .bool false, .bool false, .bool false, .bool false, .bool false, .bool false, .bool false, .bool false, .bool false, .bool false, .bool false, .bool false, .bool false, .bool false, .bool false, .bool false, .int .i64 0, .int .i64 0, .int .i64 0, .int .i64 0, .int .i64 0, .string ⟨#[]⟩, .int .i64 0, .int .i64 0]
  have hbn := (Below.refl (w1).heap.size w1).alloc (Nat.le_refl _) (.cells #[.int .i64 0, .int .i64 0, .int .i64 0, .int .i64 0, .int .i64 0, .int .i64 0, .int .i64 0, .int .i64 0, .string ⟨#[]⟩, .bool false, .bool false, .bool false, .bool false, .bool false, .bool false, .bool false, .bool false, .bool false, .bool false, .bool false, .bool false, .bool false, .bool false, .bool false, .bool false, .bool false, .bool false, .int .i64 0, .int .i64 0, .int .i64 0, .int .i64 0, .int .i64 0, .string ⟨#[]⟩, .int .i64 0, .int .i64 0] 35)
  replace hb := hb.step hbn
  replace B := B.step hbn
  clear hbn
  have egR : gB + 1 = gR := szB.symm.trans hgR
  rw [egR]
  clear szB
  generalize (w1).alloc (.cells #[.int .i64 0, .int .i64 0, .int .i64 0, .int .i64 0, .int .i64 0, .int .i64 0, .int .i64 0, .int .i64 0, .string ⟨#[]⟩, .bool false, .bool false, .bool false, .bool false, .bool false, .bool false, .bool false, .bool false, .bool false, .bool false, .bool false, .bool false, .bool false, .bool false, .bool false, .bool false, .bool false, .bool false, .int .i64 0, .int .i64 0, .int .i64 0, .int .i64 0, .int .i64 0, .string ⟨#[]⟩, .int .i64 0, .int .i64 0] 35) = w2 at *
  have hwR : w.heap.size ≤ gR := by omega
  clear hgB hgR egR
  go_wp2_with fail
  refine (none14ref_any _).mono ?_
  rintro e w3 ⟨rfl, hbn⟩
  replace hb := hb.step hbn
  replace B := B.step hbn
  replace R := R.step hbn
  clear hbn
  go_upto_region 2 with fail
  obtain ⟨gN, hgN⟩ : ∃ g, (w3).heap.size = g := ⟨_, rfl⟩
  have lt_B_N := B.lt
  rw [hgN] at lt_B_N
  have lt_R_N := R.lt
  rw [hgN] at lt_R_N
  have N := Blk.newV hgN 23 #[.int .i64 (-1), .int .i64 0]
  have hbn := (Below.refl (w3).heap.size w3).alloc (Nat.le_refl _) (.cells #[.int .i64 (-1), .int .i64 0] 23)
  replace hb := hb.step hbn
  replace B := B.step hbn
  replace R := R.step hbn
  clear hbn
  rw [hgN]
  generalize (w3).alloc (.cells #[.int .i64 (-1), .int .i64 0] 23) = w4 at *
  have B_0 := B.cell (j := 0) rfl
  have B_1 := B.cell (j := 1) rfl
  have N_0 := N.cell (j := 0) rfl
  have N_1 := N.cell (j := 1) rfl
  apply wp_region_lit
  refine wpList_pure (v := ?_) rfl ?_ ?_
  rotate_left
  · go_simp
    try with_reducible rfl
  dsimp only [Act.put]
  refine wpList_pure (v := ?_) rfl ?_ ?_
  rotate_left
  · go_simp
    try with_reducible rfl
  dsimp only [Act.put]
  refine wpList_pure (v := ?_) rfl ?_ ?_
  rotate_left
  · go_simp
    try with_reducible rfl
  dsimp only [Act.put]
  refine wpList_pure (v := ?_) rfl ?_ ?_
  rotate_left
  · go_simp
    try with_reducible rfl
  dsimp only [Act.put]
  refine wpList_pure (v := ?_) rfl ?_ ?_
  rotate_left
  · go_simp
    try with_reducible rfl
  dsimp only [Act.put]
  refine wpList_pure (v := ?_) rfl ?_ ?_
  rotate_left
  · go_simp
    try with_reducible rfl
  dsimp only [Act.put]
  refine wpList_pure (v := ?_) rfl ?_ ?_
  rotate_left
  · go_simp
    try with_reducible rfl
  dsimp only [Act.put]
  refine wpList_pure (v := ?_) rfl ?_ ?_
  rotate_left
  · go_simp
    try with_reducible rfl
  dsimp only [Act.put]
  refine wpList_store_rowTo rfl 35 (.tmp 8) (.tmp 18) rfl rfl gR #[.int .i64 c, .int .i64 sl, .int .i64 r, .int .i64 p, .int .i64 ph, .int .i64 0, .int .i64 0, .int .i64 0, .string ⟨#[]⟩, .bool false, .bool false, .bool false, .bool false, .bool false, .bool false, .bool false, .bool false, .bool false, .bool false, .bool false, .bool false, .bool false, .bool false, .bool false, .bool false, .bool false, .bool false, .int .i64 (-1), .int .i64 0, .int .i64 0, .int .i64 0, .int .i64 0, .string ⟨#[]⟩, .int .i64 (-1), .int .i64 0] (by kernel_rfl) (by kernel_rfl) _ _ R (by kernel_rfl) (by kernel_rfl) (by kernel_rfl) ?_
  have hkn := kx_row w4 gR #[.int .i64 c, .int .i64 sl, .int .i64 r, .int .i64 p, .int .i64 ph, .int .i64 0, .int .i64 0, .int .i64 0, .string ⟨#[]⟩, .bool false, .bool false, .bool false, .bool false, .bool false, .bool false, .bool false, .bool false, .bool false, .bool false, .bool false, .bool false, .bool false, .bool false, .bool false, .bool false, .bool false, .bool false, .int .i64 (-1), .int .i64 0, .int .i64 0, .int .i64 0, .int .i64 0, .string ⟨#[]⟩, .int .i64 (-1), .int .i64 0]
  replace R := R.row [.int .i64 c, .int .i64 sl, .int .i64 r, .int .i64 p, .int .i64 ph, .int .i64 0, .int .i64 0, .int .i64 0, .string ⟨#[]⟩, .bool false, .bool false, .bool false, .bool false, .bool false, .bool false, .bool false, .bool false, .bool false, .bool false, .bool false, .bool false, .bool false, .bool false, .bool false, .bool false, .bool false, .bool false, .int .i64 (-1), .int .i64 0, .int .i64 0, .int .i64 0, .int .i64 0, .string ⟨#[]⟩, .int .i64 (-1), .int .i64 0]
  generalize w4.setRow gR #[.int .i64 c, .int .i64 sl, .int .i64 r, .int .i64 p, .int .i64 ph, .int .i64 0, .int .i64 0, .int .i64 0, .string ⟨#[]⟩, .bool false, .bool false, .bool false, .bool false, .bool false, .bool false, .bool false, .bool false, .bool false, .bool false, .bool false, .bool false, .bool false, .bool false, .bool false, .bool false, .bool false, .bool false, .int .i64 (-1), .int .i64 0, .int .i64 0, .int .i64 0, .int .i64 0, .string ⟨#[]⟩, .int .i64 (-1), .int .i64 0] = w5 at *
  refine wpList_nil ?_
  replace hb := hb.kx hkn (by simp; omega)
  go_wp2_with fail
  (try simp only [Exit.inBlock, Exit.then])
  exact bodyPost_ret (res_cell1 rfl (by kernel_rfl) (run_loadVar_row _ _ _ _ _ (0, 0) _ R Tryz.underlying35 rfl (by kernel_rfl))) rfl ⟨rfl, hb⟩
end Go.Proofs.YtcahkcbenanfnaaGreatDoor
