
/- Package proposer: its functions on no proposer. -/
import Derived.Test.YtcahkcbenanfnaaGreatDoorPrK
namespace Go.Proofs.YtcahkcbenanfnaaGreatDoor
set_option linter.unusedSimpArgs false
set_option linter.unusedVariables false
open Go.RowKit
set_option maxRecDepth 100000 in
set_option maxHeartbeats 1000000 in
theorem hear_no (p : Value) (place : Int) (F f0 f1 f2 f3 f4 : Value) (w : World) (h : NoR w p) :
    Calls Tryz.prog 51 #[p, .int .i64 place, F, .agg #[f0, f1, f2, f3, f4]] w fun e w' => e = .returned (.tuple #[.int .i64 0, .int .i64 1]) ∧ Below w.heap.size w w' := by
  have hb := From.refl w
  go_enter Tryz.func51, Tryz.ntmps51
  go_upto_region 1 with fail
  obtain ⟨gX, hgX⟩ : ∃ g, (w).heap.size = g := ⟨_, rfl⟩
  have X := Blk.newV hgX 129 #[f0, f1, f2, f3, f4]
  have hbn := (Below.refl (w).heap.size w).alloc (Nat.le_refl _) (.cells #[f0, f1, f2, f3, f4] 129)
  replace hb := hb.step hbn
  replace h := h.step hbn
  clear hbn
  rw [hgX]
  generalize (w).alloc (.cells #[f0, f1, f2, f3, f4] 129) = w1 at *
  go_wp2_with fail
  refine (none15_no p _ h).mono ?_
  rintro e wx ⟨rfl, rfl⟩
  go_wp2_with fail
  go_ret2
  exact ⟨rfl, hb⟩
set_option maxRecDepth 100000 in
set_option maxHeartbeats 1000000 in
theorem prom_noN (place x y k m n : Int) (s : ByteArray) (w : World) (h : NoR w (.pointer none)) :
    Calls Tryz.prog 11 #[.pointer none, .int .i64 place, .agg #[.int .i64 x, .int .i64 y, .int .i64 k, .int .i64 m, .int .i64 n, .string s]] w fun e w' => e = .returned (.tuple #[.int .i64 0, .int .i64 1]) ∧ Below w.heap.size w w' := by
  go_enter Tryz.func11, Tryz.ntmps11
  go_upto_region 1 with fail
  have hb := From.refl w
  obtain ⟨gBP, hgBP⟩ : ∃ g, (w).heap.size = g := ⟨_, rfl⟩
  have BP := Blk.newV hgBP 30 #[.pointer none]
  have hbn := (Below.refl (w).heap.size w).alloc (Nat.le_refl _) (.cells #[.pointer none] 30)
  replace hb := hb.step hbn
  replace h := h.step hbn
  clear hbn
  rw [hgBP]
  have szBP := alloc_size hgBP (.cells #[.pointer none] 30)
  generalize (w).alloc (.cells #[.pointer none] 30) = w1 at *
  obtain ⟨gBI, hgBI⟩ : ∃ g, (w1).heap.size = g := ⟨_, rfl⟩
  have lt_BP_BI := BP.lt
  rw [hgBI] at lt_BP_BI
  have BI := Blk.newV hgBI 3 #[.int .i64 place]
  have hbn := (Below.refl (w1).heap.size w1).alloc (Nat.le_refl _) (.cells #[.int .i64 place] 3)
  replace hb := hb.step hbn
  replace h := h.step hbn
  replace BP := BP.step hbn
  clear hbn
  have egBI : gBP + 1 = gBI := szBP.symm.trans hgBI
  rw [egBI]
  clear szBP
  have szBI := alloc_size hgBI (.cells #[.int .i64 place] 3)
  generalize (w1).alloc (.cells #[.int .i64 place] 3) = w2 at *
  obtain ⟨gBA, hgBA⟩ : ∃ g, (w2).heap.size = g := ⟨_, rfl⟩
  have lt_BP_BA := BP.lt
  rw [hgBA] at lt_BP_BA
  have lt_BI_BA := BI.lt
  rw [hgBA] at lt_BI_BA
  have BA := Blk.newV hgBA 33 #[.int .i64 x, .int .i64 y, .int .i64 k, .int .i64 m, .int .i64 n, .string s]
  have hbn := (Below.refl (w2).heap.size w2).alloc (Nat.le_refl _) (.cells #[.int .i64 x, .int .i64 y, .int .i64 k, .int .i64 m, .int .i64 n, .string s] 33)
  replace hb := hb.step hbn
  replace h := h.step hbn
  replace BP := BP.step hbn
  replace BI := BI.step hbn
  clear hbn
  have egBA : gBI + 1 = gBA := szBI.symm.trans hgBA
  rw [egBA]
  clear szBI
  generalize (w2).alloc (.cells #[.int .i64 x, .int .i64 y, .int .i64 k, .int .i64 m, .int .i64 n, .string s] 33) = w3 at *
  go_upto_region 3 with fail
  obtain ⟨gBF, hgBF⟩ : ∃ g, (w3).heap.size = g := ⟨_, rfl⟩
  have lt_BP_BF := BP.lt
  rw [hgBF] at lt_BP_BF
  have lt_BI_BF := BI.lt
  rw [hgBF] at lt_BI_BF
  have lt_BA_BF := BA.lt
  rw [hgBF] at lt_BA_BF
  have BF := Blk.newV hgBF 125 #[.func (.func 50) #[] #[]]
  have hbn := (Below.refl (w3).heap.size w3).alloc (Nat.le_refl _) (.cells #[.func (.func 50) #[] #[]] 125)
  replace hb := hb.step hbn
  replace h := h.step hbn
  replace BP := BP.step hbn
  replace BI := BI.step hbn
  replace BA := BA.step hbn
  clear hbn
  rw [hgBF]
  generalize (w3).alloc (.cells #[.func (.func 50) #[] #[]] 125) = w4 at *
  have BP_0 := BP.cell (j := 0) rfl
  have BI_0 := BI.cell (j := 0) rfl
  go_wp2_with fail
  refine (hear_no _ place _ _ _ _ _ _ _ h).mono ?_
  rintro e w5 ⟨rfl, hbn⟩
  replace hb := hb.step hbn
  replace h := h.step hbn
  replace BP := BP.step hbn
  replace BI := BI.step hbn
  replace BA := BA.step hbn
  replace BF := BF.step hbn
  go_wp2_with fail
  go_ret2
  exact ⟨rfl, hb⟩
set_option maxRecDepth 100000 in
set_option maxHeartbeats 1000000 in
theorem acc_noN (place : Int) (w : World) (h : NoR w (.pointer none)) :
    Calls Tryz.prog 13 #[.pointer none, .int .i64 place] w fun e w' => e = .returned (.tuple #[.int .i64 0, .int .i64 1]) ∧ Below w.heap.size w w' := by
  go_enter Tryz.func13, Tryz.ntmps13
  go_upto_region 1 with fail
  have hb := From.refl w
  obtain ⟨gBP, hgBP⟩ : ∃ g, (w).heap.size = g := ⟨_, rfl⟩
  have BP := Blk.newV hgBP 30 #[.pointer none]
  have hbn := (Below.refl (w).heap.size w).alloc (Nat.le_refl _) (.cells #[.pointer none] 30)
  replace hb := hb.step hbn
  replace h := h.step hbn
  clear hbn
  rw [hgBP]
  have szBP := alloc_size hgBP (.cells #[.pointer none] 30)
  generalize (w).alloc (.cells #[.pointer none] 30) = w1 at *
  obtain ⟨gBI, hgBI⟩ : ∃ g, (w1).heap.size = g := ⟨_, rfl⟩
  have lt_BP_BI := BP.lt
  rw [hgBI] at lt_BP_BI
  have BI := Blk.newV hgBI 3 #[.int .i64 place]
  have hbn := (Below.refl (w1).heap.size w1).alloc (Nat.le_refl _) (.cells #[.int .i64 place] 3)
  replace hb := hb.step hbn
  replace h := h.step hbn
  replace BP := BP.step hbn
  clear hbn
  have egBI : gBP + 1 = gBI := szBP.symm.trans hgBI
  rw [egBI]
  clear szBP
  generalize (w1).alloc (.cells #[.int .i64 place] 3) = w4 at *
  have BP_0 := BP.cell (j := 0) rfl
  have BI_0 := BI.cell (j := 0) rfl
  go_wp2_with fail
  refine (hear_no _ place _ _ _ _ _ _ _ h).mono ?_
  rintro e w5 ⟨rfl, hbn⟩
  replace hb := hb.step hbn
  replace h := h.step hbn
  replace BP := BP.step hbn
  replace BI := BI.step hbn
  go_wp2_with fail
  go_ret2
  exact ⟨rfl, hb⟩
set_option maxRecDepth 100000 in
set_option maxHeartbeats 1000000 in
theorem ref_noN (place x y : Int) (w : World) (h : NoR w (.pointer none)) :
    Calls Tryz.prog 14 #[.pointer none, .int .i64 place, .agg #[.int .i64 x, .int .i64 y]] w fun e w' => e = .returned (.tuple #[.int .i64 0, .int .i64 1]) ∧ Below w.heap.size w w' := by
  go_enter Tryz.func14, Tryz.ntmps14
  go_upto_region 1 with fail
  have hb := From.refl w
  obtain ⟨gBP, hgBP⟩ : ∃ g, (w).heap.size = g := ⟨_, rfl⟩
  have BP := Blk.newV hgBP 30 #[.pointer none]
  have hbn := (Below.refl (w).heap.size w).alloc (Nat.le_refl _) (.cells #[.pointer none] 30)
  replace hb := hb.step hbn
  replace h := h.step hbn
  clear hbn
  rw [hgBP]
  have szBP := alloc_size hgBP (.cells #[.pointer none] 30)
  generalize (w).alloc (.cells #[.pointer none] 30) = w1 at *
  obtain ⟨gBB, hgBB⟩ : ∃ g, (w1).heap.size = g := ⟨_, rfl⟩
  have lt_BP_BB := BP.lt
  rw [hgBB] at lt_BP_BB
  have BB := Blk.newV hgBB 23 #[.int .i64 x, .int .i64 y]
  have hbn := (Below.refl (w1).heap.size w1).alloc (Nat.le_refl _) (.cells #[.int .i64 x, .int .i64 y] 23)
  replace hb := hb.step hbn
  replace h := h.step hbn
  replace BP := BP.step hbn
  clear hbn
  have egBB : gBP + 1 = gBB := szBP.symm.trans hgBB
  rw [egBB]
  clear szBP
  generalize (w1).alloc (.cells #[.int .i64 x, .int .i64 y] 23) = w4 at *
  have BP_0 := BP.cell (j := 0) rfl
  go_wp2_with fail
  refine (hear_no _ place _ _ _ _ _ _ _ h).mono ?_
  rintro e w5 ⟨rfl, hbn⟩
  replace hb := hb.step hbn
  replace h := h.step hbn
  replace BP := BP.step hbn
  replace BB := BB.step hbn
  go_wp2_with fail
  go_ret2
  exact ⟨rfl, hb⟩
section
variable (g : Nat)
set_option maxRecDepth 100000 in
set_option maxHeartbeats 1000000 in
theorem prom_noG (place x y k m n : Int) (s : ByteArray) (w : World) (h : NoR w (.pointer (some ⟨g, 0, none⟩))) :
    Calls Tryz.prog 11 #[.pointer (some ⟨g, 0, none⟩), .int .i64 place, .agg #[.int .i64 x, .int .i64 y, .int .i64 k, .int .i64 m, .int .i64 n, .string s]] w fun e w' => e = .returned (.tuple #[.int .i64 0, .int .i64 1]) ∧ Below w.heap.size w w' := by
  go_enter Tryz.func11, Tryz.ntmps11
  go_upto_region 1 with fail
  have hb := From.refl w
  obtain ⟨gBP, hgBP⟩ : ∃ g, (w).heap.size = g := ⟨_, rfl⟩
  have BP := Blk.newV hgBP 30 #[.pointer (some ⟨g, 0, none⟩)]
  have hbn := (Below.refl (w).heap.size w).alloc (Nat.le_refl _) (.cells #[.pointer (some ⟨g, 0, none⟩)] 30)
  replace hb := hb.step hbn
  replace h := h.step hbn
  clear hbn
  rw [hgBP]
  have szBP := alloc_size hgBP (.cells #[.pointer (some ⟨g, 0, none⟩)] 30)
  generalize (w).alloc (.cells #[.pointer (some ⟨g, 0, none⟩)] 30) = w1 at *
  obtain ⟨gBI, hgBI⟩ : ∃ g, (w1).heap.size = g := ⟨_, rfl⟩
  have lt_BP_BI := BP.lt
  rw [hgBI] at lt_BP_BI
  have BI := Blk.newV hgBI 3 #[.int .i64 place]
  have hbn := (Below.refl (w1).heap.size w1).alloc (Nat.le_refl _) (.cells #[.int .i64 place] 3)
  replace hb := hb.step hbn
  replace h := h.step hbn
  replace BP := BP.step hbn
  clear hbn
  have egBI : gBP + 1 = gBI := szBP.symm.trans hgBI
  rw [egBI]
  clear szBP
  have szBI := alloc_size hgBI (.cells #[.int .i64 place] 3)
  generalize (w1).alloc (.cells #[.int .i64 place] 3) = w2 at *
  obtain ⟨gBA, hgBA⟩ : ∃ g, (w2).heap.size = g := ⟨_, rfl⟩
  have lt_BP_BA := BP.lt
  rw [hgBA] at lt_BP_BA
  have lt_BI_BA := BI.lt
  rw [hgBA] at lt_BI_BA
  have BA := Blk.newV hgBA 33 #[.int .i64 x, .int .i64 y, .int .i64 k, .int .i64 m, .int .i64 n, .string s]
  have hbn := (Below.refl (w2).heap.size w2).alloc (Nat.le_refl _) (.cells #[.int .i64 x, .int .i64 y, .int .i64 k, .int .i64 m, .int .i64 n, .string s] 33)
  replace hb := hb.step hbn
  replace h := h.step hbn
  replace BP := BP.step hbn
  replace BI := BI.step hbn
  clear hbn
  have egBA : gBI + 1 = gBA := szBI.symm.trans hgBA
  rw [egBA]
  clear szBI
  generalize (w2).alloc (.cells #[.int .i64 x, .int .i64 y, .int .i64 k, .int .i64 m, .int .i64 n, .string s] 33) = w3 at *
  go_upto_region 3 with fail
  obtain ⟨gBF, hgBF⟩ : ∃ g, (w3).heap.size = g := ⟨_, rfl⟩
  have lt_BP_BF := BP.lt
  rw [hgBF] at lt_BP_BF
  have lt_BI_BF := BI.lt
  rw [hgBF] at lt_BI_BF
  have lt_BA_BF := BA.lt
  rw [hgBF] at lt_BA_BF
  have BF := Blk.newV hgBF 125 #[.func (.func 50) #[] #[]]
  have hbn := (Below.refl (w3).heap.size w3).alloc (Nat.le_refl _) (.cells #[.func (.func 50) #[] #[]] 125)
  replace hb := hb.step hbn
  replace h := h.step hbn
  replace BP := BP.step hbn
  replace BI := BI.step hbn
  replace BA := BA.step hbn
  clear hbn
  rw [hgBF]
  generalize (w3).alloc (.cells #[.func (.func 50) #[] #[]] 125) = w4 at *
  have BP_0 := BP.cell (j := 0) rfl
  have BI_0 := BI.cell (j := 0) rfl
  go_wp2_with fail
  refine (hear_no _ place _ _ _ _ _ _ _ h).mono ?_
  rintro e w5 ⟨rfl, hbn⟩
  replace hb := hb.step hbn
  replace h := h.step hbn
  replace BP := BP.step hbn
  replace BI := BI.step hbn
  replace BA := BA.step hbn
  replace BF := BF.step hbn
  go_wp2_with fail
  go_ret2
  exact ⟨rfl, hb⟩
set_option maxRecDepth 100000 in
set_option maxHeartbeats 1000000 in
theorem acc_noG (place : Int) (w : World) (h : NoR w (.pointer (some ⟨g, 0, none⟩))) :
    Calls Tryz.prog 13 #[.pointer (some ⟨g, 0, none⟩), .int .i64 place] w fun e w' => e = .returned (.tuple #[.int .i64 0, .int .i64 1]) ∧ Below w.heap.size w w' := by
  go_enter Tryz.func13, Tryz.ntmps13
  go_upto_region 1 with fail
  have hb := From.refl w
  obtain ⟨gBP, hgBP⟩ : ∃ g, (w).heap.size = g := ⟨_, rfl⟩
  have BP := Blk.newV hgBP 30 #[.pointer (some ⟨g, 0, none⟩)]
  have hbn := (Below.refl (w).heap.size w).alloc (Nat.le_refl _) (.cells #[.pointer (some ⟨g, 0, none⟩)] 30)
  replace hb := hb.step hbn
  replace h := h.step hbn
  clear hbn
  rw [hgBP]
  have szBP := alloc_size hgBP (.cells #[.pointer (some ⟨g, 0, none⟩)] 30)
  generalize (w).alloc (.cells #[.pointer (some ⟨g, 0, none⟩)] 30) = w1 at *
  obtain ⟨gBI, hgBI⟩ : ∃ g, (w1).heap.size = g := ⟨_, rfl⟩
  have lt_BP_BI := BP.lt
  rw [hgBI] at lt_BP_BI
  have BI := Blk.newV hgBI 3 #[.int .i64 place]
  have hbn := (Below.refl (w1).heap.size w1).alloc (Nat.le_refl _) (.cells #[.int .i64 place] 3)
  replace hb := hb.step hbn
  replace h := h.step hbn
  replace BP := BP.step hbn
  clear hbn
  have egBI : gBP + 1 = gBI := szBP.symm.trans hgBI
  rw [egBI]
  clear szBP
  generalize (w1).alloc (.cells #[.int .i64 place] 3) = w4 at *
  have BP_0 := BP.cell (j := 0) rfl
  have BI_0 := BI.cell (j := 0) rfl
  go_wp2_with fail
  refine (hear_no _ place _ _ _ _ _ _ _ h).mono ?_
  rintro e w5 ⟨rfl, hbn⟩
  replace hb := hb.step hbn
  replace h := h.step hbn
  replace BP := BP.step hbn
  replace BI := BI.step hbn
  go_wp2_with fail
  go_ret2
  exact ⟨rfl, hb⟩
set_option maxRecDepth 100000 in
set_option maxHeartbeats 1000000 in
theorem ref_noG (place x y : Int) (w : World) (h : NoR w (.pointer (some ⟨g, 0, none⟩))) :
    Calls Tryz.prog 14 #[.pointer (some ⟨g, 0, none⟩), .int .i64 place, .agg #[.int .i64 x, .int .i64 y]] w fun e w' => e = .returned (.tuple #[.int .i64 0, .int .i64 1]) ∧ Below w.heap.size w w' := by
  go_enter Tryz.func14, Tryz.ntmps14
  go_upto_region 1 with fail
  have hb := From.refl w
  obtain ⟨gBP, hgBP⟩ : ∃ g, (w).heap.size = g := ⟨_, rfl⟩
  have BP := Blk.newV hgBP 30 #[.pointer (some ⟨g, 0, none⟩)]
  have hbn := (Below.refl (w).heap.size w).alloc (Nat.le_refl _) (.cells #[.pointer (some ⟨g, 0, none⟩)] 30)
  replace hb := hb.step hbn
  replace h := h.step hbn
  clear hbn
  rw [hgBP]
  have szBP := alloc_size hgBP (.cells #[.pointer (some ⟨g, 0, none⟩)] 30)
  generalize (w).alloc (.cells #[.pointer (some ⟨g, 0, none⟩)] 30) = w1 at *
  obtain ⟨gBB, hgBB⟩ : ∃ g, (w1).heap.size = g := ⟨_, rfl⟩
  have lt_BP_BB := BP.lt
  rw [hgBB] at lt_BP_BB
  have BB := Blk.newV hgBB 23 #[.int .i64 x, .int .i64 y]
  have hbn := (Below.refl (w1).heap.size w1).alloc (Nat.le_refl _) (.cells #[.int .i64 x, .int .i64 y] 23)
  replace hb := hb.step hbn
  replace h := h.step hbn
  replace BP := BP.step hbn
  clear hbn
  have egBB : gBP + 1 = gBB := szBP.symm.trans hgBB
  rw [egBB]
  clear szBP
  generalize (w1).alloc (.cells #[.int .i64 x, .int .i64 y] 23) = w4 at *
  have BP_0 := BP.cell (j := 0) rfl
  go_wp2_with fail
  refine (hear_no _ place _ _ _ _ _ _ _ h).mono ?_
  rintro e w5 ⟨rfl, hbn⟩
  replace hb := hb.step hbn
  replace h := h.step hbn
  replace BP := BP.step hbn
  replace BB := BB.step hbn
  go_wp2_with fail
  go_ret2
  exact ⟨rfl, hb⟩
end
theorem prom_no (p : Value) (place x y k m n : Int) (s : ByteArray) (w : World) (h : NoR w p) :
    Calls Tryz.prog 11 #[p, .int .i64 place, .agg #[.int .i64 x, .int .i64 y, .int .i64 k, .int .i64 m, .int .i64 n, .string s]] w fun e w' => e = .returned (.tuple #[.int .i64 0, .int .i64 1]) ∧ Below w.heap.size w w' := by
  rcases id h with rfl | ⟨g, rfl, -⟩
  · exact prom_noN place x y k m n s w h
  · exact prom_noG g place x y k m n s w h
theorem acc_no (p : Value) (place : Int) (w : World) (h : NoR w p) :
    Calls Tryz.prog 13 #[p, .int .i64 place] w fun e w' => e = .returned (.tuple #[.int .i64 0, .int .i64 1]) ∧ Below w.heap.size w w' := by
  rcases id h with rfl | ⟨g, rfl, -⟩
  · exact acc_noN place w h
  · exact acc_noG g place w h
theorem ref_no (p : Value) (place x y : Int) (w : World) (h : NoR w p) :
    Calls Tryz.prog 14 #[p, .int .i64 place, .agg #[.int .i64 x, .int .i64 y]] w fun e w' => e = .returned (.tuple #[.int .i64 0, .int .i64 1]) ∧ Below w.heap.size w w' := by
  rcases id h with rfl | ⟨g, rfl, -⟩
  · exact ref_noN place x y w h
  · exact ref_noG g place x y w h
set_option maxRecDepth 100000 in
set_option maxHeartbeats 1000000 in
theorem state_no (p : Value) (w : World) (h : NoR w p) :
    Calls Tryz.prog 17 #[p] w fun e w' => e = .returned (.agg #[.int .i64 0, .int .i64 0, .int .i64 0, .int .i64 0, .int .i64 0, .int .i64 0, .string ⟨#[]⟩, .slice none 0 0, .int .i64 0, .int .i64 0]) ∧ Below w.heap.size w w' := by
  have hb := From.refl w
  go_enter Tryz.func17, Tryz.ntmps17
  go_upto_region 1 with fail
  obtain ⟨gR, hgR⟩ : ∃ g, (w).heap.size = g := ⟨_, rfl⟩
  have R := Blk.newV hgR 55 #[.int .i64 0, .int .i64 0, .int .i64 0, .int .i64 0, .int .i64 0, .int .i64 0, .string ⟨#[]⟩, .slice none 0 0, .int .i64 0, .int .i64 0]
  have hbn := (Below.refl (w).heap.size w).alloc (Nat.le_refl _) (.cells #[.int .i64 0, .int .i64 0, .int .i64 0, .int .i64 0, .int .i64 0, .int .i64 0, .string ⟨#[]⟩, .slice none 0 0, .int .i64 0, .int .i64 0] 55)
  replace hb := hb.step hbn
  replace h := h.step hbn
  clear hbn
  rw [hgR]
  generalize (w).alloc (.cells #[.int .i64 0, .int .i64 0, .int .i64 0, .int .i64 0, .int .i64 0, .int .i64 0, .string ⟨#[]⟩, .slice none 0 0, .int .i64 0, .int .i64 0] 55) = w1 at *
  go_wp2_with fail
  refine (none15_no p _ h).mono ?_
  rintro e wx ⟨rfl, rfl⟩
  have R_0 := R.cell (j := 0) rfl
  have R_1 := R.cell (j := 1) rfl
  have R_2 := R.cell (j := 2) rfl
  have R_3 := R.cell (j := 3) rfl
  have R_4 := R.cell (j := 4) rfl
  have R_5 := R.cell (j := 5) rfl
  have R_6 := R.cell (j := 6) rfl
  have R_7 := R.cell (j := 7) rfl
  have R_8 := R.cell (j := 8) rfl
  have R_9 := R.cell (j := 9) rfl
  have Rf0 := R.frozen 0
  have Rf1 := R.frozen 1
  have Rf2 := R.frozen 2
  have Rf3 := R.frozen 3
  have Rf4 := R.frozen 4
  have Rf5 := R.frozen 5
  have Rf6 := R.frozen 6
  have Rf7 := R.frozen 7
  have Rf8 := R.frozen 8
  have Rf9 := R.frozen 9
  go_wp2_with fail
  (try simp only [Exit.inBlock, Exit.then])
  refine bodyPost_ret (v := .agg #[.int .i64 0, .int .i64 0, .int .i64 0, .int .i64 0, .int .i64 0, .int .i64 0, .string ⟨#[]⟩, .slice none 0 0, .int .i64 0, .int .i64 0]) ?_ rfl ⟨rfl, ?_⟩
  · rw [r_cell1 rfl]
    go_simp
  · have hkn : Kx [gR] w1 ((((((((((w1.setCell ⟨gR, 0, none⟩ (.int .i64 0)).setCell ⟨gR, 1, none⟩ (.int .i64 0)).setCell ⟨gR, 2, none⟩ (.int .i64 0)).setCell ⟨gR, 3, none⟩ (.int .i64 0)).setCell ⟨gR, 4, none⟩ (.int .i64 0)).setCell ⟨gR, 5, none⟩ (.int .i64 0)).setCell ⟨gR, 6, none⟩ (.string ⟨#[]⟩)).setCell ⟨gR, 7, none⟩ (.slice none 0 0)).setCell ⟨gR, 8, none⟩ (.int .i64 0)).setCell ⟨gR, 9, none⟩ (.int .i64 0)) := Kx.setCells [.int .i64 0, .int .i64 0, .int .i64 0, .int .i64 0, .int .i64 0, .int .i64 0, .string ⟨#[]⟩, .slice none 0 0, .int .i64 0, .int .i64 0] 0 _ (Kx.refl _ _) (.inl (by simp))
    exact (hb.kx hkn (by simp; omega)).out
set_option maxRecDepth 100000 in
set_option maxHeartbeats 1000000 in
theorem copy_no (p : Value) (w : World) (h : NoR w p) : Calls Tryz.prog 18 #[p] w fun e w' => e = .returned (.pointer none) ∧ w = w' := by
  go_enter Tryz.func18, Tryz.ntmps18
  go_wp2_with fail
  refine (none15_no p _ h).mono ?_
  rintro e wx ⟨rfl, rfl⟩
  go_wp2
  go_ret
  exact ⟨rfl, rfl⟩
end Go.Proofs.YtcahkcbenanfnaaGreatDoor
