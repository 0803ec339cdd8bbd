
/- Package proposer: hear. -/
import Derived.Test.YtcahkcbenanfnaaGreatDoorPrI
namespace Go.Proofs.YtcahkcbenanfnaaGreatDoor
set_option linter.unusedSimpArgs false
set_option linter.unusedVariables false
open Go.RowKit


theorem neq_nil15 (w : World) : (binOp .neq 1 .nilFunc .nilFunc).run Tryz.prog w = .ok (.bool false) w := by kernel_rfl
theorem neq_func15 (fn : Fn) (x y : Array Value) (w : World) : (binOp .neq 1 (.func fn x y) .nilFunc).run Tryz.prog w = .ok (.bool true) w := by kernel_rfl
set_option maxRecDepth 100000 in
set_option maxHeartbeats 2000000 in
theorem hear_ff (g : Nat) (A : Prp) (place : Int) (F f0 f1 f2 f3 f4 : Value) (w : World) (hP : PW w g A) (hc : A.c ≠ 0) (hd0 : decide (0 ≤ place) = false) (hd1 : decide (place < A.c) = false) :
    Calls Tryz.prog 51 #[.pointer (some ⟨g, 0, none⟩), .int .i64 place, F, .agg #[f0, f1, f2, f3, f4]] w fun e w' => e = .returned (.tuple #[.int .i64 0, .int .i64 2]) ∧ Below w.heap.size w w' := by
  have hb := From.refl w
  go_enter Tryz.func51, Tryz.ntmps51
  go_upto_region 1 with fail
  obtain ⟨gX, hgX⟩ : ∃ g, (w).heap.size = g := ⟨_, rfl⟩
  have X := Blk.newV hgX 129 #[f0, f1, f2, f3, f4]
  have hbn := (Below.refl (w).heap.size w).alloc (Nat.le_refl _) (.cells #[f0, f1, f2, f3, f4] 129)
  replace hb := hb.step hbn
  replace hP := hP.step hbn
  clear hbn
  rw [hgX]
  generalize (w).alloc (.cells #[f0, f1, f2, f3, f4] 129) = w1 at *
  go_wp2_with fail
  refine (none15_at g A.c false _ (by simp [hc]) hP.cc).mono ?_
  rintro e wx ⟨rfl, rfl⟩
  have c31 := hP.cc
  go_wp2_with fail
  obtain ⟨gN, hgN⟩ : ∃ g, w1.heap.size = g := ⟨_, rfl⟩
  have XN := Blk.newV hgN 4 #[.bool false, .bool false]
  have hbn := (Below.refl w1.heap.size w1).alloc (Nat.le_refl _) (.cells #[.bool false, .bool false] 4)
  replace hb := hb.step hbn
  replace hP := hP.step hbn
  replace X := X.step hbn
  clear hbn
  rw [hgN]
  generalize w1.alloc (.cells #[.bool false, .bool false] 4) = wz at *
  refine (allP_at false _ [false, false] 2 rfl (by omega) _ XN rfl).mono ?_
  rintro e w5 ⟨rfl, rfl⟩
  go_wp2_with fail
  go_ret2
  exact ⟨rfl, hb⟩
set_option maxRecDepth 100000 in
set_option maxHeartbeats 2000000 in
theorem hear_ft (g : Nat) (A : Prp) (place : Int) (F f0 f1 f2 f3 f4 : Value) (w : World) (hP : PW w g A) (hc : A.c ≠ 0) (hd0 : decide (0 ≤ place) = false) (hd1 : decide (place < A.c) = true) :
    Calls Tryz.prog 51 #[.pointer (some ⟨g, 0, none⟩), .int .i64 place, F, .agg #[f0, f1, f2, f3, f4]] w fun e w' => e = .returned (.tuple #[.int .i64 0, .int .i64 2]) ∧ Below w.heap.size w w' := by
  have hb := From.refl w
  go_enter Tryz.func51, Tryz.ntmps51
  go_upto_region 1 with fail
  obtain ⟨gX, hgX⟩ : ∃ g, (w).heap.size = g := ⟨_, rfl⟩
  have X := Blk.newV hgX 129 #[f0, f1, f2, f3, f4]
  have hbn := (Below.refl (w).heap.size w).alloc (Nat.le_refl _) (.cells #[f0, f1, f2, f3, f4] 129)
  replace hb := hb.step hbn
  replace hP := hP.step hbn
  clear hbn
  rw [hgX]
  generalize (w).alloc (.cells #[f0, f1, f2, f3, f4] 129) = w1 at *
  go_wp2_with fail
  refine (none15_at g A.c false _ (by simp [hc]) hP.cc).mono ?_
  rintro e wx ⟨rfl, rfl⟩
  have c31 := hP.cc
  go_wp2_with fail
  obtain ⟨gN, hgN⟩ : ∃ g, w1.heap.size = g := ⟨_, rfl⟩
  have XN := Blk.newV hgN 4 #[.bool false, .bool true]
  have hbn := (Below.refl w1.heap.size w1).alloc (Nat.le_refl _) (.cells #[.bool false, .bool true] 4)
  replace hb := hb.step hbn
  replace hP := hP.step hbn
  replace X := X.step hbn
  clear hbn
  rw [hgN]
  generalize w1.alloc (.cells #[.bool false, .bool true] 4) = wz at *
  refine (allP_at false _ [false, true] 2 rfl (by omega) _ XN rfl).mono ?_
  rintro e w5 ⟨rfl, rfl⟩
  go_wp2_with fail
  go_ret2
  exact ⟨rfl, hb⟩
set_option maxRecDepth 100000 in
set_option maxHeartbeats 2000000 in
theorem hear_tf (g : Nat) (A : Prp) (place : Int) (F f0 f1 f2 f3 f4 : Value) (w : World) (hP : PW w g A) (hc : A.c ≠ 0) (hd0 : decide (0 ≤ place) = true) (hd1 : decide (place < A.c) = false) :
    Calls Tryz.prog 51 #[.pointer (some ⟨g, 0, none⟩), .int .i64 place, F, .agg #[f0, f1, f2, f3, f4]] w fun e w' => e = .returned (.tuple #[.int .i64 0, .int .i64 2]) ∧ Below w.heap.size w w' := by
  have hb := From.refl w
  go_enter Tryz.func51, Tryz.ntmps51
  go_upto_region 1 with fail
  obtain ⟨gX, hgX⟩ : ∃ g, (w).heap.size = g := ⟨_, rfl⟩
  have X := Blk.newV hgX 129 #[f0, f1, f2, f3, f4]
  have hbn := (Below.refl (w).heap.size w).alloc (Nat.le_refl _) (.cells #[f0, f1, f2, f3, f4] 129)
  replace hb := hb.step hbn
  replace hP := hP.step hbn
  clear hbn
  rw [hgX]
  generalize (w).alloc (.cells #[f0, f1, f2, f3, f4] 129) = w1 at *
  go_wp2_with fail
  refine (none15_at g A.c false _ (by simp [hc]) hP.cc).mono ?_
  rintro e wx ⟨rfl, rfl⟩
  have c31 := hP.cc
  go_wp2_with fail
  obtain ⟨gN, hgN⟩ : ∃ g, w1.heap.size = g := ⟨_, rfl⟩
  have XN := Blk.newV hgN 4 #[.bool true, .bool false]
  have hbn := (Below.refl w1.heap.size w1).alloc (Nat.le_refl _) (.cells #[.bool true, .bool false] 4)
  replace hb := hb.step hbn
  replace hP := hP.step hbn
  replace X := X.step hbn
  clear hbn
  rw [hgN]
  generalize w1.alloc (.cells #[.bool true, .bool false] 4) = wz at *
  refine (allP_at false _ [true, false] 2 rfl (by omega) _ XN rfl).mono ?_
  rintro e w5 ⟨rfl, rfl⟩
  go_wp2_with fail
  go_ret2
  exact ⟨rfl, hb⟩
theorem hear_out (g : Nat) (A : Prp) (place : Int) (F f0 f1 f2 f3 f4 : Value) (w : World) (hP : PW w g A) (hc : A.c ≠ 0) (h : inB place 0 A.c = false) :
    Calls Tryz.prog 51 #[.pointer (some ⟨g, 0, none⟩), .int .i64 place, F, .agg #[f0, f1, f2, f3, f4]] w fun e w' => e = .returned (.tuple #[.int .i64 0, .int .i64 2]) ∧ Below w.heap.size w w' := by
  unfold inB at h
  cases hd0 : decide (0 ≤ place) <;> cases hd1 : decide (place < A.c)
  · exact hear_ff g A place F f0 f1 f2 f3 f4 w hP hc hd0 hd1
  · exact hear_ft g A place F f0 f1 f2 f3 f4 w hP hc hd0 hd1
  · exact hear_tf g A place F f0 f1 f2 f3 f4 w hP hc hd0 hd1
  · rw [hd0, hd1] at h; cases h
theorem inB_two {p c : Int} (h : inB p 0 c = true) : decide (0 ≤ p) = true ∧ decide (p < c) = true := by unfold inB at h; simpa using h
set_option maxRecDepth 100000 in
set_option maxHeartbeats 2000000 in
theorem hear_bad_prom (g : Nat) (A : Prp) (place : Int) (q1 q2 : Value) (f0 f1 f2 f3 f4 : Value) (w : World) (hP : PW w g A) (hc : A.c ≠ 0) (hin : inB place 0 A.c = true)
    (cS : ∀ W, Below w.heap.size w W → Calls Tryz.prog 44 #[q1, q2] W fun e w' => e = .returned (.bool false) ∧ Below W.heap.size W w') :
    Calls Tryz.prog 51 #[.pointer (some ⟨g, 0, none⟩), .int .i64 place, .func (.func 44) #[] #[q1, q2], .agg #[f0, f1, f2, f3, f4]] w fun e w' => e = .returned (.tuple #[.int .i64 0, .int .i64 2]) ∧ Below w.heap.size w w' := by
  have hb := From.refl w
  go_enter Tryz.func51, Tryz.ntmps51
  go_upto_region 1 with fail
  obtain ⟨gX, hgX⟩ : ∃ g, (w).heap.size = g := ⟨_, rfl⟩
  have X := Blk.newV hgX 129 #[f0, f1, f2, f3, f4]
  have hbn := (Below.refl (w).heap.size w).alloc (Nat.le_refl _) (.cells #[f0, f1, f2, f3, f4] 129)
  replace hb := hb.step hbn
  replace hP := hP.step hbn
  clear hbn
  rw [hgX]
  generalize (w).alloc (.cells #[f0, f1, f2, f3, f4] 129) = w1 at *
  go_wp2_with fail
  refine (none15_at g A.c false _ (by simp [hc]) hP.cc).mono ?_
  rintro e wx ⟨rfl, rfl⟩
  have c31 := hP.cc
  obtain ⟨hd0, hd1⟩ := inB_two hin
  go_wp2_with fail
  obtain ⟨gN, hgN⟩ : ∃ g, w1.heap.size = g := ⟨_, rfl⟩
  have XN := Blk.newV hgN 4 #[.bool true, .bool true]
  have hbn := (Below.refl w1.heap.size w1).alloc (Nat.le_refl _) (.cells #[.bool true, .bool true] 4)
  replace hb := hb.step hbn
  replace hP := hP.step hbn
  replace X := X.step hbn
  clear hbn
  rw [hgN]
  generalize w1.alloc (.cells #[.bool true, .bool true] 4) = wz at *
  refine (allP_at true _ [true, true] 2 rfl (by omega) _ XN rfl).mono ?_
  rintro e w5 ⟨rfl, rfl⟩
  go_wp2_with fail
  refine (cS _ hb.out).mono ?_
  rintro e wy ⟨rfl, hbn⟩
  replace hb := hb.step hbn
  replace hP := hP.step hbn
  replace X := X.step hbn
  clear hbn
  go_wp2_with fail
  go_ret2
  exact ⟨rfl, hb⟩
set_option maxRecDepth 100000 in
set_option maxHeartbeats 2000000 in
theorem hear_bad_ref (g : Nat) (A : Prp) (place : Int) (q1 q2 : Value) (f0 f1 f2 f3 f4 : Value) (w : World) (hP : PW w g A) (hc : A.c ≠ 0) (hin : inB place 0 A.c = true)
    (cS : ∀ W, Below w.heap.size w W → Calls Tryz.prog 58 #[q1, q2] W fun e w' => e = .returned (.bool false) ∧ Below W.heap.size W w') :
    Calls Tryz.prog 51 #[.pointer (some ⟨g, 0, none⟩), .int .i64 place, .func (.func 58) #[] #[q1, q2], .agg #[f0, f1, f2, f3, f4]] w fun e w' => e = .returned (.tuple #[.int .i64 0, .int .i64 2]) ∧ Below w.heap.size w w' := by
  have hb := From.refl w
  go_enter Tryz.func51, Tryz.ntmps51
  go_upto_region 1 with fail
  obtain ⟨gX, hgX⟩ : ∃ g, (w).heap.size = g := ⟨_, rfl⟩
  have X := Blk.newV hgX 129 #[f0, f1, f2, f3, f4]
  have hbn := (Below.refl (w).heap.size w).alloc (Nat.le_refl _) (.cells #[f0, f1, f2, f3, f4] 129)
  replace hb := hb.step hbn
  replace hP := hP.step hbn
  clear hbn
  rw [hgX]
  generalize (w).alloc (.cells #[f0, f1, f2, f3, f4] 129) = w1 at *
  go_wp2_with fail
  refine (none15_at g A.c false _ (by simp [hc]) hP.cc).mono ?_
  rintro e wx ⟨rfl, rfl⟩
  have c31 := hP.cc
  obtain ⟨hd0, hd1⟩ := inB_two hin
  go_wp2_with fail
  obtain ⟨gN, hgN⟩ : ∃ g, w1.heap.size = g := ⟨_, rfl⟩
  have XN := Blk.newV hgN 4 #[.bool true, .bool true]
  have hbn := (Below.refl w1.heap.size w1).alloc (Nat.le_refl _) (.cells #[.bool true, .bool true] 4)
  replace hb := hb.step hbn
  replace hP := hP.step hbn
  replace X := X.step hbn
  clear hbn
  rw [hgN]
  generalize w1.alloc (.cells #[.bool true, .bool true] 4) = wz at *
  refine (allP_at true _ [true, true] 2 rfl (by omega) _ XN rfl).mono ?_
  rintro e w5 ⟨rfl, rfl⟩
  go_wp2_with fail
  refine (cS _ hb.out).mono ?_
  rintro e wy ⟨rfl, hbn⟩
  replace hb := hb.step hbn
  replace hP := hP.step hbn
  replace X := X.step hbn
  clear hbn
  go_wp2_with fail
  go_ret2
  exact ⟨rfl, hb⟩
set_option maxRecDepth 100000 in
set_option maxHeartbeats 2000000 in
theorem hear_idle_prom_2 (g : Nat) (A : Prp) (place : Int) (q1 q2 : Value) (f0 f1 f3 f4 : Value) (w : World) (hP : PW w g A) (hc : A.c ≠ 0) (hin : inB place 0 A.c = true) (hph : A.ph = 2)
    (cS : ∀ W, Below w.heap.size w W → Calls Tryz.prog 44 #[q1, q2] W fun e w' => e = .returned (.bool true) ∧ Below W.heap.size W w') :
    Calls Tryz.prog 51 #[.pointer (some ⟨g, 0, none⟩), .int .i64 place, .func (.func 44) #[] #[q1, q2], .agg #[f0, f1, .nilFunc, f3, f4]] w fun e w' => e = .returned (.tuple #[.int .i64 A.ph, .int .i64 0]) ∧ Below w.heap.size w w' := by
  rw [hph]
  have hb := From.refl w
  go_enter Tryz.func51, Tryz.ntmps51
  go_upto_region 1 with fail
  obtain ⟨gX, hgX⟩ : ∃ g, (w).heap.size = g := ⟨_, rfl⟩
  have X := Blk.newV hgX 129 #[f0, f1, .nilFunc, f3, f4]
  have hbn := (Below.refl (w).heap.size w).alloc (Nat.le_refl _) (.cells #[f0, f1, .nilFunc, f3, f4] 129)
  replace hb := hb.step hbn
  replace hP := hP.step hbn
  clear hbn
  rw [hgX]
  generalize (w).alloc (.cells #[f0, f1, .nilFunc, f3, f4] 129) = w1 at *
  go_wp2_with fail
  refine (none15_at g A.c false _ (by simp [hc]) hP.cc).mono ?_
  rintro e wx ⟨rfl, rfl⟩
  have c31 := hP.cc
  obtain ⟨hd0, hd1⟩ := inB_two hin
  go_wp2_with fail
  obtain ⟨gN, hgN⟩ : ∃ g, w1.heap.size = g := ⟨_, rfl⟩
  have XN := Blk.newV hgN 4 #[.bool true, .bool true]
  have hbn := (Below.refl w1.heap.size w1).alloc (Nat.le_refl _) (.cells #[.bool true, .bool true] 4)
  replace hb := hb.step hbn
  replace hP := hP.step hbn
  replace X := X.step hbn
  clear hbn
  rw [hgN]
  generalize w1.alloc (.cells #[.bool true, .bool true] 4) = wz at *
  refine (allP_at true _ [true, true] 2 rfl (by omega) _ XN rfl).mono ?_
  rintro e w5 ⟨rfl, rfl⟩
  go_wp2_with fail
  refine (cS _ hb.out).mono ?_
  rintro e wy ⟨rfl, hbn⟩
  replace hb := hb.step hbn
  replace hP := hP.step hbn
  replace X := X.step hbn
  clear hbn
  have x0 := hP.x0
  rw [hph] at x0
  have X_0 := X.cell (j := 0) rfl
  have X_1 := X.cell (j := 1) rfl
  have X_2 := X.cell (j := 2) rfl
  have X_3 := X.cell (j := 3) rfl
  have X_4 := X.cell (j := 4) rfl
  have hq1 := neq_nil15
  go_wp2_with fail
  go_ret2
  exact ⟨rfl, hb⟩
set_option maxRecDepth 100000 in
set_option maxHeartbeats 2000000 in
theorem hear_idle_prom_3 (g : Nat) (A : Prp) (place : Int) (q1 q2 : Value) (f0 f1 f2 f4 : Value) (w : World) (hP : PW w g A) (hc : A.c ≠ 0) (hin : inB place 0 A.c = true) (hph : A.ph = 3)
    (cS : ∀ W, Below w.heap.size w W → Calls Tryz.prog 44 #[q1, q2] W fun e w' => e = .returned (.bool true) ∧ Below W.heap.size W w') :
    Calls Tryz.prog 51 #[.pointer (some ⟨g, 0, none⟩), .int .i64 place, .func (.func 44) #[] #[q1, q2], .agg #[f0, f1, f2, .nilFunc, f4]] w fun e w' => e = .returned (.tuple #[.int .i64 A.ph, .int .i64 0]) ∧ Below w.heap.size w w' := by
  rw [hph]
  have hb := From.refl w
  go_enter Tryz.func51, Tryz.ntmps51
  go_upto_region 1 with fail
  obtain ⟨gX, hgX⟩ : ∃ g, (w).heap.size = g := ⟨_, rfl⟩
  have X := Blk.newV hgX 129 #[f0, f1, f2, .nilFunc, f4]
  have hbn := (Below.refl (w).heap.size w).alloc (Nat.le_refl _) (.cells #[f0, f1, f2, .nilFunc, f4] 129)
  replace hb := hb.step hbn
  replace hP := hP.step hbn
  clear hbn
  rw [hgX]
  generalize (w).alloc (.cells #[f0, f1, f2, .nilFunc, f4] 129) = w1 at *
  go_wp2_with fail
  refine (none15_at g A.c false _ (by simp [hc]) hP.cc).mono ?_
  rintro e wx ⟨rfl, rfl⟩
  have c31 := hP.cc
  obtain ⟨hd0, hd1⟩ := inB_two hin
  go_wp2_with fail
  obtain ⟨gN, hgN⟩ : ∃ g, w1.heap.size = g := ⟨_, rfl⟩
  have XN := Blk.newV hgN 4 #[.bool true, .bool true]
  have hbn := (Below.refl w1.heap.size w1).alloc (Nat.le_refl _) (.cells #[.bool true, .bool true] 4)
  replace hb := hb.step hbn
  replace hP := hP.step hbn
  replace X := X.step hbn
  clear hbn
  rw [hgN]
  generalize w1.alloc (.cells #[.bool true, .bool true] 4) = wz at *
  refine (allP_at true _ [true, true] 2 rfl (by omega) _ XN rfl).mono ?_
  rintro e w5 ⟨rfl, rfl⟩
  go_wp2_with fail
  refine (cS _ hb.out).mono ?_
  rintro e wy ⟨rfl, hbn⟩
  replace hb := hb.step hbn
  replace hP := hP.step hbn
  replace X := X.step hbn
  clear hbn
  have x0 := hP.x0
  rw [hph] at x0
  have X_0 := X.cell (j := 0) rfl
  have X_1 := X.cell (j := 1) rfl
  have X_2 := X.cell (j := 2) rfl
  have X_3 := X.cell (j := 3) rfl
  have X_4 := X.cell (j := 4) rfl
  have hq1 := neq_nil15
  go_wp2_with fail
  go_ret2
  exact ⟨rfl, hb⟩
set_option maxRecDepth 100000 in
set_option maxHeartbeats 2000000 in
theorem hear_idle_prom_4 (g : Nat) (A : Prp) (place : Int) (q1 q2 : Value) (f0 f1 f2 f3 : Value) (w : World) (hP : PW w g A) (hc : A.c ≠ 0) (hin : inB place 0 A.c = true) (hph : A.ph = 4)
    (cS : ∀ W, Below w.heap.size w W → Calls Tryz.prog 44 #[q1, q2] W fun e w' => e = .returned (.bool true) ∧ Below W.heap.size W w') :
    Calls Tryz.prog 51 #[.pointer (some ⟨g, 0, none⟩), .int .i64 place, .func (.func 44) #[] #[q1, q2], .agg #[f0, f1, f2, f3, .nilFunc]] w fun e w' => e = .returned (.tuple #[.int .i64 A.ph, .int .i64 0]) ∧ Below w.heap.size w w' := by
  rw [hph]
  have hb := From.refl w
  go_enter Tryz.func51, Tryz.ntmps51
  go_upto_region 1 with fail
  obtain ⟨gX, hgX⟩ : ∃ g, (w).heap.size = g := ⟨_, rfl⟩
  have X := Blk.newV hgX 129 #[f0, f1, f2, f3, .nilFunc]
  have hbn := (Below.refl (w).heap.size w).alloc (Nat.le_refl _) (.cells #[f0, f1, f2, f3, .nilFunc] 129)
  replace hb := hb.step hbn
  replace hP := hP.step hbn
  clear hbn
  rw [hgX]
  generalize (w).alloc (.cells #[f0, f1, f2, f3, .nilFunc] 129) = w1 at *
  go_wp2_with fail
  refine (none15_at g A.c false _ (by simp [hc]) hP.cc).mono ?_
  rintro e wx ⟨rfl, rfl⟩
  have c31 := hP.cc
  obtain ⟨hd0, hd1⟩ := inB_two hin
  go_wp2_with fail
  obtain ⟨gN, hgN⟩ : ∃ g, w1.heap.size = g := ⟨_, rfl⟩
  have XN := Blk.newV hgN 4 #[.bool true, .bool true]
  have hbn := (Below.refl w1.heap.size w1).alloc (Nat.le_refl _) (.cells #[.bool true, .bool true] 4)
  replace hb := hb.step hbn
  replace hP := hP.step hbn
  replace X := X.step hbn
  clear hbn
  rw [hgN]
  generalize w1.alloc (.cells #[.bool true, .bool true] 4) = wz at *
  refine (allP_at true _ [true, true] 2 rfl (by omega) _ XN rfl).mono ?_
  rintro e w5 ⟨rfl, rfl⟩
  go_wp2_with fail
  refine (cS _ hb.out).mono ?_
  rintro e wy ⟨rfl, hbn⟩
  replace hb := hb.step hbn
  replace hP := hP.step hbn
  replace X := X.step hbn
  clear hbn
  have x0 := hP.x0
  rw [hph] at x0
  have X_0 := X.cell (j := 0) rfl
  have X_1 := X.cell (j := 1) rfl
  have X_2 := X.cell (j := 2) rfl
  have X_3 := X.cell (j := 3) rfl
  have X_4 := X.cell (j := 4) rfl
  have hq1 := neq_nil15
  go_wp2_with fail
  go_ret2
  exact ⟨rfl, hb⟩
set_option maxRecDepth 100000 in
set_option maxHeartbeats 2000000 in
theorem hear_idle_acc_1 (g : Nat) (A : Prp) (place : Int) (f0 f2 f3 f4 : Value) (w : World) (hP : PW w g A) (hc : A.c ≠ 0) (hin : inB place 0 A.c = true) (hph : A.ph = 1)
    (cS : ∀ W, Below w.heap.size w W → Calls Tryz.prog 55 #[] W fun e w' => e = .returned (.bool true) ∧ Below W.heap.size W w') :
    Calls Tryz.prog 51 #[.pointer (some ⟨g, 0, none⟩), .int .i64 place, .func (.func 55) #[] #[], .agg #[f0, .nilFunc, f2, f3, f4]] w fun e w' => e = .returned (.tuple #[.int .i64 A.ph, .int .i64 0]) ∧ Below w.heap.size w w' := by
  rw [hph]
  have hb := From.refl w
  go_enter Tryz.func51, Tryz.ntmps51
  go_upto_region 1 with fail
  obtain ⟨gX, hgX⟩ : ∃ g, (w).heap.size = g := ⟨_, rfl⟩
  have X := Blk.newV hgX 129 #[f0, .nilFunc, f2, f3, f4]
  have hbn := (Below.refl (w).heap.size w).alloc (Nat.le_refl _) (.cells #[f0, .nilFunc, f2, f3, f4] 129)
  replace hb := hb.step hbn
  replace hP := hP.step hbn
  clear hbn
  rw [hgX]
  generalize (w).alloc (.cells #[f0, .nilFunc, f2, f3, f4] 129) = w1 at *
  go_wp2_with fail
  refine (none15_at g A.c false _ (by simp [hc]) hP.cc).mono ?_
  rintro e wx ⟨rfl, rfl⟩
  have c31 := hP.cc
  obtain ⟨hd0, hd1⟩ := inB_two hin
  go_wp2_with fail
  obtain ⟨gN, hgN⟩ : ∃ g, w1.heap.size = g := ⟨_, rfl⟩
  have XN := Blk.newV hgN 4 #[.bool true, .bool true]
  have hbn := (Below.refl w1.heap.size w1).alloc (Nat.le_refl _) (.cells #[.bool true, .bool true] 4)
  replace hb := hb.step hbn
  replace hP := hP.step hbn
  replace X := X.step hbn
  clear hbn
  rw [hgN]
  generalize w1.alloc (.cells #[.bool true, .bool true] 4) = wz at *
  refine (allP_at true _ [true, true] 2 rfl (by omega) _ XN rfl).mono ?_
  rintro e w5 ⟨rfl, rfl⟩
  go_wp2_with fail
  refine (cS _ hb.out).mono ?_
  rintro e wy ⟨rfl, hbn⟩
  replace hb := hb.step hbn
  replace hP := hP.step hbn
  replace X := X.step hbn
  clear hbn
  have x0 := hP.x0
  rw [hph] at x0
  have X_0 := X.cell (j := 0) rfl
  have X_1 := X.cell (j := 1) rfl
  have X_2 := X.cell (j := 2) rfl
  have X_3 := X.cell (j := 3) rfl
  have X_4 := X.cell (j := 4) rfl
  have hq1 := neq_nil15
  go_wp2_with fail
  go_ret2
  exact ⟨rfl, hb⟩
set_option maxRecDepth 100000 in
set_option maxHeartbeats 2000000 in
theorem hear_idle_acc_3 (g : Nat) (A : Prp) (place : Int) (f0 f1 f2 f4 : Value) (w : World) (hP : PW w g A) (hc : A.c ≠ 0) (hin : inB place 0 A.c = true) (hph : A.ph = 3)
    (cS : ∀ W, Below w.heap.size w W → Calls Tryz.prog 55 #[] W fun e w' => e = .returned (.bool true) ∧ Below W.heap.size W w') :
    Calls Tryz.prog 51 #[.pointer (some ⟨g, 0, none⟩), .int .i64 place, .func (.func 55) #[] #[], .agg #[f0, f1, f2, .nilFunc, f4]] w fun e w' => e = .returned (.tuple #[.int .i64 A.ph, .int .i64 0]) ∧ Below w.heap.size w w' := by
  rw [hph]
  have hb := From.refl w
  go_enter Tryz.func51, Tryz.ntmps51
  go_upto_region 1 with fail
  obtain ⟨gX, hgX⟩ : ∃ g, (w).heap.size = g := ⟨_, rfl⟩
  have X := Blk.newV hgX 129 #[f0, f1, f2, .nilFunc, f4]
  have hbn := (Below.refl (w).heap.size w).alloc (Nat.le_refl _) (.cells #[f0, f1, f2, .nilFunc, f4] 129)
  replace hb := hb.step hbn
  replace hP := hP.step hbn
  clear hbn
  rw [hgX]
  generalize (w).alloc (.cells #[f0, f1, f2, .nilFunc, f4] 129) = w1 at *
  go_wp2_with fail
  refine (none15_at g A.c false _ (by simp [hc]) hP.cc).mono ?_
  rintro e wx ⟨rfl, rfl⟩
  have c31 := hP.cc
  obtain ⟨hd0, hd1⟩ := inB_two hin
  go_wp2_with fail
  obtain ⟨gN, hgN⟩ : ∃ g, w1.heap.size = g := ⟨_, rfl⟩
  have XN := Blk.newV hgN 4 #[.bool true, .bool true]
  have hbn := (Below.refl w1.heap.size w1).alloc (Nat.le_refl _) (.cells #[.bool true, .bool true] 4)
  replace hb := hb.step hbn
  replace hP := hP.step hbn
  replace X := X.step hbn
  clear hbn
  rw [hgN]
  generalize w1.alloc (.cells #[.bool true, .bool true] 4) = wz at *
  refine (allP_at true _ [true, true] 2 rfl (by omega) _ XN rfl).mono ?_
  rintro e w5 ⟨rfl, rfl⟩
  go_wp2_with fail
  refine (cS _ hb.out).mono ?_
  rintro e wy ⟨rfl, hbn⟩
  replace hb := hb.step hbn
  replace hP := hP.step hbn
  replace X := X.step hbn
  clear hbn
  have x0 := hP.x0
  rw [hph] at x0
  have X_0 := X.cell (j := 0) rfl
  have X_1 := X.cell (j := 1) rfl
  have X_2 := X.cell (j := 2) rfl
  have X_3 := X.cell (j := 3) rfl
  have X_4 := X.cell (j := 4) rfl
  have hq1 := neq_nil15
  go_wp2_with fail
  go_ret2
  exact ⟨rfl, hb⟩
set_option maxRecDepth 100000 in
set_option maxHeartbeats 2000000 in
theorem hear_idle_acc_4 (g : Nat) (A : Prp) (place : Int) (f0 f1 f2 f3 : Value) (w : World) (hP : PW w g A) (hc : A.c ≠ 0) (hin : inB place 0 A.c = true) (hph : A.ph = 4)
    (cS : ∀ W, Below w.heap.size w W → Calls Tryz.prog 55 #[] W fun e w' => e = .returned (.bool true) ∧ Below W.heap.size W w') :
    Calls Tryz.prog 51 #[.pointer (some ⟨g, 0, none⟩), .int .i64 place, .func (.func 55) #[] #[], .agg #[f0, f1, f2, f3, .nilFunc]] w fun e w' => e = .returned (.tuple #[.int .i64 A.ph, .int .i64 0]) ∧ Below w.heap.size w w' := by
  rw [hph]
  have hb := From.refl w
  go_enter Tryz.func51, Tryz.ntmps51
  go_upto_region 1 with fail
  obtain ⟨gX, hgX⟩ : ∃ g, (w).heap.size = g := ⟨_, rfl⟩
  have X := Blk.newV hgX 129 #[f0, f1, f2, f3, .nilFunc]
  have hbn := (Below.refl (w).heap.size w).alloc (Nat.le_refl _) (.cells #[f0, f1, f2, f3, .nilFunc] 129)
  replace hb := hb.step hbn
  replace hP := hP.step hbn
  clear hbn
  rw [hgX]
  generalize (w).alloc (.cells #[f0, f1, f2, f3, .nilFunc] 129) = w1 at *
  go_wp2_with fail
  refine (none15_at g A.c false _ (by simp [hc]) hP.cc).mono ?_
  rintro e wx ⟨rfl, rfl⟩
  have c31 := hP.cc
  obtain ⟨hd0, hd1⟩ := inB_two hin
  go_wp2_with fail
  obtain ⟨gN, hgN⟩ : ∃ g, w1.heap.size = g := ⟨_, rfl⟩
  have XN := Blk.newV hgN 4 #[.bool true, .bool true]
  have hbn := (Below.refl w1.heap.size w1).alloc (Nat.le_refl _) (.cells #[.bool true, .bool true] 4)
  replace hb := hb.step hbn
  replace hP := hP.step hbn
  replace X := X.step hbn
  clear hbn
  rw [hgN]
  generalize w1.alloc (.cells #[.bool true, .bool true] 4) = wz at *
  refine (allP_at true _ [true, true] 2 rfl (by omega) _ XN rfl).mono ?_
  rintro e w5 ⟨rfl, rfl⟩
  go_wp2_with fail
  refine (cS _ hb.out).mono ?_
  rintro e wy ⟨rfl, hbn⟩
  replace hb := hb.step hbn
  replace hP := hP.step hbn
  replace X := X.step hbn
  clear hbn
  have x0 := hP.x0
  rw [hph] at x0
  have X_0 := X.cell (j := 0) rfl
  have X_1 := X.cell (j := 1) rfl
  have X_2 := X.cell (j := 2) rfl
  have X_3 := X.cell (j := 3) rfl
  have X_4 := X.cell (j := 4) rfl
  have hq1 := neq_nil15
  go_wp2_with fail
  go_ret2
  exact ⟨rfl, hb⟩
set_option maxRecDepth 100000 in
set_option maxHeartbeats 2000000 in
theorem hear_idle_ref_3 (g : Nat) (A : Prp) (place : Int) (q1 q2 : Value) (f0 f1 f2 f4 : Value) (w : World) (hP : PW w g A) (hc : A.c ≠ 0) (hin : inB place 0 A.c = true) (hph : A.ph = 3)
    (cS : ∀ W, Below w.heap.size w W → Calls Tryz.prog 58 #[q1, q2] W fun e w' => e = .returned (.bool true) ∧ Below W.heap.size W w') :
    Calls Tryz.prog 51 #[.pointer (some ⟨g, 0, none⟩), .int .i64 place, .func (.func 58) #[] #[q1, q2], .agg #[f0, f1, f2, .nilFunc, f4]] w fun e w' => e = .returned (.tuple #[.int .i64 A.ph, .int .i64 0]) ∧ Below w.heap.size w w' := by
  rw [hph]
  have hb := From.refl w
  go_enter Tryz.func51, Tryz.ntmps51
  go_upto_region 1 with fail
  obtain ⟨gX, hgX⟩ : ∃ g, (w).heap.size = g := ⟨_, rfl⟩
  have X := Blk.newV hgX 129 #[f0, f1, f2, .nilFunc, f4]
  have hbn := (Below.refl (w).heap.size w).alloc (Nat.le_refl _) (.cells #[f0, f1, f2, .nilFunc, f4] 129)
  replace hb := hb.step hbn
  replace hP := hP.step hbn
  clear hbn
  rw [hgX]
  generalize (w).alloc (.cells #[f0, f1, f2, .nilFunc, f4] 129) = w1 at *
  go_wp2_with fail
  refine (none15_at g A.c false _ (by simp [hc]) hP.cc).mono ?_
  rintro e wx ⟨rfl, rfl⟩
  have c31 := hP.cc
  obtain ⟨hd0, hd1⟩ := inB_two hin
  go_wp2_with fail
  obtain ⟨gN, hgN⟩ : ∃ g, w1.heap.size = g := ⟨_, rfl⟩
  have XN := Blk.newV hgN 4 #[.bool true, .bool true]
  have hbn := (Below.refl w1.heap.size w1).alloc (Nat.le_refl _) (.cells #[.bool true, .bool true] 4)
  replace hb := hb.step hbn
  replace hP := hP.step hbn
  replace X := X.step hbn
  clear hbn
  rw [hgN]
  generalize w1.alloc (.cells #[.bool true, .bool true] 4) = wz at *
  refine (allP_at true _ [true, true] 2 rfl (by omega) _ XN rfl).mono ?_
  rintro e w5 ⟨rfl, rfl⟩
  go_wp2_with fail
  refine (cS _ hb.out).mono ?_
  rintro e wy ⟨rfl, hbn⟩
  replace hb := hb.step hbn
  replace hP := hP.step hbn
  replace X := X.step hbn
  clear hbn
  have x0 := hP.x0
  rw [hph] at x0
  have X_0 := X.cell (j := 0) rfl
  have X_1 := X.cell (j := 1) rfl
  have X_2 := X.cell (j := 2) rfl
  have X_3 := X.cell (j := 3) rfl
  have X_4 := X.cell (j := 4) rfl
  have hq1 := neq_nil15
  go_wp2_with fail
  go_ret2
  exact ⟨rfl, hb⟩
set_option maxRecDepth 100000 in
set_option maxHeartbeats 2000000 in
theorem hear_idle_ref_4 (g : Nat) (A : Prp) (place : Int) (q1 q2 : Value) (f0 f1 f2 f3 : Value) (w : World) (hP : PW w g A) (hc : A.c ≠ 0) (hin : inB place 0 A.c = true) (hph : A.ph = 4)
    (cS : ∀ W, Below w.heap.size w W → Calls Tryz.prog 58 #[q1, q2] W fun e w' => e = .returned (.bool true) ∧ Below W.heap.size W w') :
    Calls Tryz.prog 51 #[.pointer (some ⟨g, 0, none⟩), .int .i64 place, .func (.func 58) #[] #[q1, q2], .agg #[f0, f1, f2, f3, .nilFunc]] w fun e w' => e = .returned (.tuple #[.int .i64 A.ph, .int .i64 0]) ∧ Below w.heap.size w w' := by
  rw [hph]
  have hb := From.refl w
  go_enter Tryz.func51, Tryz.ntmps51
  go_upto_region 1 with fail
  obtain ⟨gX, hgX⟩ : ∃ g, (w).heap.size = g := ⟨_, rfl⟩
  have X := Blk.newV hgX 129 #[f0, f1, f2, f3, .nilFunc]
  have hbn := (Below.refl (w).heap.size w).alloc (Nat.le_refl _) (.cells #[f0, f1, f2, f3, .nilFunc] 129)
  replace hb := hb.step hbn
  replace hP := hP.step hbn
  clear hbn
  rw [hgX]
  generalize (w).alloc (.cells #[f0, f1, f2, f3, .nilFunc] 129) = w1 at *
  go_wp2_with fail
  refine (none15_at g A.c false _ (by simp [hc]) hP.cc).mono ?_
  rintro e wx ⟨rfl, rfl⟩
  have c31 := hP.cc
  obtain ⟨hd0, hd1⟩ := inB_two hin
  go_wp2_with fail
  obtain ⟨gN, hgN⟩ : ∃ g, w1.heap.size = g := ⟨_, rfl⟩
  have XN := Blk.newV hgN 4 #[.bool true, .bool true]
  have hbn := (Below.refl w1.heap.size w1).alloc (Nat.le_refl _) (.cells #[.bool true, .bool true] 4)
  replace hb := hb.step hbn
  replace hP := hP.step hbn
  replace X := X.step hbn
  clear hbn
  rw [hgN]
  generalize w1.alloc (.cells #[.bool true, .bool true] 4) = wz at *
  refine (allP_at true _ [true, true] 2 rfl (by omega) _ XN rfl).mono ?_
  rintro e w5 ⟨rfl, rfl⟩
  go_wp2_with fail
  refine (cS _ hb.out).mono ?_
  rintro e wy ⟨rfl, hbn⟩
  replace hb := hb.step hbn
  replace hP := hP.step hbn
  replace X := X.step hbn
  clear hbn
  have x0 := hP.x0
  rw [hph] at x0
  have X_0 := X.cell (j := 0) rfl
  have X_1 := X.cell (j := 1) rfl
  have X_2 := X.cell (j := 2) rfl
  have X_3 := X.cell (j := 3) rfl
  have X_4 := X.cell (j := 4) rfl
  have hq1 := neq_nil15
  go_wp2_with fail
  go_ret2
  exact ⟨rfl, hb⟩
set_option maxRecDepth 100000 in
set_option maxHeartbeats 2000000 in
theorem hear_do_prom_1 (g : Nat) (A A2 : Prp) (place : Int) (q1 q2 d1 d2 d3 d4 : Value) (f0 f2 f3 f4 : Value) (w : World) (hP : PW w g A) (hc : A.c ≠ 0) (hin : inB place 0 A.c = true) (hph : A.ph = 1)
    (cS : ∀ W, Below w.heap.size w W → Calls Tryz.prog 44 #[q1, q2] W fun e w' => e = .returned (.bool true) ∧ Below W.heap.size W w')
    (cD : ∀ W, Below w.heap.size w W → Calls Tryz.prog 52 #[d1, d2, d3, d4] W fun e w' => e = .returned (.tuple #[]) ∧ PW w' g A2 ∧ Kx [g] W w') :
    Calls Tryz.prog 51 #[.pointer (some ⟨g, 0, none⟩), .int .i64 place, .func (.func 44) #[] #[q1, q2], .agg #[f0, .func (.func 52) #[] #[d1, d2, d3, d4], f2, f3, f4]] w fun e w' => e = .returned (.tuple #[.int .i64 A2.ph, .int .i64 0]) ∧ PW w' g A2 ∧ Kx [g] w w' := by
  have CD := Lib.hid cD
  clear cD
  have hb := From.refl w
  go_enter Tryz.func51, Tryz.ntmps51
  go_upto_region 1 with fail
  obtain ⟨gX, hgX⟩ : ∃ g, (w).heap.size = g := ⟨_, rfl⟩
  have X := Blk.newV hgX 129 #[f0, .func (.func 52) #[] #[d1, d2, d3, d4], f2, f3, f4]
  have hbn := (Below.refl (w).heap.size w).alloc (Nat.le_refl _) (.cells #[f0, .func (.func 52) #[] #[d1, d2, d3, d4], f2, f3, f4] 129)
  replace hb := hb.step hbn
  replace hP := hP.step hbn
  clear hbn
  rw [hgX]
  generalize (w).alloc (.cells #[f0, .func (.func 52) #[] #[d1, d2, d3, d4], f2, f3, f4] 129) = w1 at *
  go_wp2_with fail
  refine (none15_at g A.c false _ (by simp [hc]) hP.cc).mono ?_
  rintro e wx ⟨rfl, rfl⟩
  have c31 := hP.cc
  obtain ⟨hd0, hd1⟩ := inB_two hin
  go_wp2_with fail
  obtain ⟨gN, hgN⟩ : ∃ g, w1.heap.size = g := ⟨_, rfl⟩
  have XN := Blk.newV hgN 4 #[.bool true, .bool true]
  have hbn := (Below.refl w1.heap.size w1).alloc (Nat.le_refl _) (.cells #[.bool true, .bool true] 4)
  replace hb := hb.step hbn
  replace hP := hP.step hbn
  replace X := X.step hbn
  clear hbn
  rw [hgN]
  generalize w1.alloc (.cells #[.bool true, .bool true] 4) = wz at *
  refine (allP_at true _ [true, true] 2 rfl (by omega) _ XN rfl).mono ?_
  rintro e w5 ⟨rfl, rfl⟩
  go_wp2_with fail
  refine (cS _ hb.out).mono ?_
  rintro e wy ⟨rfl, hbn⟩
  replace hb := hb.step hbn
  replace hP := hP.step hbn
  replace X := X.step hbn
  clear hbn
  have x0 := hP.x0
  rw [hph] at x0
  have X_0 := X.cell (j := 0) rfl
  have X_1 := X.cell (j := 1) rfl
  have X_2 := X.cell (j := 2) rfl
  have X_3 := X.cell (j := 3) rfl
  have X_4 := X.cell (j := 4) rfl
  have hq1 := neq_func15
  go_wp2_with fail
  refine (CD.out _ hb.out).mono ?_
  rintro e w9 ⟨rfl, hP2, hk2⟩
  have x0 := hP2.x0
  have hk : Kx [g] w w9 := ((Kx.refl [g] w).step hb.out).trans hk2
  go_wp2_with fail
  go_ret2
  exact ⟨rfl, hP2, hk⟩
set_option maxRecDepth 100000 in
set_option maxHeartbeats 2000000 in
theorem hear_do_acc_2 (g : Nat) (A A2 : Prp) (place : Int) (d1 d2 : Value) (f0 f1 f3 f4 : Value) (w : World) (hP : PW w g A) (hc : A.c ≠ 0) (hin : inB place 0 A.c = true) (hph : A.ph = 2)
    (cS : ∀ W, Below w.heap.size w W → Calls Tryz.prog 55 #[] W fun e w' => e = .returned (.bool true) ∧ Below W.heap.size W w')
    (cD : ∀ W, Below w.heap.size w W → Calls Tryz.prog 56 #[d1, d2] W fun e w' => e = .returned (.tuple #[]) ∧ PW w' g A2 ∧ Kx [g] W w') :
    Calls Tryz.prog 51 #[.pointer (some ⟨g, 0, none⟩), .int .i64 place, .func (.func 55) #[] #[], .agg #[f0, f1, .func (.func 56) #[] #[d1, d2], f3, f4]] w fun e w' => e = .returned (.tuple #[.int .i64 A2.ph, .int .i64 0]) ∧ PW w' g A2 ∧ Kx [g] w w' := by
  have CD := Lib.hid cD
  clear cD
  have hb := From.refl w
  go_enter Tryz.func51, Tryz.ntmps51
  go_upto_region 1 with fail
  obtain ⟨gX, hgX⟩ : ∃ g, (w).heap.size = g := ⟨_, rfl⟩
  have X := Blk.newV hgX 129 #[f0, f1, .func (.func 56) #[] #[d1, d2], f3, f4]
  have hbn := (Below.refl (w).heap.size w).alloc (Nat.le_refl _) (.cells #[f0, f1, .func (.func 56) #[] #[d1, d2], f3, f4] 129)
  replace hb := hb.step hbn
  replace hP := hP.step hbn
  clear hbn
  rw [hgX]
  generalize (w).alloc (.cells #[f0, f1, .func (.func 56) #[] #[d1, d2], f3, f4] 129) = w1 at *
  go_wp2_with fail
  refine (none15_at g A.c false _ (by simp [hc]) hP.cc).mono ?_
  rintro e wx ⟨rfl, rfl⟩
  have c31 := hP.cc
  obtain ⟨hd0, hd1⟩ := inB_two hin
  go_wp2_with fail
  obtain ⟨gN, hgN⟩ : ∃ g, w1.heap.size = g := ⟨_, rfl⟩
  have XN := Blk.newV hgN 4 #[.bool true, .bool true]
  have hbn := (Below.refl w1.heap.size w1).alloc (Nat.le_refl _) (.cells #[.bool true, .bool true] 4)
  replace hb := hb.step hbn
  replace hP := hP.step hbn
  replace X := X.step hbn
  clear hbn
  rw [hgN]
  generalize w1.alloc (.cells #[.bool true, .bool true] 4) = wz at *
  refine (allP_at true _ [true, true] 2 rfl (by omega) _ XN rfl).mono ?_
  rintro e w5 ⟨rfl, rfl⟩
  go_wp2_with fail
  refine (cS _ hb.out).mono ?_
  rintro e wy ⟨rfl, hbn⟩
  replace hb := hb.step hbn
  replace hP := hP.step hbn
  replace X := X.step hbn
  clear hbn
  have x0 := hP.x0
  rw [hph] at x0
  have X_0 := X.cell (j := 0) rfl
  have X_1 := X.cell (j := 1) rfl
  have X_2 := X.cell (j := 2) rfl
  have X_3 := X.cell (j := 3) rfl
  have X_4 := X.cell (j := 4) rfl
  have hq1 := neq_func15
  go_wp2_with fail
  refine (CD.out _ hb.out).mono ?_
  rintro e w9 ⟨rfl, hP2, hk2⟩
  have x0 := hP2.x0
  have hk : Kx [g] w w9 := ((Kx.refl [g] w).step hb.out).trans hk2
  go_wp2_with fail
  go_ret2
  exact ⟨rfl, hP2, hk⟩
set_option maxRecDepth 100000 in
set_option maxHeartbeats 2000000 in
theorem hear_do_ref_1 (g : Nat) (A A2 : Prp) (place : Int) (q1 q2 d1 d2 : Value) (f0 f2 f3 f4 : Value) (w : World) (hP : PW w g A) (hc : A.c ≠ 0) (hin : inB place 0 A.c = true) (hph : A.ph = 1)
    (cS : ∀ W, Below w.heap.size w W → Calls Tryz.prog 58 #[q1, q2] W fun e w' => e = .returned (.bool true) ∧ Below W.heap.size W w')
    (cD : ∀ W, Below w.heap.size w W → Calls Tryz.prog 57 #[d1, d2] W fun e w' => e = .returned (.tuple #[]) ∧ PW w' g A2 ∧ Kx [g] W w') :
    Calls Tryz.prog 51 #[.pointer (some ⟨g, 0, none⟩), .int .i64 place, .func (.func 58) #[] #[q1, q2], .agg #[f0, .func (.func 57) #[] #[d1, d2], f2, f3, f4]] w fun e w' => e = .returned (.tuple #[.int .i64 A2.ph, .int .i64 0]) ∧ PW w' g A2 ∧ Kx [g] w w' := by
  have CD := Lib.hid cD
  clear cD
  have hb := From.refl w
  go_enter Tryz.func51, Tryz.ntmps51
  go_upto_region 1 with fail
  obtain ⟨gX, hgX⟩ : ∃ g, (w).heap.size = g := ⟨_, rfl⟩
  have X := Blk.newV hgX 129 #[f0, .func (.func 57) #[] #[d1, d2], f2, f3, f4]
  have hbn := (Below.refl (w).heap.size w).alloc (Nat.le_refl _) (.cells #[f0, .func (.func 57) #[] #[d1, d2], f2, f3, f4] 129)
  replace hb := hb.step hbn
  replace hP := hP.step hbn
  clear hbn
  rw [hgX]
  generalize (w).alloc (.cells #[f0, .func (.func 57) #[] #[d1, d2], f2, f3, f4] 129) = w1 at *
  go_wp2_with fail
  refine (none15_at g A.c false _ (by simp [hc]) hP.cc).mono ?_
  rintro e wx ⟨rfl, rfl⟩
  have c31 := hP.cc
  obtain ⟨hd0, hd1⟩ := inB_two hin
  go_wp2_with fail
  obtain ⟨gN, hgN⟩ : ∃ g, w1.heap.size = g := ⟨_, rfl⟩
  have XN := Blk.newV hgN 4 #[.bool true, .bool true]
  have hbn := (Below.refl w1.heap.size w1).alloc (Nat.le_refl _) (.cells #[.bool true, .bool true] 4)
  replace hb := hb.step hbn
  replace hP := hP.step hbn
  replace X := X.step hbn
  clear hbn
  rw [hgN]
  generalize w1.alloc (.cells #[.bool true, .bool true] 4) = wz at *
  refine (allP_at true _ [true, true] 2 rfl (by omega) _ XN rfl).mono ?_
  rintro e w5 ⟨rfl, rfl⟩
  go_wp2_with fail
  refine (cS _ hb.out).mono ?_
  rintro e wy ⟨rfl, hbn⟩
  replace hb := hb.step hbn
  replace hP := hP.step hbn
  replace X := X.step hbn
  clear hbn
  have x0 := hP.x0
  rw [hph] at x0
  have X_0 := X.cell (j := 0) rfl
  have X_1 := X.cell (j := 1) rfl
  have X_2 := X.cell (j := 2) rfl
  have X_3 := X.cell (j := 3) rfl
  have X_4 := X.cell (j := 4) rfl
  have hq1 := neq_func15
  go_wp2_with fail
  refine (CD.out _ hb.out).mono ?_
  rintro e w9 ⟨rfl, hP2, hk2⟩
  have x0 := hP2.x0
  have hk : Kx [g] w w9 := ((Kx.refl [g] w).step hb.out).trans hk2
  go_wp2_with fail
  go_ret2
  exact ⟨rfl, hP2, hk⟩
set_option maxRecDepth 100000 in
set_option maxHeartbeats 2000000 in
theorem hear_do_ref_2 (g : Nat) (A A2 : Prp) (place : Int) (q1 q2 d1 d2 : Value) (f0 f1 f3 f4 : Value) (w : World) (hP : PW w g A) (hc : A.c ≠ 0) (hin : inB place 0 A.c = true) (hph : A.ph = 2)
    (cS : ∀ W, Below w.heap.size w W → Calls Tryz.prog 58 #[q1, q2] W fun e w' => e = .returned (.bool true) ∧ Below W.heap.size W w')
    (cD : ∀ W, Below w.heap.size w W → Calls Tryz.prog 57 #[d1, d2] W fun e w' => e = .returned (.tuple #[]) ∧ PW w' g A2 ∧ Kx [g] W w') :
    Calls Tryz.prog 51 #[.pointer (some ⟨g, 0, none⟩), .int .i64 place, .func (.func 58) #[] #[q1, q2], .agg #[f0, f1, .func (.func 57) #[] #[d1, d2], f3, f4]] w fun e w' => e = .returned (.tuple #[.int .i64 A2.ph, .int .i64 0]) ∧ PW w' g A2 ∧ Kx [g] w w' := by
  have CD := Lib.hid cD
  clear cD
  have hb := From.refl w
  go_enter Tryz.func51, Tryz.ntmps51
  go_upto_region 1 with fail
  obtain ⟨gX, hgX⟩ : ∃ g, (w).heap.size = g := ⟨_, rfl⟩
  have X := Blk.newV hgX 129 #[f0, f1, .func (.func 57) #[] #[d1, d2], f3, f4]
  have hbn := (Below.refl (w).heap.size w).alloc (Nat.le_refl _) (.cells #[f0, f1, .func (.func 57) #[] #[d1, d2], f3, f4] 129)
  replace hb := hb.step hbn
  replace hP := hP.step hbn
  clear hbn
  rw [hgX]
  generalize (w).alloc (.cells #[f0, f1, .func (.func 57) #[] #[d1, d2], f3, f4] 129) = w1 at *
  go_wp2_with fail
  refine (none15_at g A.c false _ (by simp [hc]) hP.cc).mono ?_
  rintro e wx ⟨rfl, rfl⟩
  have c31 := hP.cc
  obtain ⟨hd0, hd1⟩ := inB_two hin
  go_wp2_with fail
  obtain ⟨gN, hgN⟩ : ∃ g, w1.heap.size = g := ⟨_, rfl⟩
  have XN := Blk.newV hgN 4 #[.bool true, .bool true]
  have hbn := (Below.refl w1.heap.size w1).alloc (Nat.le_refl _) (.cells #[.bool true, .bool true] 4)
  replace hb := hb.step hbn
  replace hP := hP.step hbn
  replace X := X.step hbn
  clear hbn
  rw [hgN]
  generalize w1.alloc (.cells #[.bool true, .bool true] 4) = wz at *
  refine (allP_at true _ [true, true] 2 rfl (by omega) _ XN rfl).mono ?_
  rintro e w5 ⟨rfl, rfl⟩
  go_wp2_with fail
  refine (cS _ hb.out).mono ?_
  rintro e wy ⟨rfl, hbn⟩
  replace hb := hb.step hbn
  replace hP := hP.step hbn
  replace X := X.step hbn
  clear hbn
  have x0 := hP.x0
  rw [hph] at x0
  have X_0 := X.cell (j := 0) rfl
  have X_1 := X.cell (j := 1) rfl
  have X_2 := X.cell (j := 2) rfl
  have X_3 := X.cell (j := 3) rfl
  have X_4 := X.cell (j := 4) rfl
  have hq1 := neq_func15
  go_wp2_with fail
  refine (CD.out _ hb.out).mono ?_
  rintro e w9 ⟨rfl, hP2, hk2⟩
  have x0 := hP2.x0
  have hk : Kx [g] w w9 := ((Kx.refl [g] w).step hb.out).trans hk2
  go_wp2_with fail
  go_ret2
  exact ⟨rfl, hP2, hk⟩
end Go.Proofs.YtcahkcbenanfnaaGreatDoor
