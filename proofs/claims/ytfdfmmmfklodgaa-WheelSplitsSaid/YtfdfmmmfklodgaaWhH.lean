
/- Package wheel: ordered. -/
import Derived.Test.YtfdfmmmfklodgaaWhG
import Derived.Test.YtfdfmmmfklodgaaWhS
import Derived.LoopN
import Derived.Deep.RegionHeld3
import Derived.Shelf.SlSortCmp.WholeK
namespace Go.Proofs.Ytfdfmmmfklodgaa
set_option linter.unusedSimpArgs false
set_option linter.unusedVariables false
open Go.RowKit Go.Sort Go.Shelf Go.Lib
theorem cell_drew (W : World) (a : Addr) : W.drew.cell? a = W.cell? a := rfl
theorem cell_new (W : World) (cs : Array Value) (t : TypeId) (i : Nat) (v : Value) (n : Nat) (hn : W.heap.size = n) (h : cs[i]? = some v) : (W.alloc (.cells cs t)).drew.cell? ⟨n, i, none⟩ = some v := by
  subst hn; rw [cell_drew]; simp [h]
/-! Which is less. -/
def c3 (x y : Int) : Int := if x < y then -1 else if y < x then 1 else 0
def or2 (x y : Int) : Int := if x = 0 then y else x
theorem nan64_any (x : Int) (w : World) : Calls Try.prog 52 #[.int .i64 x] w fun e w' => e = .returned (.bool false) ∧ w = w' := by
  go_enter Try.func52, Try.ntmps52
  go_wp2_with fail
  go_ret
  exact ⟨by simp, rfl⟩
set_option maxRecDepth 100000 in
set_option maxHeartbeats 400000 in
theorem c64_any (x y : Int) (w : World) : Calls Try.prog 48 #[.int .i64 x, .int .i64 y] w fun e w' => e = .returned (.int .i64 (c3 x y)) ∧ w = w' := by
  have hc : (x < y ∧ c3 x y = -1) ∨ (¬ x < y ∧ y < x ∧ c3 x y = 1) ∨ (¬ x < y ∧ ¬ y < x ∧ c3 x y = 0) := by
    unfold c3
    by_cases g : x < y
    · simp [g]
    · by_cases g' : y < x <;> simp [g, g']
  rcases hc with ⟨h1, h2⟩ | ⟨h1, h3, h2⟩ | ⟨h1, h3, h2⟩
  all_goals
    rw [h2]
    clear h2
    go_enter Try.func48, Try.ntmps48
    go_wp2_with fail
    refine (nan64_any _ _).mono ?_
    rintro e w' ⟨rfl, rfl⟩
    go_wp2_with fail
    refine (nan64_any _ _).mono ?_
    rintro e w' ⟨rfl, rfl⟩
    go_wp2_with fail
    go_ret
    exact ⟨rfl, rfl⟩
set_option maxRecDepth 100000 in
set_option maxHeartbeats 400000 in
theorem or_any (b : Nat) (x y : Int) (w : World) (h0 : w.cell? ⟨b, 0, none⟩ = some (.int .i64 x)) (h1 : w.cell? ⟨b, 1, none⟩ = some (.int .i64 y)) :
    Calls Try.prog 47 #[.slice (some ⟨b, 0, none⟩) 2 2] w fun e w' => e = .returned (.int .i64 (or2 x y)) ∧ w = w' := by
  have hc : (x = 0 ∧ y = 0 ∧ or2 x y = 0) ∨ (x = 0 ∧ y ≠ 0 ∧ or2 x y = y) ∨ (x ≠ 0 ∧ or2 x y = x) := by unfold or2; split <;> simp_all; omega
  rcases hc with ⟨g1, g2, g3⟩ | ⟨g1, g2, g3⟩ | ⟨g1, g3⟩
  all_goals
    rw [g3]
    clear g3
    try subst g1
    try subst g2
    go_enter Try.func47, Try.ntmps47
    go_wp2
    refine wp_loop_rounds 3 ?_
    rw [rounds_succ]
    go_wp2
    try (rw [rounds_succ]; go_wp2)
    try (rw [rounds_succ]; go_wp2)
    go_ret
    exact ⟨rfl, rfl⟩
/-- By the tick, then by the ID: pairs of an ID and a tick. -/
def cfD (x y : Int × Int) : Int := or2 (c3 x.2 y.2) (c3 x.1 y.1)
def encD (p : Int × Int) : List Value := [.int .i64 p.2, .int .i64 p.1]
set_option maxRecDepth 100000 in
set_option maxHeartbeats 1000000 in
theorem closure_any (x y : Int × Int) (w : World) :
    Calls Try.prog 46 #[.agg #[.int .i64 x.2, .int .i64 x.1], .agg #[.int .i64 y.2, .int .i64 y.1]] w fun e w' => e = .returned (.int .i64 (cfD x y)) ∧ ∃ q os', w' = grow (w.drewN q) os' := by
  obtain ⟨p, r⟩ := x
  obtain ⟨q, s⟩ := y
  unfold cfD
  simp only
  go_enter Try.func46, Try.ntmps46
  go_wp2
  go_region_held3 (fun w' => w'.cell? ⟨w.heap.size, 0, none⟩ = some (.int .i64 r) ∧ w'.cell? ⟨w.heap.size, 1, none⟩ = some (.int .i64 p) ∧ w'.cell? ⟨w.heap.size + 1, 0, none⟩ = some (.int .i64 s) ∧ w'.cell? ⟨w.heap.size + 1, 1, none⟩ = some (.int .i64 q)) (go_keep)
    (first | (go_at_call 48; refine (c64_any _ _ _).mono ?_; rintro e w' ⟨rfl, rfl⟩) | (go_at_call 47; refine (or_any _ (c3 r s) (c3 p q) _ ?_ ?_).mono ?_; (exact cell_new _ _ _ _ _ _ (by simp) rfl); (exact cell_new _ _ _ _ _ _ (by simp) rfl); rintro e w' ⟨rfl, rfl⟩))
  all_goals go_wp2
  all_goals go_ret
  all_goals exact ⟨rfl, 1, _, by rw [alloc_eq_grow, alloc_eq_grow, alloc_eq_grow, grow_grow, grow_grow]; rfl⟩
theorem ltD (x y : Int × Int) : ltOf cfD x y = aheadB x y := by
  unfold ltOf cfD or2 c3 aheadB
  rw [Bool.eq_iff_iff]
  simp only [decide_eq_true_eq, Bool.or_eq_true, Bool.and_eq_true]
  by_cases h1 : x.2 < y.2
  · simp [h1]
  · by_cases h2 : y.2 < x.2
    · simp [h1, h2]; omega
    · by_cases h3 : x.1 < y.1
      · simp [h1, h2, h3]; omega
      · by_cases h4 : y.1 < x.1
        · simp [h1, h2, h3, h4]
        · simp [h1, h2, h3, h4]
theorem swoD : SWO (ltOf cfD) where
  irrefl x := by rw [ltD]; unfold aheadB; simp
  trans x y z h1 h2 := by rw [ltD] at *; unfold aheadB at *; simp at *; omega
  ntrans x y z h1 h2 := by rw [ltD] at *; unfold aheadB at *; simp at *; omega
end Go.Proofs.Ytfdfmmmfklodgaa
