
/- Package ballot: which ballots may be, and which of two is less. -/
import Derived.Test.YtcahkcbenanfnaaDoorSlB
import Derived.LoopN
import Derived.Deep.RegionHeld3
namespace Go.Proofs.YtcahkcbenanfnaaDoor
set_option linter.unusedSimpArgs false
set_option linter.unusedVariables false
open Go.RowKit

theorem check_at (c e : Int) (h1 : errI c = e) (w : World) : Calls Tryd.prog 85 #[.int .i64 c] w fun r w' => r = .returned (.int .i64 e) ∧ Below w.heap.size w w' := h1 ▸ check_any c w
theorem owner_at (c s v e : Int) (h1 : ownerI c s = v) (h2 : opErr c s = e) (w : World) : Calls Tryd.prog 23 #[.int .i64 c, .int .i64 s] w fun r w' => r = .returned (.tuple #[.int .i64 v, .int .i64 e]) ∧ Below w.heap.size w w' := h1 ▸ h2 ▸ owner_any c s w
theorem majority_at (c v e : Int) (h1 : majI c = v) (h2 : errI c = e) (w : World) : Calls Tryd.prog 58 #[.int .i64 c] w fun r w' => r = .returned (.tuple #[.int .i64 v, .int .i64 e]) ∧ Below w.heap.size w w' := h1 ▸ h2 ▸ majority_any c w

theorem cell_drew (W : World) (a : Addr) : W.drew.cell? a = W.cell? a := rfl
theorem cell_new (W : World) (cs : Array Value) (t : TypeId) (i : Nat) (v : Value) (n : Nat) (hn : W.heap.size = n) (h : cs[i]? = some v) : (W.alloc (.cells cs t)).drew.cell? ⟨n, i, none⟩ = some v := by
  subst hn; rw [cell_drew]; simp [h]
theorem size_drew (W : World) : W.drew.heap.size = W.heap.size := rfl

/-! Which is less. -/
def c3 (x y : Int) : Int := if x < y then -1 else if y < x then 1 else 0
def or2 (x y : Int) : Int := if x = 0 then y else x
def cmpI (r p s q : Int) : Int := or2 (c3 r s) (c3 p q)
def lessB (r p s q : Int) : Bool := decide (r < s) || (r == s && decide (p < q))

theorem nan64_any (x : Int) (w : World) : Calls Tryd.prog 80 #[.int .i64 x] w fun e w' => e = .returned (.bool false) ∧ w = w' := by
  go_enter Tryd.func80, Tryd.ntmps80
  go_wp2_with fail
  go_ret
  exact ⟨ret_bool (by simp), rfl⟩
theorem nan_any (x : Int) (w : World) : Calls Tryd.prog 81 #[.int .i64 x] w fun e w' => e = .returned (.bool false) ∧ w = w' := by
  go_enter Tryd.func81, Tryd.ntmps81
  go_wp2_with fail
  go_ret
  exact ⟨ret_bool (by simp), rfl⟩
set_option maxRecDepth 100000 in
set_option maxHeartbeats 400000 in
theorem c64_any (x y : Int) (w : World) : Calls Tryd.prog 66 #[.int .i64 x, .int .i64 y] w fun e w' => e = .returned (.int .i64 (c3 x y)) ∧ w = w' := by
  have hc : (x < y ∧ c3 x y = -1) ∨ (¬ x < y ∧ y < x ∧ c3 x y = 1) ∨ (¬ x < y ∧ ¬ y < x ∧ c3 x y = 0) := by
    unfold c3
    by_cases g : x < y
    · simp [g]
    · by_cases g' : y < x <;> simp [g, g']
  rcases hc with ⟨h1, h2⟩ | ⟨h1, h3, h2⟩ | ⟨h1, h3, h2⟩
  all_goals
    rw [h2]
    clear h2
    go_enter Tryd.func66, Tryd.ntmps66
    go_wp2_with fail
    refine (nan64_any _ _).mono ?_
    rintro e w' ⟨rfl, rfl⟩
    go_wp2_with fail
    refine (nan64_any _ _).mono ?_
    rintro e w' ⟨rfl, rfl⟩
    go_wp2_with fail
    go_ret
    exact ⟨rfl, rfl⟩
set_option maxRecDepth 100000 in
set_option maxHeartbeats 400000 in
theorem cint_any (x y : Int) (w : World) : Calls Tryd.prog 67 #[.int .i64 x, .int .i64 y] w fun e w' => e = .returned (.int .i64 (c3 x y)) ∧ w = w' := by
  have hc : (x < y ∧ c3 x y = -1) ∨ (¬ x < y ∧ y < x ∧ c3 x y = 1) ∨ (¬ x < y ∧ ¬ y < x ∧ c3 x y = 0) := by
    unfold c3
    by_cases g : x < y
    · simp [g]
    · by_cases g' : y < x <;> simp [g, g']
  rcases hc with ⟨h1, h2⟩ | ⟨h1, h3, h2⟩ | ⟨h1, h3, h2⟩
  all_goals
    rw [h2]
    clear h2
    go_enter Tryd.func67, Tryd.ntmps67
    go_wp2_with fail
    refine (nan_any _ _).mono ?_
    rintro e w' ⟨rfl, rfl⟩
    go_wp2_with fail
    refine (nan_any _ _).mono ?_
    rintro e w' ⟨rfl, rfl⟩
    go_wp2_with fail
    go_ret
    exact ⟨rfl, rfl⟩
set_option maxRecDepth 100000 in
set_option maxHeartbeats 400000 in
theorem or_any (b : Nat) (x y : Int) (w : World) (h0 : w.cell? ⟨b, 0, none⟩ = some (.int .i64 x)) (h1 : w.cell? ⟨b, 1, none⟩ = some (.int .i64 y)) :
    Calls Tryd.prog 65 #[.slice (some ⟨b, 0, none⟩) 2 2] w fun e w' => e = .returned (.int .i64 (or2 x y)) ∧ w = w' := by
  have hc : (x = 0 ∧ y = 0 ∧ or2 x y = 0) ∨ (x = 0 ∧ y ≠ 0 ∧ or2 x y = y) ∨ (x ≠ 0 ∧ or2 x y = x) := by unfold or2; split <;> simp_all; omega
  rcases hc with ⟨g1, g2, g3⟩ | ⟨g1, g2, g3⟩ | ⟨g1, g3⟩
  all_goals
    rw [g3]
    clear g3
    try subst g1
    try subst g2
    go_enter Tryd.func65, Tryd.ntmps65
    go_wp2
    refine wp_loop_rounds 3 ?_
    rw [rounds_succ]
    go_wp2
    try (rw [rounds_succ]; go_wp2)
    try (rw [rounds_succ]; go_wp2)
    go_ret
    exact ⟨rfl, rfl⟩
set_option maxRecDepth 100000 in
set_option maxHeartbeats 1000000 in
theorem compare_any (r p s q : Int) (w : World) :
    Calls Tryd.prog 39 #[.agg #[.int .i64 r, .int .i64 p], .agg #[.int .i64 s, .int .i64 q]] w fun e w' => e = .returned (.int .i64 (cmpI r p s q)) ∧ Below w.heap.size w w' := by
  unfold cmpI
  go_enter Tryd.func39, Tryd.ntmps39
  go_wp2
  go_region_held3 (fun w' => w'.cell? ⟨w.heap.size, 0, none⟩ = some (.int .i64 r) ∧ w'.cell? ⟨w.heap.size, 1, none⟩ = some (.int .i64 p) ∧ w'.cell? ⟨w.heap.size + 1, 0, none⟩ = some (.int .i64 s) ∧ w'.cell? ⟨w.heap.size + 1, 1, none⟩ = some (.int .i64 q)) (go_keep)
    (first | (go_at_call 66; refine (c64_any _ _ _).mono ?_; rintro e w' ⟨rfl, rfl⟩) | (go_at_call 67; refine (cint_any _ _ _).mono ?_; rintro e w' ⟨rfl, rfl⟩) | (go_at_call 65; refine (or_any _ (c3 r s) (c3 p q) _ ?_ ?_).mono ?_; (exact cell_new _ _ _ _ _ _ (by simp) rfl); (exact cell_new _ _ _ _ _ _ (by simp) rfl); rintro e w' ⟨rfl, rfl⟩))
  all_goals go_wp2
  all_goals go_ret
  all_goals exact ⟨rfl, ((((Below.refl _ _).alloc (Nat.le_refl _) _).alloc (by simp) _).alloc (by simp; omega) _).drew⟩
end Go.Proofs.YtcahkcbenanfnaaDoor
