
/- Package disk: picked, Crash. -/
import Derived.Test.YtceoehjjebkgpaaDkI
import Derived.Test.YtceoehjjebkgpaaRndH
namespace Go.Proofs.Ytceoehjjebkgpaa
set_option linter.unusedSimpArgs false
set_option linter.unusedVariables false
open Go.RowKit Go.Maps
def pickI (k n : Int) : Int := if k.tmod (n + 1) < 0 then k.tmod (n + 1) + (n + 1) else k.tmod (n + 1)
theorem tmod_bd (k m : Int) (hm : 0 < m) : -m < k.tmod m ∧ k.tmod m < m := by
  constructor
  · exact Int.neg_lt_of_neg_lt (by have := Int.tmod_lt_of_pos (-k) hm; rw [Int.neg_tmod] at this; exact this)
  · exact Int.tmod_lt_of_pos k hm
theorem pick_bd (k n : Int) (hn : 0 ≤ n) : 0 ≤ pickI k n ∧ pickI k n ≤ n := by
  have := tmod_bd k (n + 1) (by omega)
  unfold pickI
  split <;> omega
set_option maxRecDepth 100000 in
set_option maxHeartbeats 1000000 in
theorem picked_any (k n : Int) (w : World) (hn : 0 ≤ n) (hn2 : n ≤ 1000000000) : Calls Try.prog 29 #[.int .i64 k, .int .i64 n] w fun e w' => e = .returned (.int .i64 (pickI k n)) ∧ w = w' := by
  have hbd := tmod_bd k (n + 1) (by omega)
  have hp : pickI k n = if k.tmod (n + 1) < 0 then k.tmod (n + 1) + (n + 1) else k.tmod (n + 1) := rfl
  rw [hp]
  have hw1 : IntKind.wrap .i64 (n + 1) = n + 1 := by rw [IntKind.wrap_i64]; omega
  have hnz : ¬ n + 1 = 0 := by omega
  obtain ⟨t, ht⟩ : ∃ t, k.tmod (n + 1) = t := ⟨_, rfl⟩
  rw [ht] at hbd ⊢
  have hw2 : IntKind.wrap .i64 t = t := by rw [IntKind.wrap_i64]; omega
  by_cases hneg : t < 0
  · have hw3 : IntKind.wrap .i64 (t + (n + 1)) = t + (n + 1) := by rw [IntKind.wrap_i64]; omega
    rw [if_pos hneg]
    go_enter Try.func29, Try.ntmps29
    go_wp2_with fail
    go_ret
    exact ⟨rfl, rfl⟩
  · rw [if_neg hneg]
    go_enter Try.func29, Try.ntmps29
    go_wp2_with fail
    go_ret
    exact ⟨rfl, rfl⟩
end Go.Proofs.Ytceoehjjebkgpaa
