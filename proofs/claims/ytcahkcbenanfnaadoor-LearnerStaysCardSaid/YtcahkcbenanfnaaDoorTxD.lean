
/- The document's text: one sign, walked. -/
import Derived.Test.YtcahkcbenanfnaaDoorTxC
import Derived.BigQuiet
namespace Go.Proofs.YtcahkcbenanfnaaDoor
set_option linter.unusedSimpArgs false
set_option linter.unusedVariables false
open Go.RowKit

theorem more_t {c : Nat} (h : 128 ≤ c ∧ c < 192) : moreB (c : Int) = true := by unfold moreB; simp; omega
theorem more_f {c : Nat} (h : ¬ (128 ≤ c ∧ c < 192)) : moreB (c : Int) = false := by
  rw [Bool.eq_false_iff]
  unfold moreB
  simp
  omega
theorem below_dn {B : Nat} {a w : World} (h : Below B a w) : ∀ q, Below B a (w.drewN q)
  | 0 => h
  | q + 1 => (below_dn h q).drew
end Go.Proofs.YtcahkcbenanfnaaDoor
