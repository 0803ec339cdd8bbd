
/- The document's learner: with. -/
import Derived.Test.YthhpblchiodahaaGreatDoorLoF
namespace Go.Proofs.YthhpblchiodahaaGreatDoor
set_option linter.unusedSimpArgs false
set_option linter.unusedVariables false
open Go.RowKit Go.Maps
theorem plK_snoc (hs : List Bool) : ∀ (k : Int) (b : Bool), plK k (hs ++ [b]) = plK k hs ++ (if b then [k + hs.length] else []) := by
  induction hs with
  | nil => intro k b; cases b <;> simp [plK]
  | cons a t ih =>
    intro k b
    have := ih (k + 1) b
    cases a
    · simp only [List.cons_append, plK, this, List.length_cons, Bool.false_eq_true, if_false]
      congr 1
      cases b <;> simp <;> omega
    · simp only [List.cons_append, plK, this, List.length_cons, if_true]
      cases b <;> simp <;> omega
theorem plK_in (hs : List Bool) : ∀ (k x : Int), x ∈ plK k hs → k ≤ x ∧ x < k + hs.length ∧ hs[(x - k).toNat]? = some true := by
  induction hs with
  | nil => intro k x h; simp [plK] at h
  | cons a t ih =>
    intro k x h
    have key : x ∈ plK (k + 1) t → k ≤ x ∧ x < k + (a :: t).length ∧ (a :: t)[(x - k).toNat]? = some true := fun h => by
      obtain ⟨h1, h2, h3⟩ := ih (k + 1) x h
      refine ⟨by omega, by simp; omega, ?_⟩
      rw [show (x - k).toNat = (x - (k + 1)).toNat + 1 by omega, List.getElem?_cons_succ]
      exact h3
    cases a
    · exact key (by simpa [plK] using h)
    · simp only [plK, if_true, List.mem_cons] at h
      rcases h with rfl | h
      · exact ⟨by omega, by simp; omega, by simp⟩
      · exact key h
theorem plK_has (hs : List Bool) : ∀ (k : Int) (i : Nat), hs[i]? = some true → k + (i : Int) ∈ plK k hs := by
  induction hs with
  | nil => intro k i h; simp at h
  | cons a t ih =>
    intro k i h
    cases i with
    | zero =>
      simp at h
      subst h
      simp [plK]
    | succ i =>
      have := ih (k + 1) i (by simpa using h)
      have e : k + ((i + 1 : Nat) : Int) = k + 1 + (i : Int) := by omega
      rw [e]
      cases a <;> simp [plK, this]
end Go.Proofs.YthhpblchiodahaaGreatDoor
