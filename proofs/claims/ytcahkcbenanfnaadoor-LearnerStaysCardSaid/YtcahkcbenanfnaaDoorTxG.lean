
/- The document's text: which texts may be said. -/
import Derived.Test.YtcahkcbenanfnaaDoorTxF
namespace Go.Proofs.YtcahkcbenanfnaaDoor
set_option linter.unusedSimpArgs false
set_option linter.unusedVariables false
open Go.RowKit

theorem cellsS_get (l : List Sg) (j : Nat) (x : Sg) (h : l[j]? = some x) : (cellsS l)[j * 4 + 2]? = some (.int .i64 x.2.2.1) ∧ (cellsS l)[j * 4 + 3]? = some (.bool x.2.2.2) := by
  induction l generalizing j with
  | nil => simp at h
  | cons a t ih =>
    cases j with
    | zero => simp at h; subst h; simp [cellsS]
    | succ j =>
      have h' : t[j]? = some x := by simpa using h
      obtain ⟨h1, h2⟩ := ih j h'
      have e : ∀ q, (cellsS (a :: t))[(j + 1) * 4 + q]? = (cellsS t)[j * 4 + q]? := fun q => by
        rw [show (j + 1) * 4 + q = (j * 4 + q) + 4 by omega]
        simp [cellsS]
      exact ⟨(e 2).trans h1, (e 3).trans h2⟩
def brkS (x : Sg) : Bool := x.2.2.2
def badN (x : Sg) : Bool := decide (x.2.2.1 < 32) || (decide (127 ≤ x.2.2.1) && decide (x.2.2.1 ≤ 159))
def blankD (s : ByteArray) : Bool := s.size == 0 || ((s.get! 0).toNat == 32 || (s.get! (s.size - 1)).toNat == 32)
def refChk (s : ByteArray) : Int := if 200 < s.size then 3 else if (signsL s).any brkS then 130 else if (signsL s).any badN then 131 else if blankD s then 132 else 0
theorem any_true {l : List Sg} {f : Sg → Bool} {j : Nat} {x : Sg} (h : l[j]? = some x) (hf : f x = true) : l.any f = true := List.any_eq_true.2 ⟨x, List.mem_of_getElem? h, hf⟩
theorem any_false {l : List Sg} {f : Sg → Bool} (h : ∀ j x, j < l.length → l[j]? = some x → f x = false) : l.any f = false := by
  rw [List.any_eq_false]
  intro x hx
  obtain ⟨j, hj, rfl⟩ := List.getElem_of_mem hx
  rw [h j _ hj (List.getElem?_eq_getElem hj)]
  simp
theorem signsFrom_len (s : ByteArray) : ∀ k i, (signsFrom s k i).length ≤ s.size - i
  | 0, i => by simp [signsFrom]
  | k + 1, i => by
    unfold signsFrom
    split
    · rename_i h
      obtain ⟨d1, d2, -, -⟩ := dec_bd s i h
      have := signsFrom_len s k (i + (Utf8.decode s i).2)
      simp only [List.length_cons]
      omega
    · simp
end Go.Proofs.YtcahkcbenanfnaaDoor
