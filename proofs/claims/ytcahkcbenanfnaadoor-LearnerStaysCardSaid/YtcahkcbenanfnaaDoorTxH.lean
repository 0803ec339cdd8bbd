
/- A text may be said by the program just where it may by the document. -/
import Derived.Test.YtcahkcbenanfnaaDoorTxE
import Derived.Test.YtcahkcbenanfnaaDoorTxG
import Derived.Lib.ValidLaws
import Derived.Lib.TrimUEq
namespace Go.Proofs.YtcahkcbenanfnaaDoor
set_option linter.unusedSimpArgs false
set_option linter.unusedVariables false
open Go.RowKit

theorem bad_signs (s : ByteArray) : ∀ k i, (∀ x, x ∈ signsFrom s k i → badN x = signBad (x.2.2.1 : Nat)) ∧ (signsFrom s k i).any badN = badFrom s k i
  | 0, i => ⟨by simp [signsFrom], by simp [signsFrom, badFrom]⟩
  | k + 1, i => by
    have hb : ∀ x : Sg, badN x = signBad (x.2.2.1 : Nat) := fun x => by
      unfold badN signBad
      rw [Bool.eq_iff_iff]
      simp
      omega
    refine ⟨fun x _ => hb x, ?_⟩
    unfold signsFrom badFrom
    split
    · rw [List.any_cons, (bad_signs s k _).2, hb]
    · rfl
theorem bad_eq (s : ByteArray) : badS s = (signsL s).any badN := ((bad_signs s s.size 0).2).symm
theorem valid_signs (s : ByteArray) : ∀ k i, s.size ≤ i + k → i ≤ s.size → Lib.validD (s.data.toList.drop i) = !(signsFrom s k i).any brkS
  | 0, i, h, h' => by
    obtain rfl : i = s.size := by omega
    have : s.data.toList.drop s.size = [] := by simp
    rw [this]
    simp [signsFrom, Lib.validD_nil]
  | k + 1, i, h, h' => by
    unfold signsFrom
    split
    · rename_i hi
      obtain ⟨d1, d2, -, -⟩ := dec_bd s i hi
      have hne : s.data.toList.drop i ≠ [] := by
        intro e
        have := congrArg List.length e
        simp at this
        omega
      rw [Lib.validD_step _ hne, Lib.decodeL_drop, List.drop_drop, List.any_cons]
      have ih := valid_signs s k (i + (Utf8.decode s i).2) (by omega) d2
      by_cases hb : (Utf8.decode s i).1 = 65533 ∧ (Utf8.decode s i).2 = 1
      · rw [if_pos hb]
        simp [brkS, brk, hb]
      · rw [if_neg hb, ih]
        have : brk (Utf8.decode s i) = false := by
          rw [Bool.eq_false_iff]
          unfold brk
          simp
          omega
        simp [brkS, this]
    · rename_i hi
      obtain rfl : i = s.size := by omega
      have : s.data.toList.drop s.size = [] := by simp
      rw [this]
      simp [Lib.validD_nil]
theorem valid_eq (s : ByteArray) : validS s = !(signsL s).any brkS := by
  have := valid_signs s s.size 0 (by omega) (by omega)
  simpa [validS, signsL] using this
end Go.Proofs.YtcahkcbenanfnaaDoor
