
/- A text is blank at an end for the program just where it is for the document; the two Checks agree. -/
import Derived.Test.YtcahkcbenanfnaaDoorTxH
import Derived.Lib.SlicesS
namespace Go.Proofs.YtcahkcbenanfnaaDoor
set_option linter.unusedSimpArgs false
set_option linter.unusedVariables false
open Go.RowKit

theorem dw_len (p : UInt8 → Bool) (l : List UInt8) : (l.dropWhile p).length ≤ l.length := (List.dropWhile_sublist p).length_le
theorem trim_same (c a b : UInt8) (t u l : List UInt8) (hl : l = a :: t) (hr : l.reverse = b :: u) : Lib.trimB l c = l ↔ (a ≠ c ∧ b ≠ c) := by
  have hlen : u.length + 1 = l.length := by have := congrArg List.length hr; simpa using this.symm
  unfold Lib.trimB Lib.trimLeftB Lib.trimRightB
  rw [hr]
  by_cases hb : b = c
  · have h1 : (b :: u).dropWhile (· == c) = u.dropWhile (· == c) := by simp [hb]
    rw [h1]
    have h2 := dw_len (· == c) u
    have h3 := dw_len (· == c) (u.dropWhile (· == c)).reverse
    constructor
    · intro h
      have := congrArg List.length h
      rw [List.length_reverse] at h3
      omega
    · intro h; exact absurd hb h.2
  · have h1 : (b :: u).dropWhile (· == c) = b :: u := by simp [hb]
    rw [h1, ← hr, List.reverse_reverse, hl]
    by_cases ha : a = c
    · have h2 : (a :: t).dropWhile (· == c) = t.dropWhile (· == c) := by simp [ha]
      rw [h2]
      have h3 := dw_len (· == c) t
      constructor
      · intro h
        have := congrArg List.length h
        simp at this
        omega
      · intro h; exact absurd ha h.1
    · have h2 : (a :: t).dropWhile (· == c) = a :: t := by simp [ha]
      rw [h2]
      exact ⟨fun _ => ⟨ha, hb⟩, fun _ => rfl⟩
theorem get_list (s : ByteArray) (i : Nat) (h : i < s.size) : s.data.toList[i]? = some (s.get! i) := by
  rw [← get_eq s i h, Array.getElem?_toList]
  exact Array.getElem?_eq_getElem (xs := s.data) h
theorem blank_eq (s : ByteArray) : blankS s = blankD s := by
  unfold blankS blankD
  rw [ByteArray.toList_eq, ByteArray.toList_eq]
  have hT : (trimS s).data.toList = Lib.trimB s.data.toList 32 := by simp [trimS]
  rw [hT]
  by_cases hz : s.size = 0
  · have : s.data.toList = [] := by
      have h : s.data.size = 0 := hz
      exact List.eq_nil_of_length_eq_zero (by simpa using h)
    simp [hz, this]
  · have hsz : s.data.toList.length = s.size := by simp
    have h0 := get_list s 0 (by omega)
    have h1 := get_list s (s.size - 1) (by omega)
    generalize s.data.toList = l at *
    generalize s.get! 0 = a at *
    generalize s.get! (s.size - 1) = b at *
    obtain ⟨t, ht⟩ : ∃ t, l = a :: t := by
      cases l with
      | nil => simp at h0
      | cons x t => simp at h0; subst h0; exact ⟨t, rfl⟩
    obtain ⟨u, hu⟩ : ∃ u, l.reverse = b :: u := by
      have hr : l.reverse[0]? = some b := by
        rw [List.getElem?_reverse (by omega), hsz]
        exact h1
      cases hl : l.reverse with
      | nil => rw [hl] at hr; simp at hr
      | cons x u => rw [hl] at hr; simp at hr; subst hr; exact ⟨u, rfl⟩
    have hs := trim_same 32 a b t u l ht hu
    have hne : l ≠ [] := by rw [ht]; simp
    have ea : (a = 32) ↔ (a.toNat = 32) := ⟨fun h => by rw [h]; rfl, fun h => UInt8.toNat_inj.1 h⟩
    have eb : (b = 32) ↔ (b.toNat = 32) := ⟨fun h => by rw [h]; rfl, fun h => UInt8.toNat_inj.1 h⟩
    rw [Bool.eq_iff_iff]
    simp only [hne, false_or, decide_eq_true_eq, hs, Bool.or_eq_true, beq_iff_eq, hz, ← ea, ← eb]
    by_cases ha : a = 32 <;> by_cases hb : b = 32 <;> simp [ha, hb]
theorem chk_eq (s : ByteArray) : chkT s = refChk s := by
  unfold chkT refChk longS
  rw [valid_eq, bad_eq, blank_eq]
  by_cases h : 200 < s.size
  · simp [h]
  · simp only [h, decide_false, Bool.false_eq_true, if_false]
    cases (signsL s).any brkS <;> simp
end Go.Proofs.YtcahkcbenanfnaaDoor
