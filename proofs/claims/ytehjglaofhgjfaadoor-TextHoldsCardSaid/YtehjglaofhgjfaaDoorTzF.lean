
/- Small letters change no fault of a text. -/
import Derived.Test.YtehjglaofhgjfaaDoorTyU
import Derived.Test.YtehjglaofhgjfaaDoorTxG
namespace Go.Proofs.YtehjglaofhgjfaaDoor
set_option linter.unusedSimpArgs false
set_option linter.unusedVariables false
open Go.RowKit
theorem foldS_data (s : ByteArray) : (foldS s).data.toList = foldL s.data.toList := by unfold foldS; rw [mkS_data]
theorem foldS_size (s : ByteArray) : (foldS s).size = s.size := by
  rw [Lib.size_eq, foldS_data, Lib.size_eq]; simp [foldL]
theorem dec_foldS (s : ByteArray) (i : Nat) (h : i < s.size) : ∃ c : UInt8, s.data.toList[i]? = some c ∧ Utf8.decode (foldS s) i = ((if c.toNat < 128 then foldN c.toNat else (Utf8.decode s i).1), (Utf8.decode s i).2) := by
  obtain ⟨c, hc⟩ : ∃ c, s.data.toList[i]? = some c := ⟨_, List.getElem?_eq_getElem (by rw [← Lib.size_eq]; exact h)⟩
  refine ⟨c, hc, ?_⟩
  obtain ⟨hi, e⟩ := List.getElem?_eq_some_iff.1 hc
  have hd : s.data.toList.drop i = c :: s.data.toList.drop (i + 1) := by rw [List.drop_eq_getElem_cons hi, e]
  have h1 := dec_fold c (s.data.toList.drop (i + 1))
  rw [← hd, Lib.decodeL_drop] at h1
  rw [← h1, ← Lib.decodeL_drop, foldS_data]
  unfold foldL
  rw [List.map_drop]
theorem dec_ascii (s : ByteArray) (i : Nat) (c : UInt8) (hc : s.data.toList[i]? = some c) (h : c.toNat < 128) : Utf8.decode s i = (c.toNat, 1) := by
  obtain ⟨hi, e⟩ := List.getElem?_eq_some_iff.1 hc
  have hd : s.data.toList.drop i = c :: s.data.toList.drop (i + 1) := by rw [List.drop_eq_getElem_cons hi, e]
  rw [← Lib.decodeL_drop, hd, Lib.decodeL_N]
  simp [Lib.decodeN, h]
theorem signs_fold (s : ByteArray) (f : Sg → Bool) (hf : ∀ i w n m b, (n = m ∨ (65 ≤ n ∧ n ≤ 90 ∧ m = n + 32)) → f (i, w, n, b) = f (i, w, m, b)) : ∀ k i, (signsFrom (foldS s) k i).any f = (signsFrom s k i).any f
  | 0, i => rfl
  | k + 1, i => by
    unfold signsFrom
    rw [foldS_size]
    split
    · rename_i h
      obtain ⟨c, hc, hd⟩ := dec_foldS s i h
      rw [hd, List.any_cons, List.any_cons, signs_fold s f hf k]
      simp only
      congr 1
      by_cases h8 : c.toNat < 128
      · rw [if_pos h8, dec_ascii s i c hc h8]
        have hb1 : brk (foldN c.toNat, 1) = false := by unfold brk foldN; split <;> simp <;> omega
        have hb2 : brk (c.toNat, 1) = false := by unfold brk; simp; omega
        rw [hb1, hb2]
        refine (hf i 1 c.toNat (foldN c.toNat) false ?_).symm
        unfold foldN
        split
        · exact .inr ⟨by omega, by omega, rfl⟩
        · exact .inl rfl
      · rw [if_neg h8]
    · rfl
theorem foldB_32 (c : UInt8) : ((foldB c).toNat == 32) = (c.toNat == 32) := by
  rw [foldB_nat]
  split
  · rw [Bool.eq_iff_iff, beq_iff_eq, beq_iff_eq]; omega
  · rfl
theorem get_foldS (s : ByteArray) (i : Nat) (h : i < s.size) : (((foldS s).get! i).toNat == 32) = ((s.get! i).toNat == 32) := by
  have h2 : i < (foldS s).size := by rw [foldS_size]; exact h
  rw [← get_eq _ _ h2, ← get_eq _ _ h]
  have e1 := Lib.data_getElem? (foldS s) i h2
  have e2 := Lib.data_getElem? s i h
  rw [foldS_data] at e1
  unfold foldL at e1
  rw [List.getElem?_map, e2] at e1
  have e3 := Option.some.inj e1
  rw [← e3]
  exact foldB_32 _
theorem refChk_fold (s : ByteArray) : refChk (foldS s) = refChk s := by
  have h1 : (signsL (foldS s)).any brkS = (signsL s).any brkS := by
    unfold signsL
    rw [foldS_size]
    exact signs_fold s brkS (fun _ _ _ _ _ _ => rfl) _ _
  have h2 : (signsL (foldS s)).any badN = (signsL s).any badN := by
    unfold signsL
    rw [foldS_size]
    refine signs_fold s badN (fun i w n m b h => ?_) _ _
    rcases h with rfl | ⟨h1, h2, rfl⟩
    · rfl
    · unfold badN
      simp only
      rw [decide_eq_false (show ¬ n < 32 by omega), decide_eq_false (show ¬ n + 32 < 32 by omega), decide_eq_false (show ¬ 127 ≤ n by omega), decide_eq_false (show ¬ 127 ≤ n + 32 by omega)]
      rfl
  have h3 : blankD (foldS s) = blankD s := by
    unfold blankD
    rw [foldS_size]
    by_cases hz : s.size = 0
    · simp [hz]
    · rw [get_foldS s 0 (by omega), get_foldS s (s.size - 1) (by omega)]
  unfold refChk
  rw [foldS_size, h1, h2, h3]
end Go.Proofs.YtehjglaofhgjfaaDoor
