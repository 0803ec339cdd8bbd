
/- The document's talk: New; the two agree. -/
import Derived.Test.YtndechodaegkiaaDoorChQ
namespace Go.Proofs.YtndechodaegkiaaDoor
open Go.RowKit
/-- How members stand is what the lines say. -/
structure Good (t : Tk) : Prop where
  say : ∀ m : Nat, m < 16 → t.M.getD m z0 = stOf m t.L
  len : t.M.length = 16
  few : t.L.length ≤ t.sl
  top : t.sl ≤ 4096
theorem good0 : Good tk0 := by
  refine ⟨fun m hm => ?_, by simp [tk0], by simp [tk0], by simp [tk0]⟩
  show (List.replicate 16 z0).getD m z0 = z0
  rw [List.getD_eq_getElem?_getD, List.getElem?_replicate, if_pos hm]; rfl
theorem Good.would {t : Tk} (h : Good t) (e : En) : rwB t.L e = wdB t e := by
  unfold rwB wdB
  cases hr : rightE e
  · rfl
  · obtain ⟨h0, h1⟩ := right_mem hr
    obtain ⟨mm, hm⟩ : ∃ k : Nat, e.m = k := ⟨e.m.toNat, by omega⟩
    have hs := h.say mm (by omega)
    have h2 : sOf t e = stOf e.m t.L := by unfold sOf; rw [hm, ← hs]; simp
    unfold cntB rcB
    rw [h2]
theorem Good.next {t : Tk} (h : Good t) (slot : Int) (e : En) : Good (apT t slot e) := by
  unfold apT
  split
  · rename_i hrg
    obtain ⟨hr, hg⟩ : rightE e = true ∧ goodB t slot = true := by simpa using hrg
    have hlt : t.sl < 4096 := by unfold goodB at hg; simp at hg; omega
    split
    · rename_i hc
      obtain ⟨h0, h1⟩ := right_mem hr
      obtain ⟨mm, hm⟩ : ∃ k : Nat, e.m = k := ⟨e.m.toNat, by omega⟩
      refine ⟨fun m hm16 => ?_, by simp [h.len], by have := h.few; simp; omega, by show t.sl + 1 ≤ 4096; omega⟩
      rw [stOf_app, ← h.say m hm16]
      have hen : (newL t e).e = e := rfl
      rw [hen]
      have hmt : e.m.toNat = mm := by rw [hm]; simp
      rw [hmt]
      by_cases hme : m = mm
      · subst hme
        have h3 : (t.M.set m (cntS t e)).getD m z0 = cntS t e := by simp [h.len, hm16]
        rw [h3]
        have h4 : sOf t e = t.M.getD m z0 := by unfold sOf; rw [hmt]
        have hem : ¬ (e.m ≠ (m : Int)) := by rw [hm]; simp
        unfold cntS stStep
        rw [h4, if_neg hem]
        unfold cntB at hc
        by_cases k2 : e.k = 2
        · rw [if_pos k2, if_pos k2]
        · rw [if_neg k2, if_neg k2]
          rw [if_neg k2] at hc
          by_cases k3 : e.k = 3
          · rw [if_pos k3, if_pos k3]
          · rw [if_neg k3, if_neg k3]
            rw [if_neg k3] at hc
            by_cases k4 : e.k = 4
            · rw [if_pos k4, if_pos k4]
            · rw [if_neg k4] at hc
              cases hc
      · have h3 : (t.M.set mm (cntS t e)).getD m z0 = t.M.getD m z0 := by
          simp [List.getElem?_set_ne (Ne.symm hme)]
        rw [h3]
        unfold stStep
        rw [if_pos (by rw [hm]; intro e'; exact hme (by omega))]
    · exact ⟨h.say, h.len, by have := h.few; show t.L.length ≤ t.sl + 1; omega, by show t.sl + 1 ≤ 4096; omega⟩
  · exact h
theorem newF_good (l : List En) : ∀ (i : Nat) (t : Tk), Good t → Good (newF t i l).1 := by
  induction l with
  | nil => intro i t h; exact h
  | cons e r ih =>
    intro i t h
    unfold newF
    split
    · exact ih _ _ (h.next _ _)
    · exact h
end Go.Proofs.YtndechodaegkiaaDoor
