
/- Two sets of places of which each holds more than half of a choir have a place in common. -/
import Derived.Test.YtkohpfkgdigaiaaBaJ
namespace Go.Proofs.Ytkohpfkgdigaiaa
open Go.RowKit

theorem plK_mem (hs : List Bool) (i : Nat) (k : Int) (h : hs.getD i false = true) : k + (i : Int) ∈ plK k hs := by
  induction hs generalizing i k with
  | nil => simp at h
  | cons a t ih =>
    cases i with
    | zero => simp at h; subst h; simp [plK]
    | succ j =>
      have h' : t.getD j false = true := by simpa using h
      have := ih j (k + 1) h'
      have e : k + 1 + (j : Int) = k + ((j + 1 : Nat) : Int) := by omega
      rw [e] at this
      cases a
      · simpa [plK] using this
      · simp only [plK, List.mem_cons]; exact .inr this
theorem two_sets (a b : List Bool) (k k' : Int) (c : Nat) (hl : a.length = b.length) (ha : ∀ i, a.getD i false = true → i < c) (hb : ∀ i, b.getD i false = true → i < c)
    (hn : ∀ i, ¬ (a.getD i false = true ∧ b.getD i false = true)) : (plK k a).length + (plK k' b).length ≤ c := by
  induction a generalizing b k k' c with
  | nil =>
    have : b = [] := by cases b with | nil => rfl | cons _ _ => simp at hl
    subst this; simp [plK]
  | cons x t ih =>
    cases b with
    | nil => simp at hl
    | cons y u =>
      have hl' : t.length = u.length := by simpa using hl
      have ta : ∀ i, t.getD i false = true → i < c - 1 := fun i hi => by have := ha (i + 1) (by simpa using hi); omega
      have tb : ∀ i, u.getD i false = true → i < c - 1 := fun i hi => by have := hb (i + 1) (by simpa using hi); omega
      have tn : ∀ i, ¬ (t.getD i false = true ∧ u.getD i false = true) := fun i hi => hn (i + 1) (by simpa using hi)
      have := ih u (k + 1) (k' + 1) (c - 1) hl' ta tb tn
      have h0 := hn 0
      have a0 := ha 0
      have b0 := hb 0
      cases x <;> cases y <;> simp [plK] at h0 a0 b0 ⊢ <;> omega
/-- The places of votes are those of the choir. -/
def InV (c : Int) (hs : List Bool) : Prop := hs.length = 9 ∧ ∀ i : Nat, hs.getD i false = true → (i : Int) < c
theorem inV_none (c : Int) : InV c (List.replicate 9 false) := ⟨rfl, fun i h => by
  have : (List.replicate 9 false).getD i false = false := by rw [List.getD_eq_getElem?_getD, List.getElem?_replicate]; split <;> rfl
  rw [this] at h; cases h⟩
theorem InV.add {c p : Int} {hs : List Bool} (h : InV c hs) : InV c (addL c p hs) := by
  unfold addL
  cases hp : inB p 0 c
  · exact h
  · refine ⟨by simp [h.1], fun i hi => ?_⟩
    simp only [if_true] at hi
    by_cases e : p.toNat = i
    · unfold inB at hp; simp at hp; omega
    · refine h.2 i ?_
      simpa [List.getD_eq_getElem?_getD, List.getElem?_set_ne e] using hi
def meetF (c : Int) (hs : List Bool) (p : Int) : Bool := inB p 0 c && hs.getD p.toNat false
theorem meet_won (c : Int) (ha hb : List Bool) (hr : rightB c = true) (A : InV c ha) (B : InV c hb) (wa : wonB c ha = true) (wb : wonB c hb = true) : (plK 0 ha).any (meetF c hb) = true := by
  have hc := right_bd hr
  obtain ⟨n, rfl⟩ : ∃ n : Nat, c = n := ⟨c.toNat, by omega⟩
  cases hm : (plK 0 ha).any (meetF n hb)
  · exfalso
    have hn : ∀ i, ¬ (ha.getD i false = true ∧ hb.getD i false = true) := fun i hi => by
      have h1 := plK_mem ha i 0 hi.1
      have h2 := B.2 i hi.2
      rw [List.any_eq_false] at hm
      refine hm _ h1 ?_
      rw [Int.zero_add]
      unfold meetF
      rw [Int.toNat_natCast, hi.2]
      simp [inB]
      omega
    have := two_sets ha hb 0 0 n (A.1.trans B.1.symm) (fun i hi => by have := A.2 i hi; omega) (fun i hi => by have := B.2 i hi; omega) hn
    unfold wonB manyV at wa wb
    have wa' := of_decide_eq_true wa
    have wb' := of_decide_eq_true wb
    have hm : majI n = n / 2 + 1 := by simp [majI, hr]
    omega
  · rfl
theorem c3_cases (x y : Int) : (c3 x y = -1 ∧ x < y) ∨ (c3 x y = 1 ∧ y < x) ∨ (c3 x y = 0 ∧ x = y) := by
  unfold c3
  by_cases h : x < y
  · simp [h]
  · by_cases h' : y < x
    · simp [h, h']
    · simp [h, h']; omega
theorem cmpI_cases (r p s q : Int) : (cmpI r p s q = -1 ∧ (r < s ∨ (r = s ∧ p < q))) ∨ (cmpI r p s q = 1 ∧ (s < r ∨ (r = s ∧ q < p))) ∨ (cmpI r p s q = 0 ∧ r = s ∧ p = q) := by
  unfold cmpI or2
  have h1 := c3_cases r s
  have h2 := c3_cases p q
  split <;> omega
/-- What one comparison says of the others. -/
theorem cmp_facts (r1 p1 r2 p2 r3 p3 : Int) : (cmpI r2 p2 r1 p1 = - cmpI r1 p1 r2 p2) ∧ ((cmpI r1 p1 r2 p2 = 0 ∧ r1 = r2 ∧ p1 = p2) ∨ (cmpI r1 p1 r2 p2 = 1 ∧ ¬ (r1 = r2 ∧ p1 = p2)) ∨ (cmpI r1 p1 r2 p2 = -1 ∧ ¬ (r1 = r2 ∧ p1 = p2))) ∧
    ((cmpI r2 p2 r3 p3 = -1 ∧ (cmpI r1 p1 r2 p2 = -1 → cmpI r1 p1 r3 p3 = -1)) ∨ cmpI r2 p2 r3 p3 = 0 ∨ cmpI r2 p2 r3 p3 = 1) := by
  have a := cmpI_cases r1 p1 r2 p2
  have b := cmpI_cases r2 p2 r1 p1
  have c := cmpI_cases r2 p2 r3 p3
  have d := cmpI_cases r1 p1 r3 p3
  refine ⟨by omega, by omega, by omega⟩
end Go.Proofs.Ytkohpfkgdigaiaa
