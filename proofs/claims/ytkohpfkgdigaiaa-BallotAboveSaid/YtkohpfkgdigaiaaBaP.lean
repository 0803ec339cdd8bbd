
/- The document's Above: the walk. -/
import Derived.Test.YtkohpfkgdigaiaaBaL
namespace Go.Proofs.Ytkohpfkgdigaiaa
open Go.RowKit

def lessS (m x : Bl) : Bl := if lessB m.1 m.2 x.1 x.2 then x else m
def topR (xs : List Bl) : Nat → Bl
  | 0 => (-1, 0)
  | k + 1 => lessS (topR xs k) (xs.getD k (0, 0))
/-- Ballots that lie at an address. -/
def HasA (w : World) (a : Addr) (xs : List Bl) : Prop := ∀ k (h : k < xs.length), w.cell? (a.add (k * 2)) = some (.int .i64 xs[k].1) ∧ w.cell? ((a.add (k * 2)).add 1) = some (.int .i64 xs[k].2)
theorem less_pos (m x : Bl) : lessB m.1 m.2 x.1 x.2 = decide (0 < cmpI x.1 x.2 m.1 m.2) := by
  rcases less_cmp x.1 x.2 m.1 m.2 with ⟨h1, h2⟩ | ⟨h1, h2, h3⟩ | ⟨h1, h2, h3⟩
  · rw [h2]
    unfold lessB at h1 ⊢
    simp at h1 ⊢
    omega
  · rw [h3, h2]; rfl
  · rw [h3, h2]; rfl
theorem lessS_step (m x : Bl) : lessS m x = stepB m x := by
  unfold lessS stepB
  rw [less_pos]
  by_cases h : 0 < cmpI x.1 x.2 m.1 m.2 <;> simp [h]
/-- What is no ballot is the least of those that may stand in the list. -/
theorem none_least {c : Int} {b : Bl} (h : badB c b = false) : stepB b (-1, 0) = b ∧ stepB (-1, 0) b = b := by
  have hb : (b.1 = -1 ∧ b.2 = 0) ∨ (0 ≤ b.1 ∧ 0 ≤ b.2) := by
    simp only [badB, noneB, Bool.and_eq_false_iff, Bool.not_eq_false'] at h
    rcases h with h | h
    · simp at h; exact .inl h
    · have := chk_bd h; omega
  rw [← lessS_step, ← lessS_step]
  unfold lessS lessB
  obtain ⟨x, y⟩ := b
  simp only at hb ⊢
  rcases hb with ⟨rfl, rfl⟩ | ⟨h1, h2⟩
  · simp
  · constructor
    · rw [if_neg (by simp; omega)]
    · rw [if_pos (by simp; omega)]
theorem topR_K {c : Int} (xs : List Bl) (ys : List Bl) (h : ∀ b ∈ xs, badB c b = false) (k : Nat) (hk : k < xs.length) : topR xs (k + 1) = topK (xs ++ ys) (k + 1) := by
  induction k with
  | zero =>
    rw [topK_one]
    have e : (xs ++ ys).getD 0 (0, 0) = xs[0] := by simp [List.getElem?_append_left hk, hk]
    have e' : xs.getD 0 (0, 0) = xs[0] := by simp [hk]
    rw [e]
    simp only [topR]
    rw [e', lessS_step]
    exact (none_least (h _ (List.getElem_mem hk))).2
  | succ k ih =>
    have e : (xs ++ ys).getD (k + 1) (0, 0) = xs.getD (k + 1) (0, 0) := by simp [List.getElem?_append_left hk]
    rw [topR, lessS_step, ih (by omega)]
    conv => rhs; rw [topK]
    rw [e]
theorem topR_mem (xs : List Bl) (k : Nat) (hk : k ≤ xs.length) : topR xs k = (-1, 0) ∨ topR xs k ∈ xs := by
  induction k with
  | zero => exact .inl rfl
  | succ k ih =>
    simp only [topR, lessS]
    split
    · right; rw [List.getD_eq_getElem?_getD, List.getElem?_eq_getElem (by omega)]; exact List.getElem_mem _
    · exact ih (by omega)
theorem topR_B {c : Int} (xs : List Bl) (h : xs.any (badB c) = false) : topR xs xs.length = topB xs := by
  have h' : ∀ b ∈ xs, badB c b = false := fun b hb => by simpa using (List.any_eq_false.1 h) b hb
  unfold topB
  cases hn : xs.length with
  | zero =>
    obtain rfl := List.eq_nil_of_length_eq_zero hn
    simp [topR, topK, stepB, cmp_self]
  | succ n =>
    rw [topK]
    have e : (xs ++ [(-1, 0)]).getD (n + 1) (0, 0) = (-1, 0) := by
      rw [← hn]; simp
    rw [e, ← topR_K xs [(-1, 0)] h' n (by omega)]
    rcases topR_mem xs (n + 1) (by omega) with h1 | h1
    · rw [h1]; simp [stepB, cmp_self]
    · exact (none_least (h' _ h1)).1.symm
end Go.Proofs.Ytkohpfkgdigaiaa
