
/- WheelSplits: the plain law. -/
import Derived.Test.YtfdfmmmfklodgaaWiL
namespace Go.Proofs.Ytfdfmmmfklodgaa
set_option linter.unusedSimpArgs false
set_option linter.unusedVariables false
open Go.RowKit
/-- What is set is: each of the first k numbers, at its tick. -/
def Sp (z : List Int) (k : Nat) (L : List (Int × Int)) : Prop := L.length = k ∧ ∀ p : Int × Int, p ∈ L ↔ ∃ (i : Nat) (t : Int), i < k ∧ z[i]? = some t ∧ p = ((i : Int), t)
theorem Sp.nil (z : List Int) : Sp z 0 [] := ⟨rfl, fun p => by simp⟩
theorem Sp.keys {z : List Int} {k : Nat} {L : List (Int × Int)} (h : Sp z k L) (hk : k ≤ z.length) (y : Int) : y ∈ L.map (·.1) ↔ 0 ≤ y ∧ y < (k : Int) := by
  rw [List.mem_map]
  constructor
  · rintro ⟨p, hp, rfl⟩
    obtain ⟨i, t, hi, -, rfl⟩ := (h.2 p).1 hp
    simp only
    omega
  · rintro ⟨h0, h1⟩
    obtain ⟨i, rfl⟩ : ∃ i : Nat, y = i := ⟨y.toNat, by omega⟩
    have hi : i < z.length := by omega
    exact ⟨((i : Int), z[i]), (h.2 _).2 ⟨i, z[i], by omega, List.getElem?_eq_getElem hi, rfl⟩, rfl⟩
theorem Sp.fl {z : List Int} {k : Nat} {L : List (Int × Int)} (h : Sp z k L) (hk : k ≤ z.length) : Fl k L := ⟨h.1, h.keys hk⟩
theorem Sp.set {z : List Int} {k : Nat} {L : List (Int × Int)} (h : Sp z k L) {t : Int} (hz : z[k]? = some t) (hk : k < 4096) (h1 : 1 ≤ t) (h2 : t ≤ 2147483647) : setE 0 L k t = 0 ∧ setA 0 L k t = t ∧ Sp z (k + 1) (setL 0 L k t) := by
  have hkl : k < z.length := (List.getElem?_eq_some_iff.1 hz).1
  have hF := h.fl (by omega)
  obtain ⟨e, ea, -⟩ := hF.less hk t h1 h2
  refine ⟨e, ea, ?_⟩
  have hg := hF.get (k : Int)
  rw [show decide ((0 : Int) ≤ (k : Int) ∧ (k : Int) < (k : Int)) = false by simp] at hg
  unfold setL
  rw [if_pos e, del_none hg]
  refine ⟨by rw [ins_len, h.1], fun p => ?_⟩
  rw [(insD_perm _ _).mem_iff, List.mem_cons, h.2 p]
  constructor
  · rintro (rfl | ⟨i, t', hi, hz', rfl⟩)
    · exact ⟨k, t, by omega, hz, by simp⟩
    · exact ⟨i, t', by omega, hz', rfl⟩
  · rintro ⟨i, t', hi, hz', rfl⟩
    by_cases e2 : i = k
    · subst e2
      rw [hz] at hz'
      cases hz'
      exact .inl (by simp)
    · exact .inr ⟨i, t', by omega, hz', rfl⟩
theorem aheadB_le {a b : Int × Int} (h : aheadB a b = true) : a.2 ≤ b.2 := by
  unfold aheadB at h
  simp at h
  omega
theorem split_app {L : List (Int × Int)} (hL : L.Pairwise (fun a b => aheadB a b = true)) (u v : Int) (huv : u ≤ v) :
    L.filter (fun p => decide (p.2 ≤ u)) ++ (L.filter (fun p => decide (u < p.2))).filter (fun p => decide (p.2 ≤ v)) = L.filter (fun p => decide (p.2 ≤ v)) := by
  induction L with
  | nil => rfl
  | cons p r ih =>
    have ih := ih (List.pairwise_cons.1 hL).2
    by_cases h1 : p.2 ≤ u
    · rw [List.filter_cons_of_pos (by simpa using h1), List.filter_cons_of_neg (by simpa using h1), List.filter_cons_of_pos (a := p) (by simp; omega), List.cons_append, ih]
    · have h0 : r.filter (fun p => decide (p.2 ≤ u)) = [] := by
        rw [List.filter_eq_nil_iff]
        intro q hq
        have := (List.pairwise_cons.1 hL).1 q hq
        have := aheadB_le this
        simp
        omega
      rw [h0, List.nil_append] at ih
      rw [List.filter_cons_of_neg (by simpa using h1), h0, List.nil_append, List.filter_cons_of_pos (a := p) (by simpa using h1)]
      by_cases h2 : p.2 ≤ v
      · rw [List.filter_cons_of_pos (by simpa using h2), List.filter_cons_of_pos (by simpa using h2), ih]
      · rw [List.filter_cons_of_neg (by simpa using h2), List.filter_cons_of_neg (by simpa using h2), ih]
theorem split_rest (L : List (Int × Int)) (u v : Int) (huv : u ≤ v) : (L.filter (fun p => decide (u < p.2))).filter (fun p => decide (v < p.2)) = L.filter (fun p => decide (v < p.2)) := by
  rw [List.filter_filter]
  apply List.filter_congr
  intro p _
  rw [Bool.eq_iff_iff]
  simp
  omega
/-- What is due up to t; what is not. -/
def dueT (L : List (Int × Int)) (t : Int) : List (Int × Int) := L.filter (fun p => decide (p.2 ≤ t))
def rstT (L : List (Int × Int)) (t : Int) : List (Int × Int) := L.filter (fun p => decide (t < p.2))
theorem dueT_zero {L : List (Int × Int)} (hG : GoodW 0 L) : dueT L 0 = [] := by
  unfold dueT
  rw [List.filter_eq_nil_iff]
  intro p hp
  have := (hG.each p hp).2.2.1
  simp
  omega
theorem rstT_zero {L : List (Int × Int)} (hG : GoodW 0 L) : rstT L 0 = L := by
  unfold rstT
  rw [List.filter_eq_self]
  intro p hp
  have := (hG.each p hp).2.2.1
  simpa using this
theorem adv_T {L : List (Int × Int)} (hL : L.Pairwise (fun a b => aheadB a b = true)) (t z : Int) (t0 : 0 ≤ t) (t1 : t ≤ 10000) (z0 : 0 ≤ z) (z1 : z ≤ 10000) :
    advE t z = 0 ∧ advN t z = t + z ∧ advL t (rstT L t) z = rstT L (t + z) ∧ dueT L t ++ advO t (rstT L t) z = dueT L (t + z) := by
  have e : advE t z = 0 := by
    unfold advE
    rw [if_neg (by simp [inI]; omega), if_neg (by omega)]
  refine ⟨e, by unfold advN; rw [if_pos e], ?_, ?_⟩
  · unfold advL
    rw [if_pos e]
    exact split_rest L t (t + z) (by omega)
  · unfold advO
    rw [if_pos e]
    exact split_app hL t (t + z) (by omega)
/-- How often a number is in a list. -/
def times (A : List (Int × Int)) (i : Int) : Nat := (A.filter (fun p => p.1 == i)).length
theorem times_succ (A : List (Int × Int)) (i : Int) (k : Nat) (p : Int × Int) (h : A[k]? = some p) : times (A.take (k + 1)) i = if p.1 = i then times (A.take k) i + 1 else times (A.take k) i := by
  unfold times
  rw [List.take_add_one, h, List.filter_append, List.length_append]
  by_cases e : p.1 = i
  · simp [e]
  · simp [e]
theorem times_one {A : List (Int × Int)} (hn : (A.map (·.1)).Nodup) (i : Int) : times A i = if i ∈ A.map (·.1) then 1 else 0 := by
  induction A with
  | nil => rfl
  | cons p r ih =>
    rw [List.map_cons, List.nodup_cons] at hn
    have ih := ih hn.2
    unfold times at ih ⊢
    by_cases e : p.1 = i
    · rw [List.filter_cons_of_pos (by simpa using e), List.length_cons, ih, if_neg (by rw [← e]; exact hn.1), if_pos (by simp [e])]
    · rw [List.filter_cons_of_neg (by simpa using e), ih]
      have : i ∈ (p :: r).map (·.1) ↔ i ∈ r.map (·.1) := by
        rw [List.map_cons, List.mem_cons]
        exact ⟨fun h => h.resolve_left (fun h => e h.symm), .inr⟩
      by_cases h : i ∈ r.map (·.1)
      · rw [if_pos h, if_pos (this.2 h)]
      · rw [if_neg h, if_neg (fun h2 => h (this.1 h2))]
/-- How many numbers of a list are below i. -/
def below (A : List (Int × Int)) (i : Nat) : Nat := (A.filter (fun p => decide (p.1 < (i : Int)))).length
theorem below_succ (A : List (Int × Int)) (i : Nat) : below A (i + 1) = below A i + times A i := by
  unfold below times
  induction A with
  | nil => rfl
  | cons p r ih =>
    by_cases h1 : p.1 < (i : Int)
    · rw [List.filter_cons_of_pos (by simp; omega), List.filter_cons_of_pos (by simpa using h1), List.filter_cons_of_neg (by simp; omega), List.length_cons, List.length_cons, ih]
      omega
    · by_cases h2 : p.1 = (i : Int)
      · rw [List.filter_cons_of_pos (by simp; omega), List.filter_cons_of_neg (by simpa using h1), List.filter_cons_of_pos (by simpa using h2), List.length_cons, List.length_cons, ih]
        omega
      · rw [List.filter_cons_of_neg (by simp; omega), List.filter_cons_of_neg (by simpa using h1), List.filter_cons_of_neg (by simpa using h2), ih]
theorem below_all {A : List (Int × Int)} {k : Nat} (h : ∀ p, p ∈ A → p.1 < (k : Int)) : below A k = A.length := by
  unfold below
  rw [List.filter_eq_self.2 (fun p hp => by simpa using h p hp)]
theorem below_zero {A : List (Int × Int)} (h : ∀ p, p ∈ A → 0 ≤ p.1) : below A 0 = 0 := by
  unfold below
  rw [List.filter_eq_nil_iff.2 (fun p hp => by have := h p hp; simp; omega)]
  rfl
end Go.Proofs.Ytfdfmmmfklodgaa
