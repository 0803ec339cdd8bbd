
/- WheelFull: the plain law. -/
import Derived.Test.YtfdfmmmfklodgaaWiF
namespace Go.Proofs.Ytfdfmmmfklodgaa
set_option linter.unusedSimpArgs false
set_option linter.unusedVariables false
open Go.RowKit
theorem get_keys (L : List (Int × Int)) (x : Int) : (getF L x).isSome = decide (x ∈ L.map (·.1)) := by
  unfold getF
  rw [Option.isSome_map, Bool.eq_iff_iff]
  simp
theorem del_keys (L : List (Int × Int)) (x y : Int) : y ∈ (delF L x).map (·.1) ↔ y ∈ L.map (·.1) ∧ y ≠ x := by
  unfold delF
  simp only [List.mem_map, List.mem_filter]
  constructor
  · rintro ⟨p, ⟨h1, h2⟩, rfl⟩
    exact ⟨⟨p, h1, rfl⟩, by simpa using h2⟩
  · rintro ⟨⟨p, h1, rfl⟩, h2⟩
    exact ⟨p, ⟨h1, by simpa using h2⟩, rfl⟩
theorem del_len : ∀ {L : List (Int × Int)} {x : Int}, (L.map (·.1)).Nodup → x ∈ L.map (·.1) → (delF L x).length + 1 = L.length := by
  intro L
  induction L with
  | nil => intro x _ h; simp at h
  | cons p r ih =>
    intro x hn h
    rw [List.map_cons, List.nodup_cons] at hn
    by_cases e : p.1 = x
    · have h0 : delF r x = r := by
        unfold delF
        rw [List.filter_eq_self]
        intro q hq
        have : q.1 ≠ x := fun h3 => hn.1 (by rw [e, ← h3]; exact List.mem_map_of_mem hq)
        simpa using this
      have h1 : delF (p :: r) x = delF r x := by
        unfold delF
        rw [List.filter_cons_of_neg (by simp [e])]
      rw [h1, h0]
      rfl
    · have h1 : delF (p :: r) x = p :: delF r x := by
        unfold delF
        rw [List.filter_cons_of_pos (by simpa using e)]
      rw [h1]
      have h2 : x ∈ r.map (·.1) := by
        rw [List.map_cons, List.mem_cons] at h
        rcases h with h | h
        · exact absurd h.symm e
        · exact h
      have := ih hn.2 h2
      simp only [List.length_cons]
      omega
theorem ins_keys (d : Int × Int) (L : List (Int × Int)) (y : Int) : y ∈ (insD d L).map (·.1) ↔ y = d.1 ∨ y ∈ L.map (·.1) := by
  have h := ((insD_perm d L).map (·.1)).mem_iff (a := y)
  rw [h]
  simp
theorem ins_len (d : Int × Int) (L : List (Int × Int)) : (insD d L).length = L.length + 1 := by
  have h := (insD_perm d L).length_eq
  simpa using h
/-- The first m numbers are set, nothing else. -/
def Fl (m : Nat) (L : List (Int × Int)) : Prop := L.length = m ∧ ∀ y : Int, y ∈ L.map (·.1) ↔ 0 ≤ y ∧ y < (m : Int)
theorem Fl.nil : Fl 0 [] := ⟨rfl, fun y => by simp⟩
theorem Fl.get {m : Nat} {L : List (Int × Int)} (h : Fl m L) (x : Int) : (getF L x).isSome = decide (0 ≤ x ∧ x < (m : Int)) := by
  rw [get_keys]
  exact decide_eq_decide.2 (h.2 x)
theorem Fl.less {k : Nat} {L : List (Int × Int)} (h : Fl k L) (hk : k < 4096) (n : Int) (h1 : 1 ≤ n) (h2 : n ≤ 2147483647) : setE 0 L k n = 0 ∧ setA 0 L k n = n ∧ Fl (k + 1) (setL 0 L k n) := by
  have hg := h.get (k : Int)
  rw [show decide ((0 : Int) ≤ (k : Int) ∧ (k : Int) < (k : Int)) = false by simp] at hg
  have e : setE 0 L k n = 0 := by
    unfold setE
    rw [if_neg (by simp [inI]; omega), if_neg (by rw [hg, h.1]; simp; omega)]
  refine ⟨e, by unfold setA; rw [if_pos e]; omega, ?_⟩
  unfold setL
  rw [if_pos e, del_none hg]
  refine ⟨by rw [ins_len, h.1], fun y => ?_⟩
  rw [ins_keys, h.2 y]
  simp only
  omega
theorem Fl.full {L : List (Int × Int)} (h : Fl 4096 L) (k : Nat) (hk : 4096 ≤ k) (hk2 : k ≤ 4100) (n : Int) (h1 : 1 ≤ n) (h2 : n ≤ 2147483647) : setE 0 L k n = 3 ∧ setA 0 L k n = 0 ∧ setL 0 L k n = L := by
  have hg := h.get (k : Int)
  rw [show decide ((0 : Int) ≤ (k : Int) ∧ (k : Int) < ((4096 : Nat) : Int)) = false by simp; omega] at hg
  have e : setE 0 L k n = 3 := by
    unfold setE
    rw [if_neg (by simp [inI]; omega), if_pos (by rw [hg, h.1]; simp)]
  refine ⟨e, ?_, ?_⟩
  · unfold setA; rw [if_neg (by rw [e]; decide)]
  · unfold setL; rw [if_neg (by rw [e]; decide)]
/-- Behind the cancelling: n things are set: those below m, but c. -/
def Fc (m n : Nat) (c : Int) (b : Bool) (L : List (Int × Int)) : Prop := L.length = n ∧ n ≤ 4096 ∧ m ≤ 4096 ∧ ∀ y : Int, y ∈ L.map (·.1) ↔ 0 ≤ y ∧ y < (m : Int) ∧ ¬ (b = true ∧ y = c)
theorem Fl.can {m : Nat} {L : List (Int × Int)} (h : Fl m L) (hm : m ≤ 4096) (hn : (L.map (·.1)).Nodup) (c : Int) :
    (canE L c == 0) = decide (0 ≤ c ∧ c < (m : Int)) ∧ Fc m (if 0 ≤ c ∧ c < (m : Int) then m - 1 else m) c (decide (0 ≤ c ∧ c < (m : Int))) (canL L c) := by
  have hg := h.get c
  by_cases hc : 0 ≤ c ∧ c < (m : Int)
  · rw [decide_eq_true hc] at hg ⊢
    have e : canE L c = 0 := by
      unfold canE
      rw [if_neg (by simp [inI]; omega), if_neg (by rw [hg]; simp)]
    have hk := (h.2 c).2 hc
    have hl := del_len hn hk
    refine ⟨by rw [e]; rfl, ?_⟩
    rw [if_pos hc]
    unfold canL
    rw [if_pos e]
    refine ⟨by rw [h.1] at hl; omega, by omega, hm, fun y => ?_⟩
    rw [del_keys, h.2 y]
    simp
    omega
  · rw [decide_eq_false hc] at hg ⊢
    have e : canE L c ≠ 0 := by
      unfold canE
      split
      · decide
      · first | decide | (rw [if_pos hg]; decide)
    refine ⟨by simpa using e, ?_⟩
    rw [if_neg hc]
    unfold canL
    rw [if_neg e]
    refine ⟨h.1, hm, hm, fun y => ?_⟩
    rw [h.2 y]
    simp
theorem Fc.set {m n : Nat} {c : Int} {b : Bool} {L : List (Int × Int)} (h : Fc m n c b L) (hn : (L.map (·.1)).Nodup) (x : Int) :
    (¬ (0 ≤ x ∧ x ≤ 2147483647) → setE 0 L x 3 = 2 ∧ setL 0 L x 3 = L) ∧
    (0 ≤ x → x ≤ 2147483647 → (x < (m : Int) ∧ ¬ (b = true ∧ x = c)) → setE 0 L x 3 = 0 ∧ (setL 0 L x 3).length = n) ∧
    (0 ≤ x → x ≤ 2147483647 → ¬ (x < (m : Int) ∧ ¬ (b = true ∧ x = c)) → n < 4096 → setE 0 L x 3 = 0 ∧ (setL 0 L x 3).length = n + 1) ∧
    (0 ≤ x → x ≤ 2147483647 → ¬ (x < (m : Int) ∧ ¬ (b = true ∧ x = c)) → ¬ n < 4096 → setE 0 L x 3 = 3 ∧ (setL 0 L x 3).length = n) := by
  obtain ⟨h1, h2, h3, h4⟩ := h
  have hk := h4 x
  have hg := get_keys L x
  refine ⟨fun g => ?_, fun g0 g1 g => ?_, fun g0 g1 g g2 => ?_, fun g0 g1 g g2 => ?_⟩
  · have e : setE 0 L x 3 = 2 := by
      unfold setE
      rw [if_pos (by simp [inI]; omega)]
    exact ⟨e, by unfold setL; rw [if_neg (by rw [e]; decide)]⟩
  · have hm := hk.2 ⟨g0, g⟩
    rw [decide_eq_true hm] at hg
    have e : setE 0 L x 3 = 0 := by
      unfold setE
      rw [if_neg (by simp [inI]; omega), if_neg (by rw [hg]; simp)]
    refine ⟨e, ?_⟩
    unfold setL
    rw [if_pos e, ins_len]
    have := del_len hn hm
    omega
  · have hm : ¬ x ∈ L.map (·.1) := fun hh => g (hk.1 hh).2
    rw [decide_eq_false hm] at hg
    have e : setE 0 L x 3 = 0 := by
      unfold setE
      rw [if_neg (by simp [inI]; omega), if_neg (by rw [hg, h1]; simp; omega)]
    refine ⟨e, ?_⟩
    unfold setL
    rw [if_pos e, ins_len, del_none hg, h1]
  · have hm : ¬ x ∈ L.map (·.1) := fun hh => g (hk.1 hh).2
    rw [decide_eq_false hm] at hg
    have e : setE 0 L x 3 = 3 := by
      unfold setE
      rw [if_neg (by simp [inI]; omega), if_pos (by rw [hg, h1]; simp; omega)]
    refine ⟨e, ?_⟩
    unfold setL
    rw [if_neg (by rw [e]; decide), h1]
end Go.Proofs.Ytfdfmmmfklodgaa
