
/- Package wheel: Advance, plain. -/
import Derived.Test.YtfdfmmmfklodgaaWhJ
namespace Go.Proofs.Ytfdfmmmfklodgaa
set_option linter.unusedSimpArgs false
set_option linter.unusedVariables false
open Go.RowKit
def RowD (W : World) (base : Nat) (v : Value) (O : List (Int × Int)) : Prop := W.ownsRow base 50 2 v O.length (cellsD O)
theorem RowD.step {W W' : World} {base : Nat} {v : Value} {O : List (Int × Int)} (h : RowD W base v O) (hb : Below W.heap.size W W') : RowD W' base v O := own_step h hb
theorem RowD.kx {W W' : World} {base : Nat} {v : Value} {O : List (Int × Int)} {ws : List Nat} (h : RowD W base v O) (hk : Kx ws W W') (hw : ∀ k, v.ownBlock = some k → k ∉ ws) : RowD W' base v O := row_kx h hk hw
theorem RowD.ge {W : World} {base : Nat} {v : Value} {O : List (Int × Int)} (h : RowD W base v O) : ∀ k, v.ownBlock = some k → base ≤ k ∧ k < W.heap.size := row_ge h
theorem RowD.low {W : World} {base base' : Nat} {v : Value} {O : List (Int × Int)} (h : RowD W base v O) (hb : base' ≤ base) : RowD W base' v O := row_low h hb
theorem ids_eq {A O : List (Int × Int)} {f : Int × Int → Bool} (hn : (A.map (·.1)).Nodup) (hp : O.Perm (A.filter f)) : ids O A = A.filter (fun p => !f p) := by
  unfold ids
  apply List.filter_congr
  intro p hm
  congr 1
  rw [Bool.eq_iff_iff, List.contains_iff_mem]
  constructor
  · intro h
    obtain ⟨q, hq, e⟩ := List.mem_map.1 h
    obtain ⟨h1, h2⟩ := List.mem_filter.1 (hp.mem_iff.1 hq)
    rw [← key_one hn q h1 p hm e]
    exact h2
  · intro h
    exact List.mem_map_of_mem (f := (·.1)) (hp.mem_iff.2 (List.mem_filter.2 ⟨hm, h⟩))
def hitB (i : Nat) (to : Int) (p : Int × Int) : Bool := p.2 % 64 == (i : Int) && decide (p.2 ≤ to)
theorem hit_filter (A : List (Int × Int)) (i : Nat) (to : Int) : (slotF A i).filter (fun p => decide (p.2 ≤ to)) = A.filter (hitB i to) := by
  unfold slotF hitB
  rw [List.filter_filter]
  congr 1
  funext p
  exact Bool.and_comm _ _
theorem hit_slots (A : List (Int × Int)) (i : Nat) (to : Int) (j : Nat) : updF (slotF A) i ((slotF A i).filter (fun p => decide (to < p.2))) j = slotF (A.filter (fun p => !hitB i to p)) j := by
  unfold updF slotF hitB
  split
  next h =>
    subst h
    rw [List.filter_filter, List.filter_filter]
    apply List.filter_congr
    intro p _
    by_cases h1 : p.2 % 64 = (j : Int)
    · by_cases h2 : p.2 ≤ to
      · simp [h1, h2]
      · simp [h1, h2]; omega
    · have h3 : (p.2 % 64 == (j : Int)) = false := by simpa using h1
      rw [h3, Bool.and_false, Bool.false_and]
  next h =>
    rw [List.filter_filter]
    apply List.filter_congr
    intro p _
    by_cases h1 : p.2 % 64 = (j : Int)
    · have h2 : ¬ p.2 % 64 = (i : Int) := by omega
      simp [h1, h2]
      omega
    · simp [h1]
theorem hit_perm {A O O2 L : List (Int × Int)} {f : Int × Int → Bool} (hL : (A ++ O).Perm L) (hp : O2.Perm (A.filter f)) : (A.filter (fun p => !f p) ++ (O ++ O2)).Perm L := by
  refine List.Perm.trans ?_ hL
  have h1 : (A.filter (fun p => !f p) ++ O2).Perm A := ((List.Perm.append_left _ hp).trans List.perm_append_comm).trans (List.filter_append_perm f A)
  refine List.Perm.trans ?_ (h1.append_right O)
  rw [List.append_assoc]
  exact List.Perm.append_left _ List.perm_append_comm
/-- What Advance has taken, behind k slots. -/
structure AdvI (now to : Int) (L : List (Int × Int)) (k : Nat) (A O : List (Int × Int)) : Prop where
  pm : (A ++ O).Perm L
  due : ∀ p, p ∈ O → p.2 ≤ to
  stay : ∀ p, p ∈ A → ∀ i : Nat, i < k → p.2 % 64 = (now + 1 + i) % 64 → to < p.2
theorem AdvI.start (now to : Int) (L : List (Int × Int)) : AdvI now to L 0 L [] := ⟨by simp, by simp, fun _ _ i hi => absurd hi (Nat.not_lt_zero _)⟩
theorem AdvI.next {now to : Int} {L : List (Int × Int)} {k i : Nat} {A O O2 : List (Int × Int)} (h : AdvI now to L k A O) (hi : i = ((now + 1 + k) % 64).toNat) (hp : O2.Perm (A.filter (hitB i to))) : AdvI now to L (k + 1) (A.filter (fun p => !hitB i to p)) (O ++ O2) := by
  refine ⟨hit_perm h.pm hp, ?_, ?_⟩
  · intro p hm
    rcases List.mem_append.1 hm with hm | hm
    · exact h.due p hm
    · have := (List.mem_filter.1 (hp.mem_iff.1 hm)).2
      unfold hitB at this
      simp at this
      exact this.2
  · intro p hm j hj he
    obtain ⟨h1, h2⟩ := List.mem_filter.1 hm
    by_cases e : j < k
    · exact h.stay p h1 j e he
    · have : j = k := by omega
      subst this
      unfold hitB at h2
      by_cases h3 : p.2 ≤ to
      · have h4 : p.2 % 64 = (i : Int) := by omega
        simp [h3, h4] at h2
      · omega
theorem AdvI.fin {now n : Int} {L : List (Int × Int)} {k : Nat} {A O : List (Int × Int)} (h : AdvI now (now + n) L k A O) (hk : (k : Int) = min n 64) (hL : ∀ p, p ∈ L → now < p.2) :
    O.Perm (L.filter (fun p => decide (p.2 ≤ now + n))) ∧ A.Perm (L.filter (fun p => decide (now + n < p.2))) := by
  refine part_le h.pm h.due ?_
  intro p hp
  by_cases h1 : now + n < p.2
  · exact h1
  · have h2 := hL p (h.pm.mem_iff.1 (List.mem_append.2 (.inl hp)))
    exact h.stay p hp ((p.2 - now - 1) % 64).toNat (by omega) (by omega)
end Go.Proofs.Ytfdfmmmfklodgaa
