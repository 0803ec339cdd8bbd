
/- Package wheel: what is set stays good. Plain. -/
import Derived.Test.YtfdfmmmfklodgaaWiA
namespace Go.Proofs.Ytfdfmmmfklodgaa
set_option linter.unusedSimpArgs false
set_option linter.unusedVariables false
theorem good0 : GoodW 0 [] := ⟨by omega, by omega, by simp, by simp, fun _ h => by simp at h, List.Pairwise.nil⟩
theorem insD_ord (d : Int × Int) (L : List (Int × Int)) (hL : L.Pairwise (fun a b => aheadB a b = true)) (hd : ∀ p, p ∈ L → p.1 ≠ d.1) : (insD d L).Pairwise (fun a b => aheadB a b = true) := by
  induction L with
  | nil => exact List.pairwise_singleton _ _
  | cons x r ih =>
    rw [List.pairwise_cons] at hL
    unfold insD
    split
    next h =>
      refine List.pairwise_cons.2 ⟨?_, List.pairwise_cons.2 hL⟩
      intro b hb
      rcases List.mem_cons.1 hb with rfl | hb
      · exact h
      · have h1 := hL.1 b hb
        unfold aheadB at *
        simp at *
        omega
    next h =>
      refine List.pairwise_cons.2 ⟨?_, ih hL.2 (fun p hp => hd p (by simp [hp]))⟩
      intro b hb
      rcases List.mem_cons.1 ((insD_perm d r).mem_iff.1 hb) with rfl | hb
      · have h1 := hd x (by simp)
        unfold aheadB at *
        simp at *
        omega
      · exact hL.1 b hb
theorem GoodW.del {now : Int} {L : List (Int × Int)} (h : GoodW now L) (id : Int) : GoodW now (delF L id) :=
  ⟨h.n0, h.n1, Nat.le_trans (List.length_filter_le _ _) h.len, del_nodup id h.nodup, fun p hp => h.each p (mem_del hp).1, h.ord.filter _⟩
theorem del_less {L : List (Int × Int)} {id x : Int} (h : getF L id = some x) : (delF L id).length < L.length := by
  have hm := get_mem h
  unfold delF
  rcases Nat.lt_or_ge (L.filter (fun p => !(p.1 == id))).length L.length with h1 | h1
  · exact h1
  · have h2 : L.filter (fun p => !(p.1 == id)) = L := (List.filter_sublist (l := L)).eq_of_length (Nat.le_antisymm (List.length_filter_le _ _) h1)
    rw [← h2] at hm
    have := (List.mem_filter.1 hm).2
    simp at this
theorem GoodW.set {now : Int} {L : List (Int × Int)} (h : GoodW now L) (id after : Int) : GoodW now (setL now L id after) := by
  unfold setL
  split
  next hE =>
    unfold setE at hE
    split at hE
    · cases hE
    next h1 =>
      split at hE
      · cases hE
      next h2 =>
        have h3 : inI id 0 = true := by cases e : inI id 0; exact absurd (.inl e) h1; rfl
        have h4 : inI after 1 = true := by cases e : inI after 1; exact absurd (.inr e) h1; rfl
        obtain ⟨h5, h6⟩ := inI_yes h3
        obtain ⟨h7, h8⟩ := inI_yes h4
        have h9 : now ≤ 4611686018427387904 - after := by
          by_cases e : 4611686018427387904 - after < now
          · exact absurd (.inr e) h2
          · omega
        have hd := h.del id
        have hp := insD_perm (id, now + after) (delF L id)
        refine ⟨h.n0, h.n1, ?_, ?_, ?_, insD_ord _ _ hd.ord (fun p hp => (mem_del hp).2)⟩
        · rw [hp.length_eq, List.length_cons]
          cases hg : getF L id with
          | none =>
            have : L.length < 4096 := by
              by_cases e : 4096 ≤ L.length
              · exact absurd (.inl ⟨by rw [hg]; rfl, e⟩) h2
              · omega
            have := List.length_filter_le (fun p : Int × Int => !(p.1 == id)) L
            unfold delF
            omega
          | some x => have := del_less hg; have := h.len; omega
        · refine ((hp.map (·.1)).nodup_iff).2 ?_
          rw [List.map_cons, List.nodup_cons]
          refine ⟨fun hm => ?_, hd.nodup⟩
          obtain ⟨q, hq, e⟩ := List.mem_map.1 hm
          exact (mem_del hq).2 e
        · intro p hm
          rcases List.mem_cons.1 (hp.mem_iff.1 hm) with rfl | hm
          · simp only
            have := h.n0
            omega
          · exact hd.each p hm
  next => exact h
theorem GoodW.can {now : Int} {L : List (Int × Int)} (h : GoodW now L) (id : Int) : GoodW now (canL L id) := by
  unfold canL
  split
  · exact h.del id
  · exact h
theorem GoodW.adv {now : Int} {L : List (Int × Int)} (h : GoodW now L) (n : Int) : GoodW (advN now n) (advL now L n) := by
  unfold advN advL
  split
  next hE =>
    unfold advE at hE
    split at hE
    · cases hE
    next h1 =>
      split at hE
      · cases hE
      next h2 =>
        have h3 : inI n 0 = true := by cases e : inI n 0; exact absurd e h1; rfl
        obtain ⟨h5, h6⟩ := inI_yes h3
        have := h.n0
        refine ⟨by omega, by omega, Nat.le_trans (List.length_filter_le _ _) h.len, (List.filter_sublist.map _).nodup h.nodup, ?_, h.ord.filter _⟩
        intro p hp
        obtain ⟨h7, h8⟩ := List.mem_filter.1 hp
        have h9 := h.each p h7
        simp at h8
        exact ⟨h9.1, h9.2.1, h8, h9.2.2.2⟩
  next => exact h
end Go.Proofs.Ytfdfmmmfklodgaa
