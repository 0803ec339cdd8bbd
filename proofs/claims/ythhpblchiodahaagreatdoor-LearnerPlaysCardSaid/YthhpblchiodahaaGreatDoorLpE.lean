
/- What was heard, in order: one ballot's is put anew (plainly). -/
import Derived.Test.YthhpblchiodahaaGreatDoorLoB
import Derived.Test.YthhpblchiodahaaGreatDoorLnC
namespace Go.Proofs.YthhpblchiodahaaGreatDoor
set_option linter.unusedSimpArgs false
set_option linter.unusedVariables false
open Go.RowKit
def ltP (r p : Int) (x : (Int × Int) × Hd) : Bool := lessB x.1.1 x.1.2 r p
def gtP (r p : Int) (x : (Int × Int) × Hd) : Bool := lessB r p x.1.1 x.1.2
def neP (r p : Int) (x : (Int × Int) × Hd) : Bool := decide (x.1 ≠ (r, p))
def LtS (a b : (Int × Int) × Hd) : Prop := lessB a.1.1 a.1.2 b.1.1 b.1.2 = true
theorem lt3 (r p : Int) (x : (Int × Int) × Hd) : (ltP r p x = true ∧ gtP r p x = false ∧ neP r p x = true) ∨ (x.1 = (r, p) ∧ ltP r p x = false ∧ gtP r p x = false ∧ neP r p x = false) ∨ (ltP r p x = false ∧ gtP r p x = true ∧ neP r p x = true) := by
  obtain ⟨⟨a, b⟩, h⟩ := x
  unfold ltP gtP neP lessB
  by_cases h1 : a = r
  · by_cases h2 : b = p
    · subst h1 h2
      simp
    · subst h1
      simp [h2]
      omega
  · simp [h1]
    omega
theorem lt_lt {r p : Int} {x y : (Int × Int) × Hd} (h : LtS y x) (k : ltP r p x = true) : ltP r p y = true := by
  unfold LtS ltP lessB at *
  simp at *
  omega
theorem gt_gt {r p : Int} {x y : (Int × Int) × Hd} (h : LtS x y) (k : gtP r p x = true ∨ x.1 = (r, p)) : gtP r p y = true ∧ ltP r p y = false := by
  obtain ⟨⟨a, b⟩, hx⟩ := x
  unfold LtS ltP gtP lessB at *
  simp at *
  omega
theorem ne_of_lt {r p : Int} {x : (Int × Int) × Hd} (k : ltP r p x = true) : neP r p x = true := by
  rcases lt3 r p x with ⟨_, _, h⟩ | ⟨_, h, _⟩ | ⟨h, _⟩
  · exact h
  · rw [k] at h; cases h
  · rw [k] at h; cases h
theorem split_sorted (r p : Int) : ∀ (xs : HMap), xs.Pairwise LtS → xs.filter (neP r p) = xs.filter (ltP r p) ++ xs.filter (gtP r p)
  | [], _ => rfl
  | x :: t, h => by
    obtain ⟨h1, h2⟩ := List.pairwise_cons.1 h
    have ih := split_sorted r p t h2
    rcases lt3 r p x with ⟨e1, e2, e3⟩ | ⟨e0, e1, e2, e3⟩ | ⟨e1, e2, e3⟩
    · simp [List.filter_cons, e1, e2, e3, ih]
    · simp [List.filter_cons, e1, e2, e3, ih]
    · have hn : t.filter (ltP r p) = [] := List.filter_eq_nil_iff.2 (fun y hy => by rw [(gt_gt (h1 y hy) (.inl e2)).2]; simp)
      simp [List.filter_cons, e1, e2, e3, ih, hn]
theorem srtB_strict {L : HMap} (hn : (L.map (·.1)).Nodup) : (srtB L).Pairwise LtS := by
  have hnd : ((srtB L).map (·.1)).Nodup := ((srtB_perm L).map _).nodup_iff.2 hn
  have h1 : (srtB L).Pairwise (fun a b => leP a b = true) := List.pairwise_mergeSort leP_trans leP_total L
  have h2 : (srtB L).Pairwise (fun a b => a.1 ≠ b.1) := List.pairwise_map.1 hnd
  refine (h1.and h2).imp (fun {a b} ⟨h3, h4⟩ => ?_)
  obtain ⟨⟨a1, a2⟩, ah⟩ := a
  obtain ⟨⟨b1, b2⟩, bh⟩ := b
  unfold leP LtS lessB at *
  simp at *
  omega
/-- What the document gathers, so far. -/
structure HearI (r p : Int) (xs : HMap) (k : Nat) (out : HMap) (at' : Nat) : Prop where
  o : out = (xs.take k).filter (neP r p)
  a : at' = ((xs.take k).filter (ltP r p)).length
theorem HearI.start (r p : Int) (xs : HMap) : HearI r p xs 0 [] 0 := ⟨by simp, by simp⟩
theorem HearI.same {r p : Int} {xs out : HMap} {k a : Nat} {x : (Int × Int) × Hd} (h : HearI r p xs k out a) (hx : xs[k]? = some x) (he : x.1 = (r, p)) : HearI r p xs (k + 1) out a := by
  rcases lt3 r p x with ⟨_, _, e⟩ | ⟨_, e1, e2, e3⟩ | ⟨_, _, e⟩
  · unfold neP at e; simp [he] at e
  · refine ⟨?_, ?_⟩
    · rw [List.take_add_one, hx, List.filter_append, ← h.o]; simp [e3]
    · rw [List.take_add_one, hx, List.filter_append, h.a]; simp [e1]
  · unfold neP at e; simp [he] at e
theorem HearI.more {r p : Int} {xs out : HMap} {k a : Nat} {x : (Int × Int) × Hd} (h : HearI r p xs k out a) (hx : xs[k]? = some x) (he : gtP r p x = true) : HearI r p xs (k + 1) (out ++ [x]) a := by
  rcases lt3 r p x with ⟨_, e, _⟩ | ⟨_, _, e, _⟩ | ⟨e1, e2, e3⟩
  · rw [he] at e; cases e
  · rw [he] at e; cases e
  · refine ⟨?_, ?_⟩
    · rw [List.take_add_one, hx, List.filter_append, ← h.o]; simp [e3]
    · rw [List.take_add_one, hx, List.filter_append, h.a]; simp [e1]
theorem HearI.less {r p : Int} {xs out : HMap} {k a : Nat} {x : (Int × Int) × Hd} (hs : xs.Pairwise LtS) (h : HearI r p xs k out a) (hx : xs[k]? = some x) (he : ltP r p x = true) : HearI r p xs (k + 1) (out ++ [x]) (out.length + 1) := by
  have hk := (List.getElem?_eq_some_iff.1 hx).1
  have hall : ∀ y ∈ xs.take k, ltP r p y = true := fun y hy => by
    obtain ⟨i, hi, rfl⟩ := List.getElem_of_mem hy
    simp at hi
    have := (List.pairwise_iff_getElem.1 hs) i k (by omega) hk (by omega)
    rw [(List.getElem?_eq_some_iff.1 hx).2] at this
    rw [List.getElem_take]
    exact lt_lt this he
  have f1 : (xs.take k).filter (neP r p) = xs.take k := List.filter_eq_self.2 (fun y hy => ne_of_lt (hall y hy))
  have f2 : (xs.take k).filter (ltP r p) = xs.take k := List.filter_eq_self.2 hall
  refine ⟨?_, ?_⟩
  · rw [List.take_add_one, hx, List.filter_append, ← h.o]; simp [ne_of_lt he]
  · rw [List.take_add_one, hx, List.filter_append, f2, h.o, f1]; simp [he]
theorem HearI.le {r p : Int} {xs out : HMap} {k a : Nat} (h : HearI r p xs k out a) : a ≤ out.length ∧ out.length ≤ k := by
  rw [h.a, h.o]
  refine ⟨?_, ?_⟩
  · have : (xs.take k).filter (ltP r p) = ((xs.take k).filter (neP r p)).filter (ltP r p) := by
      rw [List.filter_filter]
      congr 1
      funext y
      cases hl : ltP r p y
      · simp
      · simp [ne_of_lt hl]
    rw [this]
    exact List.length_filter_le _ _
  · have := List.length_filter_le (neP r p) (xs.take k)
    rw [List.length_take] at this
    omega
theorem putG_one {L : HMap} (hn : (L.map (·.1)).Nodup) (b : Int × Int) (h : Hd) : ∀ x y, x ∈ putG L b h → y ∈ putG L b h → x.1 = y.1 → x = y := by
  have hnd := putG_nodup b h hn
  rintro ⟨k1, v1⟩ ⟨k2, v2⟩ hx hy he
  simp only at he
  subst he
  have h1 := getG_mem hnd hx
  have h2 := getG_mem hnd hy
  rw [h1] at h2
  cases h2
  rfl
theorem HearI.fin {r p : Int} {L out : HMap} {a : Nat} (hn : (L.map (·.1)).Nodup) (h : HearI r p (srtB L) (srtB L).length out a) (hd : Hd) : out.take a ++ [((r, p), hd)] ++ out.drop a = srtB (putG L (r, p) hd) := by
  have hs := srtB_strict hn
  obtain ⟨ho, ha⟩ := h
  rw [List.take_of_length_le (Nat.le_refl _)] at ho ha
  have hsp := split_sorted r p _ hs
  rw [ho, hsp, ha, List.take_left, List.drop_left]
  have hlo : ((srtB L).filter (ltP r p)).Pairwise LtS := hs.filter _
  have hhi : ((srtB L).filter (gtP r p)).Pairwise LtS := hs.filter _
  have hle : ∀ {x y : (Int × Int) × Hd}, LtS x y → leP x y = true := fun {x y} h => by
    unfold LtS leP lessB at *
    simp at *
    omega
  have hperm : ((srtB L).filter (ltP r p) ++ [((r, p), hd)] ++ (srtB L).filter (gtP r p)).Perm (putG L (r, p) hd) := by
    rw [List.append_assoc, List.singleton_append]
    refine List.perm_middle.trans ?_
    rw [← hsp]
    exact List.Perm.cons _ ((srtB_perm L).filter _)
  refine List.Perm.eq_of_pairwise (le := fun x y => leP x y = true) (fun x y hx hy h1 h2 => ?_) ?_ ?_ (hperm.trans (srtB_perm _).symm)
  · refine putG_one hn _ hd x y (hperm.mem_iff.1 hx) ((srtB_perm _).mem_iff.1 hy) ?_
    unfold leP lessB at h1 h2
    simp at h1 h2
    ext <;> omega
  · rw [List.append_assoc, List.pairwise_append]
    refine ⟨hlo.imp hle, ?_, fun x hx y hy => ?_⟩
    · rw [List.singleton_append, List.pairwise_cons]
      refine ⟨fun y hy => ?_, hhi.imp hle⟩
      have := (List.mem_filter.1 hy).2
      exact hle this
    · have h1 := (List.mem_filter.1 hx).2
      rw [List.singleton_append] at hy
      rcases List.mem_cons.1 hy with rfl | hy
      · exact hle h1
      · have h2 := (List.mem_filter.1 hy).2
        refine hle ?_
        unfold ltP at h1
        unfold gtP at h2
        unfold LtS lessB at *
        simp at *
        omega
  · exact List.pairwise_mergeSort leP_trans leP_total _
/-- What is known of the ballot itself. -/
theorem found_get {L : HMap} (hn : (L.map (·.1)).Nodup) {r p : Int} {x : (Int × Int) × Hd} (hx : x ∈ srtB L) (he : x.1 = (r, p)) : hasH L r p = true ∧ atH L r p = x.2 := by
  have h1 : (x.1, x.2) ∈ L := (srtB_perm L).mem_iff.1 hx
  rw [he] at h1
  have := getG_mem hn h1
  unfold hasH atH
  rw [this]
  exact ⟨rfl, rfl⟩
theorem found_none {L : HMap} {r p : Int} (h : ∀ x ∈ srtB L, x.1 ≠ (r, p)) : hasH L r p = false ∧ atH L r p = zeroH := by
  have : getG L (r, p) = none := getG_none.2 (fun y hy => h _ ((srtB_perm L).mem_iff.2 hy) rfl)
  unfold hasH atH
  rw [this]
  exact ⟨rfl, rfl⟩
end Go.Proofs.YthhpblchiodahaaGreatDoor
