
/- ChatHolds: the plain law: a beginning of entries gives a beginning of lines; what each line is. -/
import Derived.Test.YtndechodaegkiaaDoorChU
namespace Go.Proofs.YtndechodaegkiaaDoor
open Go.RowKit
theorem apT_pre (t : Tk) (slot : Int) (e : En) : t.L <+: (apT t slot e).L := by
  unfold apT
  split
  · split
    · exact List.prefix_append _ _
    · exact List.prefix_rfl
  · exact List.prefix_rfl
theorem newF_pre (l : List En) : ∀ (j : Nat) (t : Tk), t.L <+: (newF t j l).1.L := by
  induction l with
  | nil => intro j t; exact List.prefix_rfl
  | cons e r ih =>
    intro j t
    unfold newF
    split
    · exact (apT_pre t j e).trans (ih _ _)
    · exact List.prefix_rfl
theorem newF_take (l : List En) : ∀ (j : Nat) (t : Tk) (k : Nat), (newF t j l).2 = 0 → (newF t j (l.take k)).2 = 0 ∧ (newF t j (l.take k)).1.L <+: (newF t j l).1.L := by
  induction l with
  | nil => intro j t k h; simpa using h
  | cons e r ih =>
    intro j t k h
    cases k with
    | zero =>
      refine ⟨by simp [newF], ?_⟩
      simpa [newF] using newF_pre (e :: r) j t
    | succ k =>
      rw [List.take_succ_cons]
      unfold newF at h ⊢
      split
      · rename_i h0
        rw [if_pos h0] at h
        exact ih _ _ k h
      · rename_i h0
        rw [if_neg h0] at h
        exact absurd h h0
def okL (l : List En) (L : List Ln) : Prop := ∀ (i : Nat) (x : Ln), L[i]? = some x → x.i = i ∧ (∃ p : Nat, x.sl = p ∧ l[p]? = some x.e) ∧ 0 ≤ x.e.m ∧ x.e.m < 16 ∧ rcB (stOf x.e.m (L.take i)) x.e = true
theorem okL_next {l : List En} {t : Tk} {j : Nat} {e : En} (h : okL l t.L) (hG : Good t) (he : l[j]? = some e) : okL l (apT t j e).L := by
  unfold apT
  split
  · rename_i hrg
    obtain ⟨hr, hg⟩ : rightE e = true ∧ goodB t j = true := by simpa using hrg
    have hsl : t.sl = j := by unfold goodB at hg; simp at hg; omega
    split
    · rename_i hc
      obtain ⟨h0, h1⟩ := right_mem hr
      intro i x hx
      show x.i = i ∧ _
      rcases Nat.lt_or_ge i t.L.length with hlt | hge
      · have hx2 : t.L[i]? = some x := by rwa [List.getElem?_append_left hlt] at hx
        obtain ⟨a, b, c, d, e2⟩ := h i x hx2
        refine ⟨a, b, c, d, ?_⟩
        show rcB (stOf x.e.m ((t.L ++ [newL t e]).take i)) x.e = true
        rw [List.take_append_of_le_length (by omega)]
        exact e2
      · rw [List.getElem?_append_right hge] at hx
        have hi : i = t.L.length := by
          have := (List.getElem?_eq_some_iff.1 hx).1
          simp at this; omega
        subst hi
        obtain rfl : newL t e = x := by simpa using hx
        refine ⟨rfl, ⟨j, ?_, he⟩, h0, h1, ?_⟩
        · show ((t.sl : Nat) : Int) = j; rw [hsl]
        · show rcB (stOf e.m ((t.L ++ [newL t e]).take t.L.length)) e = true
          rw [List.take_left']
          · have hw := hG.would e
            unfold rwB wdB at hw
            rw [hr, hc] at hw
            simpa using hw
          · rfl
    · exact h
  · exact h
theorem newF_ok (l : List En) : ∀ (r : List En) (j : Nat) (t : Tk), (∀ k e, r[k]? = some e → l[j + k]? = some e) → okL l t.L → Good t → okL l (newF t j r).1.L := by
  intro r
  induction r with
  | nil => intro j t _ h _; exact h
  | cons e r ih =>
    intro j t hr h hG
    unfold newF
    split
    · refine ih (j + 1) _ (fun k e' he' => ?_) (okL_next h hG (by simpa using hr 0 e rfl)) (hG.next _ _)
      have := hr (k + 1) e' (by simpa using he')
      rwa [show j + 1 + k = j + (k + 1) by omega]
    · exact h
theorem okL_nil (l : List En) : okL l tk0.L := fun i x hx => by simp [tk0] at hx
theorem new_ok (l : List En) : okL l (newF tk0 0 l).1.L := newF_ok l l 0 tk0 (fun k e he => by simpa using he) (okL_nil l) good0
/-- What the arrays hold after the first i lines. -/
def insL (L : List Ln) (i : Nat) : List Value := (List.range 16).map (fun (m : Nat) => Value.bool (stOf m (L.take i)).inn)
def lastL (L : List Ln) (i : Nat) : List Value := (List.range 16).map (fun (m : Nat) => Value.int .i64 (stOf m (L.take i)).l)
theorem insL_get (L : List Ln) (i m : Nat) (hm : m < 16) : (insL L i)[m]? = some (.bool (stOf m (L.take i)).inn) := by simp [insL, hm]
theorem lastL_get (L : List Ln) (i m : Nat) (hm : m < 16) : (lastL L i)[m]? = some (.int .i64 (stOf m (L.take i)).l) := by simp [lastL, hm]
theorem take_next {L : List Ln} {i : Nat} {x : Ln} (hx : L[i]? = some x) : L.take (i + 1) = L.take i ++ [x] := by rw [List.take_add_one, hx]; rfl
theorem st_next {L : List Ln} {i : Nat} {x : Ln} (hx : L[i]? = some x) (m : Int) : stOf m (L.take (i + 1)) = stStep m (stOf m (L.take i)) i x.e := by
  have hi : i < L.length := (List.getElem?_eq_some_iff.1 hx).1
  rw [take_next hx, stOf_app, List.length_take, Nat.min_eq_left (by omega)]
theorem ext16 {f g : Nat → Value} (h : ∀ m, m < 16 → f m = g m) : (List.range 16).map f = (List.range 16).map g := List.map_congr_left (fun m hm => h m (List.mem_range.1 hm))
theorem set16 (f : Nat → Value) (m : Nat) (u : Value) : ((List.range 16).map f).set m u = (List.range 16).map (fun k => if k = m then u else f k) := by
  apply List.ext_getElem
  · simp
  · intro k h1 h2
    simp only [List.getElem_set, List.getElem_map, List.getElem_range]
    by_cases e : m = k
    · subst e; simp
    · rw [if_neg e, if_neg (fun h => e h.symm)]
/-- A join: in is set, last stays. -/
theorem ins_join {L : List Ln} {i : Nat} {x : Ln} (hx : L[i]? = some x) {m : Nat} (hm : x.e.m = m) (hk : x.e.k = 2) : (insL L i).set m (.bool true) = insL L (i + 1) ∧ lastL L i = lastL L (i + 1) := by
  constructor
  · unfold insL
    rw [set16]
    refine ext16 (fun k _ => ?_)
    rw [st_next hx]
    unfold stStep
    by_cases e : k = m
    · subst e; simp [hm, hk]
    · have : x.e.m ≠ (k : Int) := by rw [hm]; omega
      simp [e, this]
  · refine ext16 (fun k _ => ?_)
    rw [st_next hx]
    unfold stStep
    by_cases e : x.e.m ≠ (k : Int)
    · rw [if_pos e]
    · rw [if_neg e, if_pos hk]
theorem ins_leave {L : List Ln} {i : Nat} {x : Ln} (hx : L[i]? = some x) {m : Nat} (hm : x.e.m = m) (hk : x.e.k = 3) : (insL L i).set m (.bool false) = insL L (i + 1) ∧ lastL L i = lastL L (i + 1) := by
  constructor
  · unfold insL
    rw [set16]
    refine ext16 (fun k _ => ?_)
    rw [st_next hx]
    unfold stStep
    by_cases e : k = m
    · subst e; simp [hm, hk]
    · have : x.e.m ≠ (k : Int) := by rw [hm]; omega
      simp [e, this]
  · refine ext16 (fun k _ => ?_)
    rw [st_next hx]
    unfold stStep
    by_cases e : x.e.m ≠ (k : Int)
    · rw [if_pos e]
    · rw [if_neg e, if_neg (by omega), if_pos hk]
theorem ins_say {L : List Ln} {i : Nat} {x : Ln} (hx : L[i]? = some x) {m : Nat} (hm : x.e.m = m) (hk : x.e.k = 4) : insL L i = insL L (i + 1) ∧ (lastL L i).set m (.int .i64 x.e.n) = lastL L (i + 1) := by
  constructor
  · refine ext16 (fun k _ => ?_)
    rw [st_next hx]
    unfold stStep
    by_cases e : x.e.m ≠ (k : Int)
    · rw [if_pos e]
    · rw [if_neg e, if_neg (by omega), if_neg (by omega), if_pos hk]
  · unfold lastL
    rw [set16]
    refine ext16 (fun k _ => ?_)
    rw [st_next hx]
    unfold stStep
    by_cases e : k = m
    · subst e; simp [hm, hk]
    · have : x.e.m ≠ (k : Int) := by rw [hm]; omega
      simp [e, this]
end Go.Proofs.YtndechodaegkiaaDoor
