
/- A region that draws its order: a quiet head (it may make new memory) is walked once in the text's order; a tail that waits for it follows. -/
import Derived.Test.YtcahkcbenanfnaaDoorBlk
import Derived.BigQuiet
import Derived.StillTail
import Derived.Deep.RegionWith
namespace Go.Proofs.YtcahkcbenanfnaaDoor
set_option linter.unusedSimpArgs false
set_option linter.unusedVariables false
open Go.RowKit
section
variable {P : Program} {ops : Array Oper} {md : Region.Mode} {C : World → Prop}

/-- Each operation behind number n waits for one from n on that stands ahead of it. -/
def hangB (md : Region.Mode) (ops : Array Oper) (n : Nat) : Bool := (List.range ops.size).all fun t => decide (t ≤ n) || (List.range t).any fun u => decide (n ≤ u) && Region.waitsFor md ops t u
/-- The head in the text's order, up to the listing e. -/
def goB (md : Region.Mode) (ops : Array Oper) (e : Array Bool) : Nat → Nat → Array Bool → Bool
  | 0, _, s => s == e
  | f + 1, k, s => (Region.ready md ops s).contains k && (Region.free md ops s k && goB md ops e f (k + 1) (s.setIfInBounds k true))
def headL (n m : Nat) : Array Bool := (List.replicate n true ++ List.replicate (m - n) false).toArray
def headB (md : Region.Mode) (ops : Array Oper) (n : Nat) : Bool :=
  Region.noSelect ops && (Region.sinkB md ops n && (hangB md ops n && (goB md ops (headL n ops.size) n 0 (Array.replicate ops.size false) && ((Region.ready md ops (headL n ops.size)).all fun j => decide (n ≤ j)))))

/-- As long as one of the head is out, none of the tail comes up. -/
theorem first_waits {n : Nat} {s : Array Bool} (hs : Region.sinkB md ops n = true) (inv : HeadInv md ops n s) : ∀ (d i : Nat), n - i ≤ d → i < n → s.getD i true = false → n ∉ Region.ready md ops s
  | 0, i, hd, hi, _, _ => by omega
  | d + 1, i, hd, hi, hu, hr => by
    obtain ⟨j, hj, hw⟩ := List.any_eq_true.1 (List.all_eq_true.1 hs i (List.mem_range.2 hi))
    have hjn := List.mem_range.1 hj
    simp only [Bool.and_eq_true, decide_eq_true_eq] at hw
    obtain ⟨oj, hoj, e, he, hb, hon⟩ := Region.waitsFor_spec hw.2
    obtain ⟨_, o, ho, hall⟩ := mem_ready.1 hr
    have hout : s.getD e.on false = false := by rw [hon]; exact getD_both hu
    by_cases hjn' : j = n
    · subst hjn'
      obtain rfl : oj = o := Option.some.inj (hoj.symm.trans ho)
      rw [hall e he hb] at hout
      cases hout
    · cases hl : s.getD j false
      · have hlt : j < s.size := by rw [inv.size]; exact (Array.getElem?_eq_some_iff.1 hoj).1
        exact first_waits hs inv d j (by omega) (by omega) (getD_in hlt hl) hr
      · rw [inv.closed j oj hoj hl e he hb] at hout
        cases hout
theorem behind {n i t : Nat} {s : Array Bool} (hs : Region.sinkB md ops n = true) (hc : hangB md ops n = true) (inv : HeadInv md ops n s) (hi : i < n) (hu : s.getD i true = false) (ht : n ≤ t) : t ∉ Region.ready md ops s := by
  intro hr
  by_cases htn : t = n
  · subst htn
    exact first_waits hs inv _ i (Nat.le_refl _) hi hu hr
  · obtain ⟨_, o, ho, hall⟩ := mem_ready.1 hr
    have hlt := (Array.getElem?_eq_some_iff.1 ho).1
    have h := List.all_eq_true.1 hc t (List.mem_range.2 hlt)
    simp only [Bool.or_eq_true, decide_eq_true_eq] at h
    obtain ⟨u, hu1, hu2⟩ := List.any_eq_true.1 (h.resolve_left (by omega))
    simp only [Bool.and_eq_true, decide_eq_true_eq] at hu2
    have hut := List.mem_range.1 hu1
    obtain ⟨oj, hoj, e, he, hb, hon⟩ := Region.waitsFor_spec hu2.2
    obtain rfl : oj = o := Option.some.inj (hoj.symm.trans ho)
    have h1 := hall e he hb
    rw [hon, getD_both (inv.tail u hu2.1 (by omega))] at h1
    cases h1

/-- Whatever of the first n comes up is quiet, and nothing behind them comes up ahead of their end: then L. -/
def hd (P : Program) (md : Region.Mode) (ops : Array Oper) (C : World → Prop) (n : Nat) (L : Array Bool → Act → Prop) : Nat → Array Bool → Act → Prop
  | 0, s, a => L s a
  | f + 1, s, a => Region.ready md ops s ≠ [] ∧ ∀ i ∈ Region.ready md ops s, i < n ∧ qOp P ops C i (hd P md ops C n L f (s.setIfInBounds i true)) a
theorem hd_any {n g : Nat} {L : Array Bool → Act → Prop} {Q : Exit → Act → World → Prop} (hL : ∀ s a w, C w → L s a → wpAny P md ops Q g s a w) :
    ∀ (f : Nat) (s : Array Bool) (a : Act) (w : World), C w → hd P md ops C n L f s a → wpAny P md ops Q (f + g) s a w
  | 0, s, a, w, hw, h => by rw [Nat.zero_add]; exact hL s a w hw h
  | f + 1, s, a, w, hw, h => by
    have := fun i hi => wpOp_of_qOp (Q' := Q) hw (fun a' w' hw' h' => hd_any hL f (s.setIfInBounds i true) a' w' hw' h') (h.2 i hi).2
    rw [Nat.add_right_comm]
    exact ⟨fun e => absurd e h.1, this⟩
theorem hd_first {n i : Nat} {oi : Oper} {v : Value} {L : Array Bool → Act → Prop} (hi : ops[i]? = some oi) (hsel : Region.noSelect ops = true) (hs : Region.sinkB md ops n = true) (hc : hangB md ops n = true)
    (hin : i < n) (hL : ∀ s a, L s a → ∀ j ∈ Region.ready md ops s, n ≤ j) : ∀ (f : Nat) (s : Array Bool) (a : Act), HeadInv md ops n s →
      (∀ j oj, ops[j]? = some oj → j ≠ i → s.getD j true = false → (∀ e ∈ oj.after, Region.binds md e = true → e.on ≠ i) → oi.apart ops oj = true) →
      i ∈ Region.ready md ops s → YieldsIn P ops C oi v a → hd P md ops C n L f (s.setIfInBounds i true) (a.put oi.dst v) → hd P md ops C n L (f + 1) s a := by
  intro f
  induction f with
  | zero =>
    intro s a inv _ hr hy H
    refine ⟨List.ne_nil_of_mem hr, fun j hj => ?_⟩
    have hjn : j < n := Nat.lt_of_not_le fun h => behind hs hc inv hin (mem_ready.1 hr).1 h hj
    refine ⟨hjn, ?_⟩
    by_cases e : j = i
    · subst e; exact hy.qOp hi H
    · exact absurd (hL _ _ H j (ready_mono hj e)) (by omega)
  | succ f ih =>
    intro s a inv hap hr hy H
    refine ⟨List.ne_nil_of_mem hr, fun j hj => ?_⟩
    have hjn : j < n := Nat.lt_of_not_le fun h => behind hs hc inv hin (mem_ready.1 hr).1 h hj
    refine ⟨hjn, ?_⟩
    by_cases e : j = i
    · subst e; exact hy.qOp hi H
    · obtain ⟨hju, oj, hoj, hall⟩ := mem_ready.1 hj
      have hnot : ∀ x ∈ oj.after, Region.binds md x = true → x.on ≠ i := fun x hx hb h => by
        have h1 := hall x hx hb
        rw [h, getD_both (mem_ready.1 hr).1] at h1
        cases h1
      refine qOp_mono (fun a' h => ?_) (qOp_put hoj (hap j oj hoj e hju hnot) (fun cs b => Region.noSelect_spec hsel i oi cs b hi) (fun cs b => Region.noSelect_spec hsel j oj cs b hoj) hy (H.2 j (ready_mono hj e)).2)
      refine ih (s.setIfInBounds j true) a' (inv.set hj hjn) (fun k ok hk hki hku hno => hap k ok hk hki ?_ hno) (ready_mono hr (Ne.symm e)) h.1 ?_
      · by_cases hjk : j = k
        · subst hjk; exact hju
        · rw [getD_set_ne true hjk] at hku; exact hku
      · rw [Array.setIfInBounds_comm _ _ e]
        exact h.2
theorem hd_go {n : Nat} {e : Array Bool} {K : Act → Prop} (hsel : Region.noSelect ops = true) (hs : Region.sinkB md ops n = true) (hc : hangB md ops n = true) (he : ∀ j ∈ Region.ready md ops e, n ≤ j) :
    ∀ (l : List Oper) (k : Nat) (s : Array Bool) (a : Act), (∀ j, j < l.length → l[j]? = ops[k + j]?) → k + l.length = n → HeadInv md ops n s → goB md ops e l.length k s = true →
      wpQuiet P ops C K l a → hd P md ops C n (fun s' a' => s' = e ∧ K a') l.length s a
  | [], k, s, a, _, _, _, hB, h => ⟨by simpa [goB] using hB, h⟩
  | o :: l, k, s, a, hl, hk, inv, hB, h => by
    have h0 : ops[k]? = some o := by simpa using (hl 0 (by simp)).symm
    simp only [List.length_cons, goB, Bool.and_eq_true] at hB
    simp only [List.length_cons] at hk
    have hr : k ∈ Region.ready md ops s := by simpa using hB.1
    obtain ⟨v, hy, hK⟩ := yieldsIn_of_qOp (K := wpQuiet P ops C K l) h0 (by unfold qOp; simp only [h0]; exact h)
    refine hd_first (L := fun s' a' => s' = e ∧ K a') h0 hsel hs hc (by omega) (fun s' a' hL => hL.1 ▸ he) l.length s a inv (Region.free_spec h0 hB.2.1) hr hy ?_
    exact hd_go hsel hs hc he l (k + 1) _ _ (fun j hj => by have := hl (j + 1) (by simp; omega); simpa [Nat.add_assoc, Nat.add_comm 1 j] using this) (by omega) (inv.set hr (by omega)) hB.2.2 hK

/-- One of the tail that yields its value in whatever world is taken first. -/
theorem take_dst {Q : Exit → Act → World → Prop} {i d : Nat} {oi : Oper} {v : Value} {fuel : Nat} {listed : Array Bool} {a : Act} {w : World} (hi : ops[i]? = some oi) (hd : oi.dst = some d)
    (hs : Region.noSelect ops = true) (hf : Region.free md ops listed i = true) (hr : (Region.ready md ops listed).contains i = true)
    (hQ : ∀ c a w, Q (.panic c) (a.put (some d) v) w → Q (.panic c) a w) (hy : Yields P ops oi v a)
    (h : wpAny P md ops Q fuel (listed.setIfInBounds i true) (a.put (some d) v) w) : wpAny P md ops Q (fuel + 1) listed a w :=
  wpAny_take hi hs hf hr (by rw [hd]; exact hQ) hy (by rw [hd]; exact h)
/-- The region: its first n operations are walked once, in the text's order, quietly in the class C; behind them whatever comes up comes up. -/
theorem wp_region_head {id : Nat} {Q : Exit → Act → World → Prop} {a : Act} {w : World} {l : List Oper} (n : Nat) (hm : P.follows .mixedOrders = true) (hn : n ≤ l.length) (hB : headB .any l.toArray n = true) (hC : C { w with drawn := w.drawn + 1 })
    (h : wpQuiet P l.toArray C (fun a' => ∀ w', C w' → wpAny P .any l.toArray Q (l.length - n) (headL n l.length) a' w') (l.take n) a) : (Code.region id l.toArray true).wp P Q a w := by
  simp only [headB, Bool.and_eq_true] at hB
  obtain ⟨hsel, hs, hc, hgo, hall⟩ := hB
  have ht : (l.take n).length = n := by simp; omega
  have he : ∀ j ∈ Region.ready .any l.toArray (headL n l.toArray.size), n ≤ j := fun j hj => by simpa using List.all_eq_true.1 hall j hj
  have H := hd_go (C := C) (P := P) (K := fun a' => ∀ w', C w' → wpAny P .any l.toArray Q (l.length - n) (headL n l.length) a' w') hsel hs hc he (l.take n) 0 (Array.replicate l.toArray.size false) a
    (fun j hj => by rw [ht] at hj; simp [hj]) (by rw [ht, Nat.zero_add])
    ⟨by simp, fun j oj _ hl => (by rw [getD_replicate_false] at hl; cases hl), fun t _ h' => getD_in (by simpa using h') (getD_replicate_false _ _)⟩ (by rw [ht]; exact hgo) h
  refine wp_region_any hm ?_
  have hz : l.toArray.size = (l.take n).length + (l.length - n) := by rw [ht]; simp; omega
  have := hd_any (Q := Q) (g := l.length - n) (fun s a' w' hw' hL => by
    obtain ⟨rfl, hK⟩ := hL
    simpa using hK w' hw') _ _ _ _ hC H
  rw [← hz] at this
  exact this
end
end Go.Proofs.YtcahkcbenanfnaaDoor
