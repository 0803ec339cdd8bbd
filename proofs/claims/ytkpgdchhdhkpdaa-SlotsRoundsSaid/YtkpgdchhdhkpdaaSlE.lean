
/- SlotsAll: each slot is one place's, at one turn; the slots of all places between two are all there are between. -/
import Derived.Test.YtkpgdchhdhkpdaaSlW
import Derived.Test.YtkpgdchhdhkpdaaSlO
import Derived.Test.YtkpgdchhdhkpdaaBlk
namespace Go.Proofs.Ytkpgdchhdhkpdaa
open Go.RowKit Go.Shelf
attribute [local go_sem] Oper.semAt_some

def bi (b : Bool) : Int := if b then 1 else 0
def seenL (q : Nat → Bool) (m : Nat) : List Value := (List.range m).map (fun i => Value.int .i64 (bi (q i)))
def cntB (q : Nat → Bool) (m : Nat) : Nat := ((List.range m).filter q).length
theorem cnt_add {q q' : Nat → Bool} {j : Nat} (hq : q j = false) (h : ∀ i, q' i = (q i || i == j)) : ∀ m : Nat, cntB q' m = cntB q m + (if j < m then 1 else 0) := by
  intro m
  induction m with
  | zero => rfl
  | succ m ih =>
    unfold cntB at *
    simp only [List.range_succ, List.filter_append, List.length_append]
    rw [ih]
    by_cases e : m = j
    · subst e
      simp [h, hq]
    · have : (m == j) = false := by simpa using e
      simp only [List.filter_cons, List.filter_nil, h, this, Bool.or_false]
      by_cases hm : j < m
      · simp [hm, Nat.lt_succ_of_lt hm]; omega
      · have : ¬ j < m + 1 := by omega
        simp [hm, this]
theorem cnt_le (q : Nat → Bool) (m : Nat) : cntB q m ≤ m := by unfold cntB; exact Nat.le_trans (List.length_filter_le _ _) (by simp)
theorem cnt_all {q : Nat → Bool} {m : Nat} (h : ∀ i, i < m → q i = true) : cntB q m = m := by
  unfold cntB
  rw [List.filter_eq_self.2 (fun a ha => h a (List.mem_range.1 ha))]; simp
theorem seen_get (q : Nat → Bool) {m j : Nat} (h : j < m) : (seenL q m)[j]? = some (.int .i64 (bi (q j))) := by simp [seenL, h]
theorem seen_set {q q' : Nat → Bool} {j : Nat} (h : ∀ i, q' i = (q i || i == j)) (m : Nat) : (seenL q m).set j (.int .i64 1) = seenL q' m := by
  apply List.ext_getElem
  · simp [seenL]
  · intro i h1 h2
    simp only [seenL, List.getElem_set, List.getElem_map, List.getElem_range, h]
    by_cases e : j = i
    · subst e; simp [bi]
    · have : (i == j) = false := by simpa using fun h => e h.symm
      simp [e, this]
theorem seen_congr {q q' : Nat → Bool} {m : Nat} (h : ∀ i, i < m → q i = q' i) : seenL q m = seenL q' m := by
  apply List.map_congr_left; intro i hi; rw [h i (List.mem_range.1 hi)]
theorem cnt_congr {q q' : Nat → Bool} {m : Nat} (h : ∀ i, i < m → q i = q' i) : cntB q m = cntB q' m := by
  unfold cntB; rw [List.filter_congr (fun i hi => h i (List.mem_range.1 hi))]

def qAll (c f : Int) (p i : Nat) : Bool := decide ((f + i) % c < p)
def qIn (c f : Int) (p k i : Nat) : Bool := decide ((f + i) % c < p) || (((f + i) % c == p) && decide (f + i < nextI c p f + k * c))
theorem q_start {c f : Int} {p : Nat} (hr : rightB c = true) (hp : (p : Int) < c) (i : Nat) : qIn c f p 0 i = qAll c f p i := by
  rw [Bool.eq_iff_iff]
  unfold qIn qAll nextI
  simp only [Bool.or_eq_true, Bool.and_eq_true, decide_eq_true_eq, beq_iff_eq]
  rcases right_cases hr with rfl | rfl | rfl | rfl <;> omega
theorem q_step {c f : Int} {p k j : Nat} (hr : rightB c = true) (hp : (p : Int) < c) (hj : nextI c p f + k * c = f + j) : qIn c f p k j = false ∧ ∀ i, qIn c f p (k + 1) i = (qIn c f p k i || i == j) := by
  constructor
  · rw [Bool.eq_false_iff]
    unfold qIn nextI at *
    simp only [ne_eq, Bool.or_eq_true, Bool.and_eq_true, decide_eq_true_eq, beq_iff_eq]
    rcases right_cases hr with rfl | rfl | rfl | rfl <;> omega
  · intro i
    rw [Bool.eq_iff_iff]
    unfold qIn nextI at *
    simp only [Bool.or_eq_true, Bool.and_eq_true, decide_eq_true_eq, beq_iff_eq]
    rcases right_cases hr with rfl | rfl | rfl | rfl <;> omega
theorem q_done {c f t : Int} {p : Nat} (hb : betweenB c p f t = true) {i m : Nat} (hm : t = f + m) (hi : i < m) : qIn c f p (manyI c p f t).toNat i = qAll c f (p + 1) i := by
  obtain ⟨⟨h1, h2, h3, h4⟩, h5, h6, h7⟩ := between_bd hb
  have hr : rightB c = true := by unfold betweenB placeB at hb; simp at hb; exact hb.1.1
  have h := own_lt hb (manyI c p f t).toNat
  rw [Bool.eq_iff_iff]
  unfold qIn qAll
  simp only [Bool.or_eq_true, Bool.and_eq_true, decide_eq_true_eq, beq_iff_eq]
  omega
theorem q_all {c f : Int} {n : Nat} (h1 : 3 ≤ c) (hn : (n : Int) = c) (i : Nat) : qAll c f n i = true := by
  unfold qAll; have := (mod_bd (s := f + i) h1).2; simp; omega
theorem q_none {c f : Int} (h1 : 3 ≤ c) (i : Nat) : qAll c f 0 i = false := by
  unfold qAll; have := (mod_bd (s := f + i) h1).1; simp; omega

def zerosL (m : Nat) : List Value := List.replicate m (.int .i64 0)
theorem zeros_seen {q : Nat → Bool} {m : Nat} (h : ∀ i, i < m → q i = false) : zerosL m = seenL q m := by
  apply List.ext_getElem
  · simp [zerosL, seenL]
  · intro i h1 h2
    have : i < m := by simpa [seenL] using h2
    simp [zerosL, seenL, h i this, bi]
theorem cnt_none {q : Nat → Bool} {m : Nat} (h : ∀ i, i < m → q i = false) : cntB q m = 0 := by
  unfold cntB; rw [List.filter_eq_nil_iff.2 (fun a ha => by simp [h a (List.mem_range.1 ha)])]; rfl
theorem run_make_ints (m : Nat) (hm : m ≤ 4096) (w : World) : (Instr.makeSlice 38 (.int .i64 m) (.int .i64 m)).run Try.prog w = .ok (.slice (some ⟨w.heap.size, 0, none⟩) m m) (w.alloc (.cells (zerosL m).toArray 3)) := by
  obtain ⟨i0, hi, hz0, hz1, hz2⟩ := info_parts info_int
  have h := run_make (P := Try.prog) w 38 3 i0 (.int .i64 0) Try.underlying38 hi hz0 .i64 .i64 (m : Int) (m : Int) (by omega) (by omega) (by rw [hz2]; omega) (by omega)
  rw [h, hz1]
  have e : madeCells (Value.int .i64 0).cells (((m : Int)).toNat * 1) = (zerosL m).toArray := by
    apply Array.ext
    · simp [madeCells, zerosL]
    · intro i h1 h2
      simp [madeCells, zerosL, Value.cells, Nat.mod_one]
  rw [e]; simp
theorem others_below {V w1 : World} (h : Below V.heap.size V w1) : KeepsOthers V w1 := ⟨h.size, fun k _ hk _ => (h.block k (Array.getElem?_eq_some_iff.1 hk).1).trans hk⟩
end Go.Proofs.Ytkpgdchhdhkpdaa
