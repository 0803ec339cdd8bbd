
/- Package chat: the plain laws of New over entries that say nothing; a made row of entries. -/
import Derived.Test.YtndechodaegkiaaDoorChE
import Derived.Laws.Slices
namespace Go.Proofs.YtndechodaegkiaaDoor
open Go.RowKit Go.Shelf
def nE : En := ⟨1, 0, 0, ⟨#[]⟩⟩
theorem nE_right : rightE nE = true := by kernel_rfl
theorem nE_cnt (t : Tk) : cntB t nE = false := rfl
theorem newF_none (n : Nat) : ∀ (j : Nat) (t : Tk), t.sl = j → j + n ≤ 4096 → newF t j (List.replicate n nE) = (⟨j + n, t.L, t.M⟩, 0) := by
  induction n with
  | zero => intro j t h _; obtain ⟨a, b, c⟩ := t; simp only at h; subst h; rfl
  | succ n ih =>
    intro j t h hn
    have hg : goodB t j = true := by unfold goodB; simp [h]; omega
    have hE : apE t j nE = 0 := by unfold apE; rw [nE_right, hg]; rfl
    have hT : apT t j nE = ⟨t.sl + 1, t.L, t.M⟩ := by unfold apT; rw [nE_right, hg, nE_cnt]; rfl
    rw [List.replicate_succ]
    unfold newF
    rw [if_pos hE, hT, ih (j + 1) _ (by simp [h]) (by omega)]
    simp; omega
theorem newF_over (n : Nat) : ∀ (j : Nat) (t : Tk), t.sl = j → j ≤ 4096 → 4096 < j + n → (newF t j (List.replicate n nE)).2 = 320 := by
  induction n with
  | zero => intro j t h _ _; omega
  | succ n ih =>
    intro j t h hj hn
    rw [List.replicate_succ]
    unfold newF
    by_cases hlt : j < 4096
    · have hg : goodB t j = true := by unfold goodB; simp [h]; omega
      have hE : apE t j nE = 0 := by unfold apE; rw [nE_right, hg]; rfl
      have hT : apT t j nE = ⟨t.sl + 1, t.L, t.M⟩ := by unfold apT; rw [nE_right, hg, nE_cnt]; rfl
      rw [if_pos hE, hT, ih (j + 1) _ (by simp [h]) (by omega) (by omega)]
    · have hg : goodB t j = false := by unfold goodB; simp; omega
      have hE : apE t j nE = 320 := by unfold apE; rw [nE_right, hg]; rfl
      rw [hE]; simp
def cellsE (l : List En) : List Value := l.flatMap enL
theorem cellsE_len (l : List En) : (cellsE l).length = l.length * 4 := by
  induction l with
  | nil => rfl
  | cons a t ih => simp [cellsE, enL] at ih ⊢; omega
theorem cellsE_get (l : List En) (k j : Nat) (hj : j < 4) : (cellsE l)[k * 4 + j]? = l[k]?.bind (fun x => (enL x)[j]?) := by
  induction l generalizing k with
  | nil => simp [cellsE]
  | cons a t ih =>
    have e : cellsE (a :: t) = enL a ++ cellsE t := rfl
    have hl : (enL a).length = 4 := rfl
    rw [e]
    cases k with
    | zero => rw [List.getElem?_append_left (by omega)]; simp
    | succ k =>
      rw [List.getElem?_append_right (by omega), hl, show (k + 1) * 4 + j - 4 = k * 4 + j by omega, ih k]
      simp
theorem cellsE_set (l : List En) (k : Nat) (e : En) (hk : k < l.length) : ((((cellsE l).set (k * 4) (.int .i64 e.k)).set (k * 4 + 1) (.int .i64 e.m)).set (k * 4 + 2) (.int .i64 e.n)).set (k * 4 + 3) (.string e.s) = cellsE (l.set k e) := by
  induction l generalizing k with
  | nil => simp at hk
  | cons a t ih =>
    have e1 : cellsE (a :: t) = enL a ++ cellsE t := rfl
    have hl : (enL a).length = 4 := rfl
    cases k with
    | zero => rw [e1]; rfl
    | succ k =>
      rw [e1, show (k + 1) * 4 = (enL a).length + k * 4 by omega, List.set_append_right _ _ (by omega), show (enL a).length + k * 4 - (enL a).length = k * 4 by omega,
        show (enL a).length + k * 4 + 1 = (enL a).length + (k * 4 + 1) by omega, List.set_append_right _ _ (by omega), show (enL a).length + (k * 4 + 1) - (enL a).length = k * 4 + 1 by omega,
        show (enL a).length + k * 4 + 2 = (enL a).length + (k * 4 + 2) by omega, List.set_append_right _ _ (by omega), show (enL a).length + (k * 4 + 2) - (enL a).length = k * 4 + 2 by omega,
        show (enL a).length + k * 4 + 3 = (enL a).length + (k * 4 + 3) by omega, List.set_append_right _ _ (by omega), show (enL a).length + (k * 4 + 3) - (enL a).length = k * 4 + 3 by omega,
        ih k (by simpa using hk)]
      rfl
theorem hasE_blk {W : World} {g : Nat} {t : TypeId} {l : List En} (h : Blk W g t (cellsE l)) : HasE W (some ⟨g, 0, none⟩) l := fun k e he => by
  have key : ∀ j u, j < 4 → (enL e)[j]? = some u → W.cell? ⟨g, k * 4 + j, none⟩ = some u := fun j u hj hu => h.cell (by rw [cellsE_get _ _ _ hj, he]; exact hu)
  refine ⟨g, 0, rfl, ?_⟩
  rw [Nat.zero_add]
  exact ⟨key 0 _ (by omega) rfl, key 1 _ (by omega) rfl, key 2 _ (by omega) rfl, key 3 _ (by omega) rfl⟩
def fillE (N j : Nat) : List En := (List.range N).map (fun i => if i < j then nE else zE)
theorem fillE_set (N j : Nat) : (fillE N j).set j nE = fillE N (j + 1) := by
  apply List.ext_getElem
  · simp [fillE]
  · intro i h1 h2
    simp only [fillE, List.getElem_set, List.getElem_map, List.getElem_range]
    by_cases e : j = i
    · subst e; simp
    · rw [if_neg e]
      by_cases h : i < j
      · rw [if_pos h, if_pos (by omega)]
      · rw [if_neg h, if_neg (by omega)]
theorem fillE_all (N : Nat) : fillE N N = List.replicate N nE := by
  apply List.ext_getElem
  · simp [fillE]
  · intro i h1 h2
    simp only [fillE, List.getElem_map, List.getElem_range, List.getElem_replicate]
    rw [if_pos (by simpa [fillE] using h1)]
theorem info_entry : (Tryd.prog.info? 26).map (fun i => (i.zero, i.size, i.bytes)) = some (some (.agg #[.int .i64 0, .int .i64 0, .int .i64 0, .string ⟨#[]⟩]), 4, 40) := by kernel_rfl
theorem fillE_zero (N : Nat) : madeCells (Value.agg #[.int .i64 0, .int .i64 0, .int .i64 0, .string ⟨#[]⟩]).cells (N * 4) = (cellsE (fillE N 0)).toArray := by
  have hc : (Value.agg #[.int .i64 0, .int .i64 0, .int .i64 0, .string ⟨#[]⟩]).cells = (enL zE).toArray := by simp [Value.cells, enL, zE]
  rw [hc]
  apply Array.ext'
  apply List.ext_getElem?
  intro i
  by_cases hi : i < N * 4
  · have e : (cellsE (fillE N 0))[i]? = (enL zE)[i % 4]? := by
      have := cellsE_get (fillE N 0) (i / 4) (i % 4) (by omega)
      rw [show i / 4 * 4 + i % 4 = i by omega] at this
      rw [this]
      have : (fillE N 0)[i / 4]? = some zE := by
        rw [List.getElem?_eq_getElem (by simp [fillE]; omega)]
        simp [fillE]
      rw [this]; rfl
    show _ = (cellsE (fillE N 0))[i]?
    rw [e]
    have h4 : i % 4 < (enL zE).length := by show i % 4 < 4; omega
    have hsz : (enL zE).toArray.size = 4 := rfl
    simp [madeCells, hi, hsz, List.getElem?_eq_getElem h4]
  · rw [List.getElem?_eq_none (by simp [madeCells]; omega), List.getElem?_eq_none (by rw [List.toList_toArray, cellsE_len]; simp [fillE]; omega)]
theorem run_make_entries (m : Nat) (hm : m ≤ 5000) (w : World) : (Instr.makeSlice 23 (.int .i64 m) (.int .i64 m)).run Tryd.prog w = .ok (.slice (some ⟨w.heap.size, 0, none⟩) m m) (w.alloc (.cells (cellsE (fillE m 0)).toArray 26)) := by
  obtain ⟨i0, hi, hz0, hz1, hz2⟩ := info_parts info_entry
  have h := run_make (P := Tryd.prog) w 23 26 i0 (.agg #[.int .i64 0, .int .i64 0, .int .i64 0, .string ⟨#[]⟩]) Tryd.underlying23 hi hz0 .i64 .i64 (m : Int) (m : Int) (by omega) (by omega) (by rw [hz2]; omega) (by omega)
  rw [h, hz1]
  rw [show ((m : Int)).toNat = m from Int.toNat_natCast m, fillE_zero]
end Go.Proofs.YtndechodaegkiaaDoor
