
/- Package wheel: ordered, whole. -/
import Derived.Test.YtfdfmmmfklodgaaWhH
namespace Go.Proofs.Ytfdfmmmfklodgaa
set_option linter.unusedSimpArgs false
set_option linter.unusedVariables false
open Go.RowKit Go.Sort Go.Shelf Go.Lib
theorem totD (x y : Int × Int) (h1 : ltOf cfD x y = false) (h2 : ltOf cfD y x = false) : x = y := by
  rw [ltD] at h1 h2
  unfold aheadB at h1 h2
  simp at h1 h2
  ext <;> omega
def sortD (l : List (Int × Int)) : List (Int × Int) := l.mergeSort fun x y => !aheadB y x
theorem flat_cells (l : List (Int × Int)) (j : Nat) (hj : j < l.length * 2) : (cellsD l)[j]? = some ((encD l.toArray[j / 2]!)[j % 2]!) := by
  induction l generalizing j with
  | nil => simp at hj
  | cons a r ih =>
    unfold cellsD
    rw [List.flatMap_cons]
    match j with
    | 0 => simp [encD]
    | 1 => simp [encD]
    | j + 2 =>
      rw [List.length_cons] at hj
      have := ih j (by omega)
      unfold cellsD at this
      rw [List.getElem?_append_right (by simp), show (j + 2) - [Value.int IntKind.i64 a.2, Value.int IntKind.i64 a.1].length = j by simp, this]
      rw [show (j + 2) / 2 = j / 2 + 1 by omega, show (j + 2) % 2 = j % 2 by omega]
      have h2 : j / 2 < r.length := by omega
      simp [h2]
theorem flat_list (l : List (Int × Int)) : (flatK encD 2 l.toArray).toList = cellsD l := by
  apply List.ext_getElem?
  intro j
  by_cases hj : j < l.length * 2
  · rw [flat_cells l j hj]
    have h1 : j < (flatK encD 2 l.toArray).size := by simpa using hj
    have h2 := get_flatK encD 2 l.toArray j (by simpa using hj)
    rw [getElem!_pos _ j h1] at h2
    rw [← h2]
    simp [h1]
  · rw [List.getElem?_eq_none (by simp; omega), List.getElem?_eq_none (by rw [cellsD_len]; omega)]
theorem put_take (f cur : Array Value) (h : f.size ≤ cur.size) : (putCells id 0 f cur).toList.take f.size = f.toList := by
  apply List.ext_getElem?
  intro j
  rw [List.getElem?_take]
  by_cases hj : j < f.size
  · rw [if_pos hj]
    have : j < cur.size := by omega
    simp [putCells, hj, this]
  · rw [if_neg hj, List.getElem?_eq_none (by simp; omega)]
theorem sort_none (v : Value) (w : World) : Calls Try.prog 45 #[.slice none 0 0, v] w fun e w' => e = .returned (.tuple #[]) ∧ w = w' := by
  have hi : ∀ W, Calls Try.prog 53 #[.slice none 0 0, .int .i64 0, .int .i64 0, v] W fun e w' => e = .returned (.tuple #[]) ∧ W = w' := fun W => by
    go_enter Try.func53, Try.ntmps53
    go_wp2
    refine wp_loop_rounds 1 ?_
    rw [rounds_succ]
    go_wp2
    go_end0
    exact ⟨rfl, rfl⟩
  have hp : ∀ W x, Calls Try.prog 50 #[.slice none 0 0, .int .i64 0, .int .i64 0, .int .i64 x, v] W fun e w' => e = .returned (.tuple #[]) ∧ W = w' := fun W x => by
    go_enter Try.func50, Try.ntmps50
    go_wp2
    refine wp_loop_rounds 1 ?_
    rw [rounds_succ]
    go_wp2_with fail
    refine (hi _).mono ?_
    rintro e _ ⟨rfl, rfl⟩
    go_wp2
    (try simp only [Exit.inBlock, Exit.then])
    refine bodyPost_ret (results_none rfl _ _ _) rfl ?_
    exact ⟨rfl, rfl⟩
  have hl : ∀ W, Calls Try.prog 51 #[.int .u64 0] W fun e w' => e = .returned (.int .i64 (Lib.bitLen 0 : Nat)) ∧ w' = W := fun W =>
    Any.bits_Len (SlLaysF0.n15.bits (P := Try.prog) { Try.sortDue with }) 0 W (by omega) (by omega)
  go_enter Try.func45, Try.ntmps45
  go_wp2_with fail
  refine (hl _).mono ?_
  rintro e w' ⟨rfl, rfl⟩
  go_wp2_with fail
  refine (hp _ _).mono ?_
  rintro e _ ⟨rfl, rfl⟩
  go_wp2
  go_end0
  exact ⟨rfl, rfl⟩
theorem cmpD (blk off size : Nat) (w : World) : CmpLays Try.prog 46 #[] encD 2 cfD blk off size w :=
  fun _ _ _ _ x y => closure_any x y _
def OrdP (w : World) (base : Nat) (v : Value) (O : List (Int × Int)) (e : Ending) (w' : World) : Prop :=
  e = .returned v ∧ w'.ownsRow base 50 2 v O.length (cellsD (sortD O)) ∧ Kx v.ownBlock.toList w w'
theorem sort_any (base g cap : Nat) (O : List (Int × Int)) (w : World) (h : w.ownsRow base 50 2 (.slice (some ⟨g, 0, none⟩) O.length cap) O.length (cellsD O)) (hn : O.length ≤ 4611686018427387900) :
    Calls Try.prog 45 #[.slice (some ⟨g, 0, none⟩) O.length cap, .func (.func 46) #[] #[]] w fun e w' => e = .returned (.tuple #[]) ∧ w'.ownsRow base 50 2 (.slice (some ⟨g, 0, none⟩) O.length cap) O.length (cellsD (sortD O)) ∧ Kx [g] w w' := by
  have h0 := h
  rcases h with ⟨h1, ⟨h2, _⟩ | ⟨g', cap', cur, h2, hb, hh, hle, hm, hs, ht⟩⟩
  · cases h2
  · cases h2
    have hlt := (Array.getElem?_eq_some_iff.1 hh).1
    have hcs : (cellsD O).length = O.length * 2 := cellsD_len O
    have hH : HoldsK encD 2 w g 0 O.toArray := by
      intro j hj
      have hj2 : j < O.length * 2 := by simpa using hj
      have e1 := flat_cells O j hj2
      have e2 : cur[j]? = some ((encD O.toArray[j / 2]!)[j % 2]!) := by
        rw [← e1, ← ht, List.getElem?_take, if_pos hj2]
        simp
      rw [get_flatK encD 2 O.toArray j (by simpa using hj2), Nat.zero_add]
      refine ⟨?_, ?_⟩
      · simp only [World.cell?, hh]
        simpa using e2
      · simp [World.frozen?, hh]
    have hc := AnyQ.slices_SortFunc Try.sortDue 2 Try.isAgg50 Try.sizeOf50 encD (fun _ => rfl) (fun x v hv => by simp [encD] at hv; rcases hv with rfl | rfl <;> rfl) cfD swoD 46 #[] g 0 cap O.toArray w
      (enters_of Try.func46 (by kernel_rfl) rfl) (cmpD g 0 _ w) hH hlt (by simp; omega)
    refine Calls.mono hc ?_
    rintro e w' ⟨rfl, d', n, os, hp, hsd, rfl⟩
    have hd := sorted_unique_holds swoD totD O.toArray d' hp hsd
    have hd' : d'.toList = sortD O := by
      rw [hd]
      unfold sortD
      simp only [ltD]
    have hdl : d'.size = O.length := by have := hp.1; simpa using this
    have hfl := flat_list (sortD O)
    rw [← hd'] at hfl ⊢
    have hfs : (flatK encD 2 d').size = O.length * 2 := by rw [size_flatK, hdl]
    have hhp : (sortWorldK encD 2 w g 0 n d' os).heap[g]? = some (.cells (putCells id 0 (flatK encD 2 d') cur) 50 (0, 0)) := by
      unfold sortWorldK
      rw [heap_grow_old _ _ (by simpa [putRowK, putRow, mapBlock, Sort.ahead] using hlt)]
      simp only [putRowK, putRow, mapBlock, Sort.ahead]
      rw [Array.getElem?_modify]
      rw [if_pos rfl, hh]
      rfl
    refine ⟨rfl, ⟨?_, .inr ⟨g, cap, _, rfl, hb, hhp, hle, hm, ?_, ?_⟩⟩, ?_⟩
    · rw [cellsD_len]; simp [hdl]
    · simp [putCells, hs]
    · have := put_take (flatK encD 2 d') cur (by rw [hfs, hs]; omega)
      rw [hfs] at this
      rw [this]
      exact hfl
    · refine ⟨rfl, rfl, rfl, ?_, ?_⟩
      · simp [sortWorldK, putRowK, putRow, mapBlock, Sort.ahead]
      · intro k hk hw
        unfold sortWorldK
        rw [heap_grow_old _ _ (by simpa [putRowK, putRow, mapBlock, Sort.ahead] using hk)]
        simp only [putRowK, putRow, mapBlock, Sort.ahead]
        rw [Array.getElem?_modify, if_neg (by simpa using fun h => hw (by simp [h]))]
theorem ordered_any (base : Nat) (v : Value) (O : List (Int × Int)) (w : World) (h : w.ownsRow base 50 2 v O.length (cellsD O)) (hn : O.length ≤ 4611686018427387900) :
    Calls Try.prog 39 #[v] w (OrdP w base v O) := by
  have h0 := h
  rcases h with ⟨h1, ⟨h2, h3⟩ | ⟨g, cap, cur, h2, -⟩⟩
  · clear h1
    subst h2
    have hO : O = [] := List.eq_nil_of_length_eq_zero h3
    subst hO
    go_enter Try.func39, Try.ntmps39
    go_wp2_with fail
    refine (sort_none _ _).mono ?_
    rintro e _ ⟨rfl, rfl⟩
    go_wp2
    go_ret
    exact ⟨rfl, (by unfold sortD; rw [List.mergeSort_nil]; exact h0), Kx.refl _ _⟩
  · subst h2
    have hc := sort_any base g cap O w h0 hn
    clear h0 h1
    have HN := Lib.hid hn
    clear hn
    obtain ⟨N, hN⟩ : ∃ N, O.length = N := ⟨_, rfl⟩
    unfold OrdP
    rw [hN] at hc ⊢
    clear hN
    go_enter Try.func39, Try.ntmps39
    go_wp2_with fail
    refine hc.mono ?_
    rintro e w' ⟨rfl, hr, hk⟩
    go_wp2
    go_ret
    exact ⟨rfl, hr, hk⟩
end Go.Proofs.Ytfdfmmmfklodgaa
