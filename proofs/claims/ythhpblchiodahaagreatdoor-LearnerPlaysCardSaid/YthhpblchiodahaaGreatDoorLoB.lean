
/- Package learner: ballots put in order: slices.SortFunc, slices.SortedFunc. (The sorting is turned from XWhI.tpx.) -/
import Derived.Test.YthhpblchiodahaaGreatDoorLoA
import Derived.Test.YthhpblchiodahaaGreatDoorLoS
import Derived.LoopN
import Derived.Deep.RegionHeld3
import Derived.Shelf.SlSortCmp.WholeK
namespace Go.Proofs.YthhpblchiodahaaGreatDoor
set_option linter.unusedSimpArgs false
set_option linter.unusedVariables false
open Go.RowKit Go.Sort Go.Shelf Go.Lib Go.Maps
def encBl (p : Int × Int) : List Value := [.int .i64 p.1, .int .i64 p.2]
def cfBl (x y : Int × Int) : Int := cmpI x.1 x.2 y.1 y.2
set_option maxRecDepth 100000 in
set_option maxHeartbeats 1000000 in
theorem cmpg0_any (r p s q : Int) (w : World) :
    Calls Tryz.prog 45 #[.agg #[.int .i64 r, .int .i64 p], .agg #[.int .i64 s, .int .i64 q]] w fun e w' => e = .returned (.int .i64 (cmpI r p s q)) ∧ ∃ q os', w' = grow (w.drewN q) os' := by
  unfold cmpI
  go_enter Tryz.func45, Tryz.ntmps45
  go_wp2
  go_region_held3 (fun w' => w'.cell? ⟨w.heap.size, 0, none⟩ = some (.int .i64 r) ∧ w'.cell? ⟨w.heap.size, 1, none⟩ = some (.int .i64 p) ∧ w'.cell? ⟨w.heap.size + 1, 0, none⟩ = some (.int .i64 s) ∧ w'.cell? ⟨w.heap.size + 1, 1, none⟩ = some (.int .i64 q)) (go_keep)
    (first | (go_at_call 79; refine (c64_any _ _ _).mono ?_; rintro e w' ⟨rfl, rfl⟩) | (go_at_call 80; refine (cint_any _ _ _).mono ?_; rintro e w' ⟨rfl, rfl⟩) | (go_at_call 78; refine (or_any _ (c3 r s) (c3 p q) _ ?_ ?_).mono ?_; (exact cell_new _ _ _ _ _ _ (by simp) rfl); (exact cell_new _ _ _ _ _ _ (by simp) rfl); rintro e w' ⟨rfl, rfl⟩))
  all_goals go_wp2
  all_goals go_ret
  all_goals exact ⟨rfl, 1, _, by rw [alloc_eq_grow, alloc_eq_grow, alloc_eq_grow, grow_grow, grow_grow]; rfl⟩
theorem cmpg_any (x y : Int × Int) (w : World) : Calls Tryz.prog 45 #[.agg #[.int .i64 x.1, .int .i64 x.2], .agg #[.int .i64 y.1, .int .i64 y.2]] w fun e w' => e = .returned (.int .i64 (cfBl x y)) ∧ ∃ q os', w' = grow (w.drewN q) os' := cmpg0_any x.1 x.2 y.1 y.2 w
theorem ltBl (x y : Int × Int) : ltOf cfBl x y = lessB x.1 x.2 y.1 y.2 := by
  unfold ltOf cfBl cmpI or2 c3 lessB
  rw [Bool.eq_iff_iff]
  simp only [decide_eq_true_eq, Bool.or_eq_true, Bool.and_eq_true, beq_iff_eq]
  by_cases h1 : x.1 < y.1
  · simp [h1]
  · by_cases h2 : y.1 < x.1
    · simp [h1, h2]; omega
    · by_cases h3 : x.2 < y.2
      · simp [h1, h2, h3]; omega
      · by_cases h4 : y.2 < x.2
        · simp [h1, h2, h3, h4]
        · simp [h1, h2, h3, h4]
theorem swoBl : SWO (ltOf cfBl) where
  irrefl x := by rw [ltBl]; unfold lessB; simp
  trans x y z h1 h2 := by rw [ltBl] at *; unfold lessB at *; simp at *; omega
  ntrans x y z h1 h2 := by rw [ltBl] at *; unfold lessB at *; simp at *; omega
theorem totBl (x y : Int × Int) (h1 : ltOf cfBl x y = false) (h2 : ltOf cfBl y x = false) : x = y := by
  rw [ltBl] at h1 h2
  unfold lessB at h1 h2
  simp at h1 h2
  ext <;> omega
def sortBl (l : List (Int × Int)) : List (Int × Int) := l.mergeSort fun x y => !lessB y.1 y.2 x.1 x.2
theorem flat_cells (l : List (Int × Int)) (j : Nat) (hj : j < l.length * 2) : (balL l)[j]? = some ((encBl l.toArray[j / 2]!)[j % 2]!) := by
  induction l generalizing j with
  | nil => simp at hj
  | cons a r ih =>
    unfold balL
    rw [List.flatMap_cons]
    match j with
    | 0 => simp [encBl]
    | 1 => simp [encBl]
    | j + 2 =>
      rw [List.length_cons] at hj
      have := ih j (by omega)
      unfold balL at this
      rw [List.getElem?_append_right (by simp), show (j + 2) - [Value.int IntKind.i64 a.1, Value.int IntKind.i64 a.2].length = j by simp, this]
      rw [show (j + 2) / 2 = j / 2 + 1 by omega, show (j + 2) % 2 = j % 2 by omega]
      have h2 : j / 2 < r.length := by omega
      simp [h2]
theorem flat_list (l : List (Int × Int)) : (flatK encBl 2 l.toArray).toList = balL l := by
  apply List.ext_getElem?
  intro j
  by_cases hj : j < l.length * 2
  · rw [flat_cells l j hj]
    have h1 : j < (flatK encBl 2 l.toArray).size := by simpa using hj
    have h2 := get_flatK encBl 2 l.toArray j (by simpa using hj)
    rw [getElem!_pos _ j h1] at h2
    rw [← h2]
    simp [h1]
  · rw [List.getElem?_eq_none (by simp; omega), List.getElem?_eq_none (by rw [balL_len]; omega)]
theorem put_take (f cur : Array Value) (h : f.size ≤ cur.size) : (putCells id 0 f cur).toList.take f.size = f.toList := by
  apply List.ext_getElem?
  intro j
  rw [List.getElem?_take]
  by_cases hj : j < f.size
  · rw [if_pos hj]
    have : j < cur.size := by omega
    simp [putCells, hj, this]
  · rw [if_neg hj, List.getElem?_eq_none (by simp; omega)]
theorem sort_none (v : Value) (w : World) : Calls Tryz.prog 120 #[.slice none 0 0, v] w fun e w' => e = .returned (.tuple #[]) ∧ w = w' := by
  have hi : ∀ W, Calls Tryz.prog 152 #[.slice none 0 0, .int .i64 0, .int .i64 0, v] W fun e w' => e = .returned (.tuple #[]) ∧ W = w' := fun W => by
    go_enter Tryz.func152, Tryz.ntmps152
    go_wp2
    refine wp_loop_rounds 1 ?_
    rw [rounds_succ]
    go_wp2
    go_end0
    exact ⟨rfl, rfl⟩
  have hp : ∀ W x, Calls Tryz.prog 144 #[.slice none 0 0, .int .i64 0, .int .i64 0, .int .i64 x, v] W fun e w' => e = .returned (.tuple #[]) ∧ W = w' := fun W x => by
    go_enter Tryz.func144, Tryz.ntmps144
    go_wp2
    refine wp_loop_rounds 1 ?_
    rw [rounds_succ]
    go_wp2_with fail
    refine (hi _).mono ?_
    rintro e _ ⟨rfl, rfl⟩
    go_wp2
    (try simp only [Exit.inBlock, Exit.then])
    refine bodyPost_ret (results_none rfl _ _ _) rfl ?_
    exact ⟨rfl, rfl⟩
  have hl : ∀ W, Calls Tryz.prog 145 #[.int .u64 0] W fun e w' => e = .returned (.int .i64 (Lib.bitLen 0 : Nat)) ∧ w' = W := fun W =>
    Any.bits_Len (SlLaysF0.n15.bits (P := Tryz.prog) { Tryz.sortBal with }) 0 W (by omega) (by omega)
  go_enter Tryz.func120, Tryz.ntmps120
  go_wp2_with fail
  refine (hl _).mono ?_
  rintro e w' ⟨rfl, rfl⟩
  go_wp2_with fail
  refine (hp _ _).mono ?_
  rintro e _ ⟨rfl, rfl⟩
  go_wp2
  go_end0
  exact ⟨rfl, rfl⟩
theorem cmpBl (blk off size : Nat) (w : World) : CmpLays Tryz.prog 45 #[] encBl 2 cfBl blk off size w :=
  fun _ _ _ _ x y => cmpg_any x y _
theorem sort_any (base g cap : Nat) (O : List (Int × Int)) (w : World) (h : w.ownsRow base 66 2 (.slice (some ⟨g, 0, none⟩) O.length cap) O.length (balL O)) (hn : O.length ≤ 4611686018427387900) :
    Calls Tryz.prog 120 #[.slice (some ⟨g, 0, none⟩) O.length cap, .func (.func 45) #[] #[]] w fun e w' => e = .returned (.tuple #[]) ∧ w'.ownsRow base 66 2 (.slice (some ⟨g, 0, none⟩) O.length cap) O.length (balL (sortBl O)) ∧ Kx [g] w w' := by
  have h0 := h
  rcases h with ⟨h1, ⟨h2, _⟩ | ⟨g', cap', cur, h2, hb, hh, hle, hm, hs, ht⟩⟩
  · cases h2
  · cases h2
    have hlt := (Array.getElem?_eq_some_iff.1 hh).1
    have hcs : (balL O).length = O.length * 2 := balL_len O
    have hH : HoldsK encBl 2 w g 0 O.toArray := by
      intro j hj
      have hj2 : j < O.length * 2 := by simpa using hj
      have e1 := flat_cells O j hj2
      have e2 : cur[j]? = some ((encBl O.toArray[j / 2]!)[j % 2]!) := by
        rw [← e1, ← ht, List.getElem?_take, if_pos hj2]
        simp
      rw [get_flatK encBl 2 O.toArray j (by simpa using hj2), Nat.zero_add]
      refine ⟨?_, ?_⟩
      · simp only [World.cell?, hh]
        simpa using e2
      · simp [World.frozen?, hh]
    have hc := AnyQ.slices_SortFunc Tryz.sortBal 2 Tryz.isAgg66 Tryz.sizeOf66 encBl (fun _ => rfl) (fun x v hv => by simp [encBl] at hv; rcases hv with rfl | rfl <;> rfl) cfBl swoBl 45 #[] g 0 cap O.toArray w
      (enters_of Tryz.func45 (by kernel_rfl) rfl) (cmpBl g 0 _ w) hH hlt (by simp; omega)
    refine Calls.mono hc ?_
    rintro e w' ⟨rfl, d', n, os, hp, hsd, rfl⟩
    have hd := sorted_unique_holds swoBl totBl O.toArray d' hp hsd
    have hd' : d'.toList = sortBl O := by
      rw [hd]
      unfold sortBl
      simp only [ltBl]
    have hdl : d'.size = O.length := by have := hp.1; simpa using this
    have hfl := flat_list (sortBl O)
    rw [← hd'] at hfl ⊢
    have hfs : (flatK encBl 2 d').size = O.length * 2 := by rw [size_flatK, hdl]
    have hhp : (sortWorldK encBl 2 w g 0 n d' os).heap[g]? = some (.cells (putCells id 0 (flatK encBl 2 d') cur) 66 (0, 0)) := by
      unfold sortWorldK
      rw [heap_grow_old _ _ (by simpa [putRowK, putRow, mapBlock, Sort.ahead] using hlt)]
      simp only [putRowK, putRow, mapBlock, Sort.ahead]
      rw [Array.getElem?_modify]
      rw [if_pos rfl, hh]
      rfl
    refine ⟨rfl, ⟨?_, .inr ⟨g, cap, _, rfl, hb, hhp, hle, hm, ?_, ?_⟩⟩, ?_⟩
    · rw [balL_len]; simp [hdl]
    · simp [putCells, hs]
    · have := put_take (flatK encBl 2 d') cur (by rw [hfs, hs]; omega)
      rw [hfs] at this
      rw [this]
      exact hfl
    · refine ⟨rfl, rfl, rfl, ?_, ?_⟩
      · simp [sortWorldK, putRowK, putRow, mapBlock, Sort.ahead]
      · intro k hk hw
        unfold sortWorldK
        rw [heap_grow_old _ _ (by simpa [putRowK, putRow, mapBlock, Sort.ahead] using hk)]
        simp only [putRowK, putRow, mapBlock, Sort.ahead]
        rw [Array.getElem?_modify, if_neg (by simpa using fun h => hw (by simp [h]))]

/-! The keys in order. -/
def leP (p q : (Int × Int) × Hd) : Bool := !lessB q.1.1 q.1.2 p.1.1 p.1.2
def srtB (L : HMap) : HMap := L.mergeSort leP
theorem leP_trans (a b c : (Int × Int) × Hd) : leP a b = true → leP b c = true → leP a c = true := by
  unfold leP lessB
  simp
  omega
theorem leP_total (a b : (Int × Int) × Hd) : (leP a b || leP b a) = true := by
  unfold leP lessB
  rw [Bool.eq_iff_iff]
  simp
  omega
theorem srtB_perm (L : HMap) : (srtB L).Perm L := List.mergeSort_perm L leP
theorem srtB_len (L : HMap) : (srtB L).length = L.length := (srtB_perm L).length_eq
theorem srtB_keys {L : HMap} {ss : List (Int × Int)} (h : ss.Perm (L.map (·.1))) : sortBl ss = (srtB L).map (·.1) := by
  have tr : ∀ a b c : Int × Int, (!lessB b.1 b.2 a.1 a.2) = true → (!lessB c.1 c.2 b.1 b.2) = true → (!lessB c.1 c.2 a.1 a.2) = true := by
    intro a b c
    unfold lessB
    simp
    omega
  have tt : ∀ a b : Int × Int, ((!lessB b.1 b.2 a.1 a.2) || (!lessB a.1 a.2 b.1 b.2)) = true := by
    intro a b
    unfold lessB
    rw [Bool.eq_iff_iff]
    simp
    omega
  refine List.Perm.eq_of_pairwise (le := fun x y : Int × Int => (!lessB y.1 y.2 x.1 x.2) = true) (fun a b _ _ h1 h2 => ?_) ?_ ?_ ?_
  · unfold lessB at h1 h2
    simp at h1 h2
    ext <;> omega
  · exact List.pairwise_mergeSort tr tt ss
  · rw [List.pairwise_map]
    exact (List.pairwise_mergeSort leP_trans leP_total L).imp (fun h => h)
  · exact (List.mergeSort_perm ss _).trans (h.trans ((srtB_perm L).map _).symm)
theorem keysM_any (b : Nat) (W : World) : Calls Tryz.prog 77 #[.map (some b)] W fun e w' => e = .returned (.func (.func 121) #[] #[.pointer (some ⟨W.heap.size, 0, none⟩)]) ∧ w' = W.alloc (.cells #[.map (some b)] 60) := by
  go_enter Tryz.func77, Tryz.ntmps77
  go_wp2
  go_ret
  exact ⟨rfl, rfl⟩
set_option maxRecDepth 100000 in
set_option maxHeartbeats 1000000 in
theorem sortedB_any (Bm b : Nat) (L : HMap) (w1 : World) (X : Blk w1 Bm 60 [.map (some b)]) (hM1 : MapH w1 b L) (hn : L.length ≤ 1000) :
    Calls Tryz.prog 76 #[.func (.func 121) #[] #[.pointer (some ⟨Bm, 0, none⟩)], .func (.func 45) #[] #[]] w1
      fun e w' => (∃ v, e = .returned v ∧ w'.ownsRow w1.heap.size 66 2 v L.length (balL ((srtB L).map (·.1)))) ∧ Below w1.heap.size w1 w' := by
  have cC := collectB_any 121 #[.pointer (some ⟨Bm, 0, none⟩)] (enters_of Tryz.func121 (by kernel_rfl) rfl) _ L.length hn w1 (keysB_gives Bm b L w1 X hM1)
  have hlen : ∀ ss : List (Int × Int), ss.Perm (L.map (·.1)) → ss.length = L.length := fun ss h => by have := h.length_eq; simpa using this
  have hkey : ∀ ss : List (Int × Int), ss.Perm (L.map (·.1)) → sortBl ss = (srtB L).map (·.1) := fun ss h => srtB_keys h
  obtain ⟨ks, hks⟩ : ∃ ks, (srtB L).map (·.1) = ks := ⟨_, rfl⟩
  rw [hks] at hkey ⊢
  obtain ⟨N, hN⟩ : ∃ N, L.length = N := ⟨_, rfl⟩
  rw [hN] at hlen hn ⊢
  clear hM1 X
  go_enter Tryz.func76, Tryz.ntmps76
  go_wp2_with fail
  refine (cC).mono ?_
  rintro e w2 ⟨⟨v, ss, rfl, hS, hR⟩, hb2⟩
  have hss := hlen ss hS
  have hso := hkey ss hS
  clear hlen hkey cC
  have hb3 := hb2
  rcases id hR with ⟨h1, ⟨h2, h3⟩ | ⟨g, cap, cur, h2, -⟩⟩
  · obtain rfl : ss = [] := List.eq_nil_of_length_eq_zero h3
    subst h2
    go_wp2_with fail
    refine (sort_none _ _).mono ?_
    rintro e _ ⟨rfl, rfl⟩
    go_wp2
    go_ret
    refine ⟨⟨_, rfl, ?_⟩, hb3⟩
    rw [← hso, ← hss]
    have : sortBl [] = [] := by unfold sortBl; rw [List.mergeSort_nil]
    rw [this]
    exact hR
  · subst h2
    have hc := sort_any w1.heap.size g cap ss w2 hR (by omega)
    have hg := (row_ge hR g rfl).1
    rw [hss, hso] at hc
    rw [hss] at hR ⊢
    clear hso hR
    go_wp2_with fail
    refine hc.mono ?_
    rintro e w' ⟨rfl, hr, hk⟩
    go_wp2
    go_ret
    exact ⟨⟨_, rfl, hr⟩, Below.trans hb3 (hk.below (by have := hb3.size; omega) (by simp; omega))⟩
end Go.Proofs.YthhpblchiodahaaGreatDoor
