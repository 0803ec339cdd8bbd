
/- Package chat: slices.Clone of lines, Copy. -/
import Derived.Test.YtndechodaegkiaaDoorChCb
import Derived.Test.YtndechodaegkiaaDoorChMb
namespace Go.Proofs.YtndechodaegkiaaDoor
open Go.RowKit
theorem info_linei : (Tryd.prog.info? 33).map (fun i => (i.zero, i.size, i.bytes)) = some (some (.agg #[.int .i64 0, .int .i64 0, .int .i64 0, .int .i64 0, .int .i64 0, .string ⟨#[]⟩]), 6, 56) := by kernel_rfl
set_option maxRecDepth 100000 in
set_option maxHeartbeats 1000000 in
theorem clone_any (base : Nat) (L : List Ln) (v : Value) (w : World) (hrow : w.ownsRow base 33 6 v L.length (cellsN L)) (hn : L.length ≤ 5000) :
    Calls Tryd.prog 45 #[v] w fun r w' => (∃ v2, r = .returned v2 ∧ w'.ownsRow w.heap.size 33 6 v2 L.length (cellsN L)) ∧ Below w.heap.size w w' := by
  have hrow2 := hrow
  rcases hrow.2 with ⟨rfl, h0⟩ | ⟨g, cap, cur, rfl, hg, hh, hle, hcap, hsz2, htake⟩
  · have hL : L = [] := List.eq_nil_of_length_eq_zero h0
    subst hL
    have qT := fun (W : World) => Lib.run_eql_slice_nil W 76 33 none 0 0 0 0 Tryd.underlying76
    simp only [Option.isNone_none] at qT
    go_enter Tryd.func45, Tryd.ntmps45
    go_wp2
    go_ret
    exact ⟨⟨_, rfl, ⟨by simp [cellsN], .inl ⟨rfl, rfl⟩⟩⟩, Below.refl _ _⟩
  · obtain ⟨n, hnn⟩ : ∃ n, L.length = n := ⟨_, rfl⟩
    rw [hnn] at hrow2 hn ⊢
    have hl : (cellsN L).length = n * 6 := hrow2.1
    have hnews : ∀ j u, (cellsN L)[j]? = some u → w.cell? ((⟨g, 0, none⟩ : Addr).add j) = some u := by
      intro j u hu
      have hj : j < n * 6 := by rw [← hl]; exact (List.getElem?_eq_some_iff.1 hu).1
      have := hrow2.cellAt j hj
      rw [Addr.add_lit, Nat.zero_add, this, hu]
    obtain ⟨i0, hi, hz0, hz1, hz2⟩ := info_parts info_linei
    have hgl : g < w.heap.size := (Array.getElem?_eq_some_iff.1 hh).1
    have hnews2 : ∀ j u, (cellsN L)[j]? = some u → (w.alloc (.cells #[] 33)).cell? ((⟨g, 0, none⟩ : Addr).add j) = some u := by
      intro j u hu
      have h1 := hnews j u hu
      rw [Addr.add_lit] at h1 ⊢
      exact cells_kept ((Below.refl _ w).alloc (Nat.le_refl _) _) h1
    have qT := fun (W : World) => Lib.run_eql_slice_nil W 76 33 (some ⟨g, 0, none⟩) n cap 0 0 Tryd.underlying76
    simp only [Option.isNone_some] at qT
    go_enter Tryd.func45, Tryd.ntmps45
    go_wp2_with (first
      | (at_builtin
         refine wpList_append_own_at _ rfl (.tmp 5) (.tmp 6) 76 rfl w.heap.size 33 i0 (.agg #[.int .i64 0, .int .i64 0, .int .i64 0, .int .i64 0, .int .i64 0, .string ⟨#[]⟩]) 6 56 Tryd.underlying76 hi hz0 hz1 hz2 rfl (by decide) (.slice (some ⟨w.heap.size, 0, none⟩) 0 0) 0 [] (by rfl) (row_empty (World.alloc_heap_new w _) (Nat.le_refl _)) ⟨g, 0, none⟩ n cap (cellsN L) (by rfl) hl hnews2 (cellsN_one _) (by unfold maxLen; omega) (by omega) (by show w.heap.size ≤ (w.heap.push _).size; rw [Array.size_push]; omega) ?_
         intro v' w1 hown' hgrow hnil hloc))
    go_ret
    rw [Nat.zero_add, List.nil_append] at hown'
    refine ⟨⟨_, rfl, hown'⟩, ?_⟩
    exact ((Below.refl w.heap.size w).alloc (Nat.le_refl _) _).grown hgrow (by show w.heap.size ≤ (w.heap.push _).size; rw [Array.size_push]; omega) (fun j hj => by cases hj; exact Nat.le_refl _)
theorem info_talk : (Tryd.prog.info? 79).map (·.size) = some 51 := by kernel_rfl
theorem talkL_len {W : World} {base g : Nat} {v : Value} {t : Tk} (h : TkW W base g v t) : (talkL v t).length = 51 := by
  unfold talkL
  have := memL_len t.M
  simp only [List.length_cons, List.length_append, List.length_nil]
  rw [this, h.len]
theorem talkL_one {W : World} {base g : Nat} {v : Value} {t : Tk} (h : TkW W base g v t) : ∀ u ∈ talkL v t, u.oneCell' = true := by
  obtain ⟨a, c, rfl⟩ := h.sl
  intro u hu
  unfold talkL at hu
  simp only [List.mem_cons, List.mem_append, List.mem_nil_iff, or_false] at hu
  rcases hu with rfl | rfl | hu | rfl
  · rfl
  · rfl
  · exact stsL_one t.M u hu
  · rfl
theorem copyC_nil (w : World) : Calls Tryd.prog 27 #[.pointer none] w fun e w' => e = .returned (.pointer none) ∧ w = w' := by
  go_enter Tryd.func27, Tryd.ntmps27
  go_wp2_with fail
  refine (none_nil _).mono ?_
  rintro e w2 ⟨rfl, rfl⟩
  go_wp2
  go_ret
  exact ⟨rfl, rfl⟩
end Go.Proofs.YtndechodaegkiaaDoor
