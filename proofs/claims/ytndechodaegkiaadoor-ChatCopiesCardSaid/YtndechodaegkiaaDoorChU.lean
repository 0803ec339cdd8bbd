
/- ChatNews: the walk. -/
import Derived.Test.YtndechodaegkiaaDoorChT
import Derived.Test.YtndechodaegkiaaDoorChW
namespace Go.Proofs.YtndechodaegkiaaDoor
open Go.RowKit
theorem few_small {l : List En} {most : Int} (h : fewB l most = true) : (l.length : Int) ≤ most ∧ ∀ e, e ∈ l → e.s.size ≤ 300 := by
  unfold fewB at h
  simp only [Bool.and_eq_true, decide_eq_true_eq, List.all_eq_true] at h
  exact ⟨h.2, h.1⟩
set_option maxRecDepth 100000 in
set_option maxHeartbeats 2000000 in
theorem ChatNews_walk (l : List En) (ao : Option Addr) (c : Nat) (w : World) (hT : Tabs w) (hE : HasE w ao l) (hl : l.length ≤ 9223372036854775807) (hs : ∀ e, e ∈ l → e.s.size ≤ 9223372036854775807) :
    Calls Tryd.prog 6 #[.slice ao l.length c] w fun r w' => r = .returned (.bool true) ∧ Below w.heap.size w w' := by
  have cF := few_any l ao c 40 w hE hl
  have hlen : ∃ N, l.length = N := ⟨_, rfl⟩
  cases hf : fewB l 40
  · rw [hf] at cF
    obtain ⟨N, hN⟩ := hlen
    rw [hN] at cF ⊢
    go_enter Tryd.func6, Tryd.ntmps6
    go_wp2_with fail
    refine (cF).mono ?_
    rintro e w1 ⟨rfl, rfl⟩
    go_wp2_with fail
    refine (works_any _ hT).mono ?_
    rintro e w2 ⟨rfl, hb⟩
    go_wp2
    go_ret
    exact ⟨rfl, hb⟩
  · rw [hf] at cF
    obtain ⟨hl40, _⟩ := few_small hf
    have cN := new_any l ao c w hE hT hs (by omega)
    have cD := fun W hW => refNew_any l ao c W hW hs hl
    have hG : Good (newF tk0 0 l).1 := newF_good l 0 tk0 good0
    obtain ⟨N, hN⟩ := hlen
    rw [hN] at cF cN cD ⊢
    unfold newP at cN
    unfold dnP at cD
    obtain ⟨R, hR⟩ : ∃ R, newF tk0 0 l = R := ⟨_, rfl⟩
    rw [hR] at cN cD hG
    obtain ⟨t, E⟩ := R
    simp only at cN cD hG
    clear hR
    by_cases hE0 : E = 0
    · subst hE0
      replace cN : Calls Tryd.prog 11 #[.slice ao N c] w fun r w' => (∃ g v, r = .returned (.tuple #[.pointer (some ⟨g, 0, none⟩), .int .i64 0]) ∧ TkW w' w.heap.size g v t ∧ w.heap.size ≤ g) ∧ Below w.heap.size w w' := by simpa using cN
      replace cD : ∀ W, HasE W ao l → Calls Tryd.prog 19 #[.slice ao N c] W fun r w' => (∃ sv, r = .returned (.tuple #[.agg #[.int .i64 t.sl, sv], .int .i64 0]) ∧ DW w' W.heap.size sv t.L) ∧ Below W.heap.size W w' := by simpa using cD
      go_enter Tryd.func6, Tryd.ntmps6
      go_wp2_with fail
      refine (cF).mono ?_
      rintro e w1 ⟨rfl, rfl⟩
      go_wp2_with fail
      refine (cN).mono ?_
      rintro e w2 ⟨⟨g, v, rfl, hW, hg⟩, hb2⟩
      go_wp2_with fail
      refine (cD _ (hE.step hb2)).mono ?_
      rintro e w3 ⟨⟨sv, rfl, hD⟩, hb3⟩
      have hW3 := hW.step hb3
      have hT3 := (hT.step hb2).step hb3
      have hb4 := hb2.trans (hb3.mono hb2.size)
      obtain ⟨a, c2, rfl⟩ := hD.sl
      have hbA := (Below.refl w3.heap.size w3).alloc (Nat.le_refl _) (.cells #[.int .i64 t.sl, .slice a t.L.length c2] 49)
      have hb5 := hb4.trans (hbA.mono hb4.size)
      have XA := Blk.newA' (W := w3) rfl 49 #[.int .i64 t.sl, .slice a t.L.length c2]
      have x0 := XA.cell (j := 0) rfl
      have x1 := XA.cell (j := 1) rfl
      have cI := is_any _ _ g v _ t _ (hW3.step hbA) hG (hD.step hbA)
      have hT4 := hT3.step hbA
      clear cN cD cF hE hW hW3 hD hT hT3 hb2 hb3 hb4
      go_wp2_with fail
      refine (num_any 0 _).mono ?_
      rintro e w' ⟨rfl, rfl⟩
      go_wp2_with fail
      refine (cI).mono ?_
      rintro e w6 ⟨rfl, hb6⟩
      go_wp2_with fail
      refine (works_any _ (hT4.step hb6)).mono ?_
      rintro e w7 ⟨rfl, hb7⟩
      go_wp2
      go_ret
      have hb8 := hb5.trans (hb6.mono hb5.size)
      exact ⟨rfl, hb8.trans (hb7.mono hb8.size)⟩
    · replace cN : Calls Tryd.prog 11 #[.slice ao N c] w fun r w' => r = .returned (.tuple #[.pointer none, .int .i64 E]) ∧ Below w.heap.size w w' := by simpa [hE0] using cN
      replace cD : ∀ W, HasE W ao l → Calls Tryd.prog 19 #[.slice ao N c] W fun r w' => r = .returned (.tuple #[.agg #[.int .i64 0, .slice none 0 0], .int .i64 E]) ∧ Below W.heap.size W w' := by simpa [hE0] using cD
      go_enter Tryd.func6, Tryd.ntmps6
      go_wp2_with fail
      refine (cF).mono ?_
      rintro e w1 ⟨rfl, rfl⟩
      go_wp2_with fail
      refine (cN).mono ?_
      rintro e w2 ⟨rfl, hb2⟩
      go_wp2_with fail
      refine (cD _ (hE.step hb2)).mono ?_
      rintro e w3 ⟨rfl, hb3⟩
      have hT3 := (hT.step hb2).step hb3
      have hb4 := hb2.trans (hb3.mono hb2.size)
      have hbA := (Below.refl w3.heap.size w3).alloc (Nat.le_refl _) (.cells #[.int .i64 0, .slice none 0 0] 49)
      have hb5 := hb4.trans (hbA.mono hb4.size)
      have hT4 := hT3.step hbA
      clear cN cD cF hE hT hT3 hb2 hb3 hb4
      go_wp2_with fail
      refine (num_any E _).mono ?_
      rintro e w' ⟨rfl, rfl⟩
      go_wp2_with fail
      refine (works_any _ hT4).mono ?_
      rintro e w7 ⟨rfl, hb7⟩
      go_wp2
      go_ret
      exact ⟨rfl, hb5.trans (hb7.mono hb5.size)⟩
end Go.Proofs.YtndechodaegkiaaDoor
