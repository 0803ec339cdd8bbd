
/- ChatMembers: where it has nothing to show. -/
import Derived.Test.YtndechodaegkiaaDoorChMd
import Derived.Test.YtndechodaegkiaaDoorChPg
namespace Go.Proofs.YtndechodaegkiaaDoor
open Go.RowKit Go.Shelf
attribute [local go_sem] Oper.semAt_some
theorem hasE_one {W : World} {g : Nat} {t : TypeId} {k m q : Int} {s : ByteArray} (h : Blk W g t [.int .i64 k, .int .i64 m, .int .i64 q, .string s]) : HasE W (some ⟨g, 0, none⟩) [⟨k, m, q, s⟩] := hasE_blk (l := [⟨k, m, q, s⟩]) h
set_option maxRecDepth 100000 in
set_option maxHeartbeats 2000000 in
theorem mem_off (l : List En) (ao : Option Addr) (c : Nat) (many : Int) (x : En) (w : World) (hT : Tabs w) (hE : HasE w ao l) (hl : l.length ≤ 9223372036854775807) (hs : ∀ e, e ∈ l → e.s.size ≤ 9223372036854775807) (ho : fewB l 40 = false ∨ fewB [x] 1 = false ∨ (newF tk0 0 l).2 ≠ 0) :
    Calls Tryd.prog 5 #[.slice ao l.length c, .int .i64 many, enV x] w fun r w' => r = .returned (.bool true) ∧ Below w.heap.size w w' := by
  refine callsIn_wide (n := 3).1 ?_
  obtain ⟨k, m, q, s⟩ := x
  change CallsIn Fence.wide 3 Tryd.prog 5 #[.slice ao l.length c, .int .i64 many, .agg #[.int .i64 k, .int .i64 m, .int .i64 q, .string s]] w _
  obtain ⟨XM, XX, XR, hb0, hz0⟩ := three w 3 26 4 #[.int .i64 many] #[.int .i64 k, .int .i64 m, .int .i64 q, .string s] #[.bool false]
  have cF := fun W hW => few_any l ao c 40 W hW hl
  have cX := fun g W hW => few_any [⟨k, m, q, s⟩] (some ⟨g, 0, none⟩) 1 1 W hW (by simp)
  have cD := fun W hW => refNew_some l ao c W hW hs hl
  obtain ⟨N, hN⟩ : ∃ N, l.length = N := ⟨_, rfl⟩
  rw [hN] at cF cD ⊢
  obtain ⟨E, hEE⟩ : ∃ E, (newF tk0 0 l).2 = E := ⟨_, rfl⟩
  obtain ⟨F1, hF1⟩ : ∃ b, fewB l 40 = b := ⟨_, rfl⟩
  obtain ⟨F2, hF2⟩ : ∃ b, fewB [⟨k, m, q, s⟩] 1 = b := ⟨_, rfl⟩
  rw [hEE] at cD ho
  rw [hF1] at cF ho
  rw [hF2] at cX ho
  clear hEE hF1 hF2
  replace cX : ∀ g W, Blk W g 26 [.int .i64 k, .int .i64 m, .int .i64 q, .string s] → Calls Tryd.prog 15 #[.slice (some ⟨g, 0, none⟩) 1 1, .int .i64 1] W fun r w' => r = .returned (.bool F2) ∧ W = w' := fun g W h => cX g W (hasE_one h)
  refine callsIn_of_wp_marks Tryd.func5 rfl trivial ?_ rfl
  simp only [Tryd.ntmps5, List.size_toArray, List.length_cons, List.length_nil, Nat.reduceAdd, Nat.reduceSub, Array.replicate_succ, Array.replicate_zero, List.push_toArray, List.append_toArray, List.nil_append, List.cons_append]
  refine (wpIn_wide (n := 3)).2 ?_
  go_wp2_with fail
  refine (cD _ (hE.step hb0)).mono ?_
  rintro e w2 ⟨⟨sl, a, n, c3, rfl⟩, hb2⟩
  have hbA := (Below.refl w2.heap.size w2).alloc (Nat.le_refl _) (.cells #[.int .i64 sl, .slice a n c3] 49)
  have hb3 := hb2.trans (hbA.mono hb2.size)
  have hb4 := hb0.trans (hb3.mono hb0.size)
  go_wp2_with fail
  refine (cF _ (hE.step hb4)).mono ?_
  rintro e w3 ⟨rfl, rfl⟩
  cases F1
  · have XR4 := XR.step hb3
    clear cF cD cX ho XM XX
    have hTe := hT.step hb4
    go_wp2_with fail
    refine (works_any _ hTe).mono ?_
    rintro e w9 ⟨rfl, hb9⟩
    have hbF := hb4.trans (hb9.mono hb4.size)
    have XR9 := XR4.step hb9
    have f9 := XR9.frozen 0
    have r9 := XR9.cell (j := 0) rfl
    go_wp2
    have r10 := (XR9.set 0 (.bool true)).cell (j := 0) rfl
    exact leaves_nil (v := .bool true) rfl (by simp [results, Tryd.results5, go_sem, r10]) ⟨rfl, hbF.setCell (p := ⟨w.heap.size + 1 + 1, 0, none⟩) (by simp; omega) _⟩
  · have XX4 := XX.step hb3
    have q0 := XX4.cell (j := 0) rfl
    have q1 := XX4.cell (j := 1) rfl
    have q2 := XX4.cell (j := 2) rfl
    have q3 := XX4.cell (j := 3) rfl
    have XS := Blk.newA' (W := w2.alloc (.cells #[.int .i64 sl, .slice a n c3] 49)) (alloc_size rfl _) 26 #[.int .i64 k, .int .i64 m, .int .i64 q, .string s]
    have hbS := hb4.alloc hb4.size (.cells #[.int .i64 k, .int .i64 m, .int .i64 q, .string s] 26)
    have XR4 := (XR.step hb3).alloc (.cells #[.int .i64 k, .int .i64 m, .int .i64 q, .string s] 26)
    go_wp2_with fail
    refine (cX _ _ XS).mono ?_
    rintro e w4 ⟨rfl, rfl⟩
    cases F2
    · clear cF cD cX ho XM XX q0 q1 q2 q3
      have hTe := hT.step hbS
      go_wp2_with fail
      refine (works_any _ hTe).mono ?_
      rintro e w9 ⟨rfl, hb9⟩
      have hbF := hbS.trans (hb9.mono hbS.size)
      have XR9 := XR4.step hb9
      have f9 := XR9.frozen 0
      have r9 := XR9.cell (j := 0) rfl
      go_wp2
      have r10 := (XR9.set 0 (.bool true)).cell (j := 0) rfl
      exact leaves_nil (v := .bool true) rfl (by simp [results, Tryd.results5, go_sem, r10]) ⟨rfl, hbF.setCell (p := ⟨w.heap.size + 1 + 1, 0, none⟩) (by simp; omega) _⟩
    · have hE0 : E ≠ 0 := by simpa using ho
      clear cF cD cX ho XM XX q0 q1 q2 q3
      have hTe := hT.step hbS
      go_wp2_with fail
      refine (works_any _ hTe).mono ?_
      rintro e w9 ⟨rfl, hb9⟩
      have hbF := hbS.trans (hb9.mono hbS.size)
      have XR9 := XR4.step hb9
      have f9 := XR9.frozen 0
      have r9 := XR9.cell (j := 0) rfl
      go_wp2
      have r10 := (XR9.set 0 (.bool true)).cell (j := 0) rfl
      exact leaves_nil (v := .bool true) rfl (by simp [results, Tryd.results5, go_sem, r10]) ⟨rfl, hbF.setCell (p := ⟨w.heap.size + 1 + 1, 0, none⟩) (by simp; omega) _⟩
end Go.Proofs.YtndechodaegkiaaDoor
