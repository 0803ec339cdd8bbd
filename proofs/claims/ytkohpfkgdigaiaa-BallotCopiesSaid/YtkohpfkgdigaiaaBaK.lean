
/- The chapter's rows of layer 13 hold. -/
import Derived.Test.YtkohpfkgdigaiaaBaJ
namespace Go.Proofs.Ytkohpfkgdigaiaa
open Go.RowKit

theorem hasB_blk {W : World} {g : Nat} {t : TypeId} {xs : List Bl} (h : Blk W g t (cellsB xs)) : HasB W g xs := by
  intro k hk
  have h1 := (cellsB_get xs k).1
  have h2 := (cellsB_get xs k).2
  rw [List.getElem?_eq_getElem hk] at h1 h2
  exact ⟨h.cell h1, h.cell h2⟩
theorem slB_blk {W : World} {g : Nat} {t : TypeId} {xs : List Bl} (h : Blk W g t (cellsB xs)) : SlB W (.slice (some ⟨g, 0, none⟩) xs.length xs.length) xs := .inr ⟨g, xs.length, rfl, Nat.le_refl _, hasB_blk h, h.lt⟩
theorem above_at (c p : Int) (sl : Value) (xs : List Bl) (r q e : Int) (h1 : aboveR c p xs = r) (h2 : aboveP c p xs = q) (h3 : aboveE c p xs = e) (hm : xs.length ≤ 900) (w : World) (hx : SlB w sl xs) :
    Calls Try.prog 20 #[.int .i64 c, .int .i64 p, sl] w fun x w' => x = .returned (.tuple #[.agg #[.int .i64 r, .int .i64 q], .int .i64 e]) ∧ Below w.heap.size w w' := h1 ▸ h2 ▸ h3 ▸ above_any c p sl xs hm w hx
theorem vadd_at (g : Nat) (c p : Int) (hs hs' : List Bool) (v : Bool) (e : Int) (h1 : addB c p hs = v) (h2 : addE c p = e) (h3 : addL c p hs = hs') (w : World) (hV : VB w g c hs) (hr : rightB c = true) :
    Calls Try.prog 23 #[.pointer (some ⟨g, 0, none⟩), .int .i64 p] w fun x w' => x = .returned (.tuple #[.bool v, .int .i64 e]) ∧ VB w' g c hs' ∧ Kx [g] w w' := h1 ▸ h2 ▸ h3 ▸ vadd_any g c p hs w hV hr

set_option maxRecDepth 100000 in
set_option maxHeartbeats 4000000 in
theorem works_any (w : World) : Calls Try.prog 14 #[] w fun e w' => e = .returned (.bool true) ∧ Below w.heap.size w w' := by
  go_enter Try.func14, Try.ntmps14
  go_wp2_with fail
  refine (first_at _ _ 1 0 (by decide) (by decide) _).mono ?_
  rintro e w1 ⟨rfl, b1⟩
  have T1 := (Blk.new w1 23 [.int .i64 0, .int .i64 1]).alloc (.cells #[.int .i64 2, .int .i64 1] 23)
  have S1 : Blk ((w1.alloc (.cells #[.int .i64 0, .int .i64 1] 23)).alloc (.cells #[.int .i64 2, .int .i64 1] 23)) (w1.heap.size + 1) 23 (cellsB [(2, 1)]) := Blk.new' (by simp) _ _
  have q1 : Below w.heap.size w ((w1.alloc (.cells #[.int .i64 0, .int .i64 1] 23)).alloc (.cells #[.int .i64 2, .int .i64 1] 23)) := (b1.alloc b1.size _).alloc (b1.alloc b1.size _).size _
  go_wp2_with fail
  refine (above_at 3 0 _ [(2, 1)] 3 0 0 (by decide) (by decide) (by decide) (by decide) _ (slB_blk S1)).mono ?_
  rintro e w2 ⟨rfl, b2⟩
  replace T1 := T1.step b2
  have q2 := q1.trans (b2.mono q1.size)
  clear b1 S1 q1 b2
  have T3 := (Blk.new w2 23 [.int .i64 3, .int .i64 0]).alloc (.cells #[.int .i64 2, .int .i64 1] 23)
  have S2 : Blk ((w2.alloc (.cells #[.int .i64 3, .int .i64 0] 23)).alloc (.cells #[.int .i64 2, .int .i64 1] 23)) (w2.heap.size + 1) 23 (cellsB [(2, 1)]) := Blk.new' (by simp) _ _
  have q3 : Below w.heap.size w ((w2.alloc (.cells #[.int .i64 3, .int .i64 0] 23)).alloc (.cells #[.int .i64 2, .int .i64 1] 23)) := (q2.alloc q2.size _).alloc (q2.alloc q2.size _).size _
  go_wp2_with fail
  refine (above_at 3 2 _ [(2, 1)] 2 2 0 (by decide) (by decide) (by decide) (by decide) _ (slB_blk S2)).mono ?_
  rintro e w3 ⟨rfl, b3⟩
  replace T1 := ((T1.alloc _).alloc _).step b3
  replace T3 := T3.step b3
  have q4 := q3.trans (b3.mono q3.size)
  clear q2 S2 q3 b3
  have T5 := Blk.new w3 23 [.int .i64 2, .int .i64 2]
  have q5 := q4.alloc q4.size (.cells #[.int .i64 2, .int .i64 2] 23)
  go_wp2_with fail
  refine (above_at 3 1 _ [] 1 1 0 (by decide) (by decide) (by decide) (by decide) _ (.inl ⟨rfl, rfl⟩)).mono ?_
  rintro e w4 ⟨rfl, b4⟩
  replace T1 := (T1.alloc _).step b4
  replace T3 := (T3.alloc _).step b4
  replace T5 := T5.step b4
  have q6 := q5.trans (b4.mono q5.size)
  clear q4 q5 b4
  have T7 := Blk.new w4 23 [.int .i64 1, .int .i64 1]
  have q7 := q6.alloc q6.size (.cells #[.int .i64 1, .int .i64 1] 23)
  have l1 := T1.lt
  have l3 := T3.lt
  have l5 := T5.lt
  go_wp2_with fail
  refine (vnew_ok 3 (by decide) _).mono ?_
  rintro e w5 ⟨g, rfl, V, hg, b5⟩
  rw [World.size_alloc] at hg
  replace T1 := (T1.alloc _).step b5
  replace T3 := (T3.alloc _).step b5
  replace T5 := (T5.alloc _).step b5
  replace T7 := T7.step b5
  have q8 := q7.trans (b5.mono q7.size)
  have hwg : w.heap.size ≤ g := by have := q6.size; omega
  clear q6 q7 b5
  go_wp2_with fail
  refine (vadd_at _ _ _ _ [true, false, false, false, false, false, false, false, false] true 0 (by decide) (by decide) (by decide) _ V (by decide)).mono ?_
  rintro e w6 ⟨rfl, V6, k6⟩
  go_wp2_with fail
  refine (vadd_at _ _ _ _ [true, false, false, false, false, false, false, false, false] false 0 (by decide) (by decide) (by decide) _ V6 (by decide)).mono ?_
  rintro e w7 ⟨rfl, V7, k7⟩
  have k57 := k6.trans k7
  clear V V6 k6 k7
  go_wp2_with fail
  refine (vwon_at _ _ _ false (by decide) _ V7 (by decide)).mono ?_
  rintro e w8 ⟨rfl, b8⟩
  go_wp2_with fail
  refine (vadd_at _ _ _ _ [true, false, true, false, false, false, false, false, false] true 0 (by decide) (by decide) (by decide) _ (V7.step b8) (by decide)).mono ?_
  rintro e w9 ⟨rfl, V9, k9⟩
  have k := (k57.step b8).trans k9
  clear k57 V7 b8 k9
  replace T1 := k.blk T1 (by simp; omega)
  replace T3 := k.blk T3 (by simp; omega)
  replace T5 := k.blk T5 (by simp; omega)
  replace T7 := k.blk T7 (by simp; omega)
  have q9 := q8.trans (k.below q8.size (by simp; omega))
  clear q8 k hg l1 l3 l5 hwg
  have c1 := T1.cell (j := 0) rfl
  have d1 := T1.cell (j := 1) rfl
  have c3 := T3.cell (j := 0) rfl
  have d3 := T3.cell (j := 1) rfl
  have c5 := T5.cell (j := 0) rfl
  have d5 := T5.cell (j := 1) rfl
  have c7 := T7.cell (j := 0) rfl
  have d7 := T7.cell (j := 1) rfl
  clear T1 T3 T5 T7
  go_wp2_with fail
  refine (num_any _ _).mono ?_
  rintro e w' ⟨rfl, rfl⟩
  go_wp2_with fail
  refine (num_any _ _).mono ?_
  rintro e w' ⟨rfl, rfl⟩
  go_wp2_with fail
  refine (num_any _ _).mono ?_
  rintro e w' ⟨rfl, rfl⟩
  go_wp2_with fail
  refine (num_any _ _).mono ?_
  rintro e w' ⟨rfl, rfl⟩
  go_wp2_with fail
  refine (num_any _ _).mono ?_
  rintro e w' ⟨rfl, rfl⟩
  go_wp2_with fail
  refine (num_any _ _).mono ?_
  rintro e w' ⟨rfl, rfl⟩
  go_wp2_with fail
  refine (num_any _ _).mono ?_
  rintro e w' ⟨rfl, rfl⟩
  go_wp2_with fail
  refine (num_any _ _).mono ?_
  rintro e w' ⟨rfl, rfl⟩
  go_wp2_with fail
  refine (vwon_at _ _ _ true (by decide) _ V9 (by decide)).mono ?_
  rintro e w10 ⟨rfl, b10⟩
  have qa := q9.trans (b10.mono q9.size)
  clear q9 b10 V9 c1 d1 c3 d3 c5 d5 c7 d7
  go_wp2_with fail
  refine (may_at 3 7 0 2 false (by decide) _).mono ?_
  rintro e w11 ⟨rfl, b11⟩
  go_wp2_with fail
  refine (may_at 3 7 1 2 true (by decide) _).mono ?_
  rintro e w12 ⟨rfl, b12⟩
  go_wp2_with fail
  go_returns
  have qb := qa.trans (b11.mono qa.size)
  exact ⟨rfl, qb.trans (b12.mono qb.size)⟩
end Go.Proofs.Ytkohpfkgdigaiaa
