
/- The document's Above where the choir or the place is wrong; over a nil slice. -/
import Derived.Test.YtkohpfkgdigaiaaBaQ
namespace Go.Proofs.Ytkohpfkgdigaiaa
open Go.RowKit
set_option maxRecDepth 100000 in
set_option maxHeartbeats 1000000 in
theorem refAbove_no (c p : Int) (sl : Value) (w : World) (h : chkB c 0 p = false) :
    Calls Try.prog 21 #[.int .i64 c, .int .i64 p, sl] w fun e w' => e = .returned (.tuple #[.agg #[.int .i64 0, .int .i64 0], .int .i64 2]) ∧ Below w.heap.size w w' := by
  have bb : Below w.heap.size w w := Below.refl _ _
  cases hr : rightB c
  · have HR := Lib.hid hr
    clear hr
    go_enter Try.func21, Try.ntmps21
    go_wp2_with fail
    refine (refRight_at _ _ HR.out _).mono ?_
    rintro e w' ⟨rfl, rfl⟩
    go_wp2
    go_returns
    exact ⟨rfl, by go_grown⟩
  · have hp : inB p 0 c = false := by rw [chk_place hr] at h; exact h
    clear h
    have HR := Lib.hid hr
    clear hr
    have HP := Lib.hid hp
    clear hp
    go_enter Try.func21, Try.ntmps21
    go_wp2_with fail
    refine (refRight_at _ _ HR.out _).mono ?_
    rintro e w' ⟨rfl, rfl⟩
    go_wp2_with fail
    refine (refPlace_at _ _ _ HP.out _).mono ?_
    rintro e w' ⟨rfl, rfl⟩
    go_wp2
    go_returns
    exact ⟨rfl, by go_grown⟩
set_option maxRecDepth 100000 in
set_option maxHeartbeats 1000000 in
theorem refAbove_nil (c p : Int) (hr : rightB c = true) (hp : inB p 0 c = true) (w : World) :
    Calls Try.prog 21 #[.int .i64 c, .int .i64 p, .slice none 0 0] w fun e w' => e = .returned (.tuple #[.agg #[.int .i64 1, .int .i64 p], .int .i64 0]) ∧ Below w.heap.size w w' := by
  have hl : lessB (-1) 0 1 p = true := by simp [lessB]
  have HR := Lib.hid hr
  clear hr
  have HP := Lib.hid hp
  clear hp
  have HL := Lib.hid hl
  clear hl
  go_enter Try.func21, Try.ntmps21
  go_wp2_with fail
  refine (refRight_at _ _ HR.out _).mono ?_
  rintro e w' ⟨rfl, rfl⟩
  go_wp2_with fail
  refine (refPlace_at _ _ _ HP.out _).mono ?_
  rintro e w' ⟨rfl, rfl⟩
  go_wp2_with fail
  refine wp_loop_rounds 1 ?_
  rw [rounds_succ]
  go_wp2_with fail
  refine (refLess_at _ _ _ _ true HL.out _).mono ?_
  rintro e w5 ⟨rfl, b5⟩
  have q0 : Below w.heap.size w (((w.alloc (.cells #[.int .i64 0, .int .i64 0] 23)).alloc (.cells #[.int .i64 (-1), .int .i64 0] 23)).alloc (.cells #[.int .i64 1, .int .i64 p] 23)) := by go_grown
  have bb := q0.trans (b5.mono q0.size)
  have R : Blk w5 w.heap.size 23 [.int .i64 0, .int .i64 0] := (((Blk.new w _ _).alloc _).alloc _).step b5
  have O : Blk w5 (w.heap.size + 1 + 1) 23 [.int .i64 1, .int .i64 p] := (Blk.new' (by simp) _ _).step b5
  clear q0 b5
  have c0R := R.cell (j := 0) rfl
  have c1R := R.cell (j := 1) rfl
  have z0R := R.frozen 0
  have z1R := R.frozen 1
  have c0O := O.cell (j := 0) rfl
  have c1O := O.cell (j := 1) rfl
  have z0O := O.frozen 0
  have z1O := O.frozen 1
  go_wp2
  have R2 := (R.set 0 (.int .i64 1)).set 1 (.int .i64 p)
  have bbb := (bb.setCell (p := ⟨w.heap.size, 0, none⟩) (by simp) (.int .i64 1)).setCell (p := ⟨w.heap.size, 1, none⟩) (by simp) (.int .i64 p)
  generalize (World.setCell _ _ _).setCell _ _ = w9 at R2 bbb ⊢
  have c0R2 := R2.cell (j := 0) rfl
  have c1R2 := R2.cell (j := 1) rfl
  have z0R2 := R2.frozen 0
  have z1R2 := R2.frozen 1
  refine bodyPost_ret (v := .tuple #[.agg #[.int .i64 1, .int .i64 p], .int .i64 0]) (by simp [results, Try.results21, go_sem, c0R2, c1R2]) rfl ?_
  exact ⟨rfl, bbb⟩
end Go.Proofs.Ytkohpfkgdigaiaa
