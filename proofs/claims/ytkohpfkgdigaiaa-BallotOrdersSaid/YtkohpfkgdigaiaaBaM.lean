
/- 'BallotOrders': the walk. -/
import Derived.Test.YtkohpfkgdigaiaaBaL
namespace Go.Proofs.Ytkohpfkgdigaiaa
open Go.RowKit

set_option maxRecDepth 100000 in
set_option maxHeartbeats 2000000 in
theorem BallotOrders_walk (c r p s q : Int) (w : World) : Calls Try.prog 3 #[.int .i64 c, .agg #[.int .i64 r, .int .i64 p], .agg #[.int .i64 s, .int .i64 q]] w fun e w' => e = .returned (.bool true) ∧ Below w.heap.size w w' := by
  cases hc : chkB c r p
  all_goals
    obtain ⟨x, hx⟩ : ∃ x, chkI c r p = x := ⟨_, rfl⟩
    have hx' := hx
    simp only [chkI, hc, Bool.false_eq_true, if_false, if_true] at hx'
    subst hx'
    have HC := Lib.hid hc
    clear hc
    have HX := Lib.hid hx
    clear hx
    go_enter Try.func3, Try.ntmps3
    go_wp2_with fail
    refine (bnone_any _).mono ?_
    rintro e w1 ⟨rfl, b1⟩
    have b01 : Below w.heap.size w ((w.alloc (.cells #[.int .i64 r, .int .i64 p] 23)).alloc (.cells #[.int .i64 s, .int .i64 q] 23)) := by go_grown
    have bb := b01.trans (b1.mono b01.size)
    have A : Blk w1 w.heap.size 23 [.int .i64 r, .int .i64 p] := ((Blk.new w _ _).alloc _).step b1
    have B : Blk w1 (w.heap.size + 1) 23 [.int .i64 s, .int .i64 q] := (Blk.new' (by simp) _ _).step b1
    clear b01 b1
    have k0 := keep_alloc (A.cell (j := 0) rfl)
    have k1 := keep_alloc (A.cell (j := 1) rfl)
    go_wp2_with fail
    refine (bcheck_at _ _ _ _ HX.out _).mono ?_
    rintro e w2 ⟨rfl, b2⟩
    replace A := (A.alloc (.cells #[.int .i64 (-1), .int .i64 0] 23)).step b2
    replace B := (B.alloc (.cells #[.int .i64 (-1), .int .i64 0] 23)).step b2
    have N := (Blk.new w1 23 [.int .i64 (-1), .int .i64 0]).step b2
    have bb' := bb.alloc bb.size (.cells #[.int .i64 (-1), .int .i64 0] 23)
    replace bb := bb'.trans (b2.mono bb'.size)
    clear k0 k1 b2 bb'
    have c0 := ext_cell (A.cell (j := 0) rfl)
    have c1 := ext_cell (A.cell (j := 1) rfl)
    have c2 := ext_cell (B.cell (j := 0) rfl)
    have c3 := ext_cell (B.cell (j := 1) rfl)
    have c4 := ext_cell (N.cell (j := 0) rfl)
    have c5 := ext_cell (N.cell (j := 1) rfl)
    clear A B N
    go_wp2_with fail
    refine wp_region_ext (by kernel_rfl) (by kernel_rfl) ?_
    repeat
      (first
        | go_big_quiet_skip
        | (go_big_quiet_want
           go_big_quiet_op
           first
             | go_big_quiet_on
             | (apply Exists.intro
                refine ⟨fun w' hC => ?_, ?_⟩
                · (first
                    | with_reducible rfl
                    | (go_at_call 10; refine (compare_any _ _ _ _ _).mono ?_; rintro e w2 ⟨rfl, hb⟩; exact ⟨rfl, hC.call hb⟩) | (go_at_call 11; refine (refCompare_any _ _ _ _ _).mono ?_; rintro e w2 ⟨rfl, hb⟩; exact ⟨rfl, hC.call hb⟩) | (go_at_call 12; refine (num_any _ _).mono ?_; rintro e w2 ⟨rfl, rfl⟩; exact ⟨rfl, hC⟩) | (go_at_call 13; refine (refRight13_at _ _ _ _ HC.out _).mono ?_; rintro e w2 ⟨rfl, hb⟩; exact ⟨rfl, hC.call hb⟩) | (go_at_call 14; refine (works_any _).mono ?_; rintro e w2 ⟨rfl, hb⟩; exact ⟨rfl, hC.call hb⟩)
                    | (go_simp; done)
                    | (go_simp; with_reducible rfl))
                go_big_quiet_on)))
    refine wpQuiet_nil ?_
    intro wq hq
    clear c0 c1 c2 c3 c4 c5
    go_wp2
    go_returns
    exact ⟨rfl, bb.trans (Below.mono hq bb.size)⟩
end Go.Proofs.Ytkohpfkgdigaiaa
