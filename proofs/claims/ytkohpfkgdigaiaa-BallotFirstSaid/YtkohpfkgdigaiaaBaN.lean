
/- 'BallotFirst': the walk. -/
import Derived.Test.YtkohpfkgdigaiaaBaL
namespace Go.Proofs.Ytkohpfkgdigaiaa
open Go.RowKit

theorem refOwner_at (n s v e : Int) (h1 : ownerI n s = v) (h2 : opErr n s = e) (w : World) : Calls Try.prog 18 #[.int .i64 n, .int .i64 s] w fun r w' => r = .returned (.tuple #[.int .i64 v, .int .i64 e]) ∧ Below w.heap.size w w' := by
  subst h1 h2
  refine (refOwner_any n s w).mono ?_
  rintro r w' ⟨h, rfl⟩
  exact ⟨h, Below.refl _ _⟩
set_option maxRecDepth 100000 in
set_option maxHeartbeats 2000000 in
theorem BallotFirst_walk (c s r p : Int) (w : World) : Calls Try.prog 4 #[.int .i64 c, .int .i64 s, .agg #[.int .i64 r, .int .i64 p]] w fun e w' => e = .returned (.bool true) ∧ Below w.heap.size w w' := by
  obtain ⟨o, ho⟩ : ∃ o, ownerI c s = o := ⟨_, rfl⟩
  obtain ⟨x, hx⟩ : ∃ x, opErr c s = x := ⟨_, rfl⟩
  by_cases hx0 : x = 0
  · subst hx0
    obtain ⟨h0, h1, s0, s1, hoo⟩ : 3 ≤ c ∧ c ≤ 9 ∧ 0 ≤ s ∧ s ≤ 4095 ∧ o = s % c := by
      rcases opErr_cases c s with ⟨-, h, h'⟩ | ⟨h, -⟩
      · obtain ⟨a, b⟩ := right_bd h
        obtain ⟨d, e⟩ := slot_bd h'
        exact ⟨a, b, d, e, by rw [← ho]; simp [ownerI, ofI, h, h']⟩
      · exact absurd hx h
    subst hoo
    have HO := Lib.hid ho
    clear ho
    have HX := Lib.hid hx
    clear hx
    go_enter Try.func4, Try.ntmps4
    go_wp2_with fail
    refine (first_at _ _ _ _ HO.out HX.out _).mono ?_
    rintro e w1 ⟨rfl, b1⟩
    have b01 : Below w.heap.size w (w.alloc (.cells #[.int .i64 r, .int .i64 p] 23)) := by go_grown
    have bb := b01.trans (b1.mono b01.size)
    have A : Blk (w1.alloc (.cells #[.int .i64 0, .int .i64 (s % c)] 23)) w.heap.size 23 [.int .i64 r, .int .i64 p] := ((Blk.new w _ _).step b1).alloc _
    have F := Blk.new w1 23 [.int .i64 0, .int .i64 (s % c)]
    replace bb := bb.alloc bb.size (.cells #[.int .i64 0, .int .i64 (s % c)] 23)
    clear b01 b1
    have c0 := ext_cell (A.cell (j := 0) rfl)
    have c1 := ext_cell (A.cell (j := 1) rfl)
    clear A
    go_wp2_with fail
    refine wp_region_ext (by kernel_rfl) (by kernel_rfl) ?_
    repeat
      (first
        | go_big_quiet_skip
        | (go_big_quiet_want
           go_big_quiet_op
           first
             | go_big_quiet_on
             | (apply Exists.intro
                refine ⟨fun w' hC => ?_, ?_⟩
                · (first
                    | with_reducible rfl
                    | (go_at_call 16; refine (may_any _ _ _ _ _).mono ?_; rintro e w2 ⟨rfl, hb⟩; exact ⟨rfl, hC.call hb⟩) | (go_at_call 17; refine (refMay_any _ _ _ _ _).mono ?_; rintro e w2 ⟨rfl, hb⟩; exact ⟨rfl, hC.call hb⟩)
                    | (go_simp; done)
                    | (go_simp; with_reducible rfl))
                go_big_quiet_on)))
    refine wpQuiet_nil ?_
    intro wq hq
    replace F := Blk.step F hq
    replace bb := bb.trans (Below.mono hq bb.size)
    clear c0 c1 hq
    go_wp2_with fail
    refine (refOwner_at _ _ _ _ HO.out HX.out _).mono ?_
    rintro e w2 ⟨rfl, b2⟩
    replace F := Blk.step F b2
    replace bb := bb.trans (b2.mono bb.size)
    clear b2
    have f0 := F.cell (j := 0) rfl
    have f1 := F.cell (j := 1) rfl
    have f0' := ext_cell f0
    have f1' := ext_cell f1
    clear f0 f1
    go_wp2_with fail
    refine wp_region_ext (by kernel_rfl) (by kernel_rfl) ?_
    repeat
      (first
        | go_big_quiet_skip
        | (go_big_quiet_want
           go_big_quiet_op
           first
             | go_big_quiet_on
             | (apply Exists.intro
                refine ⟨fun w' hC => ?_, ?_⟩
                · (first
                    | with_reducible rfl
                    | (go_at_call 19; refine (refFirst_any _ _ _ h0 h1 s0 s1).mono ?_; rintro e w2 ⟨rfl, hb⟩; exact ⟨rfl, hC.call hb⟩) | (go_at_call 12; refine (num_any _ _).mono ?_; rintro e w2 ⟨rfl, rfl⟩; exact ⟨rfl, hC⟩) | (go_at_call 14; refine (works_any _).mono ?_; rintro e w2 ⟨rfl, hb⟩; exact ⟨rfl, hC.call hb⟩)
                    | (go_simp; done)
                    | (go_simp; with_reducible rfl))
                go_big_quiet_on)))
    refine wpQuiet_nil ?_
    intro wq hq
    clear f0' f1'
    go_wp2
    go_returns
    exact ⟨rfl, bb.trans (Below.mono hq bb.size)⟩
  · have hoo : o = 0 := by
      rcases opErr_cases c s with ⟨h, -, -⟩ | ⟨-, h⟩
      · exact absurd (hx.symm.trans h) hx0
      · rw [← ho]; rcases h with h | h <;> simp [ownerI, ofI, h]
    subst hoo
    have HO := Lib.hid ho
    clear ho
    have HX := Lib.hid hx
    clear hx
    go_enter Try.func4, Try.ntmps4
    go_wp2_with fail
    refine (first_at _ _ _ _ HO.out HX.out _).mono ?_
    rintro e w1 ⟨rfl, b1⟩
    have b01 : Below w.heap.size w (w.alloc (.cells #[.int .i64 r, .int .i64 p] 23)) := by go_grown
    have bb := b01.trans (b1.mono b01.size)
    have A : Blk (w1.alloc (.cells #[.int .i64 0, .int .i64 0] 23)) w.heap.size 23 [.int .i64 r, .int .i64 p] := ((Blk.new w _ _).step b1).alloc _
    have F := Blk.new w1 23 [.int .i64 0, .int .i64 0]
    replace bb := bb.alloc bb.size (.cells #[.int .i64 0, .int .i64 0] 23)
    clear b01 b1
    have c0 := ext_cell (A.cell (j := 0) rfl)
    have c1 := ext_cell (A.cell (j := 1) rfl)
    clear A
    go_wp2_with fail
    refine wp_region_ext (by kernel_rfl) (by kernel_rfl) ?_
    repeat
      (first
        | go_big_quiet_skip
        | (go_big_quiet_want
           go_big_quiet_op
           first
             | go_big_quiet_on
             | (apply Exists.intro
                refine ⟨fun w' hC => ?_, ?_⟩
                · (first
                    | with_reducible rfl
                    | (go_at_call 16; refine (may_any _ _ _ _ _).mono ?_; rintro e w2 ⟨rfl, hb⟩; exact ⟨rfl, hC.call hb⟩) | (go_at_call 17; refine (refMay_any _ _ _ _ _).mono ?_; rintro e w2 ⟨rfl, hb⟩; exact ⟨rfl, hC.call hb⟩)
                    | (go_simp; done)
                    | (go_simp; with_reducible rfl))
                go_big_quiet_on)))
    refine wpQuiet_nil ?_
    intro wq hq
    replace F := Blk.step F hq
    replace bb := bb.trans (Below.mono hq bb.size)
    clear c0 c1 hq
    go_wp2_with fail
    refine (refOwner_at _ _ _ _ HO.out HX.out _).mono ?_
    rintro e w2 ⟨rfl, b2⟩
    replace F := Blk.step F b2
    replace bb := bb.trans (b2.mono bb.size)
    clear b2
    have f0 := F.cell (j := 0) rfl
    have f1 := F.cell (j := 1) rfl
    go_wp2_with fail
    refine (num_any _ _).mono ?_
    rintro e w3 ⟨rfl, rfl⟩
    go_wp2_with fail
    refine (works_any _).mono ?_
    rintro e w3 ⟨rfl, b3⟩
    go_wp2_with fail
    go_returns
    exact ⟨rfl, bb.trans (b3.mono bb.size)⟩
end Go.Proofs.Ytkohpfkgdigaiaa
