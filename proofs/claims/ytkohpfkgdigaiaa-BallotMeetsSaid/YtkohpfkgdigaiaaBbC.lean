
/- 'BallotMeets': the walk where the choir is wrong, or a slice is long; joined. -/
import Derived.Test.YtkohpfkgdigaiaaBbB
import Derived.Sort.CutIn
import Derived.StillTailTactics
namespace Go.Proofs.Ytkohpfkgdigaiaa
open Go.RowKit Go.Shelf
attribute [local go_sem] Oper.semAt_some

set_option maxRecDepth 100000 in
set_option maxHeartbeats 4000000 in
theorem BallotMeets_no (c r1 p1 r2 p2 r3 p3 : Int) (x1 x2 : Option Addr) (n1 n2 k1 k2 : Nat) (w : World) (m1 : n1 ≤ 20) (m2 : n2 ≤ 20) (hr : rightB c = false) :
    Calls Try.prog 6 #[.int .i64 c, .agg #[.int .i64 r1, .int .i64 p1], .agg #[.int .i64 r2, .int .i64 p2], .agg #[.int .i64 r3, .int .i64 p3], .slice x1 n1 k1, .slice x2 n2 k2] w fun e w' => e = .returned (.bool true) ∧ Below w.heap.size w w' := by
  have m1' : (n1 : Int) ≤ 20 := by omega
  have m2' : (n2 : Int) ≤ 20 := by omega
  refine callsIn_wide (n := 3).1 ?_
  obtain ⟨xy, hxy⟩ : ∃ v, cmpI r1 p1 r2 p2 = v := ⟨_, rfl⟩
  obtain ⟨yx, hyx⟩ : ∃ v, cmpI r2 p2 r1 p1 = v := ⟨_, rfl⟩
  obtain ⟨yz, hyz⟩ : ∃ v, cmpI r2 p2 r3 p3 = v := ⟨_, rfl⟩
  obtain ⟨xz, hxz⟩ : ∃ v, cmpI r1 p1 r3 p3 = v := ⟨_, rfl⟩
  obtain ⟨f1, f2, f3⟩ := cmp_facts r1 p1 r2 p2 r3 p3
  rw [hxy, hyx] at f1
  rw [hxy] at f2
  rw [hyz, hxy, hxz] at f3
  have XY := Lib.hid hxy
  clear hxy
  have YX := Lib.hid hyx
  clear hyx
  have YZ := Lib.hid hyz
  clear hyz
  have XZ := Lib.hid hxz
  clear hxz
  have F1 := Lib.hid f1
  clear f1
  have F2 := Lib.hid f2
  clear f2
  have F3 := Lib.hid f3
  clear f3
  refine callsIn_of_wp_marks Try.func6 rfl trivial ?_ rfl
  simp only [Try.ntmps6, List.size_toArray, List.length_cons, List.length_nil, Nat.reduceAdd, Nat.reduceSub, Array.replicate_succ, Array.replicate_zero, List.push_toArray, List.append_toArray, List.nil_append, List.cons_append]
  gi_wp2_with fail
  have A := (Blk.new w 23 [.int .i64 r1, .int .i64 p1]).alloc (.cells #[.int .i64 r2, .int .i64 p2] 23) |>.alloc (.cells #[.int .i64 r3, .int .i64 p3] 23)
  have B := (Blk.new (w.alloc (.cells #[.int .i64 r1, .int .i64 p1] 23)) 23 [.int .i64 r2, .int .i64 p2]).alloc (.cells #[.int .i64 r3, .int .i64 p3] 23)
  have C := Blk.new ((w.alloc (.cells #[.int .i64 r1, .int .i64 p1] 23)).alloc (.cells #[.int .i64 r2, .int .i64 p2] 23)) 23 [.int .i64 r3, .int .i64 p3]
  have bb : Below w.heap.size w (((w.alloc (.cells #[.int .i64 r1, .int .i64 p1] 23)).alloc (.cells #[.int .i64 r2, .int .i64 p2] 23)).alloc (.cells #[.int .i64 r3, .int .i64 p3] 23)) := by go_grown
  have c0 := ext_cell (A.cell (j := 0) rfl)
  have c1 := ext_cell (A.cell (j := 1) rfl)
  have c2 := ext_cell (B.cell (j := 0) rfl)
  have c3 := ext_cell (B.cell (j := 1) rfl)
  have c4 := ext_cell (C.cell (j := 0) rfl)
  have c5 := ext_cell (C.cell (j := 1) rfl)
  simp only [World.size_alloc] at c2 c3 c4 c5
  refine (wpIn_wide (n := 3)).2 ?_
  refine wp_region_ext (by kernel_rfl) (by kernel_rfl) ?_
  repeat
    (first
      | go_big_quiet_skip
      | (go_big_quiet_want
         go_big_quiet_op
         first
           | go_big_quiet_on
           | (apply Exists.intro
              refine ⟨fun w' hC => ?_, ?_⟩
              · (first
                  | with_reducible rfl
                  | (go_at_call 10; refine (compare_any _ _ _ _ _).mono ?_; rintro e w2 ⟨rfl, hb⟩; exact ⟨rfl, hC.call hb⟩)
                  | (go_simp; done)
                  | (go_simp; with_reducible rfl))
              go_big_quiet_on)))
  refine wpQuiet_nil ?_
  intro wq hq
  rw [XY.out, YX.out, YZ.out, XZ.out]
  clear c0 c1 c2 c3 c4 c5
  replace A := A.step hq
  replace B := B.step hq
  replace bb := bb.trans (Below.mono hq bb.size)
  have c0 := A.cell (j := 0) rfl
  have c1 := A.cell (j := 1) rfl
  have c2 := B.cell (j := 0) rfl
  have c3 := B.cell (j := 1) rfl
  simp only [World.size_alloc] at c2 c3
  clear A B C hq XY YX YZ XZ
  gi_upto_region 4 with fail
  gi_cut [80] from 46 (fun s w' => s = .bool false ∧ w' = wq)
  case first =>
    obtain ⟨e0, rfl, rfl⟩ | ⟨e0, hn⟩ | ⟨e0, hn⟩ := F2.out
    · subst e0
      have ey := F1.out
      simp only [Int.neg_zero] at ey
      subst ey
      clear F1 F2 F3
      gi_wp2_with fail
      gi_meet
      case rel => exact ⟨rfl, rfl⟩
    · subst e0
      have ey := F1.out
      subst ey
      clear F1 F2 F3
      by_cases e1 : r1 = r2
      · subst e1
        have e2 : ¬ p1 = p2 := fun e => hn ⟨rfl, e⟩
        clear hn
        gi_wp2_with fail
        all_goals (gi_meet; (case rel => exact ⟨rfl, rfl⟩))
      · clear hn
        by_cases e2 : p1 = p2
        · subst e2
          gi_wp2_with fail
          all_goals (gi_meet; (case rel => exact ⟨rfl, rfl⟩))
        · gi_wp2_with fail
          all_goals (gi_meet; (case rel => exact ⟨rfl, rfl⟩))
    · subst e0
      have ey := F1.out
      subst ey
      obtain ⟨ez, ef⟩ | ez | ez := F3.out
      · have ex := ef rfl
        subst ez ex
        clear F1 F2 F3 ef
        by_cases e1 : r1 = r2
        · subst e1
          have e2 : ¬ p1 = p2 := fun e => hn ⟨rfl, e⟩
          clear hn
          gi_wp2_with fail
          all_goals (gi_meet; (case rel => exact ⟨rfl, rfl⟩))
        · clear hn
          by_cases e2 : p1 = p2
          · subst e2
            gi_wp2_with fail
            all_goals (gi_meet; (case rel => exact ⟨rfl, rfl⟩))
          · gi_wp2_with fail
            all_goals (gi_meet; (case rel => exact ⟨rfl, rfl⟩))
      · subst ez
        clear F1 F2 F3
        by_cases e1 : r1 = r2
        · subst e1
          have e2 : ¬ p1 = p2 := fun e => hn ⟨rfl, e⟩
          clear hn
          gi_wp2_with fail
          all_goals (gi_meet; (case rel => exact ⟨rfl, rfl⟩))
        · clear hn
          by_cases e2 : p1 = p2
          · subst e2
            gi_wp2_with fail
            all_goals (gi_meet; (case rel => exact ⟨rfl, rfl⟩))
          · gi_wp2_with fail
            all_goals (gi_meet; (case rel => exact ⟨rfl, rfl⟩))
      · subst ez
        clear F1 F2 F3
        by_cases e1 : r1 = r2
        · subst e1
          have e2 : ¬ p1 = p2 := fun e => hn ⟨rfl, e⟩
          clear hn
          gi_wp2_with fail
          all_goals (gi_meet; (case rel => exact ⟨rfl, rfl⟩))
        · clear hn
          by_cases e2 : p1 = p2
          · subst e2
            gi_wp2_with fail
            all_goals (gi_meet; (case rel => exact ⟨rfl, rfl⟩))
          · gi_wp2_with fail
            all_goals (gi_meet; (case rel => exact ⟨rfl, rfl⟩))
  case rest =>
    obtain ⟨rfl, rfl⟩ := hcut
    clear c0 c1 c2 c3 F1 F2 F3
    gi_wp2_with (apply wpIn_label)
    refine ⟨trivial, ?_⟩
    refine (callsIn_wide.2 (vnew_no c hr _)).mono ?_
    rintro e w1 ⟨rfl, b1⟩
    have bb1 := bb.trans (b1.mono bb.size)
    clear bb b1
    gi_wp2_with (apply wpIn_label)
    refine ⟨trivial, ?_⟩
    refine (callsIn_wide.2 (vnew_no c hr _)).mono ?_
    rintro e w2 ⟨rfl, b2⟩
    have bb2 := bb1.trans (b2.mono bb1.size)
    clear bb1 b2
    have bb3 := bb2.alloc bb2.size (.cells #[.pointer none] 46)
    gi_wp2_with (apply wpIn_label)
    refine ⟨trivial, ?_⟩
    refine (callsIn_wide.2 (num_any _ _)).mono ?_
    rintro e w' ⟨rfl, rfl⟩
    gi_wp2_with (apply wpIn_label)
    refine ⟨trivial, ?_⟩
    gi_wp2_with (apply wpIn_label)
    refine ⟨trivial, ?_⟩
    refine (callsIn_wide.2 (num_any _ _)).mono ?_
    rintro e w' ⟨rfl, rfl⟩
    gi_wp2_with (apply wpIn_label)
    refine ⟨trivial, ?_⟩
    refine (callsIn_wide.2 (num_any _ _)).mono ?_
    rintro e w' ⟨rfl, rfl⟩
    gi_wp2_with (apply wpIn_label)
    refine ⟨trivial, ?_⟩
    refine (callsIn_wide.2 (works_any _)).mono ?_
    rintro e w4 ⟨rfl, b4⟩
    gi_wp2
    exact leaves_nil (v := .bool true) rfl (by simp [results, Try.results6, go_sem]) ⟨rfl, bb3.trans (b4.mono bb3.size)⟩
set_option maxRecDepth 100000 in
set_option maxHeartbeats 4000000 in
theorem BallotMeets_walk (c r1 p1 r2 p2 r3 p3 : Int) (x1 : Option Addr) (n1 k1 : Nat) (x2 : Option Addr) (n2 k2 : Nat) (w : World) (h1 : SlI w x1 n1) (h2 : SlI w x2 n2) :
    Calls Try.prog 6 #[.int .i64 c, .agg #[.int .i64 r1, .int .i64 p1], .agg #[.int .i64 r2, .int .i64 p2], .agg #[.int .i64 r3, .int .i64 p3], .slice x1 n1 k1, .slice x2 n2 k2] w fun e w' => e = .returned (.bool true) ∧ Below w.heap.size w w' := by
  by_cases m1 : n1 ≤ 20
  · by_cases m2 : n2 ≤ 20
    · cases hr : rightB c
      · exact BallotMeets_no c r1 p1 r2 p2 r3 p3 x1 x2 n1 n2 k1 k2 w m1 m2 hr
      · exact BallotMeets_near c r1 p1 r2 p2 r3 p3 x1 x2 n1 n2 k1 k2 w h1 h2 m1 m2 hr
    · have m1' : (n1 : Int) ≤ 20 := by omega
      have m2' : (20 : Int) < (n2 : Int) := by omega
      clear h1 h2
      refine callsIn_wide (n := 3).1 ?_
      refine callsIn_of_wp_marks Try.func6 rfl trivial ?_ rfl
      simp only [Try.ntmps6, List.size_toArray, List.length_cons, List.length_nil, Nat.reduceAdd, Nat.reduceSub, Array.replicate_succ, Array.replicate_zero, List.push_toArray, List.append_toArray, List.nil_append, List.cons_append]
      gi_wp2_with fail
      gi_wp2_with (apply wpIn_label)
      refine ⟨trivial, ?_⟩
      refine (callsIn_wide.2 (works_any _)).mono ?_
      rintro e w4 ⟨rfl, b4⟩
      have bb : Below w.heap.size w (((w.alloc (.cells #[.int .i64 r1, .int .i64 p1] 23)).alloc (.cells #[.int .i64 r2, .int .i64 p2] 23)).alloc (.cells #[.int .i64 r3, .int .i64 p3] 23)) := by go_grown
      gi_wp2
      exact leaves_nil (v := .bool true) rfl (by simp [results, Try.results6, go_sem]) ⟨rfl, bb.trans (b4.mono bb.size)⟩
  · have m1' : (20 : Int) < (n1 : Int) := by omega
    clear h1 h2
    refine callsIn_wide (n := 3).1 ?_
    refine callsIn_of_wp_marks Try.func6 rfl trivial ?_ rfl
    simp only [Try.ntmps6, List.size_toArray, List.length_cons, List.length_nil, Nat.reduceAdd, Nat.reduceSub, Array.replicate_succ, Array.replicate_zero, List.push_toArray, List.append_toArray, List.nil_append, List.cons_append]
    gi_wp2_with fail
    gi_wp2_with (apply wpIn_label)
    refine ⟨trivial, ?_⟩
    refine (callsIn_wide.2 (works_any _)).mono ?_
    rintro e w4 ⟨rfl, b4⟩
    have bb : Below w.heap.size w (((w.alloc (.cells #[.int .i64 r1, .int .i64 p1] 23)).alloc (.cells #[.int .i64 r2, .int .i64 p2] 23)).alloc (.cells #[.int .i64 r3, .int .i64 p3] 23)) := by go_grown
    gi_wp2
    exact leaves_nil (v := .bool true) rfl (by simp [results, Try.results6, go_sem]) ⟨rfl, bb.trans (b4.mono bb.size)⟩
end Go.Proofs.Ytkohpfkgdigaiaa
