
/- Package ballot: the choir's checks, which are function values in a slice. -/
import Derived.Test.YtcahkcbenanfnaaDoorBaA
import Derived.Shelf.RegionOpen
namespace Go.Proofs.YtcahkcbenanfnaaDoor
set_option linter.unusedSimpArgs false
set_option linter.unusedVariables false
open Go.RowKit

def hiB (r : Int) : Bool := decide (0 ≤ r) && decide (r ≤ 2147483647)
def chkB (c r p : Int) : Bool := rightB c && (hiB r && inB p 0 c)
def chkI (c r p : Int) : Int := if chkB c r p then 0 else 2
def ptr (b : Nat) : Value := .pointer (some ⟨b, 0, none⟩)
def blt (r p : Int) : Value := .agg #[.int .i64 r, .int .i64 p]

theorem keep_alloc {w : World} {b o : Nat} {v : Value} (h : w.cell? ⟨b, o, none⟩ = some v) (x : Obj) : (w.alloc x).cell? ⟨b, o, none⟩ = some v :=
  (((Below.refl w.heap.size w).alloc (Nat.le_refl _) x).cell (p := ⟨b, o, none⟩) (World.block_lt_of_cell? w _ h)).trans h

set_option maxRecDepth 100000 in
set_option maxHeartbeats 400000 in
theorem wrong1_at (c r p : Int) (b : Nat) (v : Bool) (w : World) (hc : w.cell? ⟨b, 0, none⟩ = some (.int .i64 c)) (hv : rightB c = v) :
    Calls Tryd.prog 84 #[.agg #[.int .i64 r, .int .i64 p], .pointer (some ⟨b, 0, none⟩)] w fun e w' => e = .returned (.bool (!v)) ∧ Below w.heap.size w w' := by
  have he : errI c = (if v then 0 else 2) := by unfold errI; rw [hv]
  have hk := keep_alloc hc
  cases v
  all_goals
    simp only [Bool.false_eq_true, if_false, if_true] at he
    have HE := Lib.hid he
    clear he
    clear hv
    go_enter Tryd.func84, Tryd.ntmps84
    go_wp2_with fail
    refine (check_at _ _ HE.out _).mono ?_
    rintro e w1 ⟨rfl, b1⟩
    go_wp2_with fail
    go_ret
    exact ⟨rfl, ((Below.refl _ _).alloc (Nat.le_refl _) _).trans (b1.mono (by simp))⟩
set_option maxRecDepth 100000 in
set_option maxHeartbeats 400000 in
theorem wrong2_at (r p : Int) (v : Bool) (w : World) (hv : hiB r = v) :
    Calls Tryd.prog 86 #[.agg #[.int .i64 r, .int .i64 p]] w fun e w' => e = .returned (.bool (!v)) ∧ Below w.heap.size w w' := by
  subst hv
  go_enter Tryd.func86, Tryd.ntmps86
  go_wp2
  all_goals (go_ret; exact ⟨ret_bool (by rw [Bool.eq_iff_iff]; simp [hiB] <;> omega), (Below.refl _ _).alloc (Nat.le_refl _) _⟩)
set_option maxRecDepth 100000 in
set_option maxHeartbeats 400000 in
theorem wrong3_at (c r p : Int) (b : Nat) (v : Bool) (w : World) (hc : w.cell? ⟨b, 0, none⟩ = some (.int .i64 c)) (hv : inB p 0 c = v) :
    Calls Tryd.prog 87 #[.agg #[.int .i64 r, .int .i64 p], .pointer (some ⟨b, 0, none⟩)] w fun e w' => e = .returned (.bool (!v)) ∧ Below w.heap.size w w' := by
  have hk := keep_alloc hc
  subst hv
  go_enter Tryd.func87, Tryd.ntmps87
  go_wp2
  all_goals (go_ret; exact ⟨ret_bool (by rw [Bool.eq_iff_iff]; simp [inB] <;> omega), (Below.refl _ _).alloc (Nat.le_refl _) _⟩)
set_option maxRecDepth 100000 in
set_option maxHeartbeats 400000 in
theorem wrong_any (c : Int) (w : World) :
    Calls Tryd.prog 70 #[.int .i64 c] w fun e w' => e = .returned (.slice (some ⟨w.heap.size + 1, 0, none⟩) 3 3) ∧ Below w.heap.size w w' ∧ w.heap.size + 1 < w'.heap.size ∧ w'.cell? ⟨w.heap.size, 0, none⟩ = some (.int .i64 c) ∧
      w'.cell? ⟨w.heap.size + 1, 0, none⟩ = some (.func (.func 84) #[] #[.pointer (some ⟨w.heap.size, 0, none⟩)]) ∧ w'.cell? ⟨w.heap.size + 1, 1, none⟩ = some (.func (.func 86) #[] #[]) ∧
      w'.cell? ⟨w.heap.size + 1, 2, none⟩ = some (.func (.func 87) #[] #[.pointer (some ⟨w.heap.size, 0, none⟩)]) := by
  go_enter Tryd.func70, Tryd.ntmps70
  go_wp2
  go_ret
  exact ⟨rfl, ((Below.refl _ _).alloc (Nat.le_refl _) _).alloc (by simp) _, by simp, by go_simp, by go_simp, by go_simp, by go_simp⟩
set_option maxRecDepth 100000 in
set_option maxHeartbeats 1000000 in
theorem bcheck_any (c r p : Int) (w : World) :
    Calls Tryd.prog 52 #[.int .i64 c, .agg #[.int .i64 r, .int .i64 p]] w fun e w' => e = .returned (.int .i64 (chkI c r p)) ∧ Below w.heap.size w w' := by
  cases hr : rightB c
  · have hv : chkI c r p = 2 := by simp [chkI, chkB, hr]
    rw [hv]
    clear hv
    have HR := Lib.hid hr
    clear hr
    go_enter Tryd.func52, Tryd.ntmps52
    go_wp2_with fail
    refine (wrong_any _ _).mono ?_
    rintro e w1 ⟨rfl, b1, hs, c0, f1, f2, f3⟩
    have d0 := (b1.cell (p := ⟨w.heap.size, 0, none⟩) (show _ < _ by simp)).trans (show _ = some (Value.int .i64 r) by simp)
    have d1 := (b1.cell (p := ⟨w.heap.size, 1, none⟩) (show _ < _ by simp)).trans (show _ = some (Value.int .i64 p) by simp)
    have bb : Below w.heap.size w w1 := ((Below.refl _ _).alloc (Nat.le_refl _) _).trans (b1.mono (by simp))
    clear b1
    simp only [World.size_alloc] at hs c0 f1 f2 f3
    go_wp2_with fail
    refine wp_loop_rounds 4 ?_
    rw [rounds_succ]
    go_wp2_with fail
    refine (wrong1_at _ _ _ _ false _ c0 HR.out).mono ?_
    rintro e w2 ⟨rfl, b2⟩
    go_wp2_with fail
    go_ret
    exact ⟨rfl, bb.trans (b2.mono bb.size)⟩
  · cases hh : hiB r
    · have hv : chkI c r p = 2 := by simp [chkI, chkB, hr, hh]
      rw [hv]
      clear hv
      have HR := Lib.hid hr
      clear hr
      have HH := Lib.hid hh
      clear hh
      go_enter Tryd.func52, Tryd.ntmps52
      go_wp2_with fail
      refine (wrong_any _ _).mono ?_
      rintro e w1 ⟨rfl, b1, hs, c0, f1, f2, f3⟩
      have d0 := (b1.cell (p := ⟨w.heap.size, 0, none⟩) (show _ < _ by simp)).trans (show _ = some (Value.int .i64 r) by simp)
      have d1 := (b1.cell (p := ⟨w.heap.size, 1, none⟩) (show _ < _ by simp)).trans (show _ = some (Value.int .i64 p) by simp)
      have bb : Below w.heap.size w w1 := ((Below.refl _ _).alloc (Nat.le_refl _) _).trans (b1.mono (by simp))
      clear b1
      simp only [World.size_alloc] at hs c0 f1 f2 f3
      go_wp2_with fail
      refine wp_loop_rounds 4 ?_
      rw [rounds_succ]
      go_wp2_with fail
      refine (wrong1_at _ _ _ _ true _ c0 HR.out).mono ?_
      rintro e w2 ⟨rfl, b2⟩
      replace d0 := (b2.cell (p := ⟨w.heap.size, 0, none⟩) (show _ < _ by have := hs; simp; omega)).trans d0
      replace d1 := (b2.cell (p := ⟨w.heap.size, 1, none⟩) (show _ < _ by have := hs; simp; omega)).trans d1
      replace c0 := (b2.cell (p := ⟨w.heap.size + 1, 0, none⟩) (show _ < _ by have := hs; simp; omega)).trans c0
      replace f1 := (b2.cell (p := ⟨w.heap.size + 1 + 1, 0, none⟩) (show _ < _ by have := hs; simp; omega)).trans f1
      replace f2 := (b2.cell (p := ⟨w.heap.size + 1 + 1, 1, none⟩) (show _ < _ by have := hs; simp; omega)).trans f2
      replace f3 := (b2.cell (p := ⟨w.heap.size + 1 + 1, 2, none⟩) (show _ < _ by have := hs; simp; omega)).trans f3
      replace hs := Nat.lt_of_lt_of_le hs b2.size
      replace bb := bb.trans (b2.mono bb.size)
      clear b2
      go_wp2_with fail
      rw [rounds_succ]
      go_wp2_with fail
      refine (wrong2_at _ _ false _ HH.out).mono ?_
      rintro e w3 ⟨rfl, b2⟩
      go_wp2_with fail
      go_ret
      exact ⟨rfl, bb.trans (b2.mono bb.size)⟩
    · cases hi : inB p 0 c
      · have hv : chkI c r p = 2 := by simp [chkI, chkB, hr, hh, hi]
        rw [hv]
        clear hv
        have HR := Lib.hid hr
        clear hr
        have HH := Lib.hid hh
        clear hh
        have HI := Lib.hid hi
        clear hi
        go_enter Tryd.func52, Tryd.ntmps52
        go_wp2_with fail
        refine (wrong_any _ _).mono ?_
        rintro e w1 ⟨rfl, b1, hs, c0, f1, f2, f3⟩
        have d0 := (b1.cell (p := ⟨w.heap.size, 0, none⟩) (show _ < _ by simp)).trans (show _ = some (Value.int .i64 r) by simp)
        have d1 := (b1.cell (p := ⟨w.heap.size, 1, none⟩) (show _ < _ by simp)).trans (show _ = some (Value.int .i64 p) by simp)
        have bb : Below w.heap.size w w1 := ((Below.refl _ _).alloc (Nat.le_refl _) _).trans (b1.mono (by simp))
        clear b1
        simp only [World.size_alloc] at hs c0 f1 f2 f3
        go_wp2_with fail
        refine wp_loop_rounds 4 ?_
        rw [rounds_succ]
        go_wp2_with fail
        refine (wrong1_at _ _ _ _ true _ c0 HR.out).mono ?_
        rintro e w2 ⟨rfl, b2⟩
        replace d0 := (b2.cell (p := ⟨w.heap.size, 0, none⟩) (show _ < _ by have := hs; simp; omega)).trans d0
        replace d1 := (b2.cell (p := ⟨w.heap.size, 1, none⟩) (show _ < _ by have := hs; simp; omega)).trans d1
        replace c0 := (b2.cell (p := ⟨w.heap.size + 1, 0, none⟩) (show _ < _ by have := hs; simp; omega)).trans c0
        replace f1 := (b2.cell (p := ⟨w.heap.size + 1 + 1, 0, none⟩) (show _ < _ by have := hs; simp; omega)).trans f1
        replace f2 := (b2.cell (p := ⟨w.heap.size + 1 + 1, 1, none⟩) (show _ < _ by have := hs; simp; omega)).trans f2
        replace f3 := (b2.cell (p := ⟨w.heap.size + 1 + 1, 2, none⟩) (show _ < _ by have := hs; simp; omega)).trans f3
        replace hs := Nat.lt_of_lt_of_le hs b2.size
        replace bb := bb.trans (b2.mono bb.size)
        clear b2
        go_wp2_with fail
        rw [rounds_succ]
        go_wp2_with fail
        refine (wrong2_at _ _ true _ HH.out).mono ?_
        rintro e w3 ⟨rfl, b2⟩
        replace d0 := (b2.cell (p := ⟨w.heap.size, 0, none⟩) (show _ < _ by have := hs; simp; omega)).trans d0
        replace d1 := (b2.cell (p := ⟨w.heap.size, 1, none⟩) (show _ < _ by have := hs; simp; omega)).trans d1
        replace c0 := (b2.cell (p := ⟨w.heap.size + 1, 0, none⟩) (show _ < _ by have := hs; simp; omega)).trans c0
        replace f1 := (b2.cell (p := ⟨w.heap.size + 1 + 1, 0, none⟩) (show _ < _ by have := hs; simp; omega)).trans f1
        replace f2 := (b2.cell (p := ⟨w.heap.size + 1 + 1, 1, none⟩) (show _ < _ by have := hs; simp; omega)).trans f2
        replace f3 := (b2.cell (p := ⟨w.heap.size + 1 + 1, 2, none⟩) (show _ < _ by have := hs; simp; omega)).trans f3
        replace hs := Nat.lt_of_lt_of_le hs b2.size
        replace bb := bb.trans (b2.mono bb.size)
        clear b2
        go_wp2_with fail
        rw [rounds_succ]
        go_wp2_with fail
        refine (wrong3_at _ _ _ _ false _ c0 HI.out).mono ?_
        rintro e w4 ⟨rfl, b2⟩
        go_wp2_with fail
        go_ret
        exact ⟨rfl, bb.trans (b2.mono bb.size)⟩
      · have hv : chkI c r p = 0 := by simp [chkI, chkB, hr, hh, hi]
        rw [hv]
        clear hv
        have HR := Lib.hid hr
        clear hr
        have HH := Lib.hid hh
        clear hh
        have HI := Lib.hid hi
        clear hi
        go_enter Tryd.func52, Tryd.ntmps52
        go_wp2_with fail
        refine (wrong_any _ _).mono ?_
        rintro e w1 ⟨rfl, b1, hs, c0, f1, f2, f3⟩
        have d0 := (b1.cell (p := ⟨w.heap.size, 0, none⟩) (show _ < _ by simp)).trans (show _ = some (Value.int .i64 r) by simp)
        have d1 := (b1.cell (p := ⟨w.heap.size, 1, none⟩) (show _ < _ by simp)).trans (show _ = some (Value.int .i64 p) by simp)
        have bb : Below w.heap.size w w1 := ((Below.refl _ _).alloc (Nat.le_refl _) _).trans (b1.mono (by simp))
        clear b1
        simp only [World.size_alloc] at hs c0 f1 f2 f3
        go_wp2_with fail
        refine wp_loop_rounds 4 ?_
        rw [rounds_succ]
        go_wp2_with fail
        refine (wrong1_at _ _ _ _ true _ c0 HR.out).mono ?_
        rintro e w2 ⟨rfl, b2⟩
        replace d0 := (b2.cell (p := ⟨w.heap.size, 0, none⟩) (show _ < _ by have := hs; simp; omega)).trans d0
        replace d1 := (b2.cell (p := ⟨w.heap.size, 1, none⟩) (show _ < _ by have := hs; simp; omega)).trans d1
        replace c0 := (b2.cell (p := ⟨w.heap.size + 1, 0, none⟩) (show _ < _ by have := hs; simp; omega)).trans c0
        replace f1 := (b2.cell (p := ⟨w.heap.size + 1 + 1, 0, none⟩) (show _ < _ by have := hs; simp; omega)).trans f1
        replace f2 := (b2.cell (p := ⟨w.heap.size + 1 + 1, 1, none⟩) (show _ < _ by have := hs; simp; omega)).trans f2
        replace f3 := (b2.cell (p := ⟨w.heap.size + 1 + 1, 2, none⟩) (show _ < _ by have := hs; simp; omega)).trans f3
        replace hs := Nat.lt_of_lt_of_le hs b2.size
        replace bb := bb.trans (b2.mono bb.size)
        clear b2
        go_wp2_with fail
        rw [rounds_succ]
        go_wp2_with fail
        refine (wrong2_at _ _ true _ HH.out).mono ?_
        rintro e w3 ⟨rfl, b2⟩
        replace d0 := (b2.cell (p := ⟨w.heap.size, 0, none⟩) (show _ < _ by have := hs; simp; omega)).trans d0
        replace d1 := (b2.cell (p := ⟨w.heap.size, 1, none⟩) (show _ < _ by have := hs; simp; omega)).trans d1
        replace c0 := (b2.cell (p := ⟨w.heap.size + 1, 0, none⟩) (show _ < _ by have := hs; simp; omega)).trans c0
        replace f1 := (b2.cell (p := ⟨w.heap.size + 1 + 1, 0, none⟩) (show _ < _ by have := hs; simp; omega)).trans f1
        replace f2 := (b2.cell (p := ⟨w.heap.size + 1 + 1, 1, none⟩) (show _ < _ by have := hs; simp; omega)).trans f2
        replace f3 := (b2.cell (p := ⟨w.heap.size + 1 + 1, 2, none⟩) (show _ < _ by have := hs; simp; omega)).trans f3
        replace hs := Nat.lt_of_lt_of_le hs b2.size
        replace bb := bb.trans (b2.mono bb.size)
        clear b2
        go_wp2_with fail
        rw [rounds_succ]
        go_wp2_with fail
        refine (wrong3_at _ _ _ _ true _ c0 HI.out).mono ?_
        rintro e w4 ⟨rfl, b2⟩
        replace d0 := (b2.cell (p := ⟨w.heap.size, 0, none⟩) (show _ < _ by have := hs; simp; omega)).trans d0
        replace d1 := (b2.cell (p := ⟨w.heap.size, 1, none⟩) (show _ < _ by have := hs; simp; omega)).trans d1
        replace c0 := (b2.cell (p := ⟨w.heap.size + 1, 0, none⟩) (show _ < _ by have := hs; simp; omega)).trans c0
        replace f1 := (b2.cell (p := ⟨w.heap.size + 1 + 1, 0, none⟩) (show _ < _ by have := hs; simp; omega)).trans f1
        replace f2 := (b2.cell (p := ⟨w.heap.size + 1 + 1, 1, none⟩) (show _ < _ by have := hs; simp; omega)).trans f2
        replace f3 := (b2.cell (p := ⟨w.heap.size + 1 + 1, 2, none⟩) (show _ < _ by have := hs; simp; omega)).trans f3
        replace hs := Nat.lt_of_lt_of_le hs b2.size
        replace bb := bb.trans (b2.mono bb.size)
        clear b2
        go_wp2_with fail
        rw [rounds_succ]
        go_wp2_with fail
        go_ret
        exact ⟨rfl, bb⟩
theorem bcheck_at (c r p e : Int) (h : chkI c r p = e) (w : World) : Calls Tryd.prog 52 #[.int .i64 c, .agg #[.int .i64 r, .int .i64 p]] w fun x w' => x = .returned (.int .i64 e) ∧ Below w.heap.size w w' := h ▸ bcheck_any c r p w
end Go.Proofs.YtcahkcbenanfnaaDoor
