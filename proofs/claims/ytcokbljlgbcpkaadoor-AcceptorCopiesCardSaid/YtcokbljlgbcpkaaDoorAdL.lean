
/- As BaL, without the ballots' votes. -/
import Derived.Test.YtcokbljlgbcpkaaDoorBaC
import Derived.BigQuiet
namespace Go.Proofs.YtcokbljlgbcpkaaDoor
open Go.RowKit

/-- W' is W with new blocks. -/
def Ext (W W' : World) : Prop := Below W.heap.size W W'
theorem Ext.call {W W' W'' : World} (h : Ext W W') (hb : Below W'.heap.size W' W'') : Ext W W'' := Below.trans h (hb.mono h.size)
theorem ext_cell {W : World} {b o : Nat} {v : Value} (h : W.cell? ⟨b, o, none⟩ = some v) (W' : World) (hx : Ext W W') : W'.cell? ⟨b, o, none⟩ = some v := cells_kept hx h
theorem wp_region_ext {P : Program} {id : Nat} {Q : Exit → Act → World → Prop} {a : Act} {w : World} {l : List Oper} (hm : P.follows .mixedOrders = true) (hB : Region.lexB .any l.toArray = true)
    (h : wpQuiet P l.toArray (Ext w) (fun a' => ∀ w', Ext w w' → Q .normal a' w') l a) : (Code.region id l.toArray true).wp P Q a w :=
  wp_region_quiet (C := Ext w) hm hB ⟨rfl, rfl, rfl, Nat.le_refl _, fun _ _ => rfl⟩ (by simpa using h)
theorem refRight13_at (c r p : Int) (v : Bool) (hv : chkB c r p = v) (w : World) : Calls Tryd.prog 67 #[.int .i64 c, .agg #[.int .i64 r, .int .i64 p]] w fun e w' => e = .returned (.bool v) ∧ Below w.heap.size w w' := hv ▸ refRight13_any c r p w
set_option maxRecDepth 100000 in
set_option maxHeartbeats 2000000 in
theorem refMay_any (c s r p : Int) (w : World) : Calls Tryd.prog 51 #[.int .i64 c, .int .i64 s, .agg #[.int .i64 r, .int .i64 p]] w fun e w' => e = .returned (.bool (mayB c s r p)) ∧ Below w.heap.size w w' := by
  rw [may_ref]
  cases hr : rightB c
  · have hv : refMayB c s r p = false := by simp [refMayB, hr]
    rw [hv]; clear hv
    have HR := Lib.hid hr
    clear hr
    go_enter Tryd.func51, Tryd.ntmps51
    go_wp2
    have c0 := ext_cell ((Blk.new w 36 [.int .i64 r, .int .i64 p]).cell (j := 0) rfl)
    have c1 := ext_cell ((Blk.new w 36 [.int .i64 r, .int .i64 p]).cell (j := 1) rfl)
    refine wp_region_ext (by kernel_rfl) (by kernel_rfl) ?_
    repeat
      (first
        | go_big_quiet_skip
        | (go_big_quiet_want
           go_big_quiet_op
           first
             | go_big_quiet_on
             | (apply Exists.intro
                refine ⟨fun w' hC => ?_, ?_⟩
                · (first
                    | with_reducible rfl
                    | (go_at_call 40; refine (refRight_at _ _ HR.out _).mono ?_; rintro e w' ⟨rfl, rfl⟩; exact ⟨rfl, hC⟩)
                    | (go_simp; done)
                    | (go_simp; with_reducible rfl))
                go_big_quiet_on)))
    refine wpQuiet_nil ?_
    intro wq hq
    clear c0 c1
    go_wp2
    go_returns
    exact ⟨rfl, ((Below.refl _ _).alloc (Nat.le_refl _) _).trans (Below.mono hq (by simp))⟩
  · cases hs : slotB s
    · have hv : refMayB c s r p = false := by simp [refMayB, hs]
      rw [hv]; clear hv
      have HR := Lib.hid hr
      clear hr
      have HS := Lib.hid hs
      clear hs
      go_enter Tryd.func51, Tryd.ntmps51
      go_wp2
      have c0 := ext_cell ((Blk.new w 36 [.int .i64 r, .int .i64 p]).cell (j := 0) rfl)
      have c1 := ext_cell ((Blk.new w 36 [.int .i64 r, .int .i64 p]).cell (j := 1) rfl)
      refine wp_region_ext (by kernel_rfl) (by kernel_rfl) ?_
      repeat
        (first
          | go_big_quiet_skip
          | (go_big_quiet_want
             go_big_quiet_op
             first
               | go_big_quiet_on
               | (apply Exists.intro
                  refine ⟨fun w' hC => ?_, ?_⟩
                  · (first
                      | with_reducible rfl
                      | (go_at_call 40; refine (refRight_at _ _ HR.out _).mono ?_; rintro e w' ⟨rfl, rfl⟩; exact ⟨rfl, hC⟩) | (go_at_call 41; refine (refSlot_at _ _ HS.out _).mono ?_; rintro e w' ⟨rfl, rfl⟩; exact ⟨rfl, hC⟩)
                      | (go_simp; done)
                      | (go_simp; with_reducible rfl))
                  go_big_quiet_on)))
      refine wpQuiet_nil ?_
      intro wq hq
      clear c0 c1
      go_wp2
      go_returns
      exact ⟨rfl, ((Below.refl _ _).alloc (Nat.le_refl _) _).trans (Below.mono hq (by simp))⟩
    · cases hc : chkB c r p
      · have hv : refMayB c s r p = false := by simp [refMayB, hc]
        rw [hv]; clear hv
        have HR := Lib.hid hr
        clear hr
        have HS := Lib.hid hs
        clear hs
        have HC := Lib.hid hc
        clear hc
        go_enter Tryd.func51, Tryd.ntmps51
        go_wp2
        have c0 := ext_cell ((Blk.new w 36 [.int .i64 r, .int .i64 p]).cell (j := 0) rfl)
        have c1 := ext_cell ((Blk.new w 36 [.int .i64 r, .int .i64 p]).cell (j := 1) rfl)
        refine wp_region_ext (by kernel_rfl) (by kernel_rfl) ?_
        repeat
          (first
            | go_big_quiet_skip
            | (go_big_quiet_want
               go_big_quiet_op
               first
                 | go_big_quiet_on
                 | (apply Exists.intro
                    refine ⟨fun w' hC => ?_, ?_⟩
                    · (first
                        | with_reducible rfl
                        | (go_at_call 40; refine (refRight_at _ _ HR.out _).mono ?_; rintro e w' ⟨rfl, rfl⟩; exact ⟨rfl, hC⟩) | (go_at_call 41; refine (refSlot_at _ _ HS.out _).mono ?_; rintro e w' ⟨rfl, rfl⟩; exact ⟨rfl, hC⟩) | (go_at_call 67; refine (refRight13_at _ _ _ _ HC.out _).mono ?_; rintro e w2 ⟨rfl, hb⟩; exact ⟨rfl, hC.call hb⟩)
                        | (go_simp; done)
                        | (go_simp; with_reducible rfl))
                    go_big_quiet_on)))
        refine wpQuiet_nil ?_
        intro wq hq
        clear c0 c1
        go_wp2
        go_returns
        exact ⟨rfl, ((Below.refl _ _).alloc (Nat.le_refl _) _).trans (Below.mono hq (by simp))⟩
      · have hv : refMayB c s r p = (decide (0 < r) || (r == 0 && p == s % c)) := by simp [refMayB, hr, hs, hc]
        rw [hv]; clear hv
        obtain ⟨h0, h1, h2, h3, h4, h5⟩ := chk_bd hc
        obtain ⟨s0, s1⟩ := slot_bd hs
        have HR := Lib.hid hr
        clear hr
        have HS := Lib.hid hs
        clear hs
        have HC := Lib.hid hc
        clear hc
        cases hd : decide (0 < r)
        · have hr0 : r = 0 := by have := of_decide_eq_false hd; omega
          subst hr0
          clear hd h2 h3 h4 h5
          by_cases hps : p = s % c
          · subst hps
            have hx : (false || ((0 : Int) == 0 && s % c == s % c)) = true := by simp
            rw [hx]
            clear hx
            go_enter Tryd.func51, Tryd.ntmps51
            go_wp2
            have c0 := ext_cell ((Blk.new w 36 [.int .i64 0, .int .i64 (s % c)]).cell (j := 0) rfl)
            have c1 := ext_cell ((Blk.new w 36 [.int .i64 0, .int .i64 (s % c)]).cell (j := 1) rfl)
            refine wp_region_ext (by kernel_rfl) (by kernel_rfl) ?_
            repeat
              (first
                | go_big_quiet_skip
                | (go_big_quiet_want
                   go_big_quiet_op
                   first
                     | go_big_quiet_on
                     | (apply Exists.intro
                        refine ⟨fun w' hC => ?_, ?_⟩
                        · (first
                            | with_reducible rfl
                            | (go_at_call 40; refine (refRight_at _ _ HR.out _).mono ?_; rintro e w' ⟨rfl, rfl⟩; exact ⟨rfl, hC⟩) | (go_at_call 41; refine (refSlot_at _ _ HS.out _).mono ?_; rintro e w' ⟨rfl, rfl⟩; exact ⟨rfl, hC⟩) | (go_at_call 67; refine (refRight13_at _ _ _ _ HC.out _).mono ?_; rintro e w2 ⟨rfl, hb⟩; exact ⟨rfl, hC.call hb⟩) | (go_at_call 42; refine (refFirst_any _ _ _ h0 h1 s0 s1).mono ?_; rintro e w2 ⟨rfl, hb⟩; exact ⟨rfl, hC.call hb⟩)
                            | (go_simp; done)
                            | (go_simp; with_reducible rfl))
                        go_big_quiet_on)))
            refine wpQuiet_nil ?_
            intro wq hq
            clear c0 c1
            go_wp2
            go_returns
            exact ⟨rfl, ((Below.refl _ _).alloc (Nat.le_refl _) _).trans (Below.mono hq (by simp))⟩
          · have hx : (false || ((0 : Int) == 0 && p == s % c)) = false := by simp [hps]
            rw [hx]
            clear hx
            go_enter Tryd.func51, Tryd.ntmps51
            go_wp2
            have c0 := ext_cell ((Blk.new w 36 [.int .i64 0, .int .i64 p]).cell (j := 0) rfl)
            have c1 := ext_cell ((Blk.new w 36 [.int .i64 0, .int .i64 p]).cell (j := 1) rfl)
            refine wp_region_ext (by kernel_rfl) (by kernel_rfl) ?_
            repeat
              (first
                | go_big_quiet_skip
                | (go_big_quiet_want
                   go_big_quiet_op
                   first
                     | go_big_quiet_on
                     | (apply Exists.intro
                        refine ⟨fun w' hC => ?_, ?_⟩
                        · (first
                            | with_reducible rfl
                            | (go_at_call 40; refine (refRight_at _ _ HR.out _).mono ?_; rintro e w' ⟨rfl, rfl⟩; exact ⟨rfl, hC⟩) | (go_at_call 41; refine (refSlot_at _ _ HS.out _).mono ?_; rintro e w' ⟨rfl, rfl⟩; exact ⟨rfl, hC⟩) | (go_at_call 67; refine (refRight13_at _ _ _ _ HC.out _).mono ?_; rintro e w2 ⟨rfl, hb⟩; exact ⟨rfl, hC.call hb⟩) | (go_at_call 42; refine (refFirst_any _ _ _ h0 h1 s0 s1).mono ?_; rintro e w2 ⟨rfl, hb⟩; exact ⟨rfl, hC.call hb⟩)
                            | (go_simp; done)
                            | (go_simp; with_reducible rfl))
                        go_big_quiet_on)))
            refine wpQuiet_nil ?_
            intro wq hq
            clear c0 c1
            go_wp2
            go_returns
            exact ⟨rfl, ((Below.refl _ _).alloc (Nat.le_refl _) _).trans (Below.mono hq (by simp))⟩
        · clear h2 h3 h4 h5
          go_enter Tryd.func51, Tryd.ntmps51
          go_wp2
          have c0 := ext_cell ((Blk.new w 36 [.int .i64 r, .int .i64 p]).cell (j := 0) rfl)
          have c1 := ext_cell ((Blk.new w 36 [.int .i64 r, .int .i64 p]).cell (j := 1) rfl)
          refine wp_region_ext (by kernel_rfl) (by kernel_rfl) ?_
          repeat
            (first
              | go_big_quiet_skip
              | (go_big_quiet_want
                 go_big_quiet_op
                 first
                   | go_big_quiet_on
                   | (apply Exists.intro
                      refine ⟨fun w' hC => ?_, ?_⟩
                      · (first
                          | with_reducible rfl
                          | (go_at_call 40; refine (refRight_at _ _ HR.out _).mono ?_; rintro e w' ⟨rfl, rfl⟩; exact ⟨rfl, hC⟩) | (go_at_call 41; refine (refSlot_at _ _ HS.out _).mono ?_; rintro e w' ⟨rfl, rfl⟩; exact ⟨rfl, hC⟩) | (go_at_call 67; refine (refRight13_at _ _ _ _ HC.out _).mono ?_; rintro e w2 ⟨rfl, hb⟩; exact ⟨rfl, hC.call hb⟩)
                          | (go_simp; done)
                          | (go_simp; with_reducible rfl))
                      go_big_quiet_on)))
          refine wpQuiet_nil ?_
          intro wq hq
          clear c0 c1
          go_wp2
          go_returns
          exact ⟨rfl, ((Below.refl _ _).alloc (Nat.le_refl _) _).trans (Below.mono hq (by simp))⟩
end Go.Proofs.YtcokbljlgbcpkaaDoor
