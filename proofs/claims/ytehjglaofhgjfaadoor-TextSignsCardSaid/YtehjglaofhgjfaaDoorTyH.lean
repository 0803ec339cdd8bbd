
/- Package text: Unquote, its deferred closure; must. -/
import Derived.Test.YtehjglaofhgjfaaDoorTyG
import Derived.Recover
import Derived.Laws.Pointers
import Derived.Shelf.RegionOpen
import Derived.Defers
namespace Go.Proofs.YtehjglaofhgjfaaDoor
set_option linter.unusedSimpArgs false
set_option linter.unusedVariables false
open Go.RowKit
theorem must_true (w : World) : Calls Tryd.prog 48 #[.bool true] w fun e w' => e = .returned (.tuple #[]) ∧ w = w' := by
  go_enter Tryd.func48, Tryd.ntmps48
  go_wp2
  go_end0
  exact ⟨rfl, rfl⟩
theorem must_false (w : World) : Calls Tryd.prog 48 #[.bool false] w fun e w' => e = .panicked [{ v := .iface 24 (.int .i64 133), recovered := false }] ∧ w = w' := by
  go_enter Tryd.func48, Tryd.ntmps48
  go_wp2
  simp [bodyPost]
theorem catch_panics (p q : Nat) (x : ByteArray) (y : Int) (older : List PanicEntry) (w : World) (hc : w.cell? ⟨p, 0, none⟩ = some (.string x)) (hz : w.frozen? ⟨p, 0, none⟩ = false) (hc2 : w.cell? ⟨q, 0, none⟩ = some (.int .i64 y)) (hz2 : w.frozen? ⟨q, 0, none⟩ = false) (hne : p ≠ q) :
    CallsD Tryd.prog 47 #[.pointer (some ⟨p, 0, none⟩), .pointer (some ⟨q, 0, none⟩)] (.panicking ({ v := .iface 24 (.int .i64 133), recovered := false } :: older)) w fun e u' w' =>
      e = .returned (.tuple #[]) ∧ u' = .panicking ({ v := .iface 24 (.int .i64 133), recovered := true } :: older) ∧ w' = ((w.setCell ⟨p, 0, none⟩ (.string ⟨#[]⟩)).setCell ⟨q, 0, none⟩ (.int .i64 133)).drew := by
  refine callsD_of_wpS Tryd.func47 rfl fun c₀ cs hu => ?_
  have hne2 : q ≠ p := fun e => hne e.symm
  apply wpS_seq
  apply wpS_region
  simp [wpOpsS, go_sem, recoverD, hu, Tryd.ntmps47, Exit.thenS]
  apply wpS_seq
  apply wpS_region
  simp [wpOpsS, go_sem, Exit.thenS]
  refine wpS_cond (t := true) (by simp [Act.eval, Array.replicate]) ?_
  simp only [if_true]
  refine wpS_of_wp ?_
  simp only [Array.replicate_succ, Array.replicate_zero, List.push_toArray, List.append_toArray, List.nil_append, List.cons_append, List.setIfInBounds_toArray, List.set_cons_zero, List.set_cons_succ]
  generalize hcs : ({ fn := c₀.fn, tmps := c₀.tmps, todo := c₀.todo, defers := c₀.defers, mode := FrameMode.panicking ({ v := .iface 24 (.int .i64 133), recovered := true } :: older), kind := c₀.kind, roundOf := c₀.roundOf } :: cs : List Frame) = fr
  have mixed : Tryd.prog.follows Departure.mixedOrders = true := by kernel_rfl
  have hta : ∀ W : World, (Instr.typeAssert (.iface 24 (.int .i64 133)) 20 24 false).run Tryd.prog W = .ok (.int .i64 133) W := fun W => by kernel_rfl
  go_region_o
  all_goals
    go_wp2
    subst hcs
    simp [bodyPostS, results, Tryd.results47]
theorem catch_idle (p q : Nat) (w : World) :
    CallsD Tryd.prog 47 #[.pointer (some ⟨p, 0, none⟩), .pointer (some ⟨q, 0, none⟩)] .returning w fun e u' w' => e = .returned (.tuple #[]) ∧ u' = .returning ∧ w' = w := by
  refine callsD_of_wpS Tryd.func47 rfl fun c₀ cs hu => ?_
  apply wpS_seq
  apply wpS_region
  simp [wpOpsS, go_sem, recoverD, hu, Tryd.ntmps47, Exit.thenS]
  apply wpS_seq
  apply wpS_region
  simp [wpOpsS, go_sem, Exit.thenS]
  refine wpS_cond (t := false) (by simp [Act.eval, Array.replicate]) ?_
  simp only [Bool.false_eq_true, if_false]
  refine wpS_of_wp (wp_skip ?_)
  cases c₀
  simp_all [bodyPostS, results, Tryd.results47]
end Go.Proofs.YtehjglaofhgjfaaDoor
