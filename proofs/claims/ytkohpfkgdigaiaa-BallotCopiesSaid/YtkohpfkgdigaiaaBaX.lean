
/- Package ballot: a copy of votes; which votes are the same. -/
import Derived.Test.YtkohpfkgdigaiaaBaL
import Derived.Test.YtkohpfkgdigaiaaBaY
import Derived.Test.YtkohpfkgdigaiaaBaJ
namespace Go.Proofs.Ytkohpfkgdigaiaa
open Go.RowKit
attribute [local go_sem] eq9
set_option maxRecDepth 100000 in
set_option maxHeartbeats 1000000 in
theorem vcopy_any2 (g : Nat) (c : Int) (hs : List Bool) (w : World) (hV : VB w g c hs) (hr : rightB c = true) :
    Calls Try.prog 29 #[.pointer (some ⟨g, 0, none⟩)] w fun e w' => ∃ g', e = .returned (.pointer (some ⟨g', 0, none⟩)) ∧ VB w' g' c hs ∧ w.heap.size ≤ g' ∧ Below w.heap.size w w' := by
  obtain ⟨a0, a1, a2, a3, a4, a5, a6, a7, a8, rfl⟩ := nine hV.2
  have c0 := hV.1.cell (j := 0) rfl
  have c1 := hV.1.cell (j := 1) rfl
  have c2 := hV.1.cell (j := 2) rfl
  have c3 := hV.1.cell (j := 3) rfl
  have c4 := hV.1.cell (j := 4) rfl
  have c5 := hV.1.cell (j := 5) rfl
  have c6 := hV.1.cell (j := 6) rfl
  have c7 := hV.1.cell (j := 7) rfl
  have c8 := hV.1.cell (j := 8) rfl
  have c9 := hV.1.cell (j := 9) rfl
  go_enter Try.func29, Try.ntmps29
  go_wp2_with fail
  refine (vnone_at _ _ _ _ hV hr).mono ?_
  rintro e w' ⟨rfl, rfl⟩
  go_wp2
  go_returns
  exact ⟨w.heap.size, rfl, ⟨Blk.new w _ _, rfl⟩, Nat.le_refl _, (Below.refl _ _).alloc (Nat.le_refl _) _⟩
set_option maxRecDepth 100000 in
set_option maxHeartbeats 1000000 in
theorem vsame_eq (g g' : Nat) (c : Int) (hs : List Bool) (w : World) (hV : VB w g c hs) (hU : VB w g' c hs) (hr : rightB c = true) :
    Calls Try.prog 30 #[.pointer (some ⟨g, 0, none⟩), .pointer (some ⟨g', 0, none⟩)] w fun e w' => e = .returned (.bool true) ∧ Below w.heap.size w w' := by
  obtain ⟨a0, a1, a2, a3, a4, a5, a6, a7, a8, rfl⟩ := nine hV.2
  go_enter Try.func30, Try.ntmps30
  go_wp2_with fail
  refine (vnone_at _ _ _ _ hV hr).mono ?_
  rintro e w' ⟨rfl, rfl⟩
  go_wp2_with fail
  refine (vnone_at _ _ _ _ hU hr).mono ?_
  rintro e w' ⟨rfl, rfl⟩
  have vc0 := ext_cell (hV.1.cell (j := 0) rfl)
  have vc1 := ext_cell (hV.1.cell (j := 1) rfl)
  have vc2 := ext_cell (hV.1.cell (j := 2) rfl)
  have vc3 := ext_cell (hV.1.cell (j := 3) rfl)
  have vc4 := ext_cell (hV.1.cell (j := 4) rfl)
  have vc5 := ext_cell (hV.1.cell (j := 5) rfl)
  have vc6 := ext_cell (hV.1.cell (j := 6) rfl)
  have vc7 := ext_cell (hV.1.cell (j := 7) rfl)
  have vc8 := ext_cell (hV.1.cell (j := 8) rfl)
  have vc9 := ext_cell (hV.1.cell (j := 9) rfl)
  have uc0 := ext_cell (hU.1.cell (j := 0) rfl)
  have uc1 := ext_cell (hU.1.cell (j := 1) rfl)
  have uc2 := ext_cell (hU.1.cell (j := 2) rfl)
  have uc3 := ext_cell (hU.1.cell (j := 3) rfl)
  have uc4 := ext_cell (hU.1.cell (j := 4) rfl)
  have uc5 := ext_cell (hU.1.cell (j := 5) rfl)
  have uc6 := ext_cell (hU.1.cell (j := 6) rfl)
  have uc7 := ext_cell (hU.1.cell (j := 7) rfl)
  have uc8 := ext_cell (hU.1.cell (j := 8) rfl)
  have uc9 := ext_cell (hU.1.cell (j := 9) rfl)
  go_wp2_with fail
  refine wp_region_ext (by kernel_rfl) (by kernel_rfl) ?_
  repeat
    (first
      | go_big_quiet_skip
      | (go_big_quiet_want
         go_big_quiet_op
         first
           | go_big_quiet_on
           | (apply Exists.intro
              refine ⟨fun w' hC => ?_, ?_⟩
              · (first
                  | with_reducible rfl
                  | fail
                  | (go_simp; done)
                  | (go_simp; with_reducible rfl))
              go_big_quiet_on)))
  refine wpQuiet_nil ?_
  intro wq hq
  go_wp2
  go_returns
  exact ⟨rfl, hq⟩
end Go.Proofs.Ytkohpfkgdigaiaa
