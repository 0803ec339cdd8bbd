
/- Package ballot: which votes are the same; the document's Add. -/
import Derived.Test.YtkohpfkgdigaiaaBaX
import Derived.Test.YtkohpfkgdigaiaaTail
namespace Go.Proofs.Ytkohpfkgdigaiaa
open Go.RowKit
attribute [local go_sem] eq9
set_option maxRecDepth 100000 in
set_option maxHeartbeats 1000000 in
theorem vsame_same (g g' : Nat) (c : Int) (hs ks : List Bool) (w : World) (hV : VB w g c hs) (hU : VB w g' c ks) (hr : rightB c = true) :
    Calls Try.prog 30 #[.pointer (some ⟨g, 0, none⟩), .pointer (some ⟨g', 0, none⟩)] w fun e w' => e = .returned (.bool (hs == ks)) ∧ Below w.heap.size w w' := by
  obtain ⟨a0, a1, a2, a3, a4, a5, a6, a7, a8, rfl⟩ := nine hV.2
  obtain ⟨b0, b1, b2, b3, b4, b5, b6, b7, b8, rfl⟩ := nine hU.2
  obtain ⟨q, hq⟩ : ∃ q, (([a0, a1, a2, a3, a4, a5, a6, a7, a8] : List Bool) == [b0, b1, b2, b3, b4, b5, b6, b7, b8]) = q := ⟨_, rfl⟩
  rw [hq]
  have hE := fun W => eq9 a0 a1 a2 a3 a4 a5 a6 a7 a8 b0 b1 b2 b3 b4 b5 b6 b7 b8 W
  rw [hq] at hE
  clear hq
  go_enter Try.func30, Try.ntmps30
  go_wp2_with fail
  refine (vnone_at _ _ _ _ hV hr).mono ?_
  rintro e w' ⟨rfl, rfl⟩
  go_wp2_with fail
  refine (vnone_at _ _ _ _ hU hr).mono ?_
  rintro e w' ⟨rfl, rfl⟩
  have vc0 := ext_cell (hV.1.cell (j := 0) rfl)
  have vc1 := ext_cell (hV.1.cell (j := 1) rfl)
  have vc2 := ext_cell (hV.1.cell (j := 2) rfl)
  have vc3 := ext_cell (hV.1.cell (j := 3) rfl)
  have vc4 := ext_cell (hV.1.cell (j := 4) rfl)
  have vc5 := ext_cell (hV.1.cell (j := 5) rfl)
  have vc6 := ext_cell (hV.1.cell (j := 6) rfl)
  have vc7 := ext_cell (hV.1.cell (j := 7) rfl)
  have vc8 := ext_cell (hV.1.cell (j := 8) rfl)
  have vc9 := ext_cell (hV.1.cell (j := 9) rfl)
  have uc0 := ext_cell (hU.1.cell (j := 0) rfl)
  have uc1 := ext_cell (hU.1.cell (j := 1) rfl)
  have uc2 := ext_cell (hU.1.cell (j := 2) rfl)
  have uc3 := ext_cell (hU.1.cell (j := 3) rfl)
  have uc4 := ext_cell (hU.1.cell (j := 4) rfl)
  have uc5 := ext_cell (hU.1.cell (j := 5) rfl)
  have uc6 := ext_cell (hU.1.cell (j := 6) rfl)
  have uc7 := ext_cell (hU.1.cell (j := 7) rfl)
  have uc8 := ext_cell (hU.1.cell (j := 8) rfl)
  have uc9 := ext_cell (hU.1.cell (j := 9) rfl)
  go_wp2_with fail
  refine wp_region_ext (by kernel_rfl) (by kernel_rfl) ?_
  repeat
    (first
      | go_big_quiet_skip
      | (go_big_quiet_want
         go_big_quiet_op
         first
           | go_big_quiet_on
           | (apply Exists.intro
              refine ⟨fun w' hC => ?_, ?_⟩
              · (first
                  | with_reducible rfl
                  | fail
                  | (go_simp; done)
                  | (go_simp; with_reducible rfl))
              go_big_quiet_on)))
  refine wpQuiet_nil ?_
  intro wq hq
  go_wp2
  go_returns
  exact ⟨rfl, hq⟩
set_option maxRecDepth 100000 in
set_option maxHeartbeats 1000000 in
theorem vsame_ne (g g' : Nat) (c d : Int) (hs ks : List Bool) (w : World) (hV : VB w g c hs) (hU : VB w g' d ks) (hr : rightB c = true) (hr' : rightB d = true) (hcd : ¬ c = d) :
    Calls Try.prog 30 #[.pointer (some ⟨g, 0, none⟩), .pointer (some ⟨g', 0, none⟩)] w fun e w' => e = .returned (.bool false) ∧ Below w.heap.size w w' := by
  obtain ⟨a0, a1, a2, a3, a4, a5, a6, a7, a8, rfl⟩ := nine hV.2
  obtain ⟨b0, b1, b2, b3, b4, b5, b6, b7, b8, rfl⟩ := nine hU.2
  have hb : (c == d) = false := by simpa using hcd
  go_enter Try.func30, Try.ntmps30
  go_wp2_with fail
  refine (vnone_at _ _ _ _ hV hr).mono ?_
  rintro e w' ⟨rfl, rfl⟩
  go_wp2_with fail
  refine (vnone_at _ _ _ _ hU hr').mono ?_
  rintro e w' ⟨rfl, rfl⟩
  have vc0 := ext_cell (hV.1.cell (j := 0) rfl)
  have vc1 := ext_cell (hV.1.cell (j := 1) rfl)
  have vc2 := ext_cell (hV.1.cell (j := 2) rfl)
  have vc3 := ext_cell (hV.1.cell (j := 3) rfl)
  have vc4 := ext_cell (hV.1.cell (j := 4) rfl)
  have vc5 := ext_cell (hV.1.cell (j := 5) rfl)
  have vc6 := ext_cell (hV.1.cell (j := 6) rfl)
  have vc7 := ext_cell (hV.1.cell (j := 7) rfl)
  have vc8 := ext_cell (hV.1.cell (j := 8) rfl)
  have vc9 := ext_cell (hV.1.cell (j := 9) rfl)
  have uc0 := ext_cell (hU.1.cell (j := 0) rfl)
  have uc1 := ext_cell (hU.1.cell (j := 1) rfl)
  have uc2 := ext_cell (hU.1.cell (j := 2) rfl)
  have uc3 := ext_cell (hU.1.cell (j := 3) rfl)
  have uc4 := ext_cell (hU.1.cell (j := 4) rfl)
  have uc5 := ext_cell (hU.1.cell (j := 5) rfl)
  have uc6 := ext_cell (hU.1.cell (j := 6) rfl)
  have uc7 := ext_cell (hU.1.cell (j := 7) rfl)
  have uc8 := ext_cell (hU.1.cell (j := 8) rfl)
  have uc9 := ext_cell (hU.1.cell (j := 9) rfl)
  go_wp2_with fail
  refine wp_region_ext (by kernel_rfl) (by kernel_rfl) ?_
  repeat
    (first
      | go_big_quiet_skip
      | (go_big_quiet_want
         go_big_quiet_op
         first
           | go_big_quiet_on
           | (apply Exists.intro
              refine ⟨fun w' hC => ?_, ?_⟩
              · (first
                  | with_reducible rfl
                  | fail
                  | (go_simp; done)
                  | (go_simp; with_reducible rfl))
              go_big_quiet_on)))
  refine wpQuiet_nil ?_
  intro wq hq
  go_wp2
  go_returns
  exact ⟨rfl, hq⟩
end Go.Proofs.Ytkohpfkgdigaiaa
