
/- Package text: Check. -/
import Derived.Test.YtcahkcbenanfnaaDoorTxA
import Derived.Test.YtcahkcbenanfnaaDoorTxS
import Derived.LoopN
import Derived.Below
import Derived.Handy
namespace Go.Proofs.YtcahkcbenanfnaaDoor
set_option linter.unusedSimpArgs false
set_option linter.unusedVariables false
open Go.RowKit Go.Shelf Go.Lib

/-- unicode/utf8's tables lie as their text lays them. -/
def Tabs (w : World) : Prop := Lib.Utf8Tabs (Tryd.laysValid_ren.g 3) (Tryd.laysValid_ren.g 4) w
theorem Tabs.step {w w' : World} (h : Tabs w) (hb : Below w.heap.size w w') : Tabs w' := Utf8Tabs_below h hb
theorem valid_any (s : ByteArray) (w : World) (hs : s.size ≤ 9223372036854775807) (hT : Tabs w) :
    Calls Tryd.prog 73 #[.string s] w fun e w' => e = .returned (.bool (Lib.validD s.data.toList)) ∧ Below w.heap.size w w' := Any.utf8_ValidString Tryd.laysValid s w hs hT
theorem trim_any (s : ByteArray) (w : World) (hs : s.size ≤ 9223372036854775807) :
    Calls Tryd.prog 77 #[.string s, .string ⟨#[32]⟩] w fun e w' => e = .returned (.string ⟨(Lib.trimB s.data.toList 32).toArray⟩) ∧ Below w.heap.size w w' := by
  refine (Tryd.strings_Trim_one s 32 (by decide) w hs).mono ?_
  rintro e w' ⟨h, rfl | rfl⟩
  · exact ⟨h, Below.refl _ _⟩
  · exact ⟨h, (Below.refl _ _).drew⟩
def trimS (s : ByteArray) : ByteArray := ⟨(Lib.trimB s.data.toList 32).toArray⟩
def longS (s : ByteArray) : Bool := decide (200 < s.size)
def validS (s : ByteArray) : Bool := Lib.validD s.data.toList
def blankS (s : ByteArray) : Bool := decide (s.toList = [] ∨ ¬ (trimS s).toList = s.toList)
def chkT (s : ByteArray) : Int := if longS s then 3 else if validS s then (if badS s then 131 else if blankS s then 132 else 0) else 130
theorem t1_any (s : ByteArray) (v : Bool) (h : longS s = v) (w : World) : Calls Tryd.prog 71 #[.string s] w fun e w' => e = .returned (.bool v) ∧ w = w' := by
  have hv : decide ((200 : Int) < (s.size : Int)) = v := by rw [← h]; unfold longS; rw [decide_eq_decide]; omega
  subst hv
  go_enter Tryd.func71, Tryd.ntmps71
  go_wp2
  go_ret
  exact ⟨tx_bool (by simp), rfl⟩
theorem t2_any (s : ByteArray) (v : Bool) (h : validS s = v) (hs : s.size ≤ 9223372036854775807) (w : World) (hT : Tabs w) : Calls Tryd.prog 72 #[.string s] w fun e w' => e = .returned (.bool (!v)) ∧ Below w.heap.size w w' := by
  have hc := valid_any s w hs hT
  rw [show Lib.validD s.data.toList = v from h] at hc
  go_enter Tryd.func72, Tryd.ntmps72
  go_wp2_with fail
  refine (hc).mono ?_
  rintro e w1 ⟨rfl, b1⟩
  go_wp2
  go_ret
  exact ⟨rfl, b1⟩
theorem t4_any (s : ByteArray) (v : Bool) (h : blankS s = v) (hs : s.size ≤ 9223372036854775807) (w : World) : Calls Tryd.prog 76 #[.string s] w fun e w' => e = .returned (.bool v) ∧ Below w.heap.size w w' := by
  by_cases h0 : s.toList = []
  · have hv : v = true := by rw [← h]; simp [blankS, h0]
    subst hv
    clear h
    go_enter Tryd.func76, Tryd.ntmps76
    go_wp2
    go_ret
    exact ⟨rfl, Below.refl _ _⟩
  · have hc := trim_any s w hs
    obtain ⟨t, ht⟩ : ∃ t, trimS s = t := ⟨_, rfl⟩
    rw [show (⟨(Lib.trimB s.data.toList 32).toArray⟩ : ByteArray) = t from ht] at hc
    have hv : decide (¬ t.toList = s.toList) = v := by rw [← h, ← ht]; simp [blankS, h0]
    clear h ht
    by_cases h1 : t.toList = s.toList
    · have : v = false := by rw [← hv]; simp [h1]
      subst this
      clear hv
      go_enter Tryd.func76, Tryd.ntmps76
      go_wp2_with fail
      refine (hc).mono ?_
      rintro e w1 ⟨rfl, b1⟩
      go_wp2
      go_ret
      exact ⟨tx_bool (by simp [h0]), b1⟩
    · have : v = true := by rw [← hv]; simp [h1]
      subst this
      clear hv
      go_enter Tryd.func76, Tryd.ntmps76
      go_wp2_with fail
      refine (hc).mono ?_
      rintro e w1 ⟨rfl, b1⟩
      go_wp2
      go_ret
      exact ⟨tx_bool (by simp [h0, h1]), b1⟩
theorem tbad_any (w : World) : Calls Tryd.prog 74 #[.func (.func 75) #[] #[]] w fun e w' => e = .returned (.func (.func 89) #[] #[.pointer (some ⟨w.heap.size, 0, none⟩)]) ∧
    Boxed w' w.heap.size 127 (.func (.func 75) #[] #[]) ∧ Below w.heap.size w w' := by
  go_enter Tryd.func74, Tryd.ntmps74
  go_wp2_with fail
  go_ret
  exact ⟨rfl, Boxed.new w _ _, (Below.refl _ _).alloc (Nat.le_refl _) _⟩
end Go.Proofs.YtcahkcbenanfnaaDoor
