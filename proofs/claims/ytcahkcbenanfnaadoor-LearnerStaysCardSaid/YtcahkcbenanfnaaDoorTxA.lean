
/- Package text: which signs may not be; a text goes over them. -/
import Derived.Test.YtcahkcbenanfnaaDoorBlk
import Derived.Test.YtcahkcbenanfnaaDoorRows
import Derived.WalkKit
import Derived.WalkSpells
import Derived.WalkLawsBesides
import Derived.Lib.Hide
import Derived.Laws.RangeString
import Derived.Laws.RangeAny
import Derived.Lib.RuneCount
import Derived.LoopTactic
import Derived.Lib.Hide
namespace Go.Proofs.YtcahkcbenanfnaaDoor
set_option linter.unusedSimpArgs false
set_option linter.unusedVariables false
open Go.RowKit

theorem tx_bool {a b : Bool} (h : a = b) : Ending.returned (.bool a) = Ending.returned (.bool b) := by rw [h]
def signBad (r : Int) : Bool := decide (r < 32) || (decide (127 ≤ r) && decide (r < 160))
theorem c3sign_any (r : Int) (w : World) : Calls Tryd.prog 75 #[.int .i32 r] w fun e w' => e = .returned (.bool (signBad r)) ∧ w = w' := by
  have hc : (r < 32 ∧ signBad r = true) ∨ (¬ r < 32 ∧ 127 ≤ r ∧ r < 160 ∧ signBad r = true) ∨ (¬ r < 32 ∧ 127 ≤ r ∧ ¬ r < 160 ∧ signBad r = false) ∨ (¬ r < 32 ∧ ¬ 127 ≤ r ∧ signBad r = false) := by
    unfold signBad
    by_cases h1 : r < 32
    · simp [h1]
    · by_cases h2 : 127 ≤ r
      · by_cases h3 : r < 160 <;> simp [h1, h2, h3]
      · simp [h1, h2]
  rcases hc with ⟨h1, h⟩ | ⟨h1, h2, h3, h⟩ | ⟨h1, h2, h3, h⟩ | ⟨h1, h2, h⟩
  all_goals
    rw [h]
    clear h
    go_enter Tryd.func75, Tryd.ntmps75
    go_wp2
    go_ret
    exact ⟨rfl, rfl⟩
/-- From place pos on: is there a sign that may not be? -/
def badFrom (s : ByteArray) : Nat → Nat → Bool
  | 0, _ => false
  | k + 1, pos => if pos < s.size then signBad ((Utf8.decode s pos).1 : Nat) || badFrom s k (pos + (Utf8.decode s pos).2) else false
theorem badFrom_end (s : ByteArray) (k pos : Nat) (h : ¬ pos < s.size) : badFrom s k pos = false := by
  cases k <;> simp [badFrom, h]
def badS (s : ByteArray) : Bool := badFrom s s.size 0
set_option maxRecDepth 100000 in
set_option maxHeartbeats 1000000 in
theorem bad1_any (b : Nat) (s : ByteArray) (w : World) (hB : Boxed w b 127 (.func (.func 75) #[] #[])) :
    Calls Tryd.prog 89 #[.string s, .pointer (some ⟨b, 0, none⟩)] w fun e w' => e = .returned (.bool (badS s)) ∧ Below w.heap.size w w' := by
  have hc : ∀ pos, (w.iter s pos).cell? ⟨b, 0, none⟩ = some (.func (.func 75) #[] #[]) := fun pos => (hB.alloc (.stringIter s pos)).cell
  have hbw : ∀ pos, Below w.heap.size w (w.iter s pos) := fun pos => (Below.refl _ _).alloc (Nat.le_refl _) _
  obtain ⟨A, hA⟩ : ∃ A, badS s = A := ⟨_, rfl⟩
  rw [hA]
  clear hB
  go_enter Tryd.func89, Tryd.ntmps89
  go_wp2
  go_loopw [5] (fun _ w' => ∃ (pos k : Nat), w' = w.iter s pos ∧ badFrom s k pos = A ∧ s.size ≤ pos + k) (fun _ w' => s.size - w'.iterPos w.heap.size)
  case atStart => exact ⟨0, s.size, rfl, hA, by omega⟩
  case round =>
    obtain ⟨pos, k, rfl, hk, hb⟩ := hrel
    by_cases hp : pos < s.size
    · have hnx : ∀ ty, (Instr.next (.pointer (some ⟨w.heap.size, 0, none⟩)) true ty).run Tryd.prog (w.iter s pos) = _ := fun ty => run_next_any w s pos ty hp
      have hwd := Lib.decode_width_pos s pos hp
      have hcp := hc (pos + (Utf8.decode s pos).2)
      cases k with
      | zero => omega
      | succ k =>
        unfold badFrom at hk
        rw [if_pos hp] at hk
        cases hsb : signBad ((Utf8.decode s pos).1 : Nat)
        · have hk2 : badFrom s k (pos + (Utf8.decode s pos).2) = A := by rw [hsb] at hk; exact hk
          clear hk
          have cS := fun W => c3sign_any ((Utf8.decode s pos).1 : Nat) W
          rw [hsb] at cS
          clear hsb
          go_wp2_with fail
          refine (cS _).mono ?_
          rintro e w' ⟨rfl, rfl⟩
          go_wp2
          go_roundw
          case rel => exact ⟨pos + (Utf8.decode s pos).2, k, rfl, hk2, by omega⟩
          case measure => simp; omega
        · have hk2 : true = A := by rw [hsb] at hk; simpa using hk
          subst hk2
          clear hk
          have cS := fun W => c3sign_any ((Utf8.decode s pos).1 : Nat) W
          rw [hsb] at cS
          clear hsb
          go_wp2_with fail
          refine (cS _).mono ?_
          rintro e w' ⟨rfl, rfl⟩
          go_wp2
          go_ret
          exact ⟨rfl, hbw _⟩
    · have hnx : ∀ ty, (Instr.next (.pointer (some ⟨w.heap.size, 0, none⟩)) true ty).run Tryd.prog (w.iter s pos) = _ := fun ty => run_next_end w s pos ty hp
      rw [badFrom_end s k pos hp] at hk
      subst hk
      go_wp2
      go_ret
      exact ⟨rfl, hbw _⟩
end Go.Proofs.YtcahkcbenanfnaaDoor
