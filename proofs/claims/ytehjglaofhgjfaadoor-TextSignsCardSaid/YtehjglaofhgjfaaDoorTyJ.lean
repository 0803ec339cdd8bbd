
/- Package text: sign; the names of a text, one after the other. -/
import Derived.Test.YtehjglaofhgjfaaDoorTyD
import Derived.Test.YtehjglaofhgjfaaDoorIterS
import Derived.Lib.OthersKept
import Derived.Shelf.Abstract
import Derived.OwnWalkIn
import Derived.TacticsInMore
import Derived.LoopNIn
import Derived.LoopIn
import Derived.BigGuardIn
namespace Go.Proofs.YtehjglaofhgjfaaDoor
set_option linter.unusedSimpArgs false
set_option linter.unusedVariables false
open Go.RowKit
attribute [local go_sem] Oper.semAt_some
theorem signP_any (r : Int) (w : World) : Calls Tryd.prog 64 #[.int .i32 r] w fun e w' => e = .returned (.bool (signR r)) ∧ w = w' := by
  have hc : (97 ≤ r ∧ r ≤ 122 ∧ signR r = true) ∨ (97 ≤ r ∧ ¬ r ≤ 122 ∧ signR r = false) ∨ (¬ 97 ≤ r ∧ 48 ≤ r ∧ r ≤ 57 ∧ signR r = true) ∨ (¬ 97 ≤ r ∧ 48 ≤ r ∧ ¬ r ≤ 57 ∧ r = 95 ∧ signR r = true) ∨ (¬ 97 ≤ r ∧ 48 ≤ r ∧ ¬ r ≤ 57 ∧ ¬ r = 95 ∧ signR r = false) ∨ (¬ 97 ≤ r ∧ ¬ 48 ≤ r ∧ signR r = false) := by
    unfold signR
    by_cases h1 : 97 ≤ r
    · by_cases h2 : r ≤ 122
      · simp [h1, h2]
      · simp [h1, h2]; omega
    · by_cases h2 : 48 ≤ r
      · by_cases h3 : r ≤ 57
        · simp [h1, h2, h3]
        · by_cases h4 : r = 95
          · simp [h4]
          · simp [h1, h2, h3, h4]
      · simp [h1, h2]; omega
  rcases hc with ⟨h1, h2, h⟩ | ⟨h1, h2, h⟩ | ⟨h1, h2, h3, h⟩ | ⟨h1, h2, h3, h4, h⟩ | ⟨h1, h2, h3, h4, h⟩ | ⟨h1, h2, h⟩
  · rw [h]; clear h
    go_enter Tryd.func64, Tryd.ntmps64
    go_wp2
    go_ret
    exact ⟨rfl, rfl⟩
  · rw [h]; clear h
    have y3 : (48 : Int) ≤ r := by omega
    have y4 : ¬ r ≤ 57 := by omega
    have y5 : (r == 95) = false := by rw [beq_eq_false_iff_ne]; omega
    go_enter Tryd.func64, Tryd.ntmps64
    go_wp2
    go_ret
    exact ⟨tx_bool (by simp [y5]), rfl⟩
  · rw [h]; clear h
    go_enter Tryd.func64, Tryd.ntmps64
    go_wp2
    go_ret
    exact ⟨rfl, rfl⟩
  · rw [h]; clear h
    subst h4
    go_enter Tryd.func64, Tryd.ntmps64
    go_wp2
    go_ret
    exact ⟨rfl, rfl⟩
  · rw [h]; clear h
    have y5 : (r == 95) = false := by rw [beq_eq_false_iff_ne]; omega
    clear h4
    go_enter Tryd.func64, Tryd.ntmps64
    go_wp2
    go_ret
    exact ⟨tx_bool (by simp [y5]), rfl⟩
  · rw [h]; clear h
    have y5 : (r == 95) = false := by rw [beq_eq_false_iff_ne]; omega
    go_enter Tryd.func64, Tryd.ntmps64
    go_wp2
    go_ret
    exact ⟨tx_bool (by simp [y5]), rfl⟩
theorem grown_iterAt (W : World) (k : Nat) (s : ByteArray) (pos : Nat) : W.grownBy (W.iterAt k s pos) (some k) :=
  ⟨rfl, rfl, rfl, by rw [Lib.iterAt_size]; exact Nat.le_refl _, fun j _ hj => Lib.iterAt_other W k j s pos (fun e => hj (by rw [e]))⟩
theorem abides_iterAt {β : Type} {B : Nat} {J : β → World → Prop} (h : AbidesFrom B J) {x : β} {W : World} (hs : J x W) {k : Nat} {s : ByteArray} {pos : Nat} (hk : W.heap[k]? = some (.stringIter s pos)) (hB : B ≤ k) (pos' : Nat) : J x (W.iterAt k s pos') :=
  h x W _ (some k) hs (grown_iterAt W k s pos') (fun r e => by cases e; exact ⟨hB, _, hk, rfl⟩)
def strEnc (x : BL) : Array Value := #[.string (mkS x)]
theorem names_any (s : ByteArray) (w : World) : Calls Tryd.prog 39 #[.string s] w fun e w' => e = .returned (.func (.func 63) #[] #[.pointer (some ⟨w.heap.size, 0, none⟩)]) ∧
    Boxed w' w.heap.size 9 (.string s) ∧ Below w.heap.size w w' := by
  go_enter Tryd.func39, Tryd.ntmps39
  go_wp2
  go_ret
  exact ⟨rfl, Boxed.new w _ _, (Below.refl _ _).alloc (Nat.le_refl _) _⟩
end Go.Proofs.YtehjglaofhgjfaaDoor
