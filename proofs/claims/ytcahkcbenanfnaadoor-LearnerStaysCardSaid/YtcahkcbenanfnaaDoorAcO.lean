
/- Package acceptor: all; worlds with new blocks. -/
import Derived.Test.YtcahkcbenanfnaaDoorTail
import Derived.Test.YtcahkcbenanfnaaDoorRows
import Derived.WalkKit
import Derived.WalkSpells
import Derived.WalkLawsBesides
import Derived.LoopTactic
import Derived.Lib.Hide
namespace Go.Proofs.YtcahkcbenanfnaaDoor
set_option linter.unusedSimpArgs false
set_option linter.unusedVariables false
open Go.RowKit
set_option maxRecDepth 100000 in
set_option maxHeartbeats 1000000 in
theorem allA_any (b : Nat) (bs : List Bool) (n : Nat) (hn : bs.length = n) (hn9 : n ≤ 9) (w : World) (hB : Blk w b 4 (bs.map Value.bool)) :
    Calls Tryd.prog 54 #[.slice (some ⟨b, 0, none⟩) n n] w fun e w' => e = .returned (.bool (bs.all id)) ∧ w = w' := by
  obtain ⟨R, hR⟩ : ∃ R, bs.all id = R := ⟨_, rfl⟩
  rw [hR]
  go_enter Tryd.func54, Tryd.ntmps54
  go_wp2
  go_loopw [7] (fun i wr => ∃ j : Nat, j ≤ n ∧ i = .int .i64 j ∧ wr = w ∧ Hid (∀ k, k < j → bs.getD k false = true)) (fun i _ => n - (intOf i).toNat)
  case atStart => exact ⟨0, by omega, rfl, by first | rfl | trivial, Lib.hid (fun k h => absurd h (Nat.not_lt_zero _))⟩
  case round =>
    obtain ⟨j, hj, rfl, hw, hA⟩ := hrel
    subst hw
    by_cases hlt : j < n
    · obtain ⟨v, hv⟩ : ∃ v, bs.getD j false = v := ⟨_, rfl⟩
      have hjl : j < bs.length := by omega
      have hc : (bs.map Value.bool)[j]? = some (.bool v) := by rw [← hv]; simp [hjl]
      have cj := hB.cell hc
      have hj0 : (0 : Int) ≤ (j : Int) := by omega
      have hj1 : (j : Int) < (n : Int) := by omega
      have hj2 : (j : Int) < 100 := by omega
      clear hc
      cases v
      · have hf : R = false := by
          rw [← hR, List.all_eq_false]
          exact ⟨bs[j], List.getElem_mem hjl, by simpa [hjl] using hv⟩
        subst hf
        clear hv hA
        go_wp2
        go_ret
        exact ⟨rfl, rfl⟩
      · have hA2 : Hid (∀ k, k < j + 1 → bs.getD k false = true) := Lib.hid (fun k hk => by
          by_cases e : k = j
          · subst e; exact hv
          · exact hA.out k (by omega))
        clear hv hA
        go_wp2_with fail
        go_roundw
        case rel => exact ⟨j + 1, by omega, by go_num, by first | rfl | trivial, hA2⟩
        case measure => simp [intOf]; omega
    · obtain rfl : j = n := by omega
      have hf : R = true := by
        rw [← hR, List.all_eq_true]
        intro x hx
        obtain ⟨k, hk, rfl⟩ := List.getElem_of_mem hx
        have := hA.out k (by omega)
        simpa [hk] using this
      subst hf
      clear hA
      go_wp2
      go_ret
      exact ⟨rfl, rfl⟩
def ExtA (W W' : World) : Prop := Below W.heap.size W W'
theorem extA_cell {W : World} {b o : Nat} {v : Value} (h : W.cell? ⟨b, o, none⟩ = some v) (W' : World) (hx : ExtA W W') : W'.cell? ⟨b, o, none⟩ = some v := (Below.cell hx (World.block_lt_of_cell? W _ h)).trans h
theorem Blk.newA {W : World} {g : Nat} (hg : W.heap.size = g) (t : TypeId) (cs : List Value) : Blk (W.alloc (.cells cs.toArray t)) g t cs := hg ▸ Blk.new W t cs
theorem boxed_newA {W : World} {g : Nat} (hg : W.heap.size = g) (t : TypeId) (v : Value) : Boxed (W.alloc (.cells #[v] t)) g t v := hg ▸ Boxed.new W t v
theorem alloc_size {W : World} {g : Nat} (hg : W.heap.size = g) (o : Obj) : (W.alloc o).heap.size = g + 1 := by subst hg; exact Array.size_push ..
end Go.Proofs.YtcahkcbenanfnaaDoor
