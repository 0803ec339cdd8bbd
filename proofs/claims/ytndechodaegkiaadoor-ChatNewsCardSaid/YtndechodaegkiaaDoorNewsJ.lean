
/- ChatNews: the walk joined to the argument's reading. -/
import Derived.Test.YtndechodaegkiaaDoorChU
import Derived.Test.YtndechodaegkiaaDoorOpE
namespace Go.Proofs.YtndechodaegkiaaDoor
open Go.RowKit
theorem ChatNews_walkx (x : Option Addr) (len cap : Nat) (w : World) (hT : Tabs w) (h : ∃ l : List En, l.length = len ∧ HasE w x l ∧ (∀ e, e ∈ l → e.s.size ≤ maxLen) ∧ len ≤ maxLen) :
    Calls Tryd.prog 6 #[.slice x len cap] w fun r w' => r = .returned (.bool true) ∧ Below w.heap.size w w' := by
  obtain ⟨l, rfl, hE, hs, hl⟩ := h
  exact ChatNews_walk l x cap w hT hE (by unfold maxLen at hl; omega) (fun e he => by have := hs e he; unfold maxLen at this; omega)
end Go.Proofs.YtndechodaegkiaaDoor
