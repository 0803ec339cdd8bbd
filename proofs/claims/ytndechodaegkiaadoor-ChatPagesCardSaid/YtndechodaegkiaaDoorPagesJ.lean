
/- ChatPages: the walk joined to the arguments' reading. -/
import Derived.Test.YtndechodaegkiaaDoorChPg
import Derived.Test.YtndechodaegkiaaDoorOpE
namespace Go.Proofs.YtndechodaegkiaaDoor
open Go.RowKit
theorem ChatPages_walkx (x : Option Addr) (len cap : Nat) (ix fr most mem : Int) (w : World) (hT : Tabs w) (h : ∃ l : List En, l.length = len ∧ HasE w x l ∧ (∀ e, e ∈ l → e.s.size ≤ maxLen) ∧ len ≤ maxLen) :
    Calls Tryd.prog 7 #[.slice x len cap, .int .i64 ix, .int .i64 fr, .int .i64 most, .int .i64 mem] w fun r w' => r = .returned (.bool true) ∧ Below w.heap.size w w' := by
  obtain ⟨l, rfl, hE, hs, hl⟩ := h
  have hl2 : l.length ≤ 9223372036854775807 := by unfold maxLen at hl; omega
  have hs2 : ∀ e, e ∈ l → e.s.size ≤ 9223372036854775807 := fun e he => by have := hs e he; unfold maxLen at this; omega
  cases hf : fewB l 40
  · exact pages_off l x cap ix fr most mem w hT hE hl2 hs2 (.inl hf)
  · by_cases h0 : (newF tk0 0 l).2 = 0
    · exact pages_on l x cap ix fr most mem w hT hE hl2 hs2 hf (newF tk0 0 l).1 (by rw [← h0])
    · exact pages_off l x cap ix fr most mem w hT hE hl2 hs2 (.inr h0)
end Go.Proofs.YtndechodaegkiaaDoor
