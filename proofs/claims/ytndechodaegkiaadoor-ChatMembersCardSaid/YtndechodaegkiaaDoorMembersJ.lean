
/- ChatMembers: the walk joined to the arguments' reading. -/
import Derived.Test.YtndechodaegkiaaDoorChMf
import Derived.Test.YtndechodaegkiaaDoorOpE
namespace Go.Proofs.YtndechodaegkiaaDoor
open Go.RowKit
theorem ChatMembers_walkx (x : Option Addr) (len cap : Nat) (m : Int) (v : En) (w : World) (hT : Tabs w) (h : ∃ l : List En, l.length = len ∧ HasE w x l ∧ (∀ e, e ∈ l → e.s.size ≤ maxLen) ∧ len ≤ maxLen) (hm : -9223372036854775808 ≤ m ∧ m ≤ 9223372036854775807) (hv : v.s.size ≤ maxLen) :
    Calls Tryd.prog 5 #[.slice x len cap, .int .i64 m, enV v] w fun r w' => r = .returned (.bool true) ∧ Below w.heap.size w w' := by
  obtain ⟨l, rfl, hE, hs, hl⟩ := h
  have hl2 : l.length ≤ 9223372036854775807 := by unfold maxLen at hl; omega
  have hs2 : ∀ e, e ∈ l → e.s.size ≤ 9223372036854775807 := fun e he => by have := hs e he; unfold maxLen at this; omega
  cases hf : fewB l 40
  · exact mem_off l x cap m v w hT hE hl2 hs2 (.inl hf)
  · cases hf1 : fewB [v] 1
    · exact mem_off l x cap m v w hT hE hl2 hs2 (.inr (.inl hf1))
    · by_cases h0 : (newF tk0 0 l).2 = 0
      · exact mem_on l x cap m v w hT hE hl2 hs2 (by unfold maxLen at hv; omega) hf hf1 (newF tk0 0 l).1 (by rw [← h0]) hm.1 hm.2
      · exact mem_off l x cap m v w hT hE hl2 hs2 (.inr (.inr h0))
end Go.Proofs.YtndechodaegkiaaDoor
