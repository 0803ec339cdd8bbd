
/- ChatHolds: the walk joined to the arguments' reading. -/
import Derived.Test.YtndechodaegkiaaDoorChHb
import Derived.Test.YtndechodaegkiaaDoorOpE
namespace Go.Proofs.YtndechodaegkiaaDoor
open Go.ChangeShapes Go.WideShapes Go.ChangeAt Go.RowKit Go.Deep
section
variable {H : Type} {enc : TypeId × Value → H} {w : World} {base : Nat} {spare : Nat → Bool} {held : Bool}
theorem open_entries2 {x : Option Addr} {len cap : Nat} {d : DataW H} {p : List MemPlace} (h : DataW.Trod enc Tryd.prog w base spare held 23 (.slice x len cap) d p) :
    (∃ l : List En, l.length = len ∧ HasE w x l ∧ (∀ e, e ∈ l → e.s.size ≤ maxLen) ∧ len ≤ maxLen) ∧ len ≤ cap := by
  refine ⟨open_entries h, ?_⟩
  obtain ⟨fuel, hf⟩ := h
  rcases open_slice Tryd.underlying23 hf with ⟨h1, -⟩ | ⟨a, len', cap', m, n, D, Pl, h1, -, hle, hcm, hm, -, hi⟩
  · simp [Value.cells] at h1
    obtain ⟨rfl, rfl, rfl⟩ := h1
    exact Nat.le_refl _
  · simp [Value.cells] at h1
    obtain ⟨rfl, rfl, rfl⟩ := h1
    exact hle
end
theorem ChatHolds_walkx (x : Option Addr) (len cap : Nat) (cut most : Int) (w : World) (hT : Tabs w) (h : (∃ l : List En, l.length = len ∧ HasE w x l ∧ (∀ e, e ∈ l → e.s.size ≤ maxLen) ∧ len ≤ maxLen) ∧ len ≤ cap) :
    Calls Tryd.prog 4 #[.slice x len cap, .int .i64 cut, .int .i64 most] w fun r w' => r = .returned (.bool true) ∧ Below w.heap.size w w' := by
  obtain ⟨⟨l, rfl, hE, hs, hl⟩, hc⟩ := h
  have hl2 : l.length ≤ 9223372036854775807 := by unfold maxLen at hl; omega
  have hs2 : ∀ e, e ∈ l → e.s.size ≤ 9223372036854775807 := fun e he => by have := hs e he; unfold maxLen at this; omega
  cases hf : fewB l 40
  · exact holds_off l x cap cut most w hT hE hl2 hs2 (.inl hf)
  · by_cases h1 : most < 1
    · exact holds_off l x cap cut most w hT hE hl2 hs2 (.inr (.inl h1))
    · by_cases h2 : 64 < most
      · exact holds_off l x cap cut most w hT hE hl2 hs2 (.inr (.inr (.inl h2)))
      · by_cases h0 : (newF tk0 0 l).2 = 0
        · obtain ⟨m, rfl⟩ := Int.eq_ofNat_of_zero_le (by omega : 0 ≤ most)
          exact holds_on l x cap cut m w hT hE hc hs2 hf (by omega) (by omega) (newF tk0 0 l).1 (by rw [← h0])
        · exact holds_off l x cap cut most w hT hE hl2 hs2 (.inr (.inr (.inr h0)))
end Go.Proofs.YtndechodaegkiaaDoor
