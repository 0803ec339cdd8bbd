
/- A slice of numbers as an argument, opened. -/
import Derived.Test.YtndechodaegkiaaDoorChAp
import Derived.Test.YtndechodaegkiaaDoorOpE
import Derived.ChangeSlices
namespace Go.Proofs.YtndechodaegkiaaDoor
open Go.ChangeShapes Go.WideShapes Go.ChangeAt Go.RowKit Go.Deep
theorem cells_intN : Tryd.prog.cellsOf 3 = 1 := by kernel_rfl
section
variable {H : Type} {enc : TypeId × Value → H} {w : World} {base : Nat} {spare : Nat → Bool} {held : Bool}
theorem open_slN {x : Option Addr} {len cap : Nat} {d : DataW H} {p : List MemPlace} (h : DataW.Trod enc Tryd.prog w base spare held 52 (.slice x len cap) d p) : SlN w x len ∧ len ≤ maxLen := by
  obtain ⟨fuel, hf⟩ := h
  rcases open_ints Tryd.underlying52 Tryd.underlying3 cells_intN hf with ⟨h1, -⟩ | ⟨a, len', cap', zs, h1, -, hle, hcm, hz, -, hi, -⟩
  · simp [Value.cells] at h1
    obtain ⟨rfl, rfl, rfl⟩ := h1
    exact ⟨fun k hk => by omega, by decide⟩
  · simp [Value.cells] at h1
    obtain ⟨rfl, rfl, rfl⟩ := h1
    have hspot : ∀ i, i < len → a.spot = none := fun i hil => by
      have h0 := hi 0 (by rw [hz]; split <;> omega)
      obtain ⟨b, off, spot⟩ := a
      unfold World.cell? Addr.add at h0
      rw [if_pos rfl] at h0
      split at h0
      · split at h0
        · cases h0
        · rename_i hs; simpa using hs
      · cases h0
    refine ⟨fun i hil => ?_, by omega⟩
    have h1 := hi i (by rw [hz]; split <;> omega)
    have h2 := hspot i hil
    obtain ⟨b, off, spot⟩ := a
    simp only at h2
    subst h2
    rw [Addr.add_lit] at h1
    exact ⟨b, off, _, rfl, h1⟩
end
end Go.Proofs.YtndechodaegkiaaDoor
