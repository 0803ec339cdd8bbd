
/- A slice of numbers as an argument, opened. -/
import Derived.Test.YtkohpfkgdigaiaaBbG
import Derived.Test.YtkohpfkgdigaiaaBaO
import Derived.Deep.Slices
import Derived.ChangeSame
import Derived.ChangeSlices
namespace Go.Proofs.Ytkohpfkgdigaiaa
open Go.ChangeShapes Go.WideShapes Go.ChangeAt Go.RowKit Go.Deep
theorem cells_int : Try.prog.cellsOf 3 = 1 := by kernel_rfl
section
variable {H : Type} {enc : TypeId × Value → H} {w : World} {base : Nat} {spare : Nat → Bool} {held : Bool}
theorem open_slI {x : Option Addr} {len cap : Nat} {d : DataW H} {p : List MemPlace} (h : DataW.Trod enc Try.prog w base spare held 45 (.slice x len cap) d p) : SlI w x len := by
  obtain ⟨fuel, hf⟩ := h
  rcases open_ints Try.underlying45 Try.underlying3 cells_int hf with ⟨h1, -⟩ | ⟨a, len', cap', zs, h1, -, hle, -, hz, -, hi, -⟩
  · simp [Value.cells] at h1
    obtain ⟨rfl, rfl, rfl⟩ := h1
    intro k hk
    omega
  · simp [Value.cells] at h1
    obtain ⟨rfl, rfl, rfl⟩ := h1
    intro i hil
    exact ⟨a, _, rfl, hi i (by rw [hz]; split <;> omega)⟩
end
end Go.Proofs.Ytkohpfkgdigaiaa
