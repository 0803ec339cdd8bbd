
/- A call by value, a slice of calls, a slice of numbers, as arguments. -/
import Derived.Test.YtfdfmmmfklodgaaWiD
import Derived.Deep.Slices
import Derived.ChangeSame
import Derived.ChangeSlices
import Derived.Lib.SmallJoins
namespace Go.Proofs.Ytfdfmmmfklodgaa
set_option linter.unusedSimpArgs false
set_option linter.unusedVariables false
open Go.ChangeShapes Go.WideShapes Go.ChangeAt Go.RowKit Go.Deep Joins
theorem cells_i64 : Try.prog.cellsOf 2 = 1 := by kernel_rfl
theorem cells_int : Try.prog.cellsOf 3 = 1 := by kernel_rfl
theorem cells_actW : Try.prog.cellsOf 32 = 3 := by kernel_rfl
theorem spot_of {w : World} {a : Addr} {v : Value} (h : w.cell? (a.add 0) = some v) : a.spot = none := by
  obtain ⟨b, off, spot⟩ := a
  unfold World.cell? Addr.add at h
  rw [if_pos rfl] at h
  split at h
  · split at h
    · cases h
    · rename_i hs; simpa using hs
  · cases h
theorem bd_i64 {n : Int} (h : (Lit.int .i64 n).wf = true) : -9223372036854775808 ≤ n ∧ n ≤ 9223372036854775807 := bounds_i64 h
/-- Numbers as they lie from an address on. -/
def HasZ (w : World) (ao : Option Addr) (l : List Int) : Prop := ∀ k z, l[k]? = some z → ∃ b off, ao = some ⟨b, off, none⟩ ∧ w.cell? ⟨b, off + k, none⟩ = some (.int .i64 z)
theorem HasZ.step {w w' : World} {ao : Option Addr} {l : List Int} (h : HasZ w ao l) (hb : Below w.heap.size w w') : HasZ w' ao l := fun k z hz => by
  obtain ⟨b, off, e, h0⟩ := h k z hz
  exact ⟨b, off, e, cells_kept hb h0⟩
section
variable {H : Type} {enc : TypeId × Value → H} {w : World} {base : Nat} {spare : Nat → Bool} {held : Bool}
set_option maxRecDepth 100000 in
set_option maxHeartbeats 400000 in
theorem trod_actW {n : Nat} {cs : List Value} {x : DataW H × List MemPlace} (h : DataW.trod enc Try.prog w base spare held n 32 cs = some x) :
    ∃ e : Int × Int × Int, cs = [.int .i64 e.1, .int .i64 e.2.1, .int .i64 e.2.2] ∧ wf64 e.2.1 := by
  obtain ⟨y0, y1, y2, n', -, hlen, h0, h1, h2⟩ := trod_struct3 Try.underlying32 h
  rw [cells_actW] at hlen
  match cs, hlen with
  | [u0, u1, u2], _ =>
    obtain ⟨c, e0, -, -⟩ := DataW.trod_int Try.underlying3 h0
    obtain ⟨a, e1, -, hw⟩ := DataW.trod_int Try.underlying2 h1
    obtain ⟨b, e2, -, -⟩ := DataW.trod_int Try.underlying2 h2
    simp [cells_int] at e0
    simp [cells_int, cells_i64] at e1
    simp [cells_int, cells_i64] at e2
    subst e0 e1 e2
    exact ⟨(c, a, b), rfl, hw⟩
set_option maxRecDepth 100000 in
set_option maxHeartbeats 400000 in
theorem open_actW {r : Reach} {b0 : Nat} {v : Value} {d : DataW H} {p : List MemPlace} (hv : Value.okWide Try.prog w r b0 32 v) (h : DataW.Trod enc Try.prog w base spare held 32 v d p) :
    ∃ e : Int × Int × Int, v = .agg #[.int .i64 e.1, .int .i64 e.2.1, .int .i64 e.2.2] ∧ wf64 e.2.1 := by
  obtain ⟨cs, rfl, hsz⟩ := okWide_struct Try.underlying32 hv
  obtain ⟨fuel, hf⟩ := h
  obtain ⟨x, e, hs⟩ := trod_actW hf
  obtain ⟨cs⟩ := cs
  simp only [Value.cells] at e
  subst e
  exact ⟨x, rfl, hs⟩
set_option maxRecDepth 100000 in
set_option maxHeartbeats 400000 in
theorem open_actsW {x : Option Addr} {len cap : Nat} {d : DataW H} {p : List MemPlace} (h : DataW.Trod enc Try.prog w base spare held 42 (.slice x len cap) d p) : HasA w x len ∧ len ≤ 9223372036854775807 := by
  obtain ⟨fuel, hf⟩ := h
  rcases open_slice Try.underlying42 hf with ⟨h1, -⟩ | ⟨a, len', cap', m, n, D, Pl, h1, -, hle, hcm, hm, -, hi⟩
  · simp [Value.cells] at h1
    obtain ⟨rfl, rfl, rfl⟩ := h1
    exact ⟨fun k hk => by omega, by decide⟩
  · simp [Value.cells] at h1
    obtain ⟨rfl, rfl, rfl⟩ := h1
    have hlm : len ≤ m := by rw [hm]; split <;> omega
    refine ⟨fun i hil => ?_, by unfold maxLen at hcm; omega⟩
    have key : ∀ j, j < len → ∃ e : Int × Int × Int, w.cell? (a.add (j * 3)) = some (.int .i64 e.1) ∧ w.cell? ((a.add (j * 3)).add 1) = some (.int .i64 e.2.1) ∧ w.cell? ((a.add (j * 3)).add 2) = some (.int .i64 e.2.2) ∧ wf64 e.2.1 := by
      intro j hj
      obtain ⟨cs', hc, ht⟩ := hi j (by omega)
      rw [cells_actW] at hc
      obtain ⟨e, he, hs⟩ := trod_actW ht
      obtain ⟨_, hcl, hat⟩ := World.cells?_some hc
      subst he
      have a0 := hat 0 (by simp)
      have a1 := hat 1 (by simp)
      have a2 := hat 2 (by simp)
      exact ⟨e, by simpa [Addr.add] using a0, by simpa using a1, by simpa using a2, hs⟩
    obtain ⟨e0, z0, -⟩ := key 0 (by omega)
    rw [Nat.zero_mul] at z0
    have hsp := spot_of z0
    obtain ⟨b, off, spot⟩ := a
    simp only at hsp
    subst hsp
    obtain ⟨e, c0, c1, c2, hw⟩ := key i hil
    rw [Addr.add_lit] at c0 c1 c2
    rw [Addr.add_lit] at c1 c2
    exact ⟨b, off, e.1, e.2.1, e.2.2, rfl, c0, c1, c2, hw⟩
set_option maxRecDepth 100000 in
set_option maxHeartbeats 400000 in
theorem open_numsW {x : Option Addr} {len cap : Nat} {d : DataW H} {p : List MemPlace} (h : DataW.Trod enc Try.prog w base spare held 22 (.slice x len cap) d p) :
    ∃ l : List Int, l.length = len ∧ HasZ w x l ∧ (∀ z, z ∈ l → wf64 z) ∧ len ≤ 9223372036854775807 := by
  obtain ⟨fuel, hf⟩ := h
  rcases open_ints Try.underlying22 Try.underlying2 cells_i64 hf with ⟨h1, -⟩ | ⟨a, len', cap', zs, h1, -, hle, hcm, hz, -, hi, hw⟩
  · simp [Value.cells] at h1
    obtain ⟨rfl, rfl, rfl⟩ := h1
    exact ⟨[], rfl, fun k z hz => by simp at hz, fun z hz => by simp at hz, by decide⟩
  · simp [Value.cells] at h1
    obtain ⟨rfl, rfl, rfl⟩ := h1
    have hlz : len ≤ zs.length := by rw [hz]; split <;> omega
    refine ⟨zs.take len, by simp; omega, fun k z hk => ?_, fun z hm => hw z (List.mem_of_mem_take hm), by unfold maxLen at hcm; omega⟩
    obtain ⟨hk1, hk2⟩ := List.getElem?_eq_some_iff.1 hk
    have hk3 : k < zs.length := by simp at hk1; omega
    have h0 := hi 0 (by omega)
    have h1 := hi k hk3
    have hsp := spot_of h0
    obtain ⟨b, off, spot⟩ := a
    simp only at hsp
    subst hsp
    rw [Addr.add_lit] at h1
    refine ⟨b, off, rfl, ?_⟩
    rw [h1, ← hk2]
    simp [hk3]
end
end Go.Proofs.Ytfdfmmmfklodgaa
