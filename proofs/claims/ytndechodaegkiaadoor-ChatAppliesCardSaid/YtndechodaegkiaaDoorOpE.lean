
/- A slice of entries, and an entry by value, as arguments. -/
import Derived.Test.YtndechodaegkiaaDoorChE
import Derived.Test.YtndechodaegkiaaDoorLaid
import Derived.Deep.Slices
import Derived.ChangeSame
import Derived.Lib.SmallJoins
namespace Go.Proofs.YtndechodaegkiaaDoor
open Go.ChangeShapes Go.WideShapes Go.ChangeAt Go.RowKit Go.Deep Joins
theorem cells_i64 : Tryd.prog.cellsOf 2 = 1 := by kernel_rfl
theorem cells_int : Tryd.prog.cellsOf 3 = 1 := by kernel_rfl
theorem cells_kind : Tryd.prog.cellsOf 24 = 1 := by kernel_rfl
theorem cells_str : Tryd.prog.cellsOf 9 = 1 := by kernel_rfl
theorem cells_entry : Tryd.prog.cellsOf 26 = 4 := by kernel_rfl
section
variable {H : Type} {enc : TypeId × Value → H} {w : World} {base : Nat} {spare : Nat → Bool} {held : Bool}
set_option maxRecDepth 100000 in
set_option maxHeartbeats 400000 in
theorem open_entries {x : Option Addr} {len cap : Nat} {d : DataW H} {p : List MemPlace} (h : DataW.Trod enc Tryd.prog w base spare held 23 (.slice x len cap) d p) :
    ∃ l : List En, l.length = len ∧ HasE w x l ∧ (∀ e, e ∈ l → e.s.size ≤ maxLen) ∧ len ≤ maxLen := by
  obtain ⟨fuel, hf⟩ := h
  rcases open_slice Tryd.underlying23 hf with ⟨h1, -⟩ | ⟨a, len', cap', m, n, D, Pl, h1, -, hle, hcm, hm, -, hi⟩
  · simp [Value.cells] at h1
    obtain ⟨rfl, rfl, rfl⟩ := h1
    exact ⟨[], rfl, fun k e he => by simp at he, fun e he => by simp at he, by decide⟩
  · simp [Value.cells] at h1
    obtain ⟨rfl, rfl, rfl⟩ := h1
    have hlm : len ≤ m := by rw [hm]; split <;> omega
    have key : ∀ i, ∃ e : En, i < len → w.cell? (a.add (i * 4)) = some (.int .i64 e.k) ∧ w.cell? ((a.add (i * 4)).add 1) = some (.int .i64 e.m) ∧ w.cell? ((a.add (i * 4)).add 2) = some (.int .i64 e.n) ∧ w.cell? ((a.add (i * 4)).add 3) = some (.string e.s) ∧ e.s.size ≤ maxLen := by
      intro i
      by_cases hil : i < len
      · obtain ⟨cs', hc, ht⟩ := hi i (by omega)
        rw [cells_entry] at hc
        obtain ⟨y0, y1, y2, y3, n', -, hlen, h0, h1, h2, h3⟩ := trod_struct4 Tryd.underlying26 ht
        rw [cells_entry] at hlen
        obtain ⟨_, hcl, hat⟩ := World.cells?_some hc
        match cs', hlen with
        | [u0, u1, u2, u3], _ =>
          obtain ⟨k, e0, -, -⟩ := DataW.trod_int Tryd.underlying24 h0
          obtain ⟨m', e1, -, -⟩ := DataW.trod_int Tryd.underlying3 h1
          obtain ⟨q, e2, -, -⟩ := DataW.trod_int Tryd.underlying2 h2
          obtain ⟨s, e3, -, hs⟩ := DataW.trod_string Tryd.underlying9 h3
          have a0 := hat 0 (by simp)
          have a1 := hat 1 (by simp)
          have a2 := hat 2 (by simp)
          have a3 := hat 3 (by simp)
          simp [cells_kind] at e0
          simp [cells_int] at e1
          simp [cells_i64] at e2
          simp [cells_str] at e3
          subst e0 e1 e2 e3
          exact ⟨⟨k, m', q, s⟩, fun _ => ⟨by simpa [Addr.add] using a0, by simpa using a1, by simpa using a2, by simpa using a3, hs⟩⟩
      · exact ⟨⟨0, 0, 0, ⟨#[]⟩⟩, fun h => absurd h hil⟩
    obtain ⟨f, hf⟩ := Classical.axiomOfChoice key
    refine ⟨(List.range len).map f, by simp, fun k e he => ?_, fun e he => ?_, by omega⟩
    · obtain ⟨hk, rfl⟩ := List.getElem?_eq_some_iff.1 he
      have hk' : k < len := by simpa using hk
      simp only [List.getElem_map, List.getElem_range]
      obtain ⟨c0, c1, c2, c3, -⟩ := hf k hk'
      obtain ⟨b, off, spot⟩ := a
      have hsp : spot = none := by
        obtain ⟨d0, -⟩ := hf 0 (by omega)
        rw [Nat.zero_mul] at d0
        unfold World.cell? Addr.add at d0
        rw [if_pos rfl] at d0
        split at d0
        · split at d0
          · cases d0
          · rename_i hs; simpa using hs
        · cases d0
      subst hsp
      rw [Addr.add_lit] at c0 c1 c2 c3
      rw [Addr.add_lit] at c1 c2 c3
      exact ⟨b, off, rfl, c0, c1, c2, c3⟩
    · simp only [List.mem_map, List.mem_range] at he
      obtain ⟨k, hk, rfl⟩ := he
      exact (hf k hk).2.2.2.2
set_option maxRecDepth 100000 in
set_option maxHeartbeats 400000 in
theorem open_entry {r : Reach} {b0 : Nat} {v : Value} {d : DataW H} {p : List MemPlace} (hv : Value.okWide Tryd.prog w r b0 26 v) (h : DataW.Trod enc Tryd.prog w base spare held 26 v d p) :
    ∃ e : En, v = enV e ∧ e.s.size ≤ maxLen := by
  obtain ⟨c0, c1, c2, c3, y0, y1, y2, y3, m, rfl, -, -, hy0, hy1, hy2, hy3⟩ := open_agg4 Tryd.underlying26 (by kernel_rfl) cells_entry hv h
  obtain ⟨k, e0, -, -⟩ := DataW.trod_int Tryd.underlying24 hy0
  obtain ⟨m', e1, -, -⟩ := DataW.trod_int Tryd.underlying3 hy1
  obtain ⟨q, e2, -, -⟩ := DataW.trod_int Tryd.underlying2 hy2
  obtain ⟨s, e3, -, hs⟩ := DataW.trod_string Tryd.underlying9 hy3
  simp at e0 e1 e2 e3
  subst e0 e1 e2 e3
  exact ⟨⟨k, m', q, s⟩, rfl, hs⟩
end
end Go.Proofs.YtndechodaegkiaaDoor
