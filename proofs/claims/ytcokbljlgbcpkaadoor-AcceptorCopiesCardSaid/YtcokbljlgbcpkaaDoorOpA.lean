
/- An entry, an accepted, a call by value, and a slice of calls, as arguments. -/
import Derived.Test.YtcokbljlgbcpkaaDoorAdI
import Derived.Test.YtcokbljlgbcpkaaDoorLaid
import Derived.Test.YtcokbljlgbcpkaaDoorBaO
import Derived.Deep.Slices
import Derived.Deep.Strs
import Derived.ChangeSame
import Derived.Lib.SmallJoins
namespace Go.Proofs.YtcokbljlgbcpkaaDoor
open Go.ChangeShapes Go.WideShapes Go.ChangeAt Go.RowKit Go.Deep Joins
theorem cells_i64 : Tryd.prog.cellsOf 2 = 1 := by kernel_rfl
theorem cells_int : Tryd.prog.cellsOf 3 = 1 := by kernel_rfl
theorem cells_kind : Tryd.prog.cellsOf 22 = 1 := by kernel_rfl
theorem cells_str : Tryd.prog.cellsOf 9 = 1 := by kernel_rfl
theorem cells_entry : Tryd.prog.cellsOf 24 = 4 := by kernel_rfl
theorem cells_acc : Tryd.prog.cellsOf 39 = 6 := by kernel_rfl
theorem cells_act : Tryd.prog.cellsOf 43 = 7 := by kernel_rfl
section
variable {H : Type} {enc : TypeId × Value → H} {w : World} {base : Nat} {spare : Nat → Bool} {held : Bool}
set_option maxRecDepth 100000 in
set_option maxHeartbeats 400000 in
theorem trod_bal {n : Nat} {cs : List Value} {x : DataW H × List MemPlace} (h : DataW.trod enc Tryd.prog w base spare held n 36 cs = some x) : ∃ r q : Int, cs = [.int .i64 r, .int .i64 q] := by
  obtain ⟨y0, y1, n', -, hlen, h0, h1⟩ := trod_struct2 Tryd.underlying36 h
  rw [cells_ballot] at hlen
  match cs, hlen with
  | [u0, u1], _ =>
    obtain ⟨r, e0, -, -⟩ := DataW.trod_int Tryd.underlying2 h0
    obtain ⟨q, e1, -, -⟩ := DataW.trod_int Tryd.underlying3 h1
    simp [cells_i64] at e0
    simp [cells_int] at e1
    subst e0 e1
    exact ⟨r, q, rfl⟩
set_option maxRecDepth 100000 in
set_option maxHeartbeats 400000 in
theorem trod_ent {n : Nat} {cs : List Value} {x : DataW H × List MemPlace} (h : DataW.trod enc Tryd.prog w base spare held n 24 cs = some x) :
    ∃ (k m q : Int) (s : ByteArray), cs = [.int .i64 k, .int .i64 m, .int .i64 q, .string s] ∧ s.size ≤ maxLen := by
  obtain ⟨y0, y1, y2, y3, n', -, hlen, h0, h1, h2, h3⟩ := trod_struct4 Tryd.underlying24 h
  rw [cells_entry] at hlen
  match cs, hlen with
  | [u0, u1, u2, u3], _ =>
    obtain ⟨k, e0, -, -⟩ := DataW.trod_int Tryd.underlying22 h0
    obtain ⟨m, e1, -, -⟩ := DataW.trod_int Tryd.underlying3 h1
    obtain ⟨q, e2, -, -⟩ := DataW.trod_int Tryd.underlying2 h2
    obtain ⟨s, e3, -, hs⟩ := DataW.trod_string Tryd.underlying9 h3
    simp [cells_kind] at e0
    simp [cells_int] at e1
    simp [cells_i64] at e2
    simp [cells_str] at e3
    subst e0 e1 e2 e3
    exact ⟨k, m, q, s, rfl, hs⟩
set_option maxRecDepth 100000 in
set_option maxHeartbeats 400000 in
theorem trod_acc {n : Nat} {cs : List Value} {x : DataW H × List MemPlace} (h : DataW.trod enc Tryd.prog w base spare held n 39 cs = some x) :
    ∃ (a b k m q : Int) (s : ByteArray), cs = [.int .i64 a, .int .i64 b, .int .i64 k, .int .i64 m, .int .i64 q, .string s] ∧ s.size ≤ maxLen := by
  obtain ⟨y0, y1, n', -, hlen, h0, h1⟩ := trod_struct2 Tryd.underlying39 h
  rw [cells_acc] at hlen
  match cs, hlen with
  | [u0, u1, u2, u3, u4, u5], _ =>
    obtain ⟨a, b, e0⟩ := trod_bal h0
    obtain ⟨k, m, q, s, e1, hs⟩ := trod_ent h1
    simp [cells_ballot] at e0
    simp [cells_entry] at e1
    obtain ⟨rfl, rfl⟩ := e0
    obtain ⟨rfl, rfl, rfl, rfl⟩ := e1
    exact ⟨a, b, k, m, q, s, rfl, hs⟩
set_option maxRecDepth 100000 in
set_option maxHeartbeats 400000 in
theorem trod_act {n : Nat} {cs : List Value} {x : DataW H × List MemPlace} (h : DataW.trod enc Tryd.prog w base spare held n 43 cs = some x) :
    ∃ e : Ac, cs = acL e ∧ e.s.size ≤ maxLen := by
  obtain ⟨y0, y1, y2, n', -, hlen, h0, h1, h2⟩ := trod_struct3 Tryd.underlying43 h
  rw [cells_act] at hlen
  match cs, hlen with
  | [u0, u1, u2, u3, u4, u5, u6], _ =>
    obtain ⟨c, e, -, -⟩ := DataW.trod_int Tryd.underlying3 h0
    obtain ⟨a, b, e0⟩ := trod_bal h1
    obtain ⟨k, m, q, s, e1, hs⟩ := trod_ent h2
    simp [cells_int] at e
    simp [cells_ballot] at e0
    simp [cells_entry] at e1
    obtain ⟨rfl, rfl⟩ := e0
    obtain ⟨rfl, rfl, rfl, rfl⟩ := e1
    subst e
    exact ⟨⟨c, a, b, k, m, q, s⟩, rfl, hs⟩
set_option maxRecDepth 100000 in
set_option maxHeartbeats 400000 in
theorem open_entry14 {r : Reach} {b0 : Nat} {v : Value} {d : DataW H} {p : List MemPlace} (hv : Value.okWide Tryd.prog w r b0 24 v) (h : DataW.Trod enc Tryd.prog w base spare held 24 v d p) : ∃ e : Int × Int × Int × ByteArray, v = .agg #[.int .i64 e.1, .int .i64 e.2.1, .int .i64 e.2.2.1, .string e.2.2.2] ∧ e.2.2.2.size ≤ maxLen := by
  obtain ⟨cs, rfl, hsz⟩ := okWide_struct Tryd.underlying24 hv
  obtain ⟨fuel, hf⟩ := h
  obtain ⟨k, m, q, s, e, hs⟩ := trod_ent hf
  obtain ⟨cs⟩ := cs
  simp only [Value.cells] at e
  subst e
  exact ⟨(k, m, q, s), rfl, hs⟩
set_option maxRecDepth 100000 in
set_option maxHeartbeats 400000 in
theorem open_accepted14 {r : Reach} {b0 : Nat} {v : Value} {d : DataW H} {p : List MemPlace} (hv : Value.okWide Tryd.prog w r b0 39 v) (h : DataW.Trod enc Tryd.prog w base spare held 39 v d p) : ∃ e : Int × Int × Int × Int × Int × ByteArray, v = .agg #[.int .i64 e.1, .int .i64 e.2.1, .int .i64 e.2.2.1, .int .i64 e.2.2.2.1, .int .i64 e.2.2.2.2.1, .string e.2.2.2.2.2] ∧ e.2.2.2.2.2.size ≤ maxLen := by
  obtain ⟨cs, rfl, hsz⟩ := okWide_struct Tryd.underlying39 hv
  obtain ⟨fuel, hf⟩ := h
  obtain ⟨a, b, k, m, q, s, e, hs⟩ := trod_acc hf
  obtain ⟨cs⟩ := cs
  simp only [Value.cells] at e
  subst e
  exact ⟨(a, b, k, m, q, s), rfl, hs⟩
set_option maxRecDepth 100000 in
set_option maxHeartbeats 400000 in
theorem open_act14 {r : Reach} {b0 : Nat} {v : Value} {d : DataW H} {p : List MemPlace} (hv : Value.okWide Tryd.prog w r b0 43 v) (h : DataW.Trod enc Tryd.prog w base spare held 43 v d p) : ∃ e : Ac, v = acVal e ∧ e.s.size ≤ maxLen := by
  obtain ⟨cs, rfl, hsz⟩ := okWide_struct Tryd.underlying43 hv
  obtain ⟨fuel, hf⟩ := h
  obtain ⟨x, e, hs⟩ := trod_act hf
  obtain ⟨cs⟩ := cs
  simp only [Value.cells] at e
  subst e
  exact ⟨x, rfl, hs⟩
set_option maxRecDepth 100000 in
set_option maxHeartbeats 400000 in
theorem open_acts {x : Option Addr} {len cap : Nat} {d : DataW H} {p : List MemPlace} (h : DataW.Trod enc Tryd.prog w base spare held 27 (.slice x len cap) d p) :
    ∃ l : List Ac, l.length = len ∧ HasAc w x l ∧ (∀ e, e ∈ l → e.s.size ≤ maxLen) ∧ len ≤ maxLen := by
  obtain ⟨fuel, hf⟩ := h
  rcases open_slice Tryd.underlying27 hf with ⟨h1, -⟩ | ⟨a, len', cap', m, n, D, Pl, h1, -, hle, hcm, hm, -, hi⟩
  · simp [Value.cells] at h1
    obtain ⟨rfl, rfl, rfl⟩ := h1
    exact ⟨[], rfl, fun k e he => by simp at he, fun e he => by simp at he, by decide⟩
  · simp [Value.cells] at h1
    obtain ⟨rfl, rfl, rfl⟩ := h1
    have hlm : len ≤ m := by rw [hm]; split <;> omega
    have key : ∀ i, ∃ e : Ac, i < len → w.cell? (a.add (i * 7)) = some (.int .i64 e.w) ∧ w.cell? ((a.add (i * 7)).add 1) = some (.int .i64 e.x) ∧ w.cell? ((a.add (i * 7)).add 2) = some (.int .i64 e.y) ∧ w.cell? ((a.add (i * 7)).add 3) = some (.int .i64 e.k) ∧ w.cell? ((a.add (i * 7)).add 4) = some (.int .i64 e.m) ∧ w.cell? ((a.add (i * 7)).add 5) = some (.int .i64 e.n) ∧ w.cell? ((a.add (i * 7)).add 6) = some (.string e.s) ∧ e.s.size ≤ maxLen := by
      intro i
      by_cases hil : i < len
      · obtain ⟨cs', hc, ht⟩ := hi i (by omega)
        rw [cells_act] at hc
        obtain ⟨e, he, hs⟩ := trod_act ht
        obtain ⟨_, hcl, hat⟩ := World.cells?_some hc
        subst he
        have a0 := hat 0 (by simp)
        have a1 := hat 1 (by simp)
        have a2 := hat 2 (by simp)
        have a3 := hat 3 (by simp)
        have a4 := hat 4 (by simp)
        have a5 := hat 5 (by simp)
        have a6 := hat 6 (by simp)
        simp only [acL] at a0 a1 a2 a3 a4 a5 a6
        exact ⟨e, fun _ => ⟨by simpa [Addr.add] using a0, by simpa using a1, by simpa using a2, by simpa using a3, by simpa using a4, by simpa using a5, by simpa using a6, hs⟩⟩
      · exact ⟨⟨0, 0, 0, 0, 0, 0, ⟨#[]⟩⟩, fun h => absurd h hil⟩
    obtain ⟨f, hf⟩ := Classical.axiomOfChoice key
    refine ⟨(List.range len).map f, by simp, fun k e he => ?_, fun e he => ?_, by omega⟩
    · obtain ⟨hk, rfl⟩ := List.getElem?_eq_some_iff.1 he
      have hk' : k < len := by simpa using hk
      simp only [List.getElem_map, List.getElem_range]
      obtain ⟨c0, c1, c2, c3, c4, c5, c6, -⟩ := hf k hk'
      obtain ⟨b, off, spot⟩ := a
      have hsp : spot = none := by
        obtain ⟨d0, -⟩ := hf 0 (by omega)
        rw [Nat.zero_mul] at d0
        unfold World.cell? Addr.add at d0
        rw [if_pos rfl] at d0
        split at d0
        · split at d0
          · cases d0
          · rename_i hs; simpa using hs
        · cases d0
      subst hsp
      rw [Addr.add_lit] at c0 c1 c2 c3 c4 c5 c6
      rw [Addr.add_lit] at c1 c2 c3 c4 c5 c6
      exact ⟨b, off, rfl, c0, c1, c2, c3, c4, c5, c6⟩
    · simp only [List.mem_map, List.mem_range] at he
      obtain ⟨k, hk, rfl⟩ := he
      exact (hf k hk).2.2.2.2.2.2.2
end
end Go.Proofs.YtcokbljlgbcpkaaDoor
