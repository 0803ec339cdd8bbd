
/- An entry, a call of a proposer by value, and a slice of such calls, as arguments. -/
import Derived.Test.YtcahkcbenanfnaaGreatDoorPrL
import Derived.Test.YtcahkcbenanfnaaGreatDoorLaid
import Derived.Test.YtcahkcbenanfnaaGreatDoorBaO
import Derived.Deep.Slices
import Derived.Deep.Strs
import Derived.ChangeSame
import Derived.Lib.SmallJoins
namespace Go.Proofs.YtcahkcbenanfnaaGreatDoor
set_option linter.unusedSimpArgs false
set_option linter.unusedVariables false
open Go.ChangeShapes Go.WideShapes Go.ChangeAt Go.RowKit Go.Deep Joins
theorem cells_i64 : Tryz.prog.cellsOf 2 = 1 := by kernel_rfl
theorem cells_int : Tryz.prog.cellsOf 3 = 1 := by kernel_rfl
theorem cells_kind : Tryz.prog.cellsOf 24 = 1 := by kernel_rfl
theorem cells_str : Tryz.prog.cellsOf 9 = 1 := by kernel_rfl
theorem cells_entry : Tryz.prog.cellsOf 26 = 4 := by kernel_rfl
theorem cells_acc : Tryz.prog.cellsOf 33 = 6 := by kernel_rfl
theorem cells_act15 : Tryz.prog.cellsOf 62 = 10 := by kernel_rfl
def paL (e : Pa) : List Value := [.int .i64 e.w, .int .i64 e.pl, .int .i64 e.ar, .int .i64 e.ap, .int .i64 e.k, .int .i64 e.m, .int .i64 e.n, .string e.s, .int .i64 e.x, .int .i64 e.y]
def paV (e : Pa) : Value := .agg #[.int .i64 e.w, .int .i64 e.pl, .int .i64 e.ar, .int .i64 e.ap, .int .i64 e.k, .int .i64 e.m, .int .i64 e.n, .string e.s, .int .i64 e.x, .int .i64 e.y]
section
variable {H : Type} {enc : TypeId × Value → H} {w : World} {base : Nat} {spare : Nat → Bool} {held : Bool}
set_option maxRecDepth 100000 in
set_option maxHeartbeats 400000 in
theorem trod_bal {n : Nat} {cs : List Value} {x : DataW H × List MemPlace} (h : DataW.trod enc Tryz.prog w base spare held n 23 cs = some x) : ∃ r q : Int, cs = [.int .i64 r, .int .i64 q] := by
  obtain ⟨y0, y1, n', -, hlen, h0, h1⟩ := trod_struct2 Tryz.underlying23 h
  rw [cells_ballot] at hlen
  match cs, hlen with
  | [u0, u1], _ =>
    obtain ⟨r, e0, -, -⟩ := DataW.trod_int Tryz.underlying2 h0
    obtain ⟨q, e1, -, -⟩ := DataW.trod_int Tryz.underlying3 h1
    simp [cells_i64] at e0
    simp [cells_int] at e1
    subst e0 e1
    exact ⟨r, q, rfl⟩
set_option maxRecDepth 100000 in
set_option maxHeartbeats 400000 in
theorem trod_ent {n : Nat} {cs : List Value} {x : DataW H × List MemPlace} (h : DataW.trod enc Tryz.prog w base spare held n 26 cs = some x) :
    ∃ (k m q : Int) (s : ByteArray), cs = [.int .i64 k, .int .i64 m, .int .i64 q, .string s] ∧ s.size ≤ maxLen := by
  obtain ⟨y0, y1, y2, y3, n', -, hlen, h0, h1, h2, h3⟩ := trod_struct4 Tryz.underlying26 h
  rw [cells_entry] at hlen
  match cs, hlen with
  | [u0, u1, u2, u3], _ =>
    obtain ⟨k, e0, -, -⟩ := DataW.trod_int Tryz.underlying24 h0
    obtain ⟨m, e1, -, -⟩ := DataW.trod_int Tryz.underlying3 h1
    obtain ⟨q, e2, -, -⟩ := DataW.trod_int Tryz.underlying2 h2
    obtain ⟨s, e3, -, hs⟩ := DataW.trod_string Tryz.underlying9 h3
    simp [cells_kind] at e0
    simp [cells_int] at e1
    simp [cells_i64] at e2
    simp [cells_str] at e3
    subst e0 e1 e2 e3
    exact ⟨k, m, q, s, rfl, hs⟩
set_option maxRecDepth 100000 in
set_option maxHeartbeats 400000 in
theorem trod_acc {n : Nat} {cs : List Value} {x : DataW H × List MemPlace} (h : DataW.trod enc Tryz.prog w base spare held n 33 cs = some x) :
    ∃ (a b k m q : Int) (s : ByteArray), cs = [.int .i64 a, .int .i64 b, .int .i64 k, .int .i64 m, .int .i64 q, .string s] ∧ s.size ≤ maxLen := by
  obtain ⟨y0, y1, n', -, hlen, h0, h1⟩ := trod_struct2 Tryz.underlying33 h
  rw [cells_acc] at hlen
  match cs, hlen with
  | [u0, u1, u2, u3, u4, u5], _ =>
    obtain ⟨a, b, e0⟩ := trod_bal h0
    obtain ⟨k, m, q, s, e1, hs⟩ := trod_ent h1
    simp [cells_ballot] at e0
    simp [cells_entry] at e1
    obtain ⟨rfl, rfl⟩ := e0
    obtain ⟨rfl, rfl, rfl, rfl⟩ := e1
    exact ⟨a, b, k, m, q, s, rfl, hs⟩
set_option maxRecDepth 100000 in
set_option maxHeartbeats 400000 in
theorem trod_act15 {n : Nat} {cs : List Value} {x : DataW H × List MemPlace} (h : DataW.trod enc Tryz.prog w base spare held n 62 cs = some x) :
    ∃ e : Pa, cs = paL e ∧ e.s.size ≤ maxLen := by
  obtain ⟨y0, y1, y2, y3, n', -, hlen, h0, h1, h2, h3⟩ := trod_struct4 Tryz.underlying62 h
  rw [cells_act15] at hlen
  match cs, hlen with
  | [u0, u1, u2, u3, u4, u5, u6, u7, u8, u9], _ =>
    obtain ⟨c, e, -, -⟩ := DataW.trod_int Tryz.underlying3 h0
    obtain ⟨c2, e2, -, -⟩ := DataW.trod_int Tryz.underlying3 h1
    obtain ⟨a, b, k, m, q, s, e1, hs⟩ := trod_acc h2
    obtain ⟨x, y, e0⟩ := trod_bal h3
    simp [cells_int] at e
    simp [cells_int] at e2
    simp [cells_int, cells_acc] at e1
    simp [cells_int, cells_acc, cells_ballot] at e0
    obtain ⟨rfl, rfl⟩ := e0
    obtain ⟨rfl, rfl, rfl, rfl, rfl, rfl⟩ := e1
    subst e e2
    exact ⟨⟨c, c2, a, b, k, m, q, s, x, y⟩, rfl, hs⟩
set_option maxRecDepth 100000 in
set_option maxHeartbeats 400000 in
theorem open_entry15 {r : Reach} {b0 : Nat} {v : Value} {d : DataW H} {p : List MemPlace} (hv : Value.okWide Tryz.prog w r b0 26 v) (h : DataW.Trod enc Tryz.prog w base spare held 26 v d p) : ∃ e : Int × Int × Int × ByteArray, v = .agg #[.int .i64 e.1, .int .i64 e.2.1, .int .i64 e.2.2.1, .string e.2.2.2] ∧ e.2.2.2.size ≤ maxLen := by
  obtain ⟨cs, rfl, hsz⟩ := okWide_struct Tryz.underlying26 hv
  obtain ⟨fuel, hf⟩ := h
  obtain ⟨k, m, q, s, e, hs⟩ := trod_ent hf
  obtain ⟨cs⟩ := cs
  simp only [Value.cells] at e
  subst e
  exact ⟨(k, m, q, s), rfl, hs⟩
set_option maxRecDepth 100000 in
set_option maxHeartbeats 400000 in
theorem open_act15 {r : Reach} {b0 : Nat} {v : Value} {d : DataW H} {p : List MemPlace} (hv : Value.okWide Tryz.prog w r b0 62 v) (h : DataW.Trod enc Tryz.prog w base spare held 62 v d p) : ∃ e : Pa, v = paV e ∧ e.s.size ≤ maxLen := by
  obtain ⟨cs, rfl, hsz⟩ := okWide_struct Tryz.underlying62 hv
  obtain ⟨fuel, hf⟩ := h
  obtain ⟨x, e, hs⟩ := trod_act15 hf
  obtain ⟨cs⟩ := cs
  simp only [Value.cells] at e
  subst e
  exact ⟨x, rfl, hs⟩
set_option maxRecDepth 100000 in
set_option maxHeartbeats 400000 in
theorem open_acts15 {x : Option Addr} {len cap : Nat} {d : DataW H} {p : List MemPlace} (h : DataW.Trod enc Tryz.prog w base spare held 27 (.slice x len cap) d p) :
    ∃ l : List Pa, l.length = len ∧ HasPa w x l ∧ (∀ e, e ∈ l → e.s.size ≤ maxLen) ∧ len ≤ maxLen := by
  obtain ⟨fuel, hf⟩ := h
  rcases open_slice Tryz.underlying27 hf with ⟨h1, -⟩ | ⟨a, len', cap', m, n, D, Pl, h1, -, hle, hcm, hm, -, hi⟩
  · simp [Value.cells] at h1
    obtain ⟨rfl, rfl, rfl⟩ := h1
    exact ⟨[], rfl, fun k e he => by simp at he, fun e he => by simp at he, by decide⟩
  · simp [Value.cells] at h1
    obtain ⟨rfl, rfl, rfl⟩ := h1
    have hlm : len ≤ m := by rw [hm]; split <;> omega
    have key : ∀ i, ∃ e : Pa, i < len → w.cell? (a.add (i * 10)) = some (.int .i64 e.w) ∧ w.cell? ((a.add (i * 10)).add 1) = some (.int .i64 e.pl) ∧ w.cell? ((a.add (i * 10)).add 2) = some (.int .i64 e.ar) ∧ w.cell? ((a.add (i * 10)).add 3) = some (.int .i64 e.ap) ∧ w.cell? ((a.add (i * 10)).add 4) = some (.int .i64 e.k) ∧ w.cell? ((a.add (i * 10)).add 5) = some (.int .i64 e.m) ∧ w.cell? ((a.add (i * 10)).add 6) = some (.int .i64 e.n) ∧ w.cell? ((a.add (i * 10)).add 7) = some (.string e.s) ∧ w.cell? ((a.add (i * 10)).add 8) = some (.int .i64 e.x) ∧ w.cell? ((a.add (i * 10)).add 9) = some (.int .i64 e.y) ∧ e.s.size ≤ maxLen := by
      intro i
      by_cases hil : i < len
      · obtain ⟨cs', hc, ht⟩ := hi i (by omega)
        rw [cells_act15] at hc
        obtain ⟨e, he, hs⟩ := trod_act15 ht
        obtain ⟨_, hcl, hat⟩ := World.cells?_some hc
        subst he
        have a0 := hat 0 (by simp)
        have a1 := hat 1 (by simp)
        have a2 := hat 2 (by simp)
        have a3 := hat 3 (by simp)
        have a4 := hat 4 (by simp)
        have a5 := hat 5 (by simp)
        have a6 := hat 6 (by simp)
        have a7 := hat 7 (by simp)
        have a8 := hat 8 (by simp)
        have a9 := hat 9 (by simp)
        simp only [paL] at a0 a1 a2 a3 a4 a5 a6 a7 a8 a9
        exact ⟨e, fun _ => ⟨by simpa [Addr.add] using a0, by simpa using a1, by simpa using a2, by simpa using a3, by simpa using a4, by simpa using a5, by simpa using a6, by simpa using a7, by simpa using a8, by simpa using a9, hs⟩⟩
      · exact ⟨⟨0, 0, 0, 0, 0, 0, 0, ⟨#[]⟩, 0, 0⟩, fun h => absurd h hil⟩
    obtain ⟨f, hf⟩ := Classical.axiomOfChoice key
    refine ⟨(List.range len).map f, by simp, fun k e he => ?_, fun e he => ?_, by omega⟩
    · obtain ⟨hk, rfl⟩ := List.getElem?_eq_some_iff.1 he
      have hk' : k < len := by simpa using hk
      simp only [List.getElem_map, List.getElem_range]
      obtain ⟨c0, c1, c2, c3, c4, c5, c6, c7, c8, c9, -⟩ := hf k hk'
      obtain ⟨b, off, spot⟩ := a
      have hsp : spot = none := by
        obtain ⟨d0, -⟩ := hf 0 (by omega)
        rw [Nat.zero_mul] at d0
        unfold World.cell? Addr.add at d0
        rw [if_pos rfl] at d0
        split at d0
        · split at d0
          · cases d0
          · rename_i hs; simpa using hs
        · cases d0
      subst hsp
      rw [Addr.add_lit] at c0 c1 c2 c3 c4 c5 c6 c7 c8 c9
      rw [Addr.add_lit] at c1 c2 c3 c4 c5 c6 c7 c8 c9
      exact ⟨b, off, rfl, c0, c1, c2, c3, c4, c5, c6, c7, c8, c9⟩
    · simp only [List.mem_map, List.mem_range] at he
      obtain ⟨k, hk, rfl⟩ := he
      exact (hf k hk).2.2.2.2.2.2.2.2.2.2
end
end Go.Proofs.YtcahkcbenanfnaaGreatDoor
