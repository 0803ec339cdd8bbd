
/- Openers and the laid world, in one text (BaO, OpL, Laid). -/
import Derived.Test.YthhpblchiodahaaGreatDoorRows
import Derived.ProofKit
import Derived.Lib.SmallJoins
import Derived.Test.YthhpblchiodahaaGreatDoorLnH
import Derived.Deep.Slices
import Derived.Deep.Strs
import Derived.ChangeSame
import Derived.Test.YthhpblchiodahaaGreatDoorM4
import Derived.OpenShut
import Derived.Lib.LaidIn
import Derived.Lib.LaidU8T
import Derived.LaidLaws
import Derived.Handed
/- A ballot by value, as an argument. -/
namespace Go.Proofs.YthhpblchiodahaaGreatDoor
set_option linter.unusedSimpArgs false
set_option linter.unusedVariables false
open Go.ChangeShapes Go.WideShapes Go.ChangeAt Go.RowKit Joins
variable {H : Type} {enc : TypeId × Value → H} {w : World} {base : Nat} {spare : Nat → Bool} {held : Bool}
theorem cells_ballot : Tryz.prog.cellsOf 66 = 2 := by kernel_rfl
set_option maxRecDepth 100000 in
set_option maxHeartbeats 400000 in
theorem open_ballot {r : Reach} {b0 : Nat} {v : Value} {d : DataW H} {p : List MemPlace} (hv : Value.okWide Tryz.prog w r b0 66 v) (h : DataW.Trod enc Tryz.prog w base spare held 66 v d p) :
    ∃ x y : Int, v = .agg #[.int .i64 x, .int .i64 y] ∧ ((Lit.int .i64 x).wf = true ∧ (Lit.int .i64 y).wf = true) := by
  obtain ⟨c0, c1, y0, y1, m, rfl, -, -, hy0, hy1⟩ := open_agg2 Tryz.underlying66 (by kernel_rfl) cells_ballot hv h
  obtain ⟨a, e0, -, wa⟩ := DataW.trod_int Tryz.underlying2 hy0
  obtain ⟨b, e1, -, wb⟩ := DataW.trod_int Tryz.underlying3 hy1
  simp at e0 e1
  subst e0 e1
  exact ⟨a, b, rfl, wa, wb⟩
end Go.Proofs.YthhpblchiodahaaGreatDoor

/- A call of a learner by value, and a slice of such calls, as arguments. -/
namespace Go.Proofs.YthhpblchiodahaaGreatDoor
open Go.ChangeShapes Go.WideShapes Go.ChangeAt Go.RowKit Go.Deep Joins
theorem cells_i64 : Tryz.prog.cellsOf 2 = 1 := by kernel_rfl
theorem cells_int : Tryz.prog.cellsOf 3 = 1 := by kernel_rfl
theorem cells_kind : Tryz.prog.cellsOf 22 = 1 := by kernel_rfl
theorem cells_str : Tryz.prog.cellsOf 9 = 1 := by kernel_rfl
theorem cells_entry : Tryz.prog.cellsOf 24 = 4 := by kernel_rfl
theorem cells_act16 : Tryz.prog.cellsOf 77 = 8 := by kernel_rfl
def laLo (e : La) : List Value := [.int .i64 e.w, .int .i64 e.pl, .int .i64 e.r, .int .i64 e.p, .int .i64 e.k, .int .i64 e.m, .int .i64 e.n, .string e.s]
def laV (e : La) : Value := .agg #[.int .i64 e.w, .int .i64 e.pl, .int .i64 e.r, .int .i64 e.p, .int .i64 e.k, .int .i64 e.m, .int .i64 e.n, .string e.s]
section
variable {H : Type} {enc : TypeId × Value → H} {w : World} {base : Nat} {spare : Nat → Bool} {held : Bool}
set_option maxRecDepth 100000 in
set_option maxHeartbeats 400000 in
theorem trod_bal {n : Nat} {cs : List Value} {x : DataW H × List MemPlace} (h : DataW.trod enc Tryz.prog w base spare held n 66 cs = some x) : ∃ r q : Int, cs = [.int .i64 r, .int .i64 q] := by
  obtain ⟨y0, y1, n', -, hlen, h0, h1⟩ := trod_struct2 Tryz.underlying66 h
  rw [cells_ballot] at hlen
  match cs, hlen with
  | [u0, u1], _ =>
    obtain ⟨r, e0, -, -⟩ := DataW.trod_int Tryz.underlying2 h0
    obtain ⟨q, e1, -, -⟩ := DataW.trod_int Tryz.underlying3 h1
    simp [cells_i64] at e0
    simp [cells_int] at e1
    subst e0 e1
    exact ⟨r, q, rfl⟩
set_option maxRecDepth 100000 in
set_option maxHeartbeats 400000 in
theorem trod_ent {n : Nat} {cs : List Value} {x : DataW H × List MemPlace} (h : DataW.trod enc Tryz.prog w base spare held n 24 cs = some x) :
    ∃ (k m q : Int) (s : ByteArray), cs = [.int .i64 k, .int .i64 m, .int .i64 q, .string s] ∧ s.size ≤ maxLen := by
  obtain ⟨y0, y1, y2, y3, n', -, hlen, h0, h1, h2, h3⟩ := trod_struct4 Tryz.underlying24 h
  rw [cells_entry] at hlen
  match cs, hlen with
  | [u0, u1, u2, u3], _ =>
    obtain ⟨k, e0, -, -⟩ := DataW.trod_int Tryz.underlying22 h0
    obtain ⟨m, e1, -, -⟩ := DataW.trod_int Tryz.underlying3 h1
    obtain ⟨q, e2, -, -⟩ := DataW.trod_int Tryz.underlying2 h2
    obtain ⟨s, e3, -, hs⟩ := DataW.trod_string Tryz.underlying9 h3
    simp [cells_kind] at e0
    simp [cells_int] at e1
    simp [cells_i64] at e2
    simp [cells_str] at e3
    subst e0 e1 e2 e3
    exact ⟨k, m, q, s, rfl, hs⟩
set_option maxRecDepth 100000 in
set_option maxHeartbeats 400000 in
theorem trod_act16 {n : Nat} {cs : List Value} {x : DataW H × List MemPlace} (h : DataW.trod enc Tryz.prog w base spare held n 77 cs = some x) :
    ∃ e : La, cs = laLo e ∧ e.s.size ≤ maxLen := by
  obtain ⟨y0, y1, y2, y3, n', -, hlen, h0, h1, h2, h3⟩ := trod_struct4 Tryz.underlying77 h
  rw [cells_act16] at hlen
  match cs, hlen with
  | [u0, u1, u2, u3, u4, u5, u6, u7], _ =>
    obtain ⟨c, e, -, -⟩ := DataW.trod_int Tryz.underlying3 h0
    obtain ⟨c2, e2, -, -⟩ := DataW.trod_int Tryz.underlying3 h1
    obtain ⟨x, y, e0⟩ := trod_bal h2
    obtain ⟨k, m, q, s, e1, hs⟩ := trod_ent h3
    simp [cells_int] at e
    simp [cells_int] at e2
    simp [cells_ballot] at e0
    simp [cells_entry] at e1
    obtain ⟨rfl, rfl⟩ := e0
    obtain ⟨rfl, rfl, rfl, rfl⟩ := e1
    subst e e2
    exact ⟨⟨c, c2, x, y, k, m, q, s⟩, rfl, hs⟩
set_option maxRecDepth 100000 in
set_option maxHeartbeats 400000 in
theorem open_entry16 {r : Reach} {b0 : Nat} {v : Value} {d : DataW H} {p : List MemPlace} (hv : Value.okWide Tryz.prog w r b0 24 v) (h : DataW.Trod enc Tryz.prog w base spare held 24 v d p) : ∃ e : Int × Int × Int × ByteArray, v = .agg #[.int .i64 e.1, .int .i64 e.2.1, .int .i64 e.2.2.1, .string e.2.2.2] ∧ e.2.2.2.size ≤ maxLen := by
  obtain ⟨cs, rfl, hsz⟩ := okWide_struct Tryz.underlying24 hv
  obtain ⟨fuel, hf⟩ := h
  obtain ⟨k, m, q, s, e, hs⟩ := trod_ent hf
  obtain ⟨cs⟩ := cs
  simp only [Value.cells] at e
  subst e
  exact ⟨(k, m, q, s), rfl, hs⟩
set_option maxRecDepth 100000 in
set_option maxHeartbeats 400000 in
theorem open_act16 {r : Reach} {b0 : Nat} {v : Value} {d : DataW H} {p : List MemPlace} (hv : Value.okWide Tryz.prog w r b0 77 v) (h : DataW.Trod enc Tryz.prog w base spare held 77 v d p) : ∃ e : La, v = laV e ∧ e.s.size ≤ maxLen := by
  obtain ⟨cs, rfl, hsz⟩ := okWide_struct Tryz.underlying77 hv
  obtain ⟨fuel, hf⟩ := h
  obtain ⟨x, e, hs⟩ := trod_act16 hf
  obtain ⟨cs⟩ := cs
  simp only [Value.cells] at e
  subst e
  exact ⟨x, rfl, hs⟩
set_option maxRecDepth 100000 in
set_option maxHeartbeats 400000 in
theorem open_acts16 {x : Option Addr} {len cap : Nat} {d : DataW H} {p : List MemPlace} (h : DataW.Trod enc Tryz.prog w base spare held 51 (.slice x len cap) d p) :
    ∃ l : List La, l.length = len ∧ HasLa w x l ∧ (∀ e, e ∈ l → e.s.size ≤ maxLen) ∧ len ≤ maxLen := by
  obtain ⟨fuel, hf⟩ := h
  rcases open_slice Tryz.underlying51 hf with ⟨h1, -⟩ | ⟨a, len', cap', m, n, D, Pl, h1, -, hle, hcm, hm, -, hi⟩
  · simp [Value.cells] at h1
    obtain ⟨rfl, rfl, rfl⟩ := h1
    exact ⟨[], rfl, fun k e he => by simp at he, fun e he => by simp at he, by decide⟩
  · simp [Value.cells] at h1
    obtain ⟨rfl, rfl, rfl⟩ := h1
    have hlm : len ≤ m := by rw [hm]; split <;> omega
    have key : ∀ i, ∃ e : La, i < len → w.cell? (a.add (i * 8)) = some (.int .i64 e.w) ∧ w.cell? ((a.add (i * 8)).add 1) = some (.int .i64 e.pl) ∧ w.cell? ((a.add (i * 8)).add 2) = some (.int .i64 e.r) ∧ w.cell? ((a.add (i * 8)).add 3) = some (.int .i64 e.p) ∧ w.cell? ((a.add (i * 8)).add 4) = some (.int .i64 e.k) ∧ w.cell? ((a.add (i * 8)).add 5) = some (.int .i64 e.m) ∧ w.cell? ((a.add (i * 8)).add 6) = some (.int .i64 e.n) ∧ w.cell? ((a.add (i * 8)).add 7) = some (.string e.s) ∧ e.s.size ≤ maxLen := by
      intro i
      by_cases hil : i < len
      · obtain ⟨cs', hc, ht⟩ := hi i (by omega)
        rw [cells_act16] at hc
        obtain ⟨e, he, hs⟩ := trod_act16 ht
        obtain ⟨_, hcl, hat⟩ := World.cells?_some hc
        subst he
        have a0 := hat 0 (by simp)
        have a1 := hat 1 (by simp)
        have a2 := hat 2 (by simp)
        have a3 := hat 3 (by simp)
        have a4 := hat 4 (by simp)
        have a5 := hat 5 (by simp)
        have a6 := hat 6 (by simp)
        have a7 := hat 7 (by simp)
        simp only [laLo] at a0 a1 a2 a3 a4 a5 a6 a7
        exact ⟨e, fun _ => ⟨by simpa [Addr.add] using a0, by simpa using a1, by simpa using a2, by simpa using a3, by simpa using a4, by simpa using a5, by simpa using a6, by simpa using a7, hs⟩⟩
      · exact ⟨⟨0, 0, 0, 0, 0, 0, 0, ⟨#[]⟩⟩, fun h => absurd h hil⟩
    obtain ⟨f, hf⟩ := Classical.axiomOfChoice key
    refine ⟨(List.range len).map f, by simp, fun k e he => ?_, fun e he => ?_, by omega⟩
    · obtain ⟨hk, rfl⟩ := List.getElem?_eq_some_iff.1 he
      have hk' : k < len := by simpa using hk
      simp only [List.getElem_map, List.getElem_range]
      obtain ⟨c0, c1, c2, c3, c4, c5, c6, c7, -⟩ := hf k hk'
      obtain ⟨b, off, spot⟩ := a
      have hsp : spot = none := by
        obtain ⟨d0, -⟩ := hf 0 (by omega)
        rw [Nat.zero_mul] at d0
        unfold World.cell? Addr.add at d0
        rw [if_pos rfl] at d0
        split at d0
        · split at d0
          · cases d0
          · rename_i hs; simpa using hs
        · cases d0
      subst hsp
      rw [Addr.add_lit] at c0 c1 c2 c3 c4 c5 c6 c7
      rw [Addr.add_lit] at c1 c2 c3 c4 c5 c6 c7
      exact ⟨b, off, rfl, c0, c1, c2, c3, c4, c5, c6, c7⟩
    · simp only [List.mem_map, List.mem_range] at he
      obtain ⟨k, hk, rfl⟩ := he
      exact (hf k hk).2.2.2.2.2.2.2.2
end
end Go.Proofs.YthhpblchiodahaaGreatDoor

/- The two tables of unicode/utf8 as the rows lay them: a world that holds them; what the condition gives a walk. -/
namespace Go.Proofs.YthhpblchiodahaaGreatDoor
open Go.ChangeShapes Go.WideShapes Go.ChangeAt Go.RowKit Go.Shelf
theorem own : ownKnob Tryz.prog.godebug = none := by kernel_rfl
theorem laidOut : laidOutB Tryz.prog = true := by kernel_rfl
def laidL : List (String × DataW Unit) := [("unicode/utf8.acceptRanges", Rows.laid_unicode_utf8_acceptRanges), ("unicode/utf8.first", Rows.laid_unicode_utf8_first)]
theorem first_eq : Rows.laid_unicode_utf8_first = Lib.firstData := by kernel_rfl
theorem accept_eq : (Rows.laid_unicode_utf8_acceptRanges : DataW Unit) = Lib.acceptData := by kernel_rfl
noncomputable def laidWorld (os : Os) : World :=
  let w0 := World.holding Tryz.prog os ⟨#[], #[], []⟩
  let put (h : Array Obj) (g : Nat) (cs : Array Value) : Array Obj := h.modify g fun
    | .cells _ t frozen => .cells cs t frozen
    | o => o
  let h1 := put w0.heap 0 (Lib.firstTab.map fun z => Value.int .u8 z).toArray
  let h2 := put h1 1 ((List.range 16).flatMap fun i => [Value.int .u8 (Lib.accLo i), Value.int .u8 (Lib.accHi i)]).toArray
  { w0 with heap := h2 }
theorem laid_of {w : World} (h : laidMetH Tryz.prog laidL w) : laidMet Tryz.prog laidL w := by
  unfold laidMetH at h
  rw [show (laidL.filter fun x => x.2.handleName?.isSome) = [] by kernel_rfl] at h
  exact h
theorem laid_to {w : World} (h : laidMet Tryz.prog laidL w) : laidMetH Tryz.prog laidL w := by
  unfold laidMetH
  rw [show (laidL.filter fun x => x.2.handleName?.isSome) = [] by kernel_rfl]
  exact h
theorem tabs_of {w : World} (h : laidMetH Tryz.prog laidL w) : Tabs w := by
  have hL := laid_of h
  unfold laidL at hL
  rw [first_eq, accept_eq] at hL
  exact utf8Tabs_of_readsT (U8Types.of196 Tryz.laysValid) ⟨by kernel_rfl, by kernel_rfl, by kernel_rfl, by kernel_rfl, by kernel_rfl, by kernel_rfl, by kernel_rfl⟩ (Lib.laidMet.reads hL (.tail _ (.head _))) (Lib.laidMet.reads hL (.head _))
theorem laid_met (os : Os) (args : Array Value) : laidMetH Tryz.prog laidL ((laidWorld os).forCall (fun _ _ => 0) ⟨#[], args, []⟩).memory :=
  laid_to (LaidIn.of_run (l := laidL) [1, 0] 8 (by kernel_rfl) (by kernel_rfl) (by kernel_rfl) (by kernel_rfl)).met
end Go.Proofs.YthhpblchiodahaaGreatDoor
