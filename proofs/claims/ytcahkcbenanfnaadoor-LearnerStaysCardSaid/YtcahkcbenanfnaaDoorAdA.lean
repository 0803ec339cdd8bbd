
/- Package acceptor: what an acceptor is; none, nothing, Promised, Accepted, above. -/
import Derived.Test.YtcahkcbenanfnaaDoorAcO
import Derived.Deep.Cut
import Derived.Test.YtcahkcbenanfnaaDoorAdL
import Derived.Test.YtcahkcbenanfnaaDoorTail
namespace Go.Proofs.YtcahkcbenanfnaaDoor
set_option linter.unusedSimpArgs false
set_option linter.unusedVariables false
open Go.RowKit
/-- What was promised (r, p), accepted (by ar, ap: k, m, n, s), the choir and the slot. -/
structure Acc where (r p ar ap k m n : Int) (s : ByteArray) (c sl : Int)
def accL (A : Acc) : List Value := [.int .i64 A.r, .int .i64 A.p, .int .i64 A.ar, .int .i64 A.ap, .int .i64 A.k, .int .i64 A.m, .int .i64 A.n, .string A.s, .int .i64 A.c, .int .i64 A.sl]
def acV (ar ap k m n : Int) (s : ByteArray) : Value := .agg #[.int .i64 ar, .int .i64 ap, .int .i64 k, .int .i64 m, .int .i64 n, .string s]
theorem Blk.newV {W : World} {g : Nat} (hg : W.heap.size = g) (t : TypeId) (cs : Array Value) : Blk (W.alloc (.cells cs t)) g t cs.toList := hg ▸ World.alloc_heap_new W _
/-- If nothing was accepted, nothing lies there. -/
def GoodA (A : Acc) : Prop := A.ar = -1 → A.ap = 0 ∧ A.k = 0 ∧ A.m = 0 ∧ A.n = 0 ∧ A.s = ⟨#[]⟩
def accX (A : Acc) : Value := if A.ar = -1 then acV 0 0 0 0 0 ⟨#[]⟩ else acV A.ar A.ap A.k A.m A.n A.s
def accH (A : Acc) : Bool := !(A.ar == -1)
theorem wp_region_extB {P : Program} {id : Nat} {Q : Exit → Act → World → Prop} {a : Act} {w : World} {l : List Oper} (hm : P.follows .mixedOrders = true) (hB : Region.lexB .any l.toArray = true)
    (h : wpQuiet P l.toArray (ExtA w) (fun a' => ∀ w', ExtA w w' → Q .normal a' w') l a) : (Code.region id l.toArray true).wp P Q a w :=
  wp_region_quiet (C := ExtA w) hm hB ⟨rfl, rfl, rfl, Nat.le_refl _, fun _ _ => rfl⟩ (by simpa using h)
theorem extA_then {W W' W'' : World} (h : ExtA W W') (hb : Below W'.heap.size W' W'') : ExtA W W'' := Below.trans h (hb.mono h.size)
theorem r_cell1 {fn : Func} {p : Tmp} {ty : TypeId} (h : fn.results = #[.cell p ty]) (tmps : Array Value) (P : Program) (w : World) :
    (results fn tmps).run P w = ((asAddr (tmps.getD p undef)).run P w).andThen fun a w₁ => (loadVar ty a).run P w₁ := by
  simp only [results, h]
  simp [Sem.run_bind, Result.andThen]
theorem r_cell1t {fn : Func} {p u : Tmp} {ty : TypeId} (h : fn.results = #[.cell p ty, .tmp u]) (tmps : Array Value) (P : Program) (w : World) :
    (results fn tmps).run P w = ((asAddr (tmps.getD p undef)).run P w).andThen fun a w₁ => ((loadVar ty a).run P w₁).andThen fun v w₂ => .ok (.tuple #[v, tmps.getD u undef]) w₂ := by
  simp only [results, h]
  simp [Sem.run_bind, Result.andThen]
theorem r_cell1tt {fn : Func} {p u u2 : Tmp} {ty : TypeId} (h : fn.results = #[.cell p ty, .tmp u, .tmp u2]) (tmps : Array Value) (P : Program) (w : World) :
    (results fn tmps).run P w =
      ((asAddr (tmps.getD p undef)).run P w).andThen fun a w₁ => ((loadVar ty a).run P w₁).andThen fun v w₂ => .ok (.tuple #[v, tmps.getD u undef, tmps.getD u2 undef]) w₂ := by
  simp only [results, h]
  simp [Sem.run_bind, Result.andThen]
theorem r_cell2tt {fn : Func} {p p2 u u2 : Tmp} {ty ty2 : TypeId} (h : fn.results = #[.cell p ty, .cell p2 ty2, .tmp u, .tmp u2]) (tmps : Array Value) (P : Program) (w : World) :
    (results fn tmps).run P w =
      ((asAddr (tmps.getD p undef)).run P w).andThen fun a w₁ => ((loadVar ty a).run P w₁).andThen fun v w₂ => ((asAddr (tmps.getD p2 undef)).run P w₂).andThen fun a2 w₃ => ((loadVar ty2 a2).run P w₃).andThen fun v2 w₄ => .ok (.tuple #[v, v2, tmps.getD u undef, tmps.getD u2 undef]) w₄ := by
  simp only [results, h]
  simp [Sem.run_bind, Result.andThen]
theorem below2 {B b : Nat} {w W : World} (hb : Below B w W) (hh : B ≤ b) (x y : Value) : Below B w ((W.setCell ⟨b, 0, none⟩ x).setCell ⟨b, 1, none⟩ y) := (hb.setCell (p := ⟨b, 0, none⟩) hh x).setCell (p := ⟨b, 1, none⟩) hh y
theorem below6 {B b : Nat} {w W : World} (hb : Below B w W) (hh : B ≤ b) (x y z u v t : Value) : Below B w ((((((W.setCell ⟨b, 0, none⟩ x).setCell ⟨b, 1, none⟩ y).setCell ⟨b, 2, none⟩ z).setCell ⟨b, 3, none⟩ u).setCell ⟨b, 4, none⟩ v).setCell ⟨b, 5, none⟩ t) :=
  ((((below2 hb hh x y).setCell (p := ⟨b, 2, none⟩) hh z).setCell (p := ⟨b, 3, none⟩) hh u).setCell (p := ⟨b, 4, none⟩) hh v).setCell (p := ⟨b, 5, none⟩) hh t
theorem below10 {B b : Nat} {w W : World} (hb : Below B w W) (hh : B ≤ b) (x y z u v t x2 y2 z2 u2 : Value) : Below B w ((((((((((W.setCell ⟨b, 0, none⟩ x).setCell ⟨b, 1, none⟩ y).setCell ⟨b, 2, none⟩ z).setCell ⟨b, 3, none⟩ u).setCell ⟨b, 4, none⟩ v).setCell ⟨b, 5, none⟩ t).setCell ⟨b, 6, none⟩ x2).setCell ⟨b, 7, none⟩ y2).setCell ⟨b, 8, none⟩ z2).setCell ⟨b, 9, none⟩ u2) :=
  ((((below6 hb hh x y z u v t).setCell (p := ⟨b, 6, none⟩) hh x2).setCell (p := ⟨b, 7, none⟩) hh y2).setCell (p := ⟨b, 8, none⟩) hh z2).setCell (p := ⟨b, 9, none⟩) hh u2
end Go.Proofs.YtcahkcbenanfnaaDoor
