
/- Package acceptor: what an acceptor is; none, nothing, Promised, Accepted, above. -/
import Derived.Test.YtcokbljlgbcpkaaDoorAcO
import Derived.Deep.Cut
import Derived.Test.YtcokbljlgbcpkaaDoorAdL
import Derived.Test.YtcokbljlgbcpkaaDoorTail
namespace Go.Proofs.YtcokbljlgbcpkaaDoor
open Go.RowKit
/-- What was promised (r, p), accepted (by ar, ap: k, m, n, s), the choir and the slot. -/
structure Acc where (r p ar ap k m n : Int) (s : ByteArray) (c sl : Int)
def accL (A : Acc) : List Value := [.int .i64 A.r, .int .i64 A.p, .int .i64 A.ar, .int .i64 A.ap, .int .i64 A.k, .int .i64 A.m, .int .i64 A.n, .string A.s, .int .i64 A.c, .int .i64 A.sl]
def AW (W : World) (g : Nat) (A : Acc) : Prop := Blk W g 57 (accL A)
theorem AW.step {W w1 : World} {g : Nat} {A : Acc} (h : AW W g A) (hb : Below W.heap.size W w1) : AW w1 g A := Blk.step h hb
def acV (ar ap k m n : Int) (s : ByteArray) : Value := .agg #[.int .i64 ar, .int .i64 ap, .int .i64 k, .int .i64 m, .int .i64 n, .string s]
theorem Blk.newV {W : World} {g : Nat} (hg : W.heap.size = g) (t : TypeId) (cs : Array Value) : Blk (W.alloc (.cells cs t)) g t cs.toList := hg ▸ World.alloc_heap_new W _
/-- If nothing was accepted, nothing lies there. -/
def GoodA (A : Acc) : Prop := A.ar = -1 → A.ap = 0 ∧ A.k = 0 ∧ A.m = 0 ∧ A.n = 0 ∧ A.s = ⟨#[]⟩
def accX (A : Acc) : Value := if A.ar = -1 then acV 0 0 0 0 0 ⟨#[]⟩ else acV A.ar A.ap A.k A.m A.n A.s
def accH (A : Acc) : Bool := !(A.ar == -1)
theorem wp_region_extB {P : Program} {id : Nat} {Q : Exit → Act → World → Prop} {a : Act} {w : World} {l : List Oper} (hm : P.follows .mixedOrders = true) (hB : Region.lexB .any l.toArray = true)
    (h : wpQuiet P l.toArray (ExtA w) (fun a' => ∀ w', ExtA w w' → Q .normal a' w') l a) : (Code.region id l.toArray true).wp P Q a w :=
  wp_region_quiet (C := ExtA w) hm hB ⟨rfl, rfl, rfl, Nat.le_refl _, fun _ _ => rfl⟩ (by simpa using h)
theorem extA_then {W W' W'' : World} (h : ExtA W W') (hb : Below W'.heap.size W' W'') : ExtA W W'' := Below.trans h (hb.mono h.size)
theorem r_cell1 {fn : Func} {p : Tmp} {ty : TypeId} (h : fn.results = #[.cell p ty]) (tmps : Array Value) (P : Program) (w : World) :
    (results fn tmps).run P w = ((asAddr (tmps.getD p undef)).run P w).andThen fun a w₁ => (loadVar ty a).run P w₁ := by
  simp only [results, h]
  simp [Sem.run_bind, Result.andThen]
theorem r_cell1t {fn : Func} {p u : Tmp} {ty : TypeId} (h : fn.results = #[.cell p ty, .tmp u]) (tmps : Array Value) (P : Program) (w : World) :
    (results fn tmps).run P w = ((asAddr (tmps.getD p undef)).run P w).andThen fun a w₁ => ((loadVar ty a).run P w₁).andThen fun v w₂ => .ok (.tuple #[v, tmps.getD u undef]) w₂ := by
  simp only [results, h]
  simp [Sem.run_bind, Result.andThen]
theorem r_cell1tt {fn : Func} {p u u2 : Tmp} {ty : TypeId} (h : fn.results = #[.cell p ty, .tmp u, .tmp u2]) (tmps : Array Value) (P : Program) (w : World) :
    (results fn tmps).run P w =
      ((asAddr (tmps.getD p undef)).run P w).andThen fun a w₁ => ((loadVar ty a).run P w₁).andThen fun v w₂ => .ok (.tuple #[v, tmps.getD u undef, tmps.getD u2 undef]) w₂ := by
  simp only [results, h]
  simp [Sem.run_bind, Result.andThen]
theorem r_cell2tt {fn : Func} {p p2 u u2 : Tmp} {ty ty2 : TypeId} (h : fn.results = #[.cell p ty, .cell p2 ty2, .tmp u, .tmp u2]) (tmps : Array Value) (P : Program) (w : World) :
    (results fn tmps).run P w =
      ((asAddr (tmps.getD p undef)).run P w).andThen fun a w₁ => ((loadVar ty a).run P w₁).andThen fun v w₂ => ((asAddr (tmps.getD p2 undef)).run P w₂).andThen fun a2 w₃ => ((loadVar ty2 a2).run P w₃).andThen fun v2 w₄ => .ok (.tuple #[v, v2, tmps.getD u undef, tmps.getD u2 undef]) w₄ := by
  simp only [results, h]
  simp [Sem.run_bind, Result.andThen]
theorem below2 {B b : Nat} {w W : World} (hb : Below B w W) (hh : B ≤ b) (x y : Value) : Below B w ((W.setCell ⟨b, 0, none⟩ x).setCell ⟨b, 1, none⟩ y) := (hb.setCell (p := ⟨b, 0, none⟩) hh x).setCell (p := ⟨b, 1, none⟩) hh y
theorem below6 {B b : Nat} {w W : World} (hb : Below B w W) (hh : B ≤ b) (x y z u v t : Value) : Below B w ((((((W.setCell ⟨b, 0, none⟩ x).setCell ⟨b, 1, none⟩ y).setCell ⟨b, 2, none⟩ z).setCell ⟨b, 3, none⟩ u).setCell ⟨b, 4, none⟩ v).setCell ⟨b, 5, none⟩ t) :=
  ((((below2 hb hh x y).setCell (p := ⟨b, 2, none⟩) hh z).setCell (p := ⟨b, 3, none⟩) hh u).setCell (p := ⟨b, 4, none⟩) hh v).setCell (p := ⟨b, 5, none⟩) hh t
theorem below10 {B b : Nat} {w W : World} (hb : Below B w W) (hh : B ≤ b) (x y z u v t x2 y2 z2 u2 : Value) : Below B w ((((((((((W.setCell ⟨b, 0, none⟩ x).setCell ⟨b, 1, none⟩ y).setCell ⟨b, 2, none⟩ z).setCell ⟨b, 3, none⟩ u).setCell ⟨b, 4, none⟩ v).setCell ⟨b, 5, none⟩ t).setCell ⟨b, 6, none⟩ x2).setCell ⟨b, 7, none⟩ y2).setCell ⟨b, 8, none⟩ z2).setCell ⟨b, 9, none⟩ u2) :=
  ((((below6 hb hh x y z u v t).setCell (p := ⟨b, 6, none⟩) hh x2).setCell (p := ⟨b, 7, none⟩) hh y2).setCell (p := ⟨b, 8, none⟩) hh z2).setCell (p := ⟨b, 9, none⟩) hh u2
set_option maxRecDepth 100000 in
set_option maxHeartbeats 400000 in
theorem none14_at (g : Nat) (c : Int) (b : Bool) (w : World) (hb : (c == 0) = b) (hc : w.cell? ⟨g, 8, none⟩ = some (.int .i64 c)) : Calls Tryd.prog 35 #[.pointer (some ⟨g, 0, none⟩)] w fun e w' => e = .returned (.bool b) ∧ w = w' := by
  by_cases h : c = 0
  · subst h
    obtain rfl : true = b := hb
    go_enter Tryd.func35, Tryd.ntmps35
    go_wp2
    go_ret
    exact ⟨rfl, rfl⟩
  · obtain rfl : b = false := by rw [← hb]; simp [h]
    go_enter Tryd.func35, Tryd.ntmps35
    go_wp2
    go_ret
    exact ⟨by simp, rfl⟩
set_option maxRecDepth 100000 in
set_option maxHeartbeats 400000 in
theorem none14_nil (w : World) : Calls Tryd.prog 35 #[.pointer none] w fun e w' => e = .returned (.bool true) ∧ w = w' := by
  go_enter Tryd.func35, Tryd.ntmps35
  go_wp2
  go_ret
  exact ⟨rfl, rfl⟩
set_option maxRecDepth 100000 in
set_option maxHeartbeats 400000 in
theorem nothing_any (w : World) : Calls Tryd.prog 34 #[] w fun e w' => e = .returned (.agg #[.int .i64 (-1), .int .i64 0, .int .i64 0, .int .i64 0, .int .i64 0, .string ⟨#[]⟩]) ∧ Below w.heap.size w w' := by
  go_enter Tryd.func34, Tryd.ntmps34
  go_upto_region 1 with fail
  obtain ⟨B, hB⟩ : ∃ B, w.heap.size = B := ⟨_, rfl⟩
  have X := Blk.newV (W := w) hB 39 #[.int .i64 0, .int .i64 0, .int .i64 0, .int .i64 0, .int .i64 0, .string ⟨#[]⟩]
  have hb := (Below.refl w.heap.size w).alloc (Nat.le_refl _) (.cells #[.int .i64 0, .int .i64 0, .int .i64 0, .int .i64 0, .int .i64 0, .string ⟨#[]⟩] 39)
  generalize w.alloc (.cells #[.int .i64 0, .int .i64 0, .int .i64 0, .int .i64 0, .int .i64 0, .string ⟨#[]⟩] 39) = W at *
  go_wp2_with fail
  refine (bnone_any _).mono ?_
  rintro e w2 ⟨rfl, hb2⟩
  have X2 := X.step hb2
  have hb3 := hb.trans (hb2.mono hb.size)
  have xc0 := X2.cell (j := 0) rfl
  have xc1 := X2.cell (j := 1) rfl
  have xc2 := X2.cell (j := 2) rfl
  have xc3 := X2.cell (j := 3) rfl
  have xc4 := X2.cell (j := 4) rfl
  have xc5 := X2.cell (j := 5) rfl
  have xf0 := X2.frozen 0
  have xf1 := X2.frozen 1
  have xf2 := X2.frozen 2
  have xf3 := X2.frozen 3
  have xf4 := X2.frozen 4
  have xf5 := X2.frozen 5
  go_wp2
  rw [hB] at hb3
  (try simp only [Exit.inBlock, Exit.then])
  refine bodyPost_ret (v := .agg #[.int .i64 (-1), .int .i64 0, .int .i64 0, .int .i64 0, .int .i64 0, .string ⟨#[]⟩]) ?_ rfl ⟨rfl, ?_⟩
  · rw [r_cell1 rfl]
    go_simp
  · (try rw [hB])
    exact below6 hb3 (Nat.le_refl _) _ _ _ _ _ _
set_option maxRecDepth 100000 in
set_option maxHeartbeats 400000 in
theorem promised_at (g : Nat) (A : Acc) (w : World) (h : AW w g A) (hc : A.c ≠ 0) : Calls Tryd.prog 15 #[.pointer (some ⟨g, 0, none⟩)] w fun e w' => e = .returned (.agg #[.int .i64 A.r, .int .i64 A.p]) ∧ Below w.heap.size w w' := by
  obtain ⟨r, p, ar, ap, k, m, n, s, c, sl⟩ := A
  simp only at hc
  have hlt := h.lt
  go_enter Tryd.func15, Tryd.ntmps15
  go_upto_region 1 with fail
  obtain ⟨B, hB⟩ : ∃ B, w.heap.size = B := ⟨_, rfl⟩
  have X := Blk.newV (W := w) hB 36 #[.int .i64 0, .int .i64 0]
  have hb := (Below.refl w.heap.size w).alloc (Nat.le_refl _) (.cells #[.int .i64 0, .int .i64 0] 36)
  have h1 := h.alloc (.cells #[.int .i64 0, .int .i64 0] 36)
  generalize w.alloc (.cells #[.int .i64 0, .int .i64 0] 36) = W at *
  have xc0 := X.cell (j := 0) rfl
  have xc1 := X.cell (j := 1) rfl
  have xf0 := X.frozen 0
  have xf1 := X.frozen 1
  have ac0 := h1.cell (j := 0) rfl
  have ac1 := h1.cell (j := 1) rfl
  have ac2 := h1.cell (j := 2) rfl
  have ac3 := h1.cell (j := 3) rfl
  have ac4 := h1.cell (j := 4) rfl
  have ac5 := h1.cell (j := 5) rfl
  have ac6 := h1.cell (j := 6) rfl
  have ac7 := h1.cell (j := 7) rfl
  have ac8 := h1.cell (j := 8) rfl
  have ac9 := h1.cell (j := 9) rfl
  go_wp2_with fail
  refine (none14_at g c false _ (by simp [hc]) ac8).mono ?_
  rintro e w2 ⟨rfl, rfl⟩
  go_wp2
  rw [hB] at hb
  (try simp only [Exit.inBlock, Exit.then])
  refine bodyPost_ret (v := .agg #[.int .i64 r, .int .i64 p]) ?_ rfl ⟨rfl, ?_⟩
  · rw [r_cell1 rfl]
    go_simp
  · (try rw [hB])
    exact below2 hb (Nat.le_refl _) _ _
end Go.Proofs.YtcokbljlgbcpkaaDoor
