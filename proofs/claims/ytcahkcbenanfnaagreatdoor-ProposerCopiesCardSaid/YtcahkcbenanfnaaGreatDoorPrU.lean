
/- The document's proposer in memory: its cells known, the block whole. -/
import Derived.Test.YtcahkcbenanfnaaGreatDoorPrS
namespace Go.Proofs.YtcahkcbenanfnaaGreatDoor
set_option linter.unusedSimpArgs false
set_option linter.unusedVariables false
open Go.RowKit
def QW (W : World) (g : Nat) (A : Prp) : Prop := Blk W g 35 (qL A) ∧ A.pr.length = 9 ∧ A.ac.length = 9
theorem QW.lt {W : World} {g : Nat} {A : Prp} (h : QW W g A) : g < W.heap.size := h.1.lt
theorem QW.step {W w1 : World} {g : Nat} {A : Prp} (h : QW W g A) (hb : Below W.heap.size W w1) : QW w1 g A := ⟨h.1.step hb, h.2⟩
theorem QW.kx {W W' : World} {g : Nat} {A : Prp} {ws : List Nat} (h : QW W g A) (hb : Kx ws W W') (hw : g ∉ ws) : QW W' g A := ⟨hb.blk h.1 hw, h.2⟩
theorem qL_len {A : Prp} (hp : A.pr.length = 9) (ha : A.ac.length = 9) : (qL A).length = 35 := by simp [qL, hp, ha]
theorem qsize {A : Prp} (hp : A.pr.length = 9) (ha : A.ac.length = 9) : (qL A).toArray.size = 35 := by rw [List.size_toArray, qL_len hp ha]
theorem qinfo {A : Prp} (hp : A.pr.length = 9) (ha : A.ac.length = 9) : (Tryz.prog.info? 35).map (·.size) = some (qL A).toArray.size := by
  rw [List.size_toArray, qL_len hp ha]
  kernel_rfl
theorem qone (A : Prp) : (qL A).toArray.all (·.oneCell') = true := by
  rw [← Array.all_toList, List.all_eq_true]
  intro x hx
  simp only [qL, List.mem_append, List.mem_cons, List.mem_map, List.not_mem_nil, or_false] at hx
  rcases hx with (h | h | h | h | h | h | h | h | h) | (⟨b, -, h⟩ | ⟨b, -, h⟩ | h | h | h | h | h | h | h | h) <;> (subst h; rfl)
theorem QW.frozen {W : World} {g : Nat} {A : Prp} (h : QW W g A) (j : Nat) : W.frozen? ⟨g, j, none⟩ = false := h.1.frozen j
theorem QW.q0 {W : World} {g : Nat} {A : Prp} (h : QW W g A) : W.cell? ⟨g, 0, none⟩ = some (.int .i64 A.c) := by
  obtain ⟨hB, h1, h2⟩ := h
  obtain ⟨ph, k, m, n, s, pr, ac, br, bp, bk, bm, bn, bs, ur, up, c, sl, r, p⟩ := A
  obtain ⟨a0, a1, a2, a3, a4, a5, a6, a7, a8, rfl⟩ := nine h1
  obtain ⟨b0, b1, b2, b3, b4, b5, b6, b7, b8, rfl⟩ := nine h2
  exact hB.cell (j := 0) rfl
theorem QW.q1 {W : World} {g : Nat} {A : Prp} (h : QW W g A) : W.cell? ⟨g, 1, none⟩ = some (.int .i64 A.sl) := by
  obtain ⟨hB, h1, h2⟩ := h
  obtain ⟨ph, k, m, n, s, pr, ac, br, bp, bk, bm, bn, bs, ur, up, c, sl, r, p⟩ := A
  obtain ⟨a0, a1, a2, a3, a4, a5, a6, a7, a8, rfl⟩ := nine h1
  obtain ⟨b0, b1, b2, b3, b4, b5, b6, b7, b8, rfl⟩ := nine h2
  exact hB.cell (j := 1) rfl
theorem QW.q2 {W : World} {g : Nat} {A : Prp} (h : QW W g A) : W.cell? ⟨g, 2, none⟩ = some (.int .i64 A.r) := by
  obtain ⟨hB, h1, h2⟩ := h
  obtain ⟨ph, k, m, n, s, pr, ac, br, bp, bk, bm, bn, bs, ur, up, c, sl, r, p⟩ := A
  obtain ⟨a0, a1, a2, a3, a4, a5, a6, a7, a8, rfl⟩ := nine h1
  obtain ⟨b0, b1, b2, b3, b4, b5, b6, b7, b8, rfl⟩ := nine h2
  exact hB.cell (j := 2) rfl
theorem QW.q3 {W : World} {g : Nat} {A : Prp} (h : QW W g A) : W.cell? ⟨g, 3, none⟩ = some (.int .i64 A.p) := by
  obtain ⟨hB, h1, h2⟩ := h
  obtain ⟨ph, k, m, n, s, pr, ac, br, bp, bk, bm, bn, bs, ur, up, c, sl, r, p⟩ := A
  obtain ⟨a0, a1, a2, a3, a4, a5, a6, a7, a8, rfl⟩ := nine h1
  obtain ⟨b0, b1, b2, b3, b4, b5, b6, b7, b8, rfl⟩ := nine h2
  exact hB.cell (j := 3) rfl
theorem QW.q4 {W : World} {g : Nat} {A : Prp} (h : QW W g A) : W.cell? ⟨g, 4, none⟩ = some (.int .i64 A.ph) := by
  obtain ⟨hB, h1, h2⟩ := h
  obtain ⟨ph, k, m, n, s, pr, ac, br, bp, bk, bm, bn, bs, ur, up, c, sl, r, p⟩ := A
  obtain ⟨a0, a1, a2, a3, a4, a5, a6, a7, a8, rfl⟩ := nine h1
  obtain ⟨b0, b1, b2, b3, b4, b5, b6, b7, b8, rfl⟩ := nine h2
  exact hB.cell (j := 4) rfl
theorem QW.q5 {W : World} {g : Nat} {A : Prp} (h : QW W g A) : W.cell? ⟨g, 5, none⟩ = some (.int .i64 A.k) := by
  obtain ⟨hB, h1, h2⟩ := h
  obtain ⟨ph, k, m, n, s, pr, ac, br, bp, bk, bm, bn, bs, ur, up, c, sl, r, p⟩ := A
  obtain ⟨a0, a1, a2, a3, a4, a5, a6, a7, a8, rfl⟩ := nine h1
  obtain ⟨b0, b1, b2, b3, b4, b5, b6, b7, b8, rfl⟩ := nine h2
  exact hB.cell (j := 5) rfl
theorem QW.q6 {W : World} {g : Nat} {A : Prp} (h : QW W g A) : W.cell? ⟨g, 6, none⟩ = some (.int .i64 A.m) := by
  obtain ⟨hB, h1, h2⟩ := h
  obtain ⟨ph, k, m, n, s, pr, ac, br, bp, bk, bm, bn, bs, ur, up, c, sl, r, p⟩ := A
  obtain ⟨a0, a1, a2, a3, a4, a5, a6, a7, a8, rfl⟩ := nine h1
  obtain ⟨b0, b1, b2, b3, b4, b5, b6, b7, b8, rfl⟩ := nine h2
  exact hB.cell (j := 6) rfl
theorem QW.q7 {W : World} {g : Nat} {A : Prp} (h : QW W g A) : W.cell? ⟨g, 7, none⟩ = some (.int .i64 A.n) := by
  obtain ⟨hB, h1, h2⟩ := h
  obtain ⟨ph, k, m, n, s, pr, ac, br, bp, bk, bm, bn, bs, ur, up, c, sl, r, p⟩ := A
  obtain ⟨a0, a1, a2, a3, a4, a5, a6, a7, a8, rfl⟩ := nine h1
  obtain ⟨b0, b1, b2, b3, b4, b5, b6, b7, b8, rfl⟩ := nine h2
  exact hB.cell (j := 7) rfl
theorem QW.q8 {W : World} {g : Nat} {A : Prp} (h : QW W g A) : W.cell? ⟨g, 8, none⟩ = some (.string A.s) := by
  obtain ⟨hB, h1, h2⟩ := h
  obtain ⟨ph, k, m, n, s, pr, ac, br, bp, bk, bm, bn, bs, ur, up, c, sl, r, p⟩ := A
  obtain ⟨a0, a1, a2, a3, a4, a5, a6, a7, a8, rfl⟩ := nine h1
  obtain ⟨b0, b1, b2, b3, b4, b5, b6, b7, b8, rfl⟩ := nine h2
  exact hB.cell (j := 8) rfl
theorem QW.q27 {W : World} {g : Nat} {A : Prp} (h : QW W g A) : W.cell? ⟨g, 27, none⟩ = some (.int .i64 A.br) := by
  obtain ⟨hB, h1, h2⟩ := h
  obtain ⟨ph, k, m, n, s, pr, ac, br, bp, bk, bm, bn, bs, ur, up, c, sl, r, p⟩ := A
  obtain ⟨a0, a1, a2, a3, a4, a5, a6, a7, a8, rfl⟩ := nine h1
  obtain ⟨b0, b1, b2, b3, b4, b5, b6, b7, b8, rfl⟩ := nine h2
  exact hB.cell (j := 27) rfl
theorem QW.q28 {W : World} {g : Nat} {A : Prp} (h : QW W g A) : W.cell? ⟨g, 28, none⟩ = some (.int .i64 A.bp) := by
  obtain ⟨hB, h1, h2⟩ := h
  obtain ⟨ph, k, m, n, s, pr, ac, br, bp, bk, bm, bn, bs, ur, up, c, sl, r, p⟩ := A
  obtain ⟨a0, a1, a2, a3, a4, a5, a6, a7, a8, rfl⟩ := nine h1
  obtain ⟨b0, b1, b2, b3, b4, b5, b6, b7, b8, rfl⟩ := nine h2
  exact hB.cell (j := 28) rfl
theorem QW.q29 {W : World} {g : Nat} {A : Prp} (h : QW W g A) : W.cell? ⟨g, 29, none⟩ = some (.int .i64 A.bk) := by
  obtain ⟨hB, h1, h2⟩ := h
  obtain ⟨ph, k, m, n, s, pr, ac, br, bp, bk, bm, bn, bs, ur, up, c, sl, r, p⟩ := A
  obtain ⟨a0, a1, a2, a3, a4, a5, a6, a7, a8, rfl⟩ := nine h1
  obtain ⟨b0, b1, b2, b3, b4, b5, b6, b7, b8, rfl⟩ := nine h2
  exact hB.cell (j := 29) rfl
theorem QW.q30 {W : World} {g : Nat} {A : Prp} (h : QW W g A) : W.cell? ⟨g, 30, none⟩ = some (.int .i64 A.bm) := by
  obtain ⟨hB, h1, h2⟩ := h
  obtain ⟨ph, k, m, n, s, pr, ac, br, bp, bk, bm, bn, bs, ur, up, c, sl, r, p⟩ := A
  obtain ⟨a0, a1, a2, a3, a4, a5, a6, a7, a8, rfl⟩ := nine h1
  obtain ⟨b0, b1, b2, b3, b4, b5, b6, b7, b8, rfl⟩ := nine h2
  exact hB.cell (j := 30) rfl
theorem QW.q31 {W : World} {g : Nat} {A : Prp} (h : QW W g A) : W.cell? ⟨g, 31, none⟩ = some (.int .i64 A.bn) := by
  obtain ⟨hB, h1, h2⟩ := h
  obtain ⟨ph, k, m, n, s, pr, ac, br, bp, bk, bm, bn, bs, ur, up, c, sl, r, p⟩ := A
  obtain ⟨a0, a1, a2, a3, a4, a5, a6, a7, a8, rfl⟩ := nine h1
  obtain ⟨b0, b1, b2, b3, b4, b5, b6, b7, b8, rfl⟩ := nine h2
  exact hB.cell (j := 31) rfl
theorem QW.q32 {W : World} {g : Nat} {A : Prp} (h : QW W g A) : W.cell? ⟨g, 32, none⟩ = some (.string A.bs) := by
  obtain ⟨hB, h1, h2⟩ := h
  obtain ⟨ph, k, m, n, s, pr, ac, br, bp, bk, bm, bn, bs, ur, up, c, sl, r, p⟩ := A
  obtain ⟨a0, a1, a2, a3, a4, a5, a6, a7, a8, rfl⟩ := nine h1
  obtain ⟨b0, b1, b2, b3, b4, b5, b6, b7, b8, rfl⟩ := nine h2
  exact hB.cell (j := 32) rfl
theorem QW.q33 {W : World} {g : Nat} {A : Prp} (h : QW W g A) : W.cell? ⟨g, 33, none⟩ = some (.int .i64 A.ur) := by
  obtain ⟨hB, h1, h2⟩ := h
  obtain ⟨ph, k, m, n, s, pr, ac, br, bp, bk, bm, bn, bs, ur, up, c, sl, r, p⟩ := A
  obtain ⟨a0, a1, a2, a3, a4, a5, a6, a7, a8, rfl⟩ := nine h1
  obtain ⟨b0, b1, b2, b3, b4, b5, b6, b7, b8, rfl⟩ := nine h2
  exact hB.cell (j := 33) rfl
theorem QW.q34 {W : World} {g : Nat} {A : Prp} (h : QW W g A) : W.cell? ⟨g, 34, none⟩ = some (.int .i64 A.up) := by
  obtain ⟨hB, h1, h2⟩ := h
  obtain ⟨ph, k, m, n, s, pr, ac, br, bp, bk, bm, bn, bs, ur, up, c, sl, r, p⟩ := A
  obtain ⟨a0, a1, a2, a3, a4, a5, a6, a7, a8, rfl⟩ := nine h1
  obtain ⟨b0, b1, b2, b3, b4, b5, b6, b7, b8, rfl⟩ := nine h2
  exact hB.cell (j := 34) rfl
theorem QW.qpr {W : World} {g : Nat} {A : Prp} (h : QW W g A) (j : Nat) (hj : j < 9) : W.cell? ⟨g, 9 + j, none⟩ = some (.bool (A.pr.getD j false)) := by
  refine h.1.cell (j := 9 + j) ?_
  have h1 := h.2.1
  unfold qL
  rw [List.getElem?_append_right (by simp), List.getElem?_append_left (by simp; omega)]
  simp [show 9 + j - 9 = j by omega, h1, hj]
theorem QW.qac {W : World} {g : Nat} {A : Prp} (h : QW W g A) (j : Nat) (hj : j < 9) : W.cell? ⟨g, 18 + j, none⟩ = some (.bool (A.ac.getD j false)) := by
  refine h.1.cell (j := 18 + j) ?_
  have h1 := h.2.1
  have h2 := h.2.2
  unfold qL
  rw [List.getElem?_append_right (by simp; omega), List.getElem?_append_right (by simp [h1]; omega), List.getElem?_append_left (by simp [h1, h2]; omega)]
  simp [h1, show 18 + j - 9 - 9 = j by omega, h2, hj]
theorem QW.setPr {W : World} {g : Nat} {A : Prp} (h : QW W g A) (j : Nat) (hj : j < 9) : QW (W.setCell ⟨g, 9 + j, none⟩ (.bool true)) g { A with pr := A.pr.set j true } := by
  refine ⟨?_, by simp [h.2.1], h.2.2⟩
  have := h.1.set (9 + j) (.bool true)
  have h1 := h.2.1
  have e : (qL A).set (9 + j) (.bool true) = qL { A with pr := A.pr.set j true } := by
    unfold qL
    rw [List.set_append_right _ _ (by simp), List.set_append_left _ _ (by simp; omega)]
    simp [show 9 + j - 9 = j by omega, List.map_set]
  rw [e] at this
  exact this
theorem QW.setAc {W : World} {g : Nat} {A : Prp} (h : QW W g A) (j : Nat) (hj : j < 9) : QW (W.setCell ⟨g, 18 + j, none⟩ (.bool true)) g { A with ac := A.ac.set j true } := by
  refine ⟨?_, h.2.1, by simp [h.2.2]⟩
  have := h.1.set (18 + j) (.bool true)
  have h1 := h.2.1
  have h2 := h.2.2
  have e : (qL A).set (18 + j) (.bool true) = qL { A with ac := A.ac.set j true } := by
    unfold qL
    rw [List.set_append_right _ _ (by simp; omega), List.set_append_right _ _ (by simp [h1]; omega), List.set_append_left _ _ (by simp [h1, h2]; omega)]
    simp [h1, show 18 + j - 9 - 9 = j by omega, List.map_set]
  rw [e] at this
  exact this
def Prp.sPh (A : Prp) (x : Int) : Prp := { A with ph := x }
def Prp.sEnt (A : Prp) (x y z : Int) (t : ByteArray) : Prp := { A with k := x, m := y, n := z, s := t }
def Prp.sBest (A : Prp) (u v x y z : Int) (t : ByteArray) : Prp := { A with br := u, bp := v, bk := x, bm := y, bn := z, bs := t }
def Prp.sUp (A : Prp) (x y : Int) : Prp := { A with ur := x, up := y }
theorem QW.setPh {W : World} {g : Nat} {A : Prp} (h : QW W g A) (x : Int) : QW (W.setCell ⟨g, 4, none⟩ (.int .i64 x)) g (Prp.sPh A x) := by
  obtain ⟨hB, h1, h2⟩ := h
  obtain ⟨ph, k, m, n, s, pr, ac, br, bp, bk, bm, bn, bs, ur, up, c, sl, r, p⟩ := A
  obtain ⟨a0, a1, a2, a3, a4, a5, a6, a7, a8, rfl⟩ := nine h1
  obtain ⟨b0, b1, b2, b3, b4, b5, b6, b7, b8, rfl⟩ := nine h2
  exact ⟨hB.set 4 (.int .i64 x), rfl, rfl⟩
theorem QW.setEnt {W : World} {g : Nat} {A : Prp} (h : QW W g A) (x y z : Int) (t : ByteArray) : QW ((((W.setCell ⟨g, 5, none⟩ (.int .i64 x)).setCell ⟨g, 6, none⟩ (.int .i64 y)).setCell ⟨g, 7, none⟩ (.int .i64 z)).setCell ⟨g, 8, none⟩ (.string t)) g (Prp.sEnt A x y z t) := by
  obtain ⟨hB, h1, h2⟩ := h
  obtain ⟨ph, k, m, n, s, pr, ac, br, bp, bk, bm, bn, bs, ur, up, c, sl, r, p⟩ := A
  obtain ⟨a0, a1, a2, a3, a4, a5, a6, a7, a8, rfl⟩ := nine h1
  obtain ⟨b0, b1, b2, b3, b4, b5, b6, b7, b8, rfl⟩ := nine h2
  exact ⟨(((hB.set 5 (.int .i64 x)).set 6 (.int .i64 y)).set 7 (.int .i64 z)).set 8 (.string t), rfl, rfl⟩
theorem QW.setBest {W : World} {g : Nat} {A : Prp} (h : QW W g A) (u v x y z : Int) (t : ByteArray) : QW ((((((W.setCell ⟨g, 27, none⟩ (.int .i64 u)).setCell ⟨g, 28, none⟩ (.int .i64 v)).setCell ⟨g, 29, none⟩ (.int .i64 x)).setCell ⟨g, 30, none⟩ (.int .i64 y)).setCell ⟨g, 31, none⟩ (.int .i64 z)).setCell ⟨g, 32, none⟩ (.string t)) g (Prp.sBest A u v x y z t) := by
  obtain ⟨hB, h1, h2⟩ := h
  obtain ⟨ph, k, m, n, s, pr, ac, br, bp, bk, bm, bn, bs, ur, up, c, sl, r, p⟩ := A
  obtain ⟨a0, a1, a2, a3, a4, a5, a6, a7, a8, rfl⟩ := nine h1
  obtain ⟨b0, b1, b2, b3, b4, b5, b6, b7, b8, rfl⟩ := nine h2
  exact ⟨(((((hB.set 27 (.int .i64 u)).set 28 (.int .i64 v)).set 29 (.int .i64 x)).set 30 (.int .i64 y)).set 31 (.int .i64 z)).set 32 (.string t), rfl, rfl⟩
theorem QW.setUp {W : World} {g : Nat} {A : Prp} (h : QW W g A) (x y : Int) : QW ((W.setCell ⟨g, 33, none⟩ (.int .i64 x)).setCell ⟨g, 34, none⟩ (.int .i64 y)) g (Prp.sUp A x y) := by
  obtain ⟨hB, h1, h2⟩ := h
  obtain ⟨ph, k, m, n, s, pr, ac, br, bp, bk, bm, bn, bs, ur, up, c, sl, r, p⟩ := A
  obtain ⟨a0, a1, a2, a3, a4, a5, a6, a7, a8, rfl⟩ := nine h1
  obtain ⟨b0, b1, b2, b3, b4, b5, b6, b7, b8, rfl⟩ := nine h2
  exact ⟨(hB.set 33 (.int .i64 x)).set 34 (.int .i64 y), rfl, rfl⟩
end Go.Proofs.YtcahkcbenanfnaaGreatDoor
