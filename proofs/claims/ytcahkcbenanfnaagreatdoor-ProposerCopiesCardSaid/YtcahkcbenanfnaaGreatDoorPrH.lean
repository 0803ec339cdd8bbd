
/- Package proposer: what is done with a promise. -/
import Derived.Test.YtcahkcbenanfnaaGreatDoorPrG
namespace Go.Proofs.YtcahkcbenanfnaaGreatDoor
set_option linter.unusedSimpArgs false
set_option linter.unusedVariables false
open Go.RowKit
theorem PW.setPh {W : World} {g : Nat} {A : Prp} (h : PW W g A) (x : Int) : PW (W.setCell ⟨g, 0, none⟩ (.int .i64 x)) g { A with ph := x } := by
  obtain ⟨hB, h1, h2⟩ := h
  obtain ⟨ph, k0, m0, n0, s0, pr, ac, br, bp, bk, bm, bn, bs, ur, up, c, sl, r, p⟩ := A
  obtain ⟨a0, a1, a2, a3, a4, a5, a6, a7, a8, rfl⟩ := nine h1
  obtain ⟨b0, b1, b2, b3, b4, b5, b6, b7, b8, rfl⟩ := nine h2
  exact ⟨hB.set 0 (.int .i64 x), rfl, rfl⟩
theorem PW.setEnt {W : World} {g : Nat} {A : Prp} (h : PW W g A) (k m n : Int) (s : ByteArray) : PW ((((W.setCell ⟨g, 1, none⟩ (.int .i64 k)).setCell ⟨g, 2, none⟩ (.int .i64 m)).setCell ⟨g, 3, none⟩ (.int .i64 n)).setCell ⟨g, 4, none⟩ (.string s)) g { A with k := k, m := m, n := n, s := s } := by
  obtain ⟨hB, h1, h2⟩ := h
  obtain ⟨ph, k0, m0, n0, s0, pr, ac, br, bp, bk, bm, bn, bs, ur, up, c, sl, r, p⟩ := A
  obtain ⟨a0, a1, a2, a3, a4, a5, a6, a7, a8, rfl⟩ := nine h1
  obtain ⟨b0, b1, b2, b3, b4, b5, b6, b7, b8, rfl⟩ := nine h2
  exact ⟨(((hB.set 1 (.int .i64 k)).set 2 (.int .i64 m)).set 3 (.int .i64 n)).set 4 (.string s), rfl, rfl⟩
theorem PW.setBest {W : World} {g : Nat} {A : Prp} (h : PW W g A) (x y k m n : Int) (s : ByteArray) : PW ((((((W.setCell ⟨g, 23, none⟩ (.int .i64 x)).setCell ⟨g, 24, none⟩ (.int .i64 y)).setCell ⟨g, 25, none⟩ (.int .i64 k)).setCell ⟨g, 26, none⟩ (.int .i64 m)).setCell ⟨g, 27, none⟩ (.int .i64 n)).setCell ⟨g, 28, none⟩ (.string s)) g { A with br := x, bp := y, bk := k, bm := m, bn := n, bs := s } := by
  obtain ⟨hB, h1, h2⟩ := h
  obtain ⟨ph, k0, m0, n0, s0, pr, ac, br, bp, bk, bm, bn, bs, ur, up, c, sl, r, p⟩ := A
  obtain ⟨a0, a1, a2, a3, a4, a5, a6, a7, a8, rfl⟩ := nine h1
  obtain ⟨b0, b1, b2, b3, b4, b5, b6, b7, b8, rfl⟩ := nine h2
  exact ⟨(((((hB.set 23 (.int .i64 x)).set 24 (.int .i64 y)).set 25 (.int .i64 k)).set 26 (.int .i64 m)).set 27 (.int .i64 n)).set 28 (.string s), rfl, rfl⟩
theorem PW.setUp {W : World} {g : Nat} {A : Prp} (h : PW W g A) (x y : Int) : PW ((W.setCell ⟨g, 29, none⟩ (.int .i64 x)).setCell ⟨g, 30, none⟩ (.int .i64 y)) g { A with ur := x, up := y } := by
  obtain ⟨hB, h1, h2⟩ := h
  obtain ⟨ph, k0, m0, n0, s0, pr, ac, br, bp, bk, bm, bn, bs, ur, up, c, sl, r, p⟩ := A
  obtain ⟨a0, a1, a2, a3, a4, a5, a6, a7, a8, rfl⟩ := nine h1
  obtain ⟨b0, b1, b2, b3, b4, b5, b6, b7, b8, rfl⟩ := nine h2
  exact ⟨(hB.set 29 (.int .i64 x)).set 30 (.int .i64 y), rfl, rfl⟩
theorem PW.x0 {W : World} {g : Nat} {A : Prp} (h : PW W g A) : W.cell? ⟨g, 0, none⟩ = some (.int .i64 A.ph) := by
  obtain ⟨hB, h1, h2⟩ := h
  obtain ⟨ph, k0, m0, n0, s0, pr, ac, br, bp, bk, bm, bn, bs, ur, up, c, sl, r, p⟩ := A
  obtain ⟨a0, a1, a2, a3, a4, a5, a6, a7, a8, rfl⟩ := nine h1
  obtain ⟨b0, b1, b2, b3, b4, b5, b6, b7, b8, rfl⟩ := nine h2
  exact hB.cell (j := 0) rfl
theorem PW.f0 {W : World} {g : Nat} {A : Prp} (h : PW W g A) : W.frozen? ⟨g, 0, none⟩ = false := h.1.frozen 0
theorem PW.x1 {W : World} {g : Nat} {A : Prp} (h : PW W g A) : W.cell? ⟨g, 1, none⟩ = some (.int .i64 A.k) := by
  obtain ⟨hB, h1, h2⟩ := h
  obtain ⟨ph, k0, m0, n0, s0, pr, ac, br, bp, bk, bm, bn, bs, ur, up, c, sl, r, p⟩ := A
  obtain ⟨a0, a1, a2, a3, a4, a5, a6, a7, a8, rfl⟩ := nine h1
  obtain ⟨b0, b1, b2, b3, b4, b5, b6, b7, b8, rfl⟩ := nine h2
  exact hB.cell (j := 1) rfl
theorem PW.f1 {W : World} {g : Nat} {A : Prp} (h : PW W g A) : W.frozen? ⟨g, 1, none⟩ = false := h.1.frozen 1
theorem PW.x2 {W : World} {g : Nat} {A : Prp} (h : PW W g A) : W.cell? ⟨g, 2, none⟩ = some (.int .i64 A.m) := by
  obtain ⟨hB, h1, h2⟩ := h
  obtain ⟨ph, k0, m0, n0, s0, pr, ac, br, bp, bk, bm, bn, bs, ur, up, c, sl, r, p⟩ := A
  obtain ⟨a0, a1, a2, a3, a4, a5, a6, a7, a8, rfl⟩ := nine h1
  obtain ⟨b0, b1, b2, b3, b4, b5, b6, b7, b8, rfl⟩ := nine h2
  exact hB.cell (j := 2) rfl
theorem PW.f2 {W : World} {g : Nat} {A : Prp} (h : PW W g A) : W.frozen? ⟨g, 2, none⟩ = false := h.1.frozen 2
theorem PW.x3 {W : World} {g : Nat} {A : Prp} (h : PW W g A) : W.cell? ⟨g, 3, none⟩ = some (.int .i64 A.n) := by
  obtain ⟨hB, h1, h2⟩ := h
  obtain ⟨ph, k0, m0, n0, s0, pr, ac, br, bp, bk, bm, bn, bs, ur, up, c, sl, r, p⟩ := A
  obtain ⟨a0, a1, a2, a3, a4, a5, a6, a7, a8, rfl⟩ := nine h1
  obtain ⟨b0, b1, b2, b3, b4, b5, b6, b7, b8, rfl⟩ := nine h2
  exact hB.cell (j := 3) rfl
theorem PW.f3 {W : World} {g : Nat} {A : Prp} (h : PW W g A) : W.frozen? ⟨g, 3, none⟩ = false := h.1.frozen 3
theorem PW.x4 {W : World} {g : Nat} {A : Prp} (h : PW W g A) : W.cell? ⟨g, 4, none⟩ = some (.string A.s) := by
  obtain ⟨hB, h1, h2⟩ := h
  obtain ⟨ph, k0, m0, n0, s0, pr, ac, br, bp, bk, bm, bn, bs, ur, up, c, sl, r, p⟩ := A
  obtain ⟨a0, a1, a2, a3, a4, a5, a6, a7, a8, rfl⟩ := nine h1
  obtain ⟨b0, b1, b2, b3, b4, b5, b6, b7, b8, rfl⟩ := nine h2
  exact hB.cell (j := 4) rfl
theorem PW.f4 {W : World} {g : Nat} {A : Prp} (h : PW W g A) : W.frozen? ⟨g, 4, none⟩ = false := h.1.frozen 4
theorem PW.x23 {W : World} {g : Nat} {A : Prp} (h : PW W g A) : W.cell? ⟨g, 23, none⟩ = some (.int .i64 A.br) := by
  obtain ⟨hB, h1, h2⟩ := h
  obtain ⟨ph, k0, m0, n0, s0, pr, ac, br, bp, bk, bm, bn, bs, ur, up, c, sl, r, p⟩ := A
  obtain ⟨a0, a1, a2, a3, a4, a5, a6, a7, a8, rfl⟩ := nine h1
  obtain ⟨b0, b1, b2, b3, b4, b5, b6, b7, b8, rfl⟩ := nine h2
  exact hB.cell (j := 23) rfl
theorem PW.f23 {W : World} {g : Nat} {A : Prp} (h : PW W g A) : W.frozen? ⟨g, 23, none⟩ = false := h.1.frozen 23
theorem PW.x24 {W : World} {g : Nat} {A : Prp} (h : PW W g A) : W.cell? ⟨g, 24, none⟩ = some (.int .i64 A.bp) := by
  obtain ⟨hB, h1, h2⟩ := h
  obtain ⟨ph, k0, m0, n0, s0, pr, ac, br, bp, bk, bm, bn, bs, ur, up, c, sl, r, p⟩ := A
  obtain ⟨a0, a1, a2, a3, a4, a5, a6, a7, a8, rfl⟩ := nine h1
  obtain ⟨b0, b1, b2, b3, b4, b5, b6, b7, b8, rfl⟩ := nine h2
  exact hB.cell (j := 24) rfl
theorem PW.f24 {W : World} {g : Nat} {A : Prp} (h : PW W g A) : W.frozen? ⟨g, 24, none⟩ = false := h.1.frozen 24
theorem PW.x25 {W : World} {g : Nat} {A : Prp} (h : PW W g A) : W.cell? ⟨g, 25, none⟩ = some (.int .i64 A.bk) := by
  obtain ⟨hB, h1, h2⟩ := h
  obtain ⟨ph, k0, m0, n0, s0, pr, ac, br, bp, bk, bm, bn, bs, ur, up, c, sl, r, p⟩ := A
  obtain ⟨a0, a1, a2, a3, a4, a5, a6, a7, a8, rfl⟩ := nine h1
  obtain ⟨b0, b1, b2, b3, b4, b5, b6, b7, b8, rfl⟩ := nine h2
  exact hB.cell (j := 25) rfl
theorem PW.f25 {W : World} {g : Nat} {A : Prp} (h : PW W g A) : W.frozen? ⟨g, 25, none⟩ = false := h.1.frozen 25
theorem PW.x26 {W : World} {g : Nat} {A : Prp} (h : PW W g A) : W.cell? ⟨g, 26, none⟩ = some (.int .i64 A.bm) := by
  obtain ⟨hB, h1, h2⟩ := h
  obtain ⟨ph, k0, m0, n0, s0, pr, ac, br, bp, bk, bm, bn, bs, ur, up, c, sl, r, p⟩ := A
  obtain ⟨a0, a1, a2, a3, a4, a5, a6, a7, a8, rfl⟩ := nine h1
  obtain ⟨b0, b1, b2, b3, b4, b5, b6, b7, b8, rfl⟩ := nine h2
  exact hB.cell (j := 26) rfl
theorem PW.f26 {W : World} {g : Nat} {A : Prp} (h : PW W g A) : W.frozen? ⟨g, 26, none⟩ = false := h.1.frozen 26
theorem PW.x27 {W : World} {g : Nat} {A : Prp} (h : PW W g A) : W.cell? ⟨g, 27, none⟩ = some (.int .i64 A.bn) := by
  obtain ⟨hB, h1, h2⟩ := h
  obtain ⟨ph, k0, m0, n0, s0, pr, ac, br, bp, bk, bm, bn, bs, ur, up, c, sl, r, p⟩ := A
  obtain ⟨a0, a1, a2, a3, a4, a5, a6, a7, a8, rfl⟩ := nine h1
  obtain ⟨b0, b1, b2, b3, b4, b5, b6, b7, b8, rfl⟩ := nine h2
  exact hB.cell (j := 27) rfl
theorem PW.f27 {W : World} {g : Nat} {A : Prp} (h : PW W g A) : W.frozen? ⟨g, 27, none⟩ = false := h.1.frozen 27
theorem PW.x28 {W : World} {g : Nat} {A : Prp} (h : PW W g A) : W.cell? ⟨g, 28, none⟩ = some (.string A.bs) := by
  obtain ⟨hB, h1, h2⟩ := h
  obtain ⟨ph, k0, m0, n0, s0, pr, ac, br, bp, bk, bm, bn, bs, ur, up, c, sl, r, p⟩ := A
  obtain ⟨a0, a1, a2, a3, a4, a5, a6, a7, a8, rfl⟩ := nine h1
  obtain ⟨b0, b1, b2, b3, b4, b5, b6, b7, b8, rfl⟩ := nine h2
  exact hB.cell (j := 28) rfl
theorem PW.f28 {W : World} {g : Nat} {A : Prp} (h : PW W g A) : W.frozen? ⟨g, 28, none⟩ = false := h.1.frozen 28
theorem PW.x29 {W : World} {g : Nat} {A : Prp} (h : PW W g A) : W.cell? ⟨g, 29, none⟩ = some (.int .i64 A.ur) := by
  obtain ⟨hB, h1, h2⟩ := h
  obtain ⟨ph, k0, m0, n0, s0, pr, ac, br, bp, bk, bm, bn, bs, ur, up, c, sl, r, p⟩ := A
  obtain ⟨a0, a1, a2, a3, a4, a5, a6, a7, a8, rfl⟩ := nine h1
  obtain ⟨b0, b1, b2, b3, b4, b5, b6, b7, b8, rfl⟩ := nine h2
  exact hB.cell (j := 29) rfl
theorem PW.f29 {W : World} {g : Nat} {A : Prp} (h : PW W g A) : W.frozen? ⟨g, 29, none⟩ = false := h.1.frozen 29
theorem PW.x30 {W : World} {g : Nat} {A : Prp} (h : PW W g A) : W.cell? ⟨g, 30, none⟩ = some (.int .i64 A.up) := by
  obtain ⟨hB, h1, h2⟩ := h
  obtain ⟨ph, k0, m0, n0, s0, pr, ac, br, bp, bk, bm, bn, bs, ur, up, c, sl, r, p⟩ := A
  obtain ⟨a0, a1, a2, a3, a4, a5, a6, a7, a8, rfl⟩ := nine h1
  obtain ⟨b0, b1, b2, b3, b4, b5, b6, b7, b8, rfl⟩ := nine h2
  exact hB.cell (j := 30) rfl
theorem PW.f30 {W : World} {g : Nat} {A : Prp} (h : PW W g A) : W.frozen? ⟨g, 30, none⟩ = false := h.1.frozen 30
/-- What a promise does: the best; won or not; what is given. -/
def bestA (A : Prp) (i : Nat) (x y k m n : Int) (s : ByteArray) : Prp :=
  if cmpI A.br A.bp x y < 0 then { A with pr := A.pr.set i true, br := x, bp := y, bk := k, bm := m, bn := n, bs := s } else { A with pr := A.pr.set i true }
def giveA (A : Prp) : Prp := if noneE A.br A.bp A.bk A.bm A.bn A.bs then { A with ph := 2, k := 1, m := 0, n := 0, s := ⟨#[]⟩ } else { A with ph := 2, k := A.bk, m := A.bm, n := A.bn, s := A.bs }
def Sel (bp g : Nat) (B : Prp) (W : World) : Prop := W.cell? ⟨bp, 0, none⟩ = some (.pointer (some ⟨g, 0, none⟩)) ∧ W.cell? ⟨g, 25, none⟩ = some (.int .i64 B.bk) ∧ W.cell? ⟨g, 26, none⟩ = some (.int .i64 B.bm) ∧ W.cell? ⟨g, 27, none⟩ = some (.int .i64 B.bn) ∧ W.cell? ⟨g, 28, none⟩ = some (.string B.bs)
def gvS (B : Prp) : Prp := { B with ph := 2, k := B.bk, m := B.bm, n := B.bn, s := B.bs }
def gvN (B : Prp) : Prp := { B with ph := 2, k := 1, m := 0, n := 0, s := ⟨#[]⟩ }
def tellA (A : Prp) (i : Nat) (x y k m n : Int) (s : ByteArray) : Prp :=
  if A.pr.getD i false then A else if wonP A.c (bestA A i x y k m n s).pr then giveA (bestA A i x y k m n s) else bestA A i x y k m n s
set_option maxRecDepth 100000 in
set_option maxHeartbeats 2000000 in
theorem tell3_was (bp bi bf ba g i : Nat) (A : Prp) (w : World) (hP : PW w g A) (hp : Blk w bp 30 [.pointer (some ⟨g, 0, none⟩)]) (hi : Blk w bi 3 [.int .i64 i]) (hi9 : i < 9) (hv : A.pr.getD i false = true) :
    Calls Tryz.prog 52 #[.pointer (some ⟨bp, 0, none⟩), .pointer (some ⟨bi, 0, none⟩), .pointer (some ⟨bf, 0, none⟩), .pointer (some ⟨ba, 0, none⟩)] w fun e w' => e = .returned (.tuple #[]) ∧ PW w' g A ∧ Kx [g] w w' := by
  have cq := extA_cell (hP.apr i hi9)
  rw [hv] at cq
  have i0 : (0 : Int) ≤ (i : Int) := by omega
  have i9 : (i : Int) < 9 := by omega
  have p0 := extA_cell (hp.cell (j := 0) rfl)
  have q0 := extA_cell (hi.cell (j := 0) rfl)
  go_enter Tryz.func52, Tryz.ntmps52
  go_upto_region 0 with fail
  refine wp_region_extB (by kernel_rfl) (by kernel_rfl) ?_
  repeat
    (first
      | go_big_quiet_skip
      | (go_big_quiet_want
         go_big_quiet_op
         first
           | go_big_quiet_on
           | (apply Exists.intro
              refine ⟨fun w' hC9 => ?_, ?_⟩
              · (first
                  | with_reducible rfl
                  | fail
                  | (go_simp; done)
                  | (go_simp; with_reducible rfl))
              go_big_quiet_on)))
  refine wpQuiet_nil ?_
  intro wq hq
  go_wp2_with fail
  go_returns
  exact ⟨rfl, hP.step hq, (Kx.refl _ _).step hq⟩
set_option maxRecDepth 100000 in
set_option maxHeartbeats 8000000 in
theorem tell3_notwon (bp bi bf ba g i : Nat) (A B : Prp) (x y k m n : Int) (s : ByteArray) (b1 b2 b3 b4 b5 : Int) (b6 : ByteArray) (w : World) (hP : PW w g A) (hp : Blk w bp 30 [.pointer (some ⟨g, 0, none⟩)]) (hi : Blk w bi 3 [.int .i64 i])
    (hf : Blk w bf 125 [.func (.func 50) #[] #[]]) (ha : Blk w ba 33 [.int .i64 x, .int .i64 y, .int .i64 k, .int .i64 m, .int .i64 n, .string s])
    (hr : rightB A.c = true) (hi9 : i < 9) (hv : A.pr.getD i false = false) (hpn : bp ∉ [g]) (hin : bi ∉ [g]) (hfn : bf ∉ [g]) (han : ba ∉ [g])
    (hg : gtrV A.br A.bp A.bk A.bm A.bn A.bs x y k m n s = .agg #[.int .i64 b1, .int .i64 b2, .int .i64 b3, .int .i64 b4, .int .i64 b5, .string b6]) (hBe : { A with pr := A.pr.set i true, br := b1, bp := b2, bk := b3, bm := b4, bn := b5, bs := b6 } = B) (hw : wonP B.c B.pr = false) :
    Calls Tryz.prog 52 #[.pointer (some ⟨bp, 0, none⟩), .pointer (some ⟨bi, 0, none⟩), .pointer (some ⟨bf, 0, none⟩), .pointer (some ⟨ba, 0, none⟩)] w fun e w' => e = .returned (.tuple #[]) ∧ PW w' g (B) ∧ Kx [g] w w' := by
  have cG := fun W => greater_any A.br A.bp A.bk A.bm A.bn A.bs x y k m n s W
  rw [hg] at cG
  have cq := extA_cell (hP.apr i hi9)
  rw [hv] at cq
  have i0 : (0 : Int) ≤ (i : Int) := by omega
  have i9 : (i : Int) < 9 := by omega
  have hk := Kx.refl [g] w
  have p0 := extA_cell (hp.cell (j := 0) rfl)
  have q0 := extA_cell (hi.cell (j := 0) rfl)
  go_enter Tryz.func52, Tryz.ntmps52
  go_upto_region 0 with fail
  refine wp_region_extB (by kernel_rfl) (by kernel_rfl) ?_
  repeat
    (first
      | go_big_quiet_skip
      | (go_big_quiet_want
         go_big_quiet_op
         first
           | go_big_quiet_on
           | (apply Exists.intro
              refine ⟨fun w' hC9 => ?_, ?_⟩
              · (first
                  | with_reducible rfl
                  | fail
                  | (go_simp; done)
                  | (go_simp; with_reducible rfl))
              go_big_quiet_on)))
  refine wpQuiet_nil ?_
  intro w1 hq
  replace hP := hP.step hq
  replace hp := hp.step hq
  replace hi := hi.step hq
  replace hf := hf.step hq
  replace ha := ha.step hq
  replace hk := hk.step hq
  clear cq p0 q0 hq hg
  go_upto_region 1 with fail
  have p0 := extA_cell (hp.cell (j := 0) rfl)
  have q0 := extA_cell (hi.cell (j := 0) rfl)
  refine wp_region_head (C := ExtA w1) 6 (by kernel_rfl) (by decide) (by kernel_rfl) ⟨rfl, rfl, rfl, Nat.le_refl _, fun _ _ => rfl⟩ ?_
  simp only [List.take_succ_cons, List.take_zero]
  repeat
    (first
      | go_big_quiet_skip
      | (go_big_quiet_want
         go_big_quiet_op
         first
           | go_big_quiet_on
           | (apply Exists.intro
              refine ⟨fun w' hC9 => ?_, ?_⟩
              · (first
                  | with_reducible rfl
                  | fail
                  | (go_simp; done)
                  | (go_simp; with_reducible rfl))
              go_big_quiet_on)))
  refine wpQuiet_nil ?_
  intro wq hq
  replace hP := hP.step hq
  replace hp := hp.step hq
  replace hi := hi.step hq
  replace hf := hf.step hq
  replace ha := ha.step hq
  replace hk := hk.step hq
  change wpAny _ _ _ _ (0 + 1) _ _ _
  have cq := hP.apr i hi9
  have fq := hP.1.frozen (5 + i)
  refine wpAny_ready (rs := [6]) (by kernel_rfl) (by simp) ?_
  refine AllReady.cons rfl (fun K hK => ?_) AllReady.nil
  go_simp
  have hk1 : Kx [g] wq (wq.setCell ⟨g, 5 + i, none⟩ (.bool true)) := (Kx.refl [g] wq).setCell (p := ⟨g, 5 + i, none⟩) (.inl (by simp)) _
  replace hP := hP.setPr i hi9
  replace hp := hp.kx hk1 hpn
  replace hi := hi.kx hk1 hin
  replace hf := hf.kx hk1 hfn
  replace ha := ha.kx hk1 han
  replace hk := hk.trans hk1
  refine hK _ _ ?_
  generalize wq.setCell ⟨g, 5 + i, none⟩ (.bool true) = w2 at *
  clear hk1 cq fq p0 q0 hq
  clear hK K
  refine wpAny_done (by kernel_rfl) ?_ _
  have p0 := hp.cell (j := 0) rfl
  go_upto_region 2 with fail
  replace p0 := extA_cell (hp.cell (j := 0) rfl)
  have f0 := extA_cell (hf.cell (j := 0) rfl)
  have ha_0 := extA_cell (ha.cell (j := 0) rfl)
  have ha_1 := extA_cell (ha.cell (j := 1) rfl)
  have ha_2 := extA_cell (ha.cell (j := 2) rfl)
  have ha_3 := extA_cell (ha.cell (j := 3) rfl)
  have ha_4 := extA_cell (ha.cell (j := 4) rfl)
  have ha_5 := extA_cell (ha.cell (j := 5) rfl)
  have x23 := extA_cell hP.x23
  have x24 := extA_cell hP.x24
  have x25 := extA_cell hP.x25
  have x26 := extA_cell hP.x26
  have x27 := extA_cell hP.x27
  have x28 := extA_cell hP.x28
  dsimp only at x23 x24 x25 x26 x27 x28
  refine wp_region_head (C := ExtA w2) 12 (by kernel_rfl) (by decide) (by kernel_rfl) ⟨rfl, rfl, rfl, Nat.le_refl _, fun _ _ => rfl⟩ ?_
  simp only [List.take_succ_cons, List.take_zero]
  repeat
    (first
      | go_big_quiet_skip
      | (go_big_quiet_want
         go_big_quiet_op
         first
           | go_big_quiet_on
           | (apply Exists.intro
              refine ⟨fun w' hC9 => ?_, ?_⟩
              · (first
                  | with_reducible rfl
                  | (go_at_call 53; refine (cG _).mono ?_; rintro e w2 ⟨rfl, hb9⟩; exact ⟨rfl, extA_then hC9 hb9⟩)
                  | (go_simp; done)
                  | (go_simp; with_reducible rfl))
              go_big_quiet_on)))
  refine wpQuiet_nil ?_
  intro wq hq
  replace hP := hP.step hq
  replace hp := hp.step hq
  replace hi := hi.step hq
  replace hf := hf.step hq
  replace ha := ha.step hq
  replace hk := hk.step hq
  change wpAny _ _ _ _ (0 + 1) _ _ _
  replace x23 := hP.x23
  replace x24 := hP.x24
  replace x25 := hP.x25
  replace x26 := hP.x26
  replace x27 := hP.x27
  replace x28 := hP.x28
  have f23 := hP.f23
  have f24 := hP.f24
  have f25 := hP.f25
  have f26 := hP.f26
  have f27 := hP.f27
  have f28 := hP.f28
  refine wpAny_ready (rs := [12]) (by kernel_rfl) (by simp) ?_
  refine AllReady.cons rfl (fun K hK => ?_) AllReady.nil
  go_simp
  have hk1 : Kx [g] wq (((((((wq.setCell ⟨g, 23, none⟩ (.int .i64 b1)).setCell ⟨g, 24, none⟩ (.int .i64 b2)).setCell ⟨g, 25, none⟩ (.int .i64 b3)).setCell ⟨g, 26, none⟩ (.int .i64 b4)).setCell ⟨g, 27, none⟩ (.int .i64 b5)).setCell ⟨g, 28, none⟩ (.string b6))) := Kx.setCells [.int .i64 b1, .int .i64 b2, .int .i64 b3, .int .i64 b4, .int .i64 b5, .string b6] 23 wq (Kx.refl [g] wq) (.inl (by simp))
  replace hP := hP.setBest b1 b2 b3 b4 b5 b6
  replace hp := hp.kx hk1 hpn
  replace hi := hi.kx hk1 hin
  replace hf := hf.kx hk1 hfn
  replace ha := ha.kx hk1 han
  replace hk := hk.trans hk1
  refine hK _ _ ?_
  generalize (((((((wq.setCell ⟨g, 23, none⟩ (.int .i64 b1)).setCell ⟨g, 24, none⟩ (.int .i64 b2)).setCell ⟨g, 25, none⟩ (.int .i64 b3)).setCell ⟨g, 26, none⟩ (.int .i64 b4)).setCell ⟨g, 27, none⟩ (.int .i64 b5)).setCell ⟨g, 28, none⟩ (.string b6))) = w3 at *
  dsimp only at hP
  rw [hBe] at hP
  have hrB : rightB B.c = true := by rw [← hBe]; exact hr
  clear hk1 x23 x24 x25 x26 x27 x28 f23 f24 f25 f26 f27 f28 ha_0 ha_1 ha_2 ha_3 ha_4 ha_5 p0 f0 cG hq
  clear hK K
  refine wpAny_done (by kernel_rfl) ?_ _
  have p0 := hp.cell (j := 0) rfl
  have hP1 := hP.2.1
  obtain ⟨d0, d1, d2, d3, d4, d5, d6, d7, d8, hd⟩ := nine hP1
  have e0 := extA_cell (show w3.cell? ⟨g, 5, none⟩ = some (.bool d0) by have := hP.apr 0 (by omega); rw [hd] at this; exact this)
  have e1 := extA_cell (show w3.cell? ⟨g, 6, none⟩ = some (.bool d1) by have := hP.apr 1 (by omega); rw [hd] at this; exact this)
  have e2 := extA_cell (show w3.cell? ⟨g, 7, none⟩ = some (.bool d2) by have := hP.apr 2 (by omega); rw [hd] at this; exact this)
  have e3 := extA_cell (show w3.cell? ⟨g, 8, none⟩ = some (.bool d3) by have := hP.apr 3 (by omega); rw [hd] at this; exact this)
  have e4 := extA_cell (show w3.cell? ⟨g, 9, none⟩ = some (.bool d4) by have := hP.apr 4 (by omega); rw [hd] at this; exact this)
  have e5 := extA_cell (show w3.cell? ⟨g, 10, none⟩ = some (.bool d5) by have := hP.apr 5 (by omega); rw [hd] at this; exact this)
  have e6 := extA_cell (show w3.cell? ⟨g, 11, none⟩ = some (.bool d6) by have := hP.apr 6 (by omega); rw [hd] at this; exact this)
  have e7 := extA_cell (show w3.cell? ⟨g, 12, none⟩ = some (.bool d7) by have := hP.apr 7 (by omega); rw [hd] at this; exact this)
  have e8 := extA_cell (show w3.cell? ⟨g, 13, none⟩ = some (.bool d8) by have := hP.apr 8 (by omega); rw [hd] at this; exact this)
  have c31 := extA_cell hP.cc
  have cW := fun W hW => won15_any g B.c B.pr hP1 W hW hrB
  rw [hw, hd] at cW
  unfold setV at cW
  simp only [List.map_cons, List.map_nil] at cW
  go_upto_region 3 with fail
  replace p0 := extA_cell (hp.cell (j := 0) rfl)
  refine wp_region_extB (by kernel_rfl) (by kernel_rfl) ?_
  repeat
    (first
      | go_big_quiet_skip
      | (go_big_quiet_want
         go_big_quiet_op
         first
           | go_big_quiet_on
           | (apply Exists.intro
              refine ⟨fun w' hC9 => ?_, ?_⟩
              · (first
                  | with_reducible rfl
                  | (go_at_call 54; refine (cW _ (c31 _ hC9)).mono ?_; rintro e w2 ⟨rfl, hb9⟩; exact ⟨rfl, extA_then hC9 hb9⟩)
                  | (go_simp; done)
                  | (go_simp; with_reducible rfl))
              go_big_quiet_on)))
  refine wpQuiet_nil ?_
  intro w4 hq
  replace hP := hP.step hq
  replace hp := hp.step hq
  replace hi := hi.step hq
  replace hf := hf.step hq
  replace ha := ha.step hq
  replace hk := hk.step hq
  clear hq e0 e1 e2 e3 e4 e5 e6 e7 e8 c31 cW p0
  go_wp2_with fail
  go_returns
  exact ⟨rfl, hP, hk⟩
set_option maxRecDepth 100000 in
set_option maxHeartbeats 8000000 in
theorem tell3_some (bp bi bf ba g i : Nat) (A B : Prp) (x y k m n : Int) (s : ByteArray) (b1 b2 b3 b4 b5 : Int) (b6 : ByteArray) (w : World) (hP : PW w g A) (hp : Blk w bp 30 [.pointer (some ⟨g, 0, none⟩)]) (hi : Blk w bi 3 [.int .i64 i])
    (hf : Blk w bf 125 [.func (.func 50) #[] #[]]) (ha : Blk w ba 33 [.int .i64 x, .int .i64 y, .int .i64 k, .int .i64 m, .int .i64 n, .string s])
    (hr : rightB A.c = true) (hi9 : i < 9) (hv : A.pr.getD i false = false) (hpn : bp ∉ [g]) (hin : bi ∉ [g]) (hfn : bf ∉ [g]) (han : ba ∉ [g])
    (hg : gtrV A.br A.bp A.bk A.bm A.bn A.bs x y k m n s = .agg #[.int .i64 b1, .int .i64 b2, .int .i64 b3, .int .i64 b4, .int .i64 b5, .string b6]) (hBe : { A with pr := A.pr.set i true, br := b1, bp := b2, bk := b3, bm := b4, bn := b5, bs := b6 } = B) (hw : wonP B.c B.pr = true) (hN : noneE B.br B.bp B.bk B.bm B.bn B.bs = false) :
    Calls Tryz.prog 52 #[.pointer (some ⟨bp, 0, none⟩), .pointer (some ⟨bi, 0, none⟩), .pointer (some ⟨bf, 0, none⟩), .pointer (some ⟨ba, 0, none⟩)] w fun e w' => e = .returned (.tuple #[]) ∧ PW w' g (gvS B) ∧ Kx [g] w w' := by
  have cG := fun W => greater_any A.br A.bp A.bk A.bm A.bn A.bs x y k m n s W
  rw [hg] at cG
  have cq := extA_cell (hP.apr i hi9)
  rw [hv] at cq
  have i0 : (0 : Int) ≤ (i : Int) := by omega
  have i9 : (i : Int) < 9 := by omega
  have hk := Kx.refl [g] w
  have p0 := extA_cell (hp.cell (j := 0) rfl)
  have q0 := extA_cell (hi.cell (j := 0) rfl)
  go_enter Tryz.func52, Tryz.ntmps52
  go_upto_region 0 with fail
  refine wp_region_extB (by kernel_rfl) (by kernel_rfl) ?_
  repeat
    (first
      | go_big_quiet_skip
      | (go_big_quiet_want
         go_big_quiet_op
         first
           | go_big_quiet_on
           | (apply Exists.intro
              refine ⟨fun w' hC9 => ?_, ?_⟩
              · (first
                  | with_reducible rfl
                  | fail
                  | (go_simp; done)
                  | (go_simp; with_reducible rfl))
              go_big_quiet_on)))
  refine wpQuiet_nil ?_
  intro w1 hq
  replace hP := hP.step hq
  replace hp := hp.step hq
  replace hi := hi.step hq
  replace hf := hf.step hq
  replace ha := ha.step hq
  replace hk := hk.step hq
  clear cq p0 q0 hq hg
  go_upto_region 1 with fail
  have p0 := extA_cell (hp.cell (j := 0) rfl)
  have q0 := extA_cell (hi.cell (j := 0) rfl)
  refine wp_region_head (C := ExtA w1) 6 (by kernel_rfl) (by decide) (by kernel_rfl) ⟨rfl, rfl, rfl, Nat.le_refl _, fun _ _ => rfl⟩ ?_
  simp only [List.take_succ_cons, List.take_zero]
  repeat
    (first
      | go_big_quiet_skip
      | (go_big_quiet_want
         go_big_quiet_op
         first
           | go_big_quiet_on
           | (apply Exists.intro
              refine ⟨fun w' hC9 => ?_, ?_⟩
              · (first
                  | with_reducible rfl
                  | fail
                  | (go_simp; done)
                  | (go_simp; with_reducible rfl))
              go_big_quiet_on)))
  refine wpQuiet_nil ?_
  intro wq hq
  replace hP := hP.step hq
  replace hp := hp.step hq
  replace hi := hi.step hq
  replace hf := hf.step hq
  replace ha := ha.step hq
  replace hk := hk.step hq
  change wpAny _ _ _ _ (0 + 1) _ _ _
  have cq := hP.apr i hi9
  have fq := hP.1.frozen (5 + i)
  refine wpAny_ready (rs := [6]) (by kernel_rfl) (by simp) ?_
  refine AllReady.cons rfl (fun K hK => ?_) AllReady.nil
  go_simp
  have hk1 : Kx [g] wq (wq.setCell ⟨g, 5 + i, none⟩ (.bool true)) := (Kx.refl [g] wq).setCell (p := ⟨g, 5 + i, none⟩) (.inl (by simp)) _
  replace hP := hP.setPr i hi9
  replace hp := hp.kx hk1 hpn
  replace hi := hi.kx hk1 hin
  replace hf := hf.kx hk1 hfn
  replace ha := ha.kx hk1 han
  replace hk := hk.trans hk1
  refine hK _ _ ?_
  generalize wq.setCell ⟨g, 5 + i, none⟩ (.bool true) = w2 at *
  clear hk1 cq fq p0 q0 hq
  clear hK K
  refine wpAny_done (by kernel_rfl) ?_ _
  have p0 := hp.cell (j := 0) rfl
  go_upto_region 2 with fail
  replace p0 := extA_cell (hp.cell (j := 0) rfl)
  have f0 := extA_cell (hf.cell (j := 0) rfl)
  have ha_0 := extA_cell (ha.cell (j := 0) rfl)
  have ha_1 := extA_cell (ha.cell (j := 1) rfl)
  have ha_2 := extA_cell (ha.cell (j := 2) rfl)
  have ha_3 := extA_cell (ha.cell (j := 3) rfl)
  have ha_4 := extA_cell (ha.cell (j := 4) rfl)
  have ha_5 := extA_cell (ha.cell (j := 5) rfl)
  have x23 := extA_cell hP.x23
  have x24 := extA_cell hP.x24
  have x25 := extA_cell hP.x25
  have x26 := extA_cell hP.x26
  have x27 := extA_cell hP.x27
  have x28 := extA_cell hP.x28
  dsimp only at x23 x24 x25 x26 x27 x28
  refine wp_region_head (C := ExtA w2) 12 (by kernel_rfl) (by decide) (by kernel_rfl) ⟨rfl, rfl, rfl, Nat.le_refl _, fun _ _ => rfl⟩ ?_
  simp only [List.take_succ_cons, List.take_zero]
  repeat
    (first
      | go_big_quiet_skip
      | (go_big_quiet_want
         go_big_quiet_op
         first
           | go_big_quiet_on
           | (apply Exists.intro
              refine ⟨fun w' hC9 => ?_, ?_⟩
              · (first
                  | with_reducible rfl
                  | (go_at_call 53; refine (cG _).mono ?_; rintro e w2 ⟨rfl, hb9⟩; exact ⟨rfl, extA_then hC9 hb9⟩)
                  | (go_simp; done)
                  | (go_simp; with_reducible rfl))
              go_big_quiet_on)))
  refine wpQuiet_nil ?_
  intro wq hq
  replace hP := hP.step hq
  replace hp := hp.step hq
  replace hi := hi.step hq
  replace hf := hf.step hq
  replace ha := ha.step hq
  replace hk := hk.step hq
  change wpAny _ _ _ _ (0 + 1) _ _ _
  replace x23 := hP.x23
  replace x24 := hP.x24
  replace x25 := hP.x25
  replace x26 := hP.x26
  replace x27 := hP.x27
  replace x28 := hP.x28
  have f23 := hP.f23
  have f24 := hP.f24
  have f25 := hP.f25
  have f26 := hP.f26
  have f27 := hP.f27
  have f28 := hP.f28
  refine wpAny_ready (rs := [12]) (by kernel_rfl) (by simp) ?_
  refine AllReady.cons rfl (fun K hK => ?_) AllReady.nil
  go_simp
  have hk1 : Kx [g] wq (((((((wq.setCell ⟨g, 23, none⟩ (.int .i64 b1)).setCell ⟨g, 24, none⟩ (.int .i64 b2)).setCell ⟨g, 25, none⟩ (.int .i64 b3)).setCell ⟨g, 26, none⟩ (.int .i64 b4)).setCell ⟨g, 27, none⟩ (.int .i64 b5)).setCell ⟨g, 28, none⟩ (.string b6))) := Kx.setCells [.int .i64 b1, .int .i64 b2, .int .i64 b3, .int .i64 b4, .int .i64 b5, .string b6] 23 wq (Kx.refl [g] wq) (.inl (by simp))
  replace hP := hP.setBest b1 b2 b3 b4 b5 b6
  replace hp := hp.kx hk1 hpn
  replace hi := hi.kx hk1 hin
  replace hf := hf.kx hk1 hfn
  replace ha := ha.kx hk1 han
  replace hk := hk.trans hk1
  refine hK _ _ ?_
  generalize (((((((wq.setCell ⟨g, 23, none⟩ (.int .i64 b1)).setCell ⟨g, 24, none⟩ (.int .i64 b2)).setCell ⟨g, 25, none⟩ (.int .i64 b3)).setCell ⟨g, 26, none⟩ (.int .i64 b4)).setCell ⟨g, 27, none⟩ (.int .i64 b5)).setCell ⟨g, 28, none⟩ (.string b6))) = w3 at *
  dsimp only at hP
  rw [hBe] at hP
  have hrB : rightB B.c = true := by rw [← hBe]; exact hr
  clear hk1 x23 x24 x25 x26 x27 x28 f23 f24 f25 f26 f27 f28 ha_0 ha_1 ha_2 ha_3 ha_4 ha_5 p0 f0 cG hq
  clear hK K
  refine wpAny_done (by kernel_rfl) ?_ _
  have p0 := hp.cell (j := 0) rfl
  have hP1 := hP.2.1
  obtain ⟨d0, d1, d2, d3, d4, d5, d6, d7, d8, hd⟩ := nine hP1
  have e0 := extA_cell (show w3.cell? ⟨g, 5, none⟩ = some (.bool d0) by have := hP.apr 0 (by omega); rw [hd] at this; exact this)
  have e1 := extA_cell (show w3.cell? ⟨g, 6, none⟩ = some (.bool d1) by have := hP.apr 1 (by omega); rw [hd] at this; exact this)
  have e2 := extA_cell (show w3.cell? ⟨g, 7, none⟩ = some (.bool d2) by have := hP.apr 2 (by omega); rw [hd] at this; exact this)
  have e3 := extA_cell (show w3.cell? ⟨g, 8, none⟩ = some (.bool d3) by have := hP.apr 3 (by omega); rw [hd] at this; exact this)
  have e4 := extA_cell (show w3.cell? ⟨g, 9, none⟩ = some (.bool d4) by have := hP.apr 4 (by omega); rw [hd] at this; exact this)
  have e5 := extA_cell (show w3.cell? ⟨g, 10, none⟩ = some (.bool d5) by have := hP.apr 5 (by omega); rw [hd] at this; exact this)
  have e6 := extA_cell (show w3.cell? ⟨g, 11, none⟩ = some (.bool d6) by have := hP.apr 6 (by omega); rw [hd] at this; exact this)
  have e7 := extA_cell (show w3.cell? ⟨g, 12, none⟩ = some (.bool d7) by have := hP.apr 7 (by omega); rw [hd] at this; exact this)
  have e8 := extA_cell (show w3.cell? ⟨g, 13, none⟩ = some (.bool d8) by have := hP.apr 8 (by omega); rw [hd] at this; exact this)
  have c31 := extA_cell hP.cc
  have cW := fun W hW => won15_any g B.c B.pr hP1 W hW hrB
  rw [hw, hd] at cW
  unfold setV at cW
  simp only [List.map_cons, List.map_nil] at cW
  go_upto_region 3 with fail
  replace p0 := extA_cell (hp.cell (j := 0) rfl)
  refine wp_region_extB (by kernel_rfl) (by kernel_rfl) ?_
  repeat
    (first
      | go_big_quiet_skip
      | (go_big_quiet_want
         go_big_quiet_op
         first
           | go_big_quiet_on
           | (apply Exists.intro
              refine ⟨fun w' hC9 => ?_, ?_⟩
              · (first
                  | with_reducible rfl
                  | (go_at_call 54; refine (cW _ (c31 _ hC9)).mono ?_; rintro e w2 ⟨rfl, hb9⟩; exact ⟨rfl, extA_then hC9 hb9⟩)
                  | (go_simp; done)
                  | (go_simp; with_reducible rfl))
              go_big_quiet_on)))
  refine wpQuiet_nil ?_
  intro w4 hq
  replace hP := hP.step hq
  replace hp := hp.step hq
  replace hi := hi.step hq
  replace hf := hf.step hq
  replace ha := ha.step hq
  replace hk := hk.step hq
  clear hq e0 e1 e2 e3 e4 e5 e6 e7 e8 c31 cW p0
  have p0 := hp.cell (j := 0) rfl
  go_upto_region 4 with fail
  have hS0 : Sel bp g B w4 := ⟨hp.cell (j := 0) rfl, hP.x25, hP.x26, hP.x27, hP.x28⟩
  replace p0 : ∀ W, Sel bp g B W → W.cell? ⟨bp, 0, none⟩ = some (.pointer (some ⟨g, 0, none⟩)) := fun _ h => h.1
  have x25 : ∀ W, Sel bp g B W → W.cell? ⟨g, 25, none⟩ = some (.int .i64 B.bk) := fun _ h => h.2.1
  have x26 : ∀ W, Sel bp g B W → W.cell? ⟨g, 26, none⟩ = some (.int .i64 B.bm) := fun _ h => h.2.2.1
  have x27 : ∀ W, Sel bp g B W → W.cell? ⟨g, 27, none⟩ = some (.int .i64 B.bn) := fun _ h => h.2.2.2.1
  have x28 : ∀ W, Sel bp g B W → W.cell? ⟨g, 28, none⟩ = some (.string B.bs) := fun _ h => h.2.2.2.2
  refine wp_region_held (S := Sel bp g B) (by kernel_rfl) ?_
  have hst : Below (w4).heap.size w4 { w4 with drawn := (w4).drawn + 1 } := ⟨rfl, rfl, rfl, Nat.le_refl _, fun _ _ => rfl⟩
  have hS : (Sel bp g B) { w4 with drawn := (w4).drawn + 1 } := by first | exact ⟨rfl, rfl, rfl, Nat.le_refl _, fun _ _ _ => rfl⟩ | exact ⟨rfl, rfl, rfl, Nat.le_refl _, fun _ _ => rfl⟩ | exact hS0
  replace hP := hP.step hst
  replace hp := hp.step hst
  replace hi := hi.step hst
  replace hf := hf.step hst
  replace ha := ha.step hst
  replace hk := hk.step hst
  clear hst
  generalize ({ w4 with drawn := (w4).drawn + 1 } : World) = wq at *
  refine wpAnyH_take (i := 0) (v := ?_) rfl (by kernel_rfl) (by kernel_rfl) (by kernel_rfl) (fun _ _ _ h => h) (Or.inl ⟨by kernel_rfl, ?_⟩) hS ?_
  rotate_left
  · intro W hSW
    have y0 := p0 _ hSW
    have y1 := x25 _ hSW
    have y2 := x26 _ hSW
    have y3 := x27 _ hSW
    have y4 := x28 _ hSW
    go_simp
    try with_reducible rfl
  dsimp only [Act.put]
  refine wpAnyH_take (i := 1) (v := ?_) rfl (by kernel_rfl) (by kernel_rfl) (by kernel_rfl) (fun _ _ _ h => h) (Or.inl ⟨by kernel_rfl, ?_⟩) hS ?_
  rotate_left
  · intro W hSW
    have y0 := p0 _ hSW
    have y1 := x25 _ hSW
    have y2 := x26 _ hSW
    have y3 := x27 _ hSW
    have y4 := x28 _ hSW
    go_simp
    try with_reducible rfl
  dsimp only [Act.put]
  refine wpAnyH_take (i := 2) (v := ?_) rfl (by kernel_rfl) (by kernel_rfl) (by kernel_rfl) (fun _ _ _ h => h) (Or.inl ⟨by kernel_rfl, ?_⟩) hS ?_
  rotate_left
  · intro W hSW
    have y0 := p0 _ hSW
    have y1 := x25 _ hSW
    have y2 := x26 _ hSW
    have y3 := x27 _ hSW
    have y4 := x28 _ hSW
    go_simp
    try with_reducible rfl
  dsimp only [Act.put]
  refine wpAnyH_take (i := 3) (v := ?_) rfl (by kernel_rfl) (by kernel_rfl) (by kernel_rfl) (fun _ _ _ h => h) (Or.inl ⟨by kernel_rfl, ?_⟩) hS ?_
  rotate_left
  · intro W hSW
    have y0 := p0 _ hSW
    have y1 := x25 _ hSW
    have y2 := x26 _ hSW
    have y3 := x27 _ hSW
    have y4 := x28 _ hSW
    go_simp
    try with_reducible rfl
  dsimp only [Act.put]
  refine wpAnyH_take (i := 4) (v := ?_) rfl (by kernel_rfl) (by kernel_rfl) (by kernel_rfl) (fun _ _ _ h => h) (Or.inl ⟨by kernel_rfl, ?_⟩) hS ?_
  rotate_left
  · intro W hSW
    have y0 := p0 _ hSW
    have y1 := x25 _ hSW
    have y2 := x26 _ hSW
    have y3 := x27 _ hSW
    have y4 := x28 _ hSW
    go_simp
    try with_reducible rfl
  dsimp only [Act.put]
  refine wpAnyH_take (i := 5) (v := ?_) rfl (by kernel_rfl) (by kernel_rfl) (by kernel_rfl) (fun _ _ _ h => h) (Or.inl ⟨by kernel_rfl, ?_⟩) hS ?_
  rotate_left
  · intro W hSW
    have y0 := p0 _ hSW
    have y1 := x25 _ hSW
    have y2 := x26 _ hSW
    have y3 := x27 _ hSW
    have y4 := x28 _ hSW
    go_simp
    try with_reducible rfl
  dsimp only [Act.put]
  refine wpAnyH_take (i := 6) (v := ?_) rfl (by kernel_rfl) (by kernel_rfl) (by kernel_rfl) (fun _ _ _ h => h) (Or.inl ⟨by kernel_rfl, ?_⟩) hS ?_
  rotate_left
  · intro W hSW
    have y0 := p0 _ hSW
    have y1 := x25 _ hSW
    have y2 := x26 _ hSW
    have y3 := x27 _ hSW
    have y4 := x28 _ hSW
    go_simp
    try with_reducible rfl
  dsimp only [Act.put]
  refine wpAnyH_take (i := 7) (v := ?_) rfl (by kernel_rfl) (by kernel_rfl) (by kernel_rfl) (fun _ _ _ h => h) (Or.inl ⟨by kernel_rfl, ?_⟩) hS ?_
  rotate_left
  · intro W hSW
    have y0 := p0 _ hSW
    have y1 := x25 _ hSW
    have y2 := x26 _ hSW
    have y3 := x27 _ hSW
    have y4 := x28 _ hSW
    go_simp
    try with_reducible rfl
  dsimp only [Act.put]
  refine wpAnyH_take (i := 8) (v := ?_) rfl (by kernel_rfl) (by kernel_rfl) (by kernel_rfl) (fun _ _ _ h => h) (Or.inl ⟨by kernel_rfl, ?_⟩) hS ?_
  rotate_left
  · intro W hSW
    have y0 := p0 _ hSW
    have y1 := x25 _ hSW
    have y2 := x26 _ hSW
    have y3 := x27 _ hSW
    have y4 := x28 _ hSW
    go_simp
    try with_reducible rfl
  dsimp only [Act.put]
  refine wpAnyH_take (i := 9) (v := ?_) rfl (by kernel_rfl) (by kernel_rfl) (by kernel_rfl) (fun _ _ _ h => h) (Or.inl ⟨by kernel_rfl, ?_⟩) hS ?_
  rotate_left
  · intro W hSW
    have y0 := p0 _ hSW
    have y1 := x25 _ hSW
    have y2 := x26 _ hSW
    have y3 := x27 _ hSW
    have y4 := x28 _ hSW
    go_simp
    try with_reducible rfl
  dsimp only [Act.put]
  refine wpAnyH_take (i := 10) (v := ?_) rfl (by kernel_rfl) (by kernel_rfl) (by kernel_rfl) (fun _ _ _ h => h) (Or.inl ⟨by kernel_rfl, ?_⟩) hS ?_
  rotate_left
  · intro W hSW
    have y0 := p0 _ hSW
    have y1 := x25 _ hSW
    have y2 := x26 _ hSW
    have y3 := x27 _ hSW
    have y4 := x28 _ hSW
    go_simp
    try with_reducible rfl
  dsimp only [Act.put]
  have x0 := hP.x0
  have f0 := hP.f0
  refine wpAnyH_ready (rs := [11]) (by kernel_rfl) (by simp) ?_
  refine AllReadyH.cons rfl (fun K hK => ?_) AllReadyH.nil
  go_simp
  have hk1 : Kx [g] wq (wq.setCell ⟨g, 0, none⟩ (.int .i64 2)) := (Kx.refl [g] wq).setCell (p := ⟨g, 0, none⟩) (.inl (by simp)) _
  replace hP := hP.setPh 2
  replace hp := hp.kx hk1 hpn
  replace hi := hi.kx hk1 hin
  replace hf := hf.kx hk1 hfn
  replace ha := ha.kx hk1 han
  replace hk := hk.trans hk1
  refine hK.out _ _ ⟨hp.cell (j := 0) rfl, hP.x25, hP.x26, hP.x27, hP.x28⟩ (fun hS => ?_)
  generalize wq.setCell ⟨g, 0, none⟩ (.int .i64 2) = w5 at *
  clear hk1 x0 f0
  clear hK K
  refine wpAnyH_take (i := 12) (v := ?_) rfl (by kernel_rfl) (by kernel_rfl) (by kernel_rfl) (fun _ _ _ h => h) (Or.inl ⟨by kernel_rfl, ?_⟩) hS ?_
  rotate_left
  · intro W hSW
    go_simp
    try with_reducible rfl
  dsimp only [Act.put]
  refine wpAnyH_take (i := 13) (v := ?_) rfl (by kernel_rfl) (by kernel_rfl) (by kernel_rfl) (fun _ _ _ h => h) (Or.inl ⟨by kernel_rfl, ?_⟩) hS ?_
  rotate_left
  · intro W hSW
    go_simp
    try with_reducible rfl
  dsimp only [Act.put]
  refine wpAnyH_take (i := 14) (v := ?_) rfl (by kernel_rfl) (by kernel_rfl) (by kernel_rfl) (fun _ _ _ h => h) (Or.inl ⟨by kernel_rfl, ?_⟩) hS ?_
  rotate_left
  · intro W hSW
    go_simp
    try with_reducible rfl
  dsimp only [Act.put]
  have x1 := hP.x1
  have x2 := hP.x2
  have x3 := hP.x3
  have x4 := hP.x4
  dsimp only at x1 x2 x3 x4
  have f1 := hP.f1
  have f2 := hP.f2
  have f3 := hP.f3
  have f4 := hP.f4
  refine wpAnyH_ready (rs := [15]) (by kernel_rfl) (by simp) ?_
  refine AllReadyH.cons rfl (fun K hK => ?_) AllReadyH.nil
  go_simp
  have hk1 : Kx [g] w5 ((((w5.setCell ⟨g, 1, none⟩ (.int .i64 B.bk)).setCell ⟨g, 2, none⟩ (.int .i64 B.bm)).setCell ⟨g, 3, none⟩ (.int .i64 B.bn)).setCell ⟨g, 4, none⟩ (.string B.bs)) := Kx.setCells [.int .i64 B.bk, .int .i64 B.bm, .int .i64 B.bn, .string B.bs] 1 w5 (Kx.refl [g] w5) (.inl (by simp))
  replace hP := hP.setEnt B.bk B.bm B.bn B.bs
  replace hp := hp.kx hk1 hpn
  replace hi := hi.kx hk1 hin
  replace hf := hf.kx hk1 hfn
  replace ha := ha.kx hk1 han
  replace hk := hk.trans hk1
  refine hK.out _ _ ⟨hp.cell (j := 0) rfl, hP.x25, hP.x26, hP.x27, hP.x28⟩ (fun hS => ?_)
  generalize ((((w5.setCell ⟨g, 1, none⟩ (.int .i64 B.bk)).setCell ⟨g, 2, none⟩ (.int .i64 B.bm)).setCell ⟨g, 3, none⟩ (.int .i64 B.bn)).setCell ⟨g, 4, none⟩ (.string B.bs)) = w6 at *
  dsimp only at hP
  clear hk1 x1 x2 x3 x4 f1 f2 f3 f4 x25 x26 x27 x28 p0 hS
  clear hK K
  refine wpAnyH_done (by kernel_rfl) ?_ _
  have p0 := hp.cell (j := 0) rfl
  go_upto_region 5 with fail
  replace p0 := extA_cell (hp.cell (j := 0) rfl)
  have x23 := extA_cell hP.x23
  have x24 := extA_cell hP.x24
  have x25 := extA_cell hP.x25
  have x26 := extA_cell hP.x26
  have x27 := extA_cell hP.x27
  have x28 := extA_cell hP.x28
  dsimp only at x23 x24 x25 x26 x27 x28
  have he := fun W => eq_accepted B.br B.bp B.bk B.bm B.bn B.bs (-1) 0 0 0 0 ⟨#[]⟩ W
  have hN2 : eq6 B.br B.bp B.bk B.bm B.bn B.bs (-1) 0 0 0 0 ⟨#[]⟩ = false := hN
  simp only [hN2] at he
  refine wp_region_extB (by kernel_rfl) (by kernel_rfl) ?_
  repeat
    (first
      | go_big_quiet_skip
      | (go_big_quiet_want
         go_big_quiet_op
         first
           | go_big_quiet_on
           | (apply Exists.intro
              refine ⟨fun w' hC9 => ?_, ?_⟩
              · (first
                  | with_reducible rfl
                  | (go_at_call 45; refine (nothing15_any _).mono ?_; rintro e w2 ⟨rfl, hb9⟩; exact ⟨rfl, extA_then hC9 hb9⟩)
                  | (go_simp; done)
                  | (go_simp; with_reducible rfl))
              go_big_quiet_on)))
  refine wpQuiet_nil ?_
  intro w7 hq
  replace hP := hP.step hq
  replace hp := hp.step hq
  replace hi := hi.step hq
  replace hf := hf.step hq
  replace ha := ha.step hq
  replace hk := hk.step hq
  clear hq x23 x24 x25 x26 x27 x28 he hN2 p0
  go_wp2_with fail
  go_returns
  exact ⟨rfl, hP, hk⟩
set_option maxRecDepth 100000 in
set_option maxHeartbeats 8000000 in
theorem tell3_none (bp bi bf ba g i : Nat) (A B : Prp) (x y k m n : Int) (s : ByteArray) (b1 b2 b3 b4 b5 : Int) (b6 : ByteArray) (w : World) (hP : PW w g A) (hp : Blk w bp 30 [.pointer (some ⟨g, 0, none⟩)]) (hi : Blk w bi 3 [.int .i64 i])
    (hf : Blk w bf 125 [.func (.func 50) #[] #[]]) (ha : Blk w ba 33 [.int .i64 x, .int .i64 y, .int .i64 k, .int .i64 m, .int .i64 n, .string s])
    (hr : rightB A.c = true) (hi9 : i < 9) (hv : A.pr.getD i false = false) (hpn : bp ∉ [g]) (hin : bi ∉ [g]) (hfn : bf ∉ [g]) (han : ba ∉ [g])
    (hg : gtrV A.br A.bp A.bk A.bm A.bn A.bs x y k m n s = .agg #[.int .i64 b1, .int .i64 b2, .int .i64 b3, .int .i64 b4, .int .i64 b5, .string b6]) (hBe : { A with pr := A.pr.set i true, br := b1, bp := b2, bk := b3, bm := b4, bn := b5, bs := b6 } = B) (hw : wonP B.c B.pr = true) (hN : noneE B.br B.bp B.bk B.bm B.bn B.bs = true) :
    Calls Tryz.prog 52 #[.pointer (some ⟨bp, 0, none⟩), .pointer (some ⟨bi, 0, none⟩), .pointer (some ⟨bf, 0, none⟩), .pointer (some ⟨ba, 0, none⟩)] w fun e w' => e = .returned (.tuple #[]) ∧ PW w' g (gvN B) ∧ Kx [g] w w' := by
  have cG := fun W => greater_any A.br A.bp A.bk A.bm A.bn A.bs x y k m n s W
  rw [hg] at cG
  have cq := extA_cell (hP.apr i hi9)
  rw [hv] at cq
  have i0 : (0 : Int) ≤ (i : Int) := by omega
  have i9 : (i : Int) < 9 := by omega
  have hk := Kx.refl [g] w
  have p0 := extA_cell (hp.cell (j := 0) rfl)
  have q0 := extA_cell (hi.cell (j := 0) rfl)
  go_enter Tryz.func52, Tryz.ntmps52
  go_upto_region 0 with fail
  refine wp_region_extB (by kernel_rfl) (by kernel_rfl) ?_
  repeat
    (first
      | go_big_quiet_skip
      | (go_big_quiet_want
         go_big_quiet_op
         first
           | go_big_quiet_on
           | (apply Exists.intro
              refine ⟨fun w' hC9 => ?_, ?_⟩
              · (first
                  | with_reducible rfl
                  | fail
                  | (go_simp; done)
                  | (go_simp; with_reducible rfl))
              go_big_quiet_on)))
  refine wpQuiet_nil ?_
  intro w1 hq
  replace hP := hP.step hq
  replace hp := hp.step hq
  replace hi := hi.step hq
  replace hf := hf.step hq
  replace ha := ha.step hq
  replace hk := hk.step hq
  clear cq p0 q0 hq hg
  go_upto_region 1 with fail
  have p0 := extA_cell (hp.cell (j := 0) rfl)
  have q0 := extA_cell (hi.cell (j := 0) rfl)
  refine wp_region_head (C := ExtA w1) 6 (by kernel_rfl) (by decide) (by kernel_rfl) ⟨rfl, rfl, rfl, Nat.le_refl _, fun _ _ => rfl⟩ ?_
  simp only [List.take_succ_cons, List.take_zero]
  repeat
    (first
      | go_big_quiet_skip
      | (go_big_quiet_want
         go_big_quiet_op
         first
           | go_big_quiet_on
           | (apply Exists.intro
              refine ⟨fun w' hC9 => ?_, ?_⟩
              · (first
                  | with_reducible rfl
                  | fail
                  | (go_simp; done)
                  | (go_simp; with_reducible rfl))
              go_big_quiet_on)))
  refine wpQuiet_nil ?_
  intro wq hq
  replace hP := hP.step hq
  replace hp := hp.step hq
  replace hi := hi.step hq
  replace hf := hf.step hq
  replace ha := ha.step hq
  replace hk := hk.step hq
  change wpAny _ _ _ _ (0 + 1) _ _ _
  have cq := hP.apr i hi9
  have fq := hP.1.frozen (5 + i)
  refine wpAny_ready (rs := [6]) (by kernel_rfl) (by simp) ?_
  refine AllReady.cons rfl (fun K hK => ?_) AllReady.nil
  go_simp
  have hk1 : Kx [g] wq (wq.setCell ⟨g, 5 + i, none⟩ (.bool true)) := (Kx.refl [g] wq).setCell (p := ⟨g, 5 + i, none⟩) (.inl (by simp)) _
  replace hP := hP.setPr i hi9
  replace hp := hp.kx hk1 hpn
  replace hi := hi.kx hk1 hin
  replace hf := hf.kx hk1 hfn
  replace ha := ha.kx hk1 han
  replace hk := hk.trans hk1
  refine hK _ _ ?_
  generalize wq.setCell ⟨g, 5 + i, none⟩ (.bool true) = w2 at *
  clear hk1 cq fq p0 q0 hq
  clear hK K
  refine wpAny_done (by kernel_rfl) ?_ _
  have p0 := hp.cell (j := 0) rfl
  go_upto_region 2 with fail
  replace p0 := extA_cell (hp.cell (j := 0) rfl)
  have f0 := extA_cell (hf.cell (j := 0) rfl)
  have ha_0 := extA_cell (ha.cell (j := 0) rfl)
  have ha_1 := extA_cell (ha.cell (j := 1) rfl)
  have ha_2 := extA_cell (ha.cell (j := 2) rfl)
  have ha_3 := extA_cell (ha.cell (j := 3) rfl)
  have ha_4 := extA_cell (ha.cell (j := 4) rfl)
  have ha_5 := extA_cell (ha.cell (j := 5) rfl)
  have x23 := extA_cell hP.x23
  have x24 := extA_cell hP.x24
  have x25 := extA_cell hP.x25
  have x26 := extA_cell hP.x26
  have x27 := extA_cell hP.x27
  have x28 := extA_cell hP.x28
  dsimp only at x23 x24 x25 x26 x27 x28
  refine wp_region_head (C := ExtA w2) 12 (by kernel_rfl) (by decide) (by kernel_rfl) ⟨rfl, rfl, rfl, Nat.le_refl _, fun _ _ => rfl⟩ ?_
  simp only [List.take_succ_cons, List.take_zero]
  repeat
    (first
      | go_big_quiet_skip
      | (go_big_quiet_want
         go_big_quiet_op
         first
           | go_big_quiet_on
           | (apply Exists.intro
              refine ⟨fun w' hC9 => ?_, ?_⟩
              · (first
                  | with_reducible rfl
                  | (go_at_call 53; refine (cG _).mono ?_; rintro e w2 ⟨rfl, hb9⟩; exact ⟨rfl, extA_then hC9 hb9⟩)
                  | (go_simp; done)
                  | (go_simp; with_reducible rfl))
              go_big_quiet_on)))
  refine wpQuiet_nil ?_
  intro wq hq
  replace hP := hP.step hq
  replace hp := hp.step hq
  replace hi := hi.step hq
  replace hf := hf.step hq
  replace ha := ha.step hq
  replace hk := hk.step hq
  change wpAny _ _ _ _ (0 + 1) _ _ _
  replace x23 := hP.x23
  replace x24 := hP.x24
  replace x25 := hP.x25
  replace x26 := hP.x26
  replace x27 := hP.x27
  replace x28 := hP.x28
  have f23 := hP.f23
  have f24 := hP.f24
  have f25 := hP.f25
  have f26 := hP.f26
  have f27 := hP.f27
  have f28 := hP.f28
  refine wpAny_ready (rs := [12]) (by kernel_rfl) (by simp) ?_
  refine AllReady.cons rfl (fun K hK => ?_) AllReady.nil
  go_simp
  have hk1 : Kx [g] wq (((((((wq.setCell ⟨g, 23, none⟩ (.int .i64 b1)).setCell ⟨g, 24, none⟩ (.int .i64 b2)).setCell ⟨g, 25, none⟩ (.int .i64 b3)).setCell ⟨g, 26, none⟩ (.int .i64 b4)).setCell ⟨g, 27, none⟩ (.int .i64 b5)).setCell ⟨g, 28, none⟩ (.string b6))) := Kx.setCells [.int .i64 b1, .int .i64 b2, .int .i64 b3, .int .i64 b4, .int .i64 b5, .string b6] 23 wq (Kx.refl [g] wq) (.inl (by simp))
  replace hP := hP.setBest b1 b2 b3 b4 b5 b6
  replace hp := hp.kx hk1 hpn
  replace hi := hi.kx hk1 hin
  replace hf := hf.kx hk1 hfn
  replace ha := ha.kx hk1 han
  replace hk := hk.trans hk1
  refine hK _ _ ?_
  generalize (((((((wq.setCell ⟨g, 23, none⟩ (.int .i64 b1)).setCell ⟨g, 24, none⟩ (.int .i64 b2)).setCell ⟨g, 25, none⟩ (.int .i64 b3)).setCell ⟨g, 26, none⟩ (.int .i64 b4)).setCell ⟨g, 27, none⟩ (.int .i64 b5)).setCell ⟨g, 28, none⟩ (.string b6))) = w3 at *
  dsimp only at hP
  rw [hBe] at hP
  have hrB : rightB B.c = true := by rw [← hBe]; exact hr
  clear hk1 x23 x24 x25 x26 x27 x28 f23 f24 f25 f26 f27 f28 ha_0 ha_1 ha_2 ha_3 ha_4 ha_5 p0 f0 cG hq
  clear hK K
  refine wpAny_done (by kernel_rfl) ?_ _
  have p0 := hp.cell (j := 0) rfl
  have hP1 := hP.2.1
  obtain ⟨d0, d1, d2, d3, d4, d5, d6, d7, d8, hd⟩ := nine hP1
  have e0 := extA_cell (show w3.cell? ⟨g, 5, none⟩ = some (.bool d0) by have := hP.apr 0 (by omega); rw [hd] at this; exact this)
  have e1 := extA_cell (show w3.cell? ⟨g, 6, none⟩ = some (.bool d1) by have := hP.apr 1 (by omega); rw [hd] at this; exact this)
  have e2 := extA_cell (show w3.cell? ⟨g, 7, none⟩ = some (.bool d2) by have := hP.apr 2 (by omega); rw [hd] at this; exact this)
  have e3 := extA_cell (show w3.cell? ⟨g, 8, none⟩ = some (.bool d3) by have := hP.apr 3 (by omega); rw [hd] at this; exact this)
  have e4 := extA_cell (show w3.cell? ⟨g, 9, none⟩ = some (.bool d4) by have := hP.apr 4 (by omega); rw [hd] at this; exact this)
  have e5 := extA_cell (show w3.cell? ⟨g, 10, none⟩ = some (.bool d5) by have := hP.apr 5 (by omega); rw [hd] at this; exact this)
  have e6 := extA_cell (show w3.cell? ⟨g, 11, none⟩ = some (.bool d6) by have := hP.apr 6 (by omega); rw [hd] at this; exact this)
  have e7 := extA_cell (show w3.cell? ⟨g, 12, none⟩ = some (.bool d7) by have := hP.apr 7 (by omega); rw [hd] at this; exact this)
  have e8 := extA_cell (show w3.cell? ⟨g, 13, none⟩ = some (.bool d8) by have := hP.apr 8 (by omega); rw [hd] at this; exact this)
  have c31 := extA_cell hP.cc
  have cW := fun W hW => won15_any g B.c B.pr hP1 W hW hrB
  rw [hw, hd] at cW
  unfold setV at cW
  simp only [List.map_cons, List.map_nil] at cW
  go_upto_region 3 with fail
  replace p0 := extA_cell (hp.cell (j := 0) rfl)
  refine wp_region_extB (by kernel_rfl) (by kernel_rfl) ?_
  repeat
    (first
      | go_big_quiet_skip
      | (go_big_quiet_want
         go_big_quiet_op
         first
           | go_big_quiet_on
           | (apply Exists.intro
              refine ⟨fun w' hC9 => ?_, ?_⟩
              · (first
                  | with_reducible rfl
                  | (go_at_call 54; refine (cW _ (c31 _ hC9)).mono ?_; rintro e w2 ⟨rfl, hb9⟩; exact ⟨rfl, extA_then hC9 hb9⟩)
                  | (go_simp; done)
                  | (go_simp; with_reducible rfl))
              go_big_quiet_on)))
  refine wpQuiet_nil ?_
  intro w4 hq
  replace hP := hP.step hq
  replace hp := hp.step hq
  replace hi := hi.step hq
  replace hf := hf.step hq
  replace ha := ha.step hq
  replace hk := hk.step hq
  clear hq e0 e1 e2 e3 e4 e5 e6 e7 e8 c31 cW p0
  have p0 := hp.cell (j := 0) rfl
  go_upto_region 4 with fail
  have hS0 : Sel bp g B w4 := ⟨hp.cell (j := 0) rfl, hP.x25, hP.x26, hP.x27, hP.x28⟩
  replace p0 : ∀ W, Sel bp g B W → W.cell? ⟨bp, 0, none⟩ = some (.pointer (some ⟨g, 0, none⟩)) := fun _ h => h.1
  have x25 : ∀ W, Sel bp g B W → W.cell? ⟨g, 25, none⟩ = some (.int .i64 B.bk) := fun _ h => h.2.1
  have x26 : ∀ W, Sel bp g B W → W.cell? ⟨g, 26, none⟩ = some (.int .i64 B.bm) := fun _ h => h.2.2.1
  have x27 : ∀ W, Sel bp g B W → W.cell? ⟨g, 27, none⟩ = some (.int .i64 B.bn) := fun _ h => h.2.2.2.1
  have x28 : ∀ W, Sel bp g B W → W.cell? ⟨g, 28, none⟩ = some (.string B.bs) := fun _ h => h.2.2.2.2
  refine wp_region_held (S := Sel bp g B) (by kernel_rfl) ?_
  have hst : Below (w4).heap.size w4 { w4 with drawn := (w4).drawn + 1 } := ⟨rfl, rfl, rfl, Nat.le_refl _, fun _ _ => rfl⟩
  have hS : (Sel bp g B) { w4 with drawn := (w4).drawn + 1 } := by first | exact ⟨rfl, rfl, rfl, Nat.le_refl _, fun _ _ _ => rfl⟩ | exact ⟨rfl, rfl, rfl, Nat.le_refl _, fun _ _ => rfl⟩ | exact hS0
  replace hP := hP.step hst
  replace hp := hp.step hst
  replace hi := hi.step hst
  replace hf := hf.step hst
  replace ha := ha.step hst
  replace hk := hk.step hst
  clear hst
  generalize ({ w4 with drawn := (w4).drawn + 1 } : World) = wq at *
  refine wpAnyH_take (i := 0) (v := ?_) rfl (by kernel_rfl) (by kernel_rfl) (by kernel_rfl) (fun _ _ _ h => h) (Or.inl ⟨by kernel_rfl, ?_⟩) hS ?_
  rotate_left
  · intro W hSW
    have y0 := p0 _ hSW
    have y1 := x25 _ hSW
    have y2 := x26 _ hSW
    have y3 := x27 _ hSW
    have y4 := x28 _ hSW
    go_simp
    try with_reducible rfl
  dsimp only [Act.put]
  refine wpAnyH_take (i := 1) (v := ?_) rfl (by kernel_rfl) (by kernel_rfl) (by kernel_rfl) (fun _ _ _ h => h) (Or.inl ⟨by kernel_rfl, ?_⟩) hS ?_
  rotate_left
  · intro W hSW
    have y0 := p0 _ hSW
    have y1 := x25 _ hSW
    have y2 := x26 _ hSW
    have y3 := x27 _ hSW
    have y4 := x28 _ hSW
    go_simp
    try with_reducible rfl
  dsimp only [Act.put]
  refine wpAnyH_take (i := 2) (v := ?_) rfl (by kernel_rfl) (by kernel_rfl) (by kernel_rfl) (fun _ _ _ h => h) (Or.inl ⟨by kernel_rfl, ?_⟩) hS ?_
  rotate_left
  · intro W hSW
    have y0 := p0 _ hSW
    have y1 := x25 _ hSW
    have y2 := x26 _ hSW
    have y3 := x27 _ hSW
    have y4 := x28 _ hSW
    go_simp
    try with_reducible rfl
  dsimp only [Act.put]
  refine wpAnyH_take (i := 3) (v := ?_) rfl (by kernel_rfl) (by kernel_rfl) (by kernel_rfl) (fun _ _ _ h => h) (Or.inl ⟨by kernel_rfl, ?_⟩) hS ?_
  rotate_left
  · intro W hSW
    have y0 := p0 _ hSW
    have y1 := x25 _ hSW
    have y2 := x26 _ hSW
    have y3 := x27 _ hSW
    have y4 := x28 _ hSW
    go_simp
    try with_reducible rfl
  dsimp only [Act.put]
  refine wpAnyH_take (i := 4) (v := ?_) rfl (by kernel_rfl) (by kernel_rfl) (by kernel_rfl) (fun _ _ _ h => h) (Or.inl ⟨by kernel_rfl, ?_⟩) hS ?_
  rotate_left
  · intro W hSW
    have y0 := p0 _ hSW
    have y1 := x25 _ hSW
    have y2 := x26 _ hSW
    have y3 := x27 _ hSW
    have y4 := x28 _ hSW
    go_simp
    try with_reducible rfl
  dsimp only [Act.put]
  refine wpAnyH_take (i := 5) (v := ?_) rfl (by kernel_rfl) (by kernel_rfl) (by kernel_rfl) (fun _ _ _ h => h) (Or.inl ⟨by kernel_rfl, ?_⟩) hS ?_
  rotate_left
  · intro W hSW
    have y0 := p0 _ hSW
    have y1 := x25 _ hSW
    have y2 := x26 _ hSW
    have y3 := x27 _ hSW
    have y4 := x28 _ hSW
    go_simp
    try with_reducible rfl
  dsimp only [Act.put]
  refine wpAnyH_take (i := 6) (v := ?_) rfl (by kernel_rfl) (by kernel_rfl) (by kernel_rfl) (fun _ _ _ h => h) (Or.inl ⟨by kernel_rfl, ?_⟩) hS ?_
  rotate_left
  · intro W hSW
    have y0 := p0 _ hSW
    have y1 := x25 _ hSW
    have y2 := x26 _ hSW
    have y3 := x27 _ hSW
    have y4 := x28 _ hSW
    go_simp
    try with_reducible rfl
  dsimp only [Act.put]
  refine wpAnyH_take (i := 7) (v := ?_) rfl (by kernel_rfl) (by kernel_rfl) (by kernel_rfl) (fun _ _ _ h => h) (Or.inl ⟨by kernel_rfl, ?_⟩) hS ?_
  rotate_left
  · intro W hSW
    have y0 := p0 _ hSW
    have y1 := x25 _ hSW
    have y2 := x26 _ hSW
    have y3 := x27 _ hSW
    have y4 := x28 _ hSW
    go_simp
    try with_reducible rfl
  dsimp only [Act.put]
  refine wpAnyH_take (i := 8) (v := ?_) rfl (by kernel_rfl) (by kernel_rfl) (by kernel_rfl) (fun _ _ _ h => h) (Or.inl ⟨by kernel_rfl, ?_⟩) hS ?_
  rotate_left
  · intro W hSW
    have y0 := p0 _ hSW
    have y1 := x25 _ hSW
    have y2 := x26 _ hSW
    have y3 := x27 _ hSW
    have y4 := x28 _ hSW
    go_simp
    try with_reducible rfl
  dsimp only [Act.put]
  refine wpAnyH_take (i := 9) (v := ?_) rfl (by kernel_rfl) (by kernel_rfl) (by kernel_rfl) (fun _ _ _ h => h) (Or.inl ⟨by kernel_rfl, ?_⟩) hS ?_
  rotate_left
  · intro W hSW
    have y0 := p0 _ hSW
    have y1 := x25 _ hSW
    have y2 := x26 _ hSW
    have y3 := x27 _ hSW
    have y4 := x28 _ hSW
    go_simp
    try with_reducible rfl
  dsimp only [Act.put]
  refine wpAnyH_take (i := 10) (v := ?_) rfl (by kernel_rfl) (by kernel_rfl) (by kernel_rfl) (fun _ _ _ h => h) (Or.inl ⟨by kernel_rfl, ?_⟩) hS ?_
  rotate_left
  · intro W hSW
    have y0 := p0 _ hSW
    have y1 := x25 _ hSW
    have y2 := x26 _ hSW
    have y3 := x27 _ hSW
    have y4 := x28 _ hSW
    go_simp
    try with_reducible rfl
  dsimp only [Act.put]
  have x0 := hP.x0
  have f0 := hP.f0
  refine wpAnyH_ready (rs := [11]) (by kernel_rfl) (by simp) ?_
  refine AllReadyH.cons rfl (fun K hK => ?_) AllReadyH.nil
  go_simp
  have hk1 : Kx [g] wq (wq.setCell ⟨g, 0, none⟩ (.int .i64 2)) := (Kx.refl [g] wq).setCell (p := ⟨g, 0, none⟩) (.inl (by simp)) _
  replace hP := hP.setPh 2
  replace hp := hp.kx hk1 hpn
  replace hi := hi.kx hk1 hin
  replace hf := hf.kx hk1 hfn
  replace ha := ha.kx hk1 han
  replace hk := hk.trans hk1
  refine hK.out _ _ ⟨hp.cell (j := 0) rfl, hP.x25, hP.x26, hP.x27, hP.x28⟩ (fun hS => ?_)
  generalize wq.setCell ⟨g, 0, none⟩ (.int .i64 2) = w5 at *
  clear hk1 x0 f0
  clear hK K
  refine wpAnyH_take (i := 12) (v := ?_) rfl (by kernel_rfl) (by kernel_rfl) (by kernel_rfl) (fun _ _ _ h => h) (Or.inl ⟨by kernel_rfl, ?_⟩) hS ?_
  rotate_left
  · intro W hSW
    go_simp
    try with_reducible rfl
  dsimp only [Act.put]
  refine wpAnyH_take (i := 13) (v := ?_) rfl (by kernel_rfl) (by kernel_rfl) (by kernel_rfl) (fun _ _ _ h => h) (Or.inl ⟨by kernel_rfl, ?_⟩) hS ?_
  rotate_left
  · intro W hSW
    go_simp
    try with_reducible rfl
  dsimp only [Act.put]
  refine wpAnyH_take (i := 14) (v := ?_) rfl (by kernel_rfl) (by kernel_rfl) (by kernel_rfl) (fun _ _ _ h => h) (Or.inl ⟨by kernel_rfl, ?_⟩) hS ?_
  rotate_left
  · intro W hSW
    go_simp
    try with_reducible rfl
  dsimp only [Act.put]
  have x1 := hP.x1
  have x2 := hP.x2
  have x3 := hP.x3
  have x4 := hP.x4
  dsimp only at x1 x2 x3 x4
  have f1 := hP.f1
  have f2 := hP.f2
  have f3 := hP.f3
  have f4 := hP.f4
  refine wpAnyH_ready (rs := [15]) (by kernel_rfl) (by simp) ?_
  refine AllReadyH.cons rfl (fun K hK => ?_) AllReadyH.nil
  go_simp
  have hk1 : Kx [g] w5 ((((w5.setCell ⟨g, 1, none⟩ (.int .i64 B.bk)).setCell ⟨g, 2, none⟩ (.int .i64 B.bm)).setCell ⟨g, 3, none⟩ (.int .i64 B.bn)).setCell ⟨g, 4, none⟩ (.string B.bs)) := Kx.setCells [.int .i64 B.bk, .int .i64 B.bm, .int .i64 B.bn, .string B.bs] 1 w5 (Kx.refl [g] w5) (.inl (by simp))
  replace hP := hP.setEnt B.bk B.bm B.bn B.bs
  replace hp := hp.kx hk1 hpn
  replace hi := hi.kx hk1 hin
  replace hf := hf.kx hk1 hfn
  replace ha := ha.kx hk1 han
  replace hk := hk.trans hk1
  refine hK.out _ _ ⟨hp.cell (j := 0) rfl, hP.x25, hP.x26, hP.x27, hP.x28⟩ (fun hS => ?_)
  generalize ((((w5.setCell ⟨g, 1, none⟩ (.int .i64 B.bk)).setCell ⟨g, 2, none⟩ (.int .i64 B.bm)).setCell ⟨g, 3, none⟩ (.int .i64 B.bn)).setCell ⟨g, 4, none⟩ (.string B.bs)) = w6 at *
  dsimp only at hP
  clear hk1 x1 x2 x3 x4 f1 f2 f3 f4 x25 x26 x27 x28 p0 hS
  clear hK K
  refine wpAnyH_done (by kernel_rfl) ?_ _
  have p0 := hp.cell (j := 0) rfl
  go_upto_region 5 with fail
  replace p0 := extA_cell (hp.cell (j := 0) rfl)
  have x23 := extA_cell hP.x23
  have x24 := extA_cell hP.x24
  have x25 := extA_cell hP.x25
  have x26 := extA_cell hP.x26
  have x27 := extA_cell hP.x27
  have x28 := extA_cell hP.x28
  dsimp only at x23 x24 x25 x26 x27 x28
  have he := fun W => eq_accepted B.br B.bp B.bk B.bm B.bn B.bs (-1) 0 0 0 0 ⟨#[]⟩ W
  have hN2 : eq6 B.br B.bp B.bk B.bm B.bn B.bs (-1) 0 0 0 0 ⟨#[]⟩ = true := hN
  simp only [hN2] at he
  refine wp_region_extB (by kernel_rfl) (by kernel_rfl) ?_
  repeat
    (first
      | go_big_quiet_skip
      | (go_big_quiet_want
         go_big_quiet_op
         first
           | go_big_quiet_on
           | (apply Exists.intro
              refine ⟨fun w' hC9 => ?_, ?_⟩
              · (first
                  | with_reducible rfl
                  | (go_at_call 45; refine (nothing15_any _).mono ?_; rintro e w2 ⟨rfl, hb9⟩; exact ⟨rfl, extA_then hC9 hb9⟩)
                  | (go_simp; done)
                  | (go_simp; with_reducible rfl))
              go_big_quiet_on)))
  refine wpQuiet_nil ?_
  intro w7 hq
  replace hP := hP.step hq
  replace hp := hp.step hq
  replace hi := hi.step hq
  replace hf := hf.step hq
  replace ha := ha.step hq
  replace hk := hk.step hq
  clear hq x23 x24 x25 x26 x27 x28 he hN2 p0
  have p0 := hp.cell (j := 0) rfl
  have x1 := hP.x1
  have x2 := hP.x2
  have x3 := hP.x3
  have x4 := hP.x4
  dsimp only at x1 x2 x3 x4
  have f1 := hP.f1
  have f2 := hP.f2
  have f3 := hP.f3
  have f4 := hP.f4
  have hk1 : Kx [g] w7 ((((w7.setCell ⟨g, 1, none⟩ (.int .i64 1)).setCell ⟨g, 2, none⟩ (.int .i64 0)).setCell ⟨g, 3, none⟩ (.int .i64 0)).setCell ⟨g, 4, none⟩ (.string ⟨#[]⟩)) := Kx.setCells [.int .i64 1, .int .i64 0, .int .i64 0, .string ⟨#[]⟩] 1 w7 (Kx.refl [g] w7) (.inl (by simp))
  replace hP := hP.setEnt 1 0 0 ⟨#[]⟩
  replace hk := hk.trans hk1
  go_wp2_with fail
  generalize ((((w7.setCell ⟨g, 1, none⟩ (.int .i64 1)).setCell ⟨g, 2, none⟩ (.int .i64 0)).setCell ⟨g, 3, none⟩ (.int .i64 0)).setCell ⟨g, 4, none⟩ (.string ⟨#[]⟩)) = w8 at *
  go_returns
  exact ⟨rfl, hP, hk⟩
theorem gtr_split (A : Prp) (i : Nat) (x y k m n : Int) (s : ByteArray) : ∃ b1 b2 b3 b4 b5 b6, gtrV A.br A.bp A.bk A.bm A.bn A.bs x y k m n s = .agg #[.int .i64 b1, .int .i64 b2, .int .i64 b3, .int .i64 b4, .int .i64 b5, .string b6] ∧ { A with pr := A.pr.set i true, br := b1, bp := b2, bk := b3, bm := b4, bn := b5, bs := b6 } = bestA A i x y k m n s := by
  unfold gtrV bestA
  by_cases h : cmpI A.br A.bp x y < 0
  · rw [if_pos h, if_pos h]
    exact ⟨_, _, _, _, _, _, rfl, rfl⟩
  · rw [if_neg h, if_neg h]
    exact ⟨_, _, _, _, _, _, rfl, rfl⟩
theorem tell3_any (bp bi bf ba g i : Nat) (A : Prp) (x y k m n : Int) (s : ByteArray) (w : World) (hP : PW w g A) (hp : Blk w bp 30 [.pointer (some ⟨g, 0, none⟩)]) (hi : Blk w bi 3 [.int .i64 i])
    (hf : Blk w bf 125 [.func (.func 50) #[] #[]]) (ha : Blk w ba 33 [.int .i64 x, .int .i64 y, .int .i64 k, .int .i64 m, .int .i64 n, .string s])
    (hr : rightB A.c = true) (hi9 : i < 9) (hpn : bp ∉ [g]) (hin : bi ∉ [g]) (hfn : bf ∉ [g]) (han : ba ∉ [g]) :
    Calls Tryz.prog 52 #[.pointer (some ⟨bp, 0, none⟩), .pointer (some ⟨bi, 0, none⟩), .pointer (some ⟨bf, 0, none⟩), .pointer (some ⟨ba, 0, none⟩)] w fun e w' => e = .returned (.tuple #[]) ∧ PW w' g (tellA A i x y k m n s) ∧ Kx [g] w w' := by
  unfold tellA
  cases hv : A.pr.getD i false
  · obtain ⟨b1, b2, b3, b4, b5, b6, hg, hB⟩ := gtr_split A i x y k m n s
    have hc : (bestA A i x y k m n s).c = A.c := by rw [← hB]
    generalize bestA A i x y k m n s = B at *
    simp only [Bool.false_eq_true, if_false]
    rw [← hc]
    unfold giveA
    cases hw : wonP B.c B.pr
    · simp only [Bool.false_eq_true, if_false]
      exact tell3_notwon bp bi bf ba g i A B x y k m n s b1 b2 b3 b4 b5 b6 w hP hp hi hf ha hr hi9 hv hpn hin hfn han hg hB hw
    · simp only [if_true]
      cases hN : noneE B.br B.bp B.bk B.bm B.bn B.bs
      · simp only [Bool.false_eq_true, if_false]
        exact tell3_some bp bi bf ba g i A B x y k m n s b1 b2 b3 b4 b5 b6 w hP hp hi hf ha hr hi9 hv hpn hin hfn han hg hB hw hN
      · simp only [if_true]
        exact tell3_none bp bi bf ba g i A B x y k m n s b1 b2 b3 b4 b5 b6 w hP hp hi hf ha hr hi9 hv hpn hin hfn han hg hB hw hN
  · simp only [if_true]
    exact tell3_was bp bi bf ba g i A w hP hp hi hi9 hv
end Go.Proofs.YtcahkcbenanfnaaGreatDoor
