
/- Package wheel: Next. -/
import Derived.Test.YtfdfmmmfklodgaaWhM
import Derived.RangeFuncFrom
namespace Go.Proofs.Ytfdfmmmfklodgaa
set_option linter.unusedSimpArgs false
set_option linter.unusedVariables false
open Go.RowKit
attribute [local go_sem] Oper.semAt_some
def nextA (L : List (Int × Int)) : Int × Int := L.head?.getD (0, 0)
def nextV (L : List (Int × Int)) : Value := .tuple #[.agg #[.int .i64 (nextA L).2, .int .i64 (nextA L).1], .bool L.head?.isSome]
theorem enters_All : ∀ args w, (callFunc 37 args).run Try.prog w = .ok (.enter 37 args) w := enters_of Try.func37 (by kernel_rfl) rfl
theorem row_lt {W : World} {base : Nat} {ao : Option Addr} (h : ∀ k off, ao = some ⟨k, off, none⟩ → base ≤ k ∧ k < W.heap.size) : ∀ k, rowS ao k → k < W.heap.size := by
  rintro k ⟨off, e⟩
  exact (h k off e).2
theorem ownFrom_ex {α β : Type} {B : Nat} {I : α → β → World → Prop} (h : ∀ x, OwnFrom B (I x)) : OwnFrom B (fun s W => ∃ x, I x s W) := fun s W W' row ⟨x, hs⟩ hg hr => ⟨x, h x s W W' row hs hg hr⟩
set_option maxRecDepth 100000 in
set_option maxHeartbeats 2000000 in
theorem next_of (p : Value) (L : List (Int × Int)) (hl : L.length ≤ 5000) (w : World) (h : ∀ W, Below w.heap.size w W → Calls Try.prog 20 #[p] W (AllR W L)) :
    Calls Try.prog 28 #[p] w fun e w' => e = .returned (nextV L) ∧ Below w.heap.size w w' := by
  refine callsIn_wide (n := 3).1 ?_
  obtain ⟨B, hB⟩ : ∃ B, w.heap.size = B := ⟨_, rfl⟩
  have hb2 := ((Below.refl w.heap.size w).alloc (Nat.le_refl _) (.cells #[.int .i64 0, .int .i64 0] 50)).alloc (by rw [alloc_size rfl]; omega) (.cells #[.bool false] 4)
  have cA := h _ hb2
  have X := (Blk.newV hB 50 #[.int .i64 0, .int .i64 0]).alloc (.cells #[.bool false] 4)
  have Y := Blk.newV (alloc_size hB (.cells #[.int .i64 0, .int .i64 0] 50)) 4 #[.bool false]
  rw [hB] at hb2 ⊢
  have hz2 := alloc_size (alloc_size hB (.cells #[.int .i64 0, .int .i64 0] 50)) (.cells #[.bool false] 4)
  unfold AllR at cA
  clear h
  refine callsIn_of_wp_marks Try.func28 rfl trivial ?_ rfl
  simp only [Try.ntmps28, List.size_toArray, List.length_cons, List.length_nil, Nat.reduceAdd, Nat.reduceSub, Array.replicate_succ, Array.replicate_zero, List.push_toArray, List.append_toArray, List.nil_append, List.cons_append]
  gi_wp2_with fail
  generalize (w.alloc (.cells #[.int .i64 0, .int .i64 0] 50)).alloc (.cells #[.bool false] 4) = w2 at *
  refine ⟨trivial, ?_⟩
  refine (callsIn_wide.2 (cA)).mono ?_
  rintro e w3 ⟨b, rfl, hq, hbn⟩
  have hb3 := hb2.trans (hbn.mono (by have := Y.lt; omega))
  replace X := X.step hbn
  replace Y := Y.step hbn
  obtain ⟨ao, c, hBx, hHas, hbb, hrow⟩ := hq
  have hseq := all_xs b ao c L w3 hBx hHas hl
  have hrl := row_lt hrow
  have hrB : ∀ k, rowS ao k → B + 2 ≤ k := by
    rintro k ⟨off, e⟩
    have := (hrow k off e).1
    have hz : w2.heap.size = B + 2 := hz2
    omega
  have hs3 : B + 2 ≤ w3.heap.size := by have := Y.lt; omega
  have hBw : B ≤ w.heap.size := by omega
  clear cA hbn hb2 hBx hHas hrow hbb hB hz2
  unfold DueF
  gi_wp2_with fail
  apply wpIn_range_xsA 37 #[.pointer (some ⟨b, 0, none⟩)] rfl enters_All (rowS ao) hseq hrl (Below.refl _ _) (fun _ => rfl)
    (fun k W => (k = 0 ∧ Blk W B 50 [.int .i64 0, .int .i64 0]) ∧ Blk W (B + 1) 4 [.bool false] ∧ Below B w W)
    (fun c k W => (∃ x, c = .ret ∧ L[0]? = some x ∧ k = 1 ∧ Blk W B 50 [.int .i64 x.2, .int .i64 x.1] ∧ Blk W (B + 1) 4 [.bool true] ∧ Below B w W))
    (((ownFrom_pure _ _).and ((blk_own B 50 (fun _ => [.int .i64 0, .int .i64 0])).from _)).and (((blk_own (B + 1) 4 (fun _ => [.bool false])).from _).and (ownFrom_below (by omega) (by omega))))
    (fun c => ownFrom_ex fun x => (ownFrom_pure _ _).and ((ownFrom_pure _ _).and ((ownFrom_pure _ _).and (((blk_own B 50 (fun _ => [.int .i64 x.2, .int .i64 x.1])).from _).and (((blk_own (B + 1) 4 (fun _ => [.bool true])).from _).and (ownFrom_below (by omega) (by omega)))))))
    ⟨⟨rfl, X⟩, Y, hb3⟩ (ob := fun x => .cells #[.int .i64 x.2, .int .i64 x.1] 50)
  case hassign =>
    intro l d x W K hd hK
    dsimp only [dueEnc]
    gi_wp2
    exact hK
  case hbody =>
    rintro l k d x W hx ⟨⟨rfl, X1⟩, Y1, hbW⟩ hd hWd hsW
    have hXB : Blk W d 50 [.int .i64 x.2, .int .i64 x.1] := hWd
    have x0 := hXB.cell (j := 0) rfl
    have x1 := hXB.cell (j := 1) rfl
    have f0 := X1.frozen 0
    have f1 := X1.frozen 1
    have g0 := Y1.frozen 0
    have c0 := X1.cell (j := 0) rfl
    have c1 := X1.cell (j := 1) rfl
    have e0 := Y1.cell (j := 0) rfl
    clear hWd hXB hseq X Y hb3
    gi_wp2
    have hk1 : Kx [B, B + 1] W (((W.setCell ⟨B, 0, none⟩ (.int .i64 x.2)).setCell ⟨B, 1, none⟩ (.int .i64 x.1)).setCell ⟨B + 1, 0, none⟩ (.bool true)) := (((Kx.refl _ W).setCell (.inl (by simp)) _).setCell (.inl (by simp)) _).setCell (.inl (by simp)) _
    exact ⟨(((KeepsOthers.setCell _ _ _).trans (KeepsOthers.setCell _ _ _)).trans (KeepsOthers.setCell _ _ _)).from _, x, rfl, hx, rfl, ((X1.set 0 _).set 1 _).other (by omega) 0 _, ((Y1.other (by omega) 0 _).other (by omega) 1 _).set 0 _, Below.trans hbW (hk1.below (B := B) (by have := hbW.size; omega) (by intro x hx; simp at hx; omega))⟩
  case hdone =>
    rintro D W hD ⟨⟨h0, X1⟩, Y1, hbW⟩ hDf
    have hL0 : L = [] := List.eq_nil_of_length_eq_zero h0
    have f0 := X1.frozen 0
    have f1 := X1.frozen 1
    have g0 := Y1.frozen 0
    have c0 := X1.cell (j := 0) rfl
    have c1 := X1.cell (j := 1) rfl
    have e0 := Y1.cell (j := 0) rfl
    have hBD : B + 2 ≤ D := by omega
    clear hseq X Y hb3 hD h0
    have HDf := Lib.hid hDf
    clear hDf
    subst hL0
    gi_wp2
    have hk1 : Kx [B, B + 1] W (((W.setCell ⟨B, 0, none⟩ (.int .i64 0)).setCell ⟨B, 1, none⟩ (.int .i64 0)).setCell ⟨B + 1, 0, none⟩ (.bool false)) := (((Kx.refl _ W).setCell (.inl (by simp)) _).setCell (.inl (by simp)) _).setCell (.inl (by simp)) _
    have X2 := ((X1.set 0 (.int .i64 0)).set 1 (.int .i64 0)).other (by omega : B ≠ B + 1) 0 (.bool false)
    have Y2 := ((Y1.other (by omega : B + 1 ≠ B) 0 (.int .i64 0)).other (by omega : B + 1 ≠ B) 1 (.int .i64 0)).set 0 (.bool false)
    have hb9 := Below.trans hbW (hk1.below (B := B) (by have := hbW.size; omega) (by intro x hx; simp at hx; omega))
    have hDf2 := hk1.obj HDf.out (by simp; omega)
    exact leaves_list B [D] rfl (fun D' h => by simp at h; subst h; exact ⟨by omega, hDf2⟩) (by simp) (v := nextV []) (fun W' hbW' hcW => by
      have X3 : Blk W' B 50 _ := hcW _ _ X2 rfl
      have Y3 : Blk W' (B + 1) 4 _ := hcW _ _ Y2 rfl
      have r0 := X3.cell (j := 0) rfl
      have r1 := X3.cell (j := 1) rfl
      have r2 := Y3.cell (j := 0) rfl
      exact ⟨by simp [results, Try.results28, go_sem, r0, r1, r2, nextV, nextA], rfl, hb9.trans hbW'⟩)
  case hstop =>
    rintro D c k W hD hk ⟨x, rfl, hx, hk1, X2, Y2, hbW⟩ hDf
    obtain ⟨l, rfl⟩ : ∃ l, L = x :: l := by
      cases L with
      | nil => cases hx
      | cons a l => simp at hx; subst hx; exact ⟨l, rfl⟩
    have hBD : B ≤ D := by omega
    clear hseq X Y hb3 hD hk hx hk1
    have HDf := Lib.hid hDf
    clear hDf
    gi_wp2
    exact leaves_list B [D] rfl (fun D' h => by simp at h; subst h; exact ⟨by omega, HDf.out⟩) (by simp) (v := nextV (x :: l)) (fun W' hbW' hcW => by
      have X3 : Blk W' B 50 _ := hcW _ _ X2 rfl
      have Y3 : Blk W' (B + 1) 4 _ := hcW _ _ Y2 rfl
      have r0 := X3.cell (j := 0) rfl
      have r1 := X3.cell (j := 1) rfl
      have r2 := Y3.cell (j := 0) rfl
      exact ⟨by simp [results, Try.results28, go_sem, r0, r1, r2, nextV, nextA], rfl, hbW.trans hbW'⟩)
end Go.Proofs.Ytfdfmmmfklodgaa
