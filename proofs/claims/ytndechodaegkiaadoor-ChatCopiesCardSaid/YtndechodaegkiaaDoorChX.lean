
/- The document's talk: Page, SameLines. -/
import Derived.Test.YtndechodaegkiaaDoorChT
namespace Go.Proofs.YtndechodaegkiaaDoor
open Go.RowKit
set_option maxRecDepth 100000 in
set_option maxHeartbeats 1000000 in
theorem sameLines_any (L : List Ln) (a a2 : Option Addr) (c c2 : Nat) (w : World) (hA : HasL w a L) (hB : HasL w a2 L) (hn : L.length ≤ 5000) :
    Calls Tryd.prog 24 #[.slice a L.length c, .slice a2 L.length c2] w fun r w' => r = .returned (.bool true) ∧ Below w.heap.size w w' := by
  obtain ⟨n, hnn⟩ : ∃ n, L.length = n := ⟨_, rfl⟩
  have hnI : (n : Int) ≤ 5000 := by omega
  rw [hnn]
  go_enter Tryd.func24, Tryd.ntmps24
  go_wp2_with fail
  go_loopw [5] (fun i wr => ∃ (j : Nat), i = .int .i64 j ∧ j ≤ n ∧ Below w.heap.size w wr) (fun i _ => n - (intOf i).toNat)
  case atStart => exact ⟨0, rfl, by omega, Below.refl _ _⟩
  case round =>
    obtain ⟨j, rfl, hj, hb⟩ := hrel
    by_cases hlt : j < n
    · obtain ⟨x, hx⟩ : ∃ x, L[j]? = some x := ⟨L[j], by simp [hnn, hlt]⟩
      have hj0 : (0 : Int) ≤ (j : Int) := by omega
      have hj1 : (j : Int) < (n : Int) := by omega
      obtain ⟨b, off, rfl, p0, p1, p2, p3, p4, p5⟩ := (hA.step hb) j x hx
      obtain ⟨b2, off2, rfl, q0, q1, q2, q3, q4, q5⟩ := (hB.step hb) j x hx
      obtain ⟨x1, x2, ek, em, en, es⟩ := x
      simp only at p0 p1 p2 p3 p4 p5 q0 q1 q2 q3 q4 q5
      have y0 := extA_cell p0
      have y1 := extA_cell p1
      have y2 := extA_cell p2
      have y3 := extA_cell p3
      have y4 := extA_cell p4
      have y5 := extA_cell p5
      have z0 := extA_cell q0
      have z1 := extA_cell q1
      have z2 := extA_cell q2
      have z3 := extA_cell q3
      have z4 := extA_cell q4
      have z5 := extA_cell q5
      clear p0 p1 p2 p3 p4 p5 q0 q1 q2 q3 q4 q5
      go_wp2_with fail
      refine wp_region_extB (by kernel_rfl) (by kernel_rfl) ?_
      repeat
        (first
          | go_big_quiet_skip
          | (go_big_quiet_want
             go_big_quiet_op
             first
               | go_big_quiet_on
               | (apply Exists.intro
                  refine ⟨fun w' hC => ?_, ?_⟩
                  · (first
                      | with_reducible rfl
                      | fail
                      | (go_simp; done)
                      | (go_simp; with_reducible rfl))
                  go_big_quiet_on)))
      refine wpQuiet_nil ?_
      intro wq hq
      clear y0 y1 y2 y3 y4 y5 z0 z1 z2 z3 z4 z5
      have hb5 := hb.trans (Below.mono hq hb.size)
      go_wp2
      go_roundw
      case rel => exact ⟨j + 1, by go_num, by omega, hb5⟩
      case measure => simp [intOf]; omega
    · obtain rfl : j = n := by omega
      go_wp2
      go_ret
      exact ⟨rfl, hb⟩
set_option maxRecDepth 100000 in
set_option maxHeartbeats 2000000 in
theorem refPage_no (L : List Ln) (t : Tk) (a : Option Addr) (c : Nat) (f m : Int) (w : World) (hL : t.L = L) (hn : L.length ≤ 5000) (hE : pgE t f m ≠ 0) :
    Calls Tryd.prog 23 #[.agg #[.int .i64 t.sl, .slice a L.length c], .int .i64 f, .int .i64 m] w fun r w' => r = .returned (.tuple #[.slice none 0 0, .int .i64 (pgE t f m)]) ∧ Below w.heap.size w w' := by
  obtain ⟨n, hnn⟩ : ∃ n, L.length = n := ⟨_, rfl⟩
  have hnI : (n : Int) ≤ 5000 := by omega
  rw [hnn]
  have XB := Blk.newA' (W := w) rfl 49 #[.int .i64 t.sl, .slice a n c]
  have x1 := XB.cell (j := 1) rfl
  have hb := (Below.refl w.heap.size w).alloc (Nat.le_refl _) (.cells #[.int .i64 t.sl, .slice a n c] 49)
  by_cases hm2 : m < 1 ∨ 64 < m
  · have e : pgE t f m = 2 := by unfold pgE; rw [if_pos hm2]
    rw [e]
    clear hE e
    go_enter Tryd.func23, Tryd.ntmps23
    by_cases h0 : m < 1
    · clear hm2
      go_wp2
      go_returns
      exact ⟨rfl, hb⟩
    · have h2 : 64 < m := by omega
      clear hm2
      go_wp2
      go_returns
      exact ⟨rfl, hb⟩
  · have hf : f < 0 ∨ (n : Int) < f := by
      apply Classical.byContradiction
      intro h3
      exact hE (by unfold pgE; rw [if_neg hm2, hL, hnn, if_neg h3])
    have e : pgE t f m = 4 := by unfold pgE; rw [if_neg hm2, hL, hnn, if_pos hf]
    rw [e]
    clear hE e
    have m1 : ¬ m < 1 := by omega
    have m2 : ¬ 64 < m := by omega
    clear hm2
    go_enter Tryd.func23, Tryd.ntmps23
    by_cases h0 : f < 0
    · clear hf
      go_wp2
      go_returns
      exact ⟨rfl, hb⟩
    · have h2 : (n : Int) < f := by omega
      clear hf
      go_wp2
      go_returns
      exact ⟨rfl, hb⟩
theorem hasL_take {w : World} {a : Option Addr} {L : List Ln} (h : HasL w a L) (q : Nat) : HasL w a (L.take q) := fun k x hx => h k x (by
  rw [List.getElem?_take] at hx
  split at hx
  · exact hx
  · cases hx)
def rpP (w : World) (L : List Ln) (r : Ending) (w' : World) : Prop := (∃ a2 c2, r = .returned (.tuple #[.slice a2 L.length c2, .int .i64 0]) ∧ HasL w' a2 L) ∧ Below w.heap.size w w'
set_option maxRecDepth 100000 in
set_option maxHeartbeats 2000000 in
theorem refPage_yes (base : Nat) (t : Tk) (a : Option Addr) (c : Nat) (f m : Int) (w : World) (hrow : w.ownsRow base 33 6 (.slice a t.L.length c) t.L.length (cellsN t.L)) (hn : t.L.length ≤ 5000) (hE : pgE t f m = 0) :
    Calls Tryd.prog 23 #[.agg #[.int .i64 t.sl, .slice a t.L.length c], .int .i64 f, .int .i64 m] w (rpP w (pgL t f m)) := by
  have hL : pgL t f m = (t.L.drop f.toNat).take m.toNat := by unfold pgL; rw [if_pos hE]
  rw [hL]
  obtain ⟨hm1, hm2⟩ : 1 ≤ m ∧ m ≤ 64 := by
    unfold pgE at hE; split at hE
    · cases hE
    · omega
  obtain ⟨hf1, hf2⟩ : 0 ≤ f ∧ f ≤ t.L.length := by
    unfold pgE at hE; split at hE
    · cases hE
    · split at hE
      · cases hE
      · omega
  clear hE hL
  obtain ⟨l, rfl⟩ := Int.eq_ofNat_of_zero_le hf1
  obtain ⟨q, rfl⟩ := Int.eq_ofNat_of_zero_le (by omega : 0 ≤ m)
  rw [Int.toNat_natCast, Int.toNat_natCast]
  obtain ⟨n, hnn⟩ : ∃ n, t.L.length = n := ⟨_, rfl⟩
  have hnI : (n : Int) ≤ 5000 := by omega
  have hXL : (t.L.drop l).length = n - l := by simp [hnn]
  have hln : l ≤ n := by omega
  rw [hnn] at hrow hf2 ⊢
  have hcn : n ≤ c := by
    rcases hrow.2 with ⟨e, e2⟩ | ⟨g', cap', cur, e, _, _, hc, _⟩
    · omega
    · cases e; exact hc
  have hL0 := hasL_row hrow hnn l hln c hcn
  have XB := Blk.newA' (W := w) rfl 49 #[.int .i64 t.sl, .slice a n c]
  have x1 := XB.cell (j := 1) rfl
  have hb := (Below.refl w.heap.size w).alloc (Nat.le_refl _) (.cells #[.int .i64 t.sl, .slice a n c] 49)
  have hL1 := hL0.step hb
  obtain ⟨ao, hao⟩ : ∃ ao, (if c = l then a else Option.map (fun x => x.add (l * 6)) a) = ao := ⟨_, rfl⟩
  have hL2 : HasL (w.alloc (.cells #[.int .i64 t.sl, .slice a n c] 49)) ao (t.L.drop l) := by rw [← hao]; exact hL1
  obtain ⟨xs, hxs⟩ : ∃ xs, t.L.drop l = xs := ⟨_, rfl⟩
  rw [hxs] at hXL hL2 ⊢
  clear hL0 hL1 hrow
  by_cases hq : n - l ≤ q
  · have htk : xs.take q = xs := List.take_of_length_le (by omega)
    rw [htk]
    have hqI : ¬ (q : Int) < ((n - l : Nat) : Int) := by omega
    have hqN : ¬ q < n - l := by omega
    go_enter Tryd.func23, Tryd.ntmps23
    go_wp2
    go_returns
    exact ⟨⟨_, _, by rw [hXL]; rfl, hL2⟩, hb⟩
  · have hqI : (q : Int) < ((n - l : Nat) : Int) := by omega
    have hqN : q < n - l := by omega
    have hlen : (xs.take q).length = q := by rw [List.length_take]; omega
    go_enter Tryd.func23, Tryd.ntmps23
    go_wp2
    go_returns
    exact ⟨⟨_, _, by rw [hlen]; rfl, hasL_take hL2 q⟩, hb⟩
end Go.Proofs.YtndechodaegkiaaDoor
