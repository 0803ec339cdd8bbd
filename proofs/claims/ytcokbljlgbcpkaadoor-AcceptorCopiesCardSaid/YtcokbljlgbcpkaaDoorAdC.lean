
/- Package acceptor: New; asked, Promise, Accept. -/
import Derived.Test.YtcokbljlgbcpkaaDoorAdB
import Derived.Test.YtcokbljlgbcpkaaDoorReg
namespace Go.Proofs.YtcokbljlgbcpkaaDoor
open Go.RowKit
set_option maxRecDepth 100000 in
set_option maxHeartbeats 1000000 in
theorem new14_ok (c sl o : Int) (w : World) (ho : ownerI c sl = o) (he : opErr c sl = 0) :
    Calls Tryd.prog 13 #[.int .i64 c, .int .i64 sl] w fun e w' => (∃ g, e = .returned (.tuple #[.pointer (some ⟨g, 0, none⟩), .int .i64 0]) ∧ AW w' g ⟨0, o, -1, 0, 0, 0, 0, ⟨#[]⟩, c, sl⟩ ∧ w.heap.size ≤ g) ∧ Below w.heap.size w w' := by
  have HO := Lib.hid ho
  clear ho
  have HE := Lib.hid he
  clear he
  go_enter Tryd.func13, Tryd.ntmps13
  go_wp2_with fail
  refine (first_at _ _ _ _ HO.out HE.out _).mono ?_
  rintro e w1 ⟨rfl, hb1⟩
  go_upto_region 4 with fail
  have X := Blk.newV (W := w1) rfl 36 #[.int .i64 0, .int .i64 o]
  have hb2 := hb1.alloc hb1.size (.cells #[.int .i64 0, .int .i64 o] 36)
  generalize w1.alloc (.cells #[.int .i64 0, .int .i64 o] 36) = W at *
  have xc0 := extA_cell (X.cell (j := 0) rfl)
  have xc1 := extA_cell (X.cell (j := 1) rfl)
  refine wp_region_head (C := ExtA W) 6 (by kernel_rfl) (by decide) (by kernel_rfl) ⟨rfl, rfl, rfl, Nat.le_refl _, fun _ _ => rfl⟩ ?_
  simp only [List.take_succ_cons, List.take_zero]
  repeat
    (first
      | go_big_quiet_skip
      | (go_big_quiet_want
         go_big_quiet_op
         first
           | go_big_quiet_on
           | (apply Exists.intro
              refine ⟨fun w' hC => ?_, ?_⟩
              · (first
                  | with_reducible rfl
                  | (go_at_call 34; refine (nothing_any _).mono ?_; rintro e w2 ⟨rfl, hb9⟩; exact ⟨rfl, extA_then hC hb9⟩)
                  | (go_simp; done)
                  | (go_simp; with_reducible rfl))
              go_big_quiet_on)))
  refine wpQuiet_nil ?_
  intro wq hq
  clear xc0 xc1
  change wpAny _ _ _ _ (2 + 1) _ _ _
  refine wpAny_ready (rs := [6]) (by kernel_rfl) (by simp) ?_
  refine AllReady.cons rfl (fun K hK => ?_) AllReady.nil
  go_simp
  have XN := Blk.newV (W := wq) rfl 57 #[.int .i64 0, .int .i64 o, .int .i64 (-1), .int .i64 0, .int .i64 0, .int .i64 0, .int .i64 0, .string ⟨#[]⟩, .int .i64 c, .int .i64 sl]
  have hb3 := (hb2.trans (Below.mono hq hb2.size)).alloc (by have := hb2.size; have := Below.size hq; omega) (.cells #[.int .i64 0, .int .i64 o, .int .i64 (-1), .int .i64 0, .int .i64 0, .int .i64 0, .int .i64 0, .string ⟨#[]⟩, .int .i64 c, .int .i64 sl] 57)
  have hge : w.heap.size ≤ wq.heap.size := by have := hb2.size; have := Below.size hq; omega
  generalize hWW : wq.alloc (.cells #[.int .i64 0, .int .i64 o, .int .i64 (-1), .int .i64 0, .int .i64 0, .int .i64 0, .int .i64 0, .string ⟨#[]⟩, .int .i64 c, .int .i64 sl] 57) = W2 at *
  clear hWW
  refine hK _ _ ?_
  clear hK K
  refine wp_rest_quiet (ExtA W2) 7 _ rfl rfl (by kernel_rfl) (by kernel_rfl) (Below.refl _ _) ?_
  simp only [List.drop_succ_cons, List.drop_zero]
  repeat
    (first
      | go_big_quiet_skip
      | (go_big_quiet_want
         go_big_quiet_op
         first
           | go_big_quiet_on
           | (apply Exists.intro
              refine ⟨fun w' hC => ?_, ?_⟩
              · (first
                  | with_reducible rfl
                  | fail
                  | (go_simp; done)
                  | (go_simp; with_reducible rfl))
              go_big_quiet_on)))
  refine wpQuiet_nil ?_
  intro wr hr
  go_wp2
  go_ret2
  exact ⟨⟨_, rfl, XN.step hr, hge⟩, hb3.trans (Below.mono hr hb3.size)⟩
set_option maxRecDepth 100000 in
set_option maxHeartbeats 1000000 in
theorem new14_no (c sl : Int) (w : World) (he : opErr c sl ≠ 0) :
    Calls Tryd.prog 13 #[.int .i64 c, .int .i64 sl] w fun e w' => e = .returned (.tuple #[.pointer none, .int .i64 (opErr c sl)]) ∧ Below w.heap.size w w' := by
  obtain ⟨E, hE⟩ : ∃ E, opErr c sl = E := ⟨_, rfl⟩
  rw [hE] at he ⊢
  have HE := Lib.hid hE
  clear hE
  go_enter Tryd.func13, Tryd.ntmps13
  go_wp2_with fail
  refine (first_at _ _ _ _ rfl HE.out _).mono ?_
  rintro e w1 ⟨rfl, hb1⟩
  go_wp2
  go_ret2
  exact ⟨rfl, hb1.alloc hb1.size _⟩
def NoP (W : World) (p : Value) : Prop := p = .pointer none ∨ ∃ g, p = .pointer (some ⟨g, 0, none⟩) ∧ W.cell? ⟨g, 8, none⟩ = some (.int .i64 0)
theorem NoP.step {W W' : World} {p : Value} (h : NoP W p) (hb : Below W.heap.size W W') : NoP W' p := by
  rcases h with h | ⟨g, h, hc⟩
  · exact .inl h
  · exact .inr ⟨g, h, (hb.cell (World.block_lt_of_cell? W _ hc)).trans hc⟩
theorem none14_no (p : Value) (w : World) (h : NoP w p) : Calls Tryd.prog 35 #[p] w fun e w' => e = .returned (.bool true) ∧ w = w' := by
  rcases h with rfl | ⟨g, rfl, hc⟩
  · exact none14_nil w
  · exact none14_at g 0 true w rfl hc
set_option maxRecDepth 100000 in
set_option maxHeartbeats 1000000 in
theorem prom1_any (g b ba bx : Nat) (A : Acc) (x y : Int) (w : World) (h : AW w g A) (hb : Blk w b 36 [.int .i64 x, .int .i64 y]) (ha : Blk w ba 29 [.pointer (some ⟨g, 0, none⟩)])
    (hx : Blk w bx 39 [.int .i64 0, .int .i64 0, .int .i64 0, .int .i64 0, .int .i64 0, .string ⟨#[]⟩]) (hd : bx ≠ g) :
    Calls Tryd.prog 38 #[.pointer (some ⟨b, 0, none⟩), .pointer (some ⟨ba, 0, none⟩), .pointer (some ⟨bx, 0, none⟩)] w fun e w' => e = .returned (.tuple #[]) ∧
      (AW w' g { A with r := x, p := y } ∧ Blk w' bx 39 [.int .i64 A.ar, .int .i64 A.ap, .int .i64 A.k, .int .i64 A.m, .int .i64 A.n, .string A.s] ∧ Kx [g, bx] w w') := by
  obtain ⟨r, p, ar, ap, k, m, n, s, c, sl⟩ := A
  have cb0 := hb.cell (j := 0) rfl
  have cb1 := hb.cell (j := 1) rfl
  have ca0 := ha.cell (j := 0) rfl
  have hc0 := h.cell (j := 0) rfl
  have hc1 := h.cell (j := 1) rfl
  have hc2 := h.cell (j := 2) rfl
  have hc3 := h.cell (j := 3) rfl
  have hc4 := h.cell (j := 4) rfl
  have hc5 := h.cell (j := 5) rfl
  have hc6 := h.cell (j := 6) rfl
  have hc7 := h.cell (j := 7) rfl
  have hc8 := h.cell (j := 8) rfl
  have hc9 := h.cell (j := 9) rfl
  have gf0 := h.frozen 0
  have gf1 := h.frozen 1
  have gf2 := h.frozen 2
  have gf3 := h.frozen 3
  have gf4 := h.frozen 4
  have gf5 := h.frozen 5
  have xc0 := hx.cell (j := 0) rfl
  have xc1 := hx.cell (j := 1) rfl
  have xc2 := hx.cell (j := 2) rfl
  have xc3 := hx.cell (j := 3) rfl
  have xc4 := hx.cell (j := 4) rfl
  have xc5 := hx.cell (j := 5) rfl
  have xf0 := hx.frozen 0
  have xf1 := hx.frozen 1
  have xf2 := hx.frozen 2
  have xf3 := hx.frozen 3
  have xf4 := hx.frozen 4
  have xf5 := hx.frozen 5
  go_enter Tryd.func38, Tryd.ntmps38
  go_region
  go_returns
  have hg2 := ((((((((h.set 0 (.int .i64 x)).set 1 (.int .i64 y)).other (Ne.symm hd) 0 (.int .i64 ar)).other (Ne.symm hd) 1 (.int .i64 ap)).other (Ne.symm hd) 2 (.int .i64 k)).other (Ne.symm hd) 3 (.int .i64 m)).other (Ne.symm hd) 4 (.int .i64 n)).other (Ne.symm hd) 5 (.string s))
  have hx2 := ((((((((hx.other hd 0 (.int .i64 x)).other hd 1 (.int .i64 y)).set 0 (.int .i64 ar)).set 1 (.int .i64 ap)).set 2 (.int .i64 k)).set 3 (.int .i64 m)).set 4 (.int .i64 n)).set 5 (.string s))
  have hK := (((((((((Kx.refl [g, bx] w).setCell (p := ⟨g, 0, none⟩) (.inl (by simp)) (.int .i64 x)).setCell (p := ⟨g, 1, none⟩) (.inl (by simp)) (.int .i64 y)).setCell (p := ⟨bx, 0, none⟩) (.inl (by simp)) (.int .i64 ar)).setCell (p := ⟨bx, 1, none⟩) (.inl (by simp)) (.int .i64 ap)).setCell (p := ⟨bx, 2, none⟩) (.inl (by simp)) (.int .i64 k)).setCell (p := ⟨bx, 3, none⟩) (.inl (by simp)) (.int .i64 m)).setCell (p := ⟨bx, 4, none⟩) (.inl (by simp)) (.int .i64 n)).setCell (p := ⟨bx, 5, none⟩) (.inl (by simp)) (.string s))
  generalize (((((((w.setCell ⟨g, 0, none⟩ (.int .i64 x)).setCell ⟨g, 1, none⟩ (.int .i64 y)).setCell ⟨bx, 0, none⟩ (.int .i64 ar)).setCell ⟨bx, 1, none⟩ (.int .i64 ap)).setCell ⟨bx, 2, none⟩ (.int .i64 k)).setCell ⟨bx, 3, none⟩ (.int .i64 m)).setCell ⟨bx, 4, none⟩ (.int .i64 n)).setCell ⟨bx, 5, none⟩ (.string s) = W2 at *
  exact ⟨rfl, hg2, hx2, hK.drew⟩
end Go.Proofs.YtcokbljlgbcpkaaDoor
