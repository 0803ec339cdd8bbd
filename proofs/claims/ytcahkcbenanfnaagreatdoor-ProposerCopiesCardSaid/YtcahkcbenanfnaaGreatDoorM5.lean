
import Derived.Test.YtcahkcbenanfnaaGreatDoorM2
import Derived.Test.YtcahkcbenanfnaaGreatDoorM1
/- Package acceptor: Accepted, above. -/
namespace Go.Proofs.YtcahkcbenanfnaaGreatDoor
set_option linter.unusedSimpArgs false
set_option linter.unusedVariables false
open Go.RowKit
set_option maxRecDepth 100000 in
set_option maxHeartbeats 1000000 in
theorem above_at (g : Nat) (A : Acc) (x y : Int) (w : World) (h : AW w g A) (hc : A.c ≠ 0) : Calls Tryz.prog 143 #[.pointer (some ⟨g, 0, none⟩), .agg #[.int .i64 x, .int .i64 y]] w fun e w' => e = .returned (.int .i64 (cmpI x y A.r A.p)) ∧ Below w.heap.size w w' := by
  obtain ⟨r, p, ar, ap, k, m, n, s, c, sl⟩ := A
  simp only at hc
  have hlt := h.lt
  go_enter Tryz.func143, Tryz.ntmps143
  go_upto_region 1 with fail
  obtain ⟨B, hB⟩ : ∃ B, w.heap.size = B := ⟨_, rfl⟩
  have X := Blk.newV (W := w) hB 23 #[.int .i64 x, .int .i64 y]
  have hb := (Below.refl w.heap.size w).alloc (Nat.le_refl _) (.cells #[.int .i64 x, .int .i64 y] 23)
  have h1 : Blk (w.alloc (.cells #[.int .i64 x, .int .i64 y] 23)) g 147 _ := h.alloc _
  generalize w.alloc (.cells #[.int .i64 x, .int .i64 y] 23) = W at *
  go_wp2_with fail
  refine (none14_at g c false _ (by simp [hc]) (h1.cell (j := 8) rfl)).mono ?_
  rintro e w2 ⟨rfl, rfl⟩
  go_upto_region 3 with fail
  have xc0 := extA_cell (X.cell (j := 0) rfl)
  have xc1 := extA_cell (X.cell (j := 1) rfl)
  have ac0 := extA_cell (h1.cell (j := 0) rfl)
  have ac1 := extA_cell (h1.cell (j := 1) rfl)
  have ac2 := extA_cell (h1.cell (j := 2) rfl)
  have ac3 := extA_cell (h1.cell (j := 3) rfl)
  have ac4 := extA_cell (h1.cell (j := 4) rfl)
  have ac5 := extA_cell (h1.cell (j := 5) rfl)
  have ac6 := extA_cell (h1.cell (j := 6) rfl)
  have ac7 := extA_cell (h1.cell (j := 7) rfl)
  have ac8 := extA_cell (h1.cell (j := 8) rfl)
  have ac9 := extA_cell (h1.cell (j := 9) rfl)
  refine wp_region_extB (by kernel_rfl) (by kernel_rfl) ?_
  repeat
    (first
      | go_big_quiet_skip
      | (go_big_quiet_want
         go_big_quiet_op
         first
           | go_big_quiet_on
           | (apply Exists.intro
              refine ⟨fun w' hC => ?_, ?_⟩
              · (first
                  | with_reducible rfl
                  | (go_at_call 48; refine (compare_any _ _ _ _ _).mono ?_; rintro e w2 ⟨rfl, hb9⟩; exact ⟨rfl, extA_then hC hb9⟩)
                  | (go_simp; done)
                  | (go_simp; with_reducible rfl))
              go_big_quiet_on)))
  refine wpQuiet_nil ?_
  intro wq hq
  have hb2 := hb.trans (Below.mono hq hb.size)
  go_wp2
  go_ret
  exact ⟨rfl, by rw [← hB]; exact hb2⟩
end Go.Proofs.YtcahkcbenanfnaaGreatDoor

/- Package acceptor: New; asked, Promise, Accept. -/
namespace Go.Proofs.YtcahkcbenanfnaaGreatDoor
open Go.RowKit
set_option maxRecDepth 100000 in
set_option maxHeartbeats 1000000 in
theorem new14_ok (c sl o : Int) (w : World) (ho : ownerI c sl = o) (he : opErr c sl = 0) :
    Calls Tryz.prog 26 #[.int .i64 c, .int .i64 sl] w fun e w' => (∃ g, e = .returned (.tuple #[.pointer (some ⟨g, 0, none⟩), .int .i64 0]) ∧ AW w' g ⟨0, o, -1, 0, 0, 0, 0, ⟨#[]⟩, c, sl⟩ ∧ w.heap.size ≤ g) ∧ Below w.heap.size w w' := by
  have HO := Lib.hid ho
  clear ho
  have HE := Lib.hid he
  clear he
  go_enter Tryz.func26, Tryz.ntmps26
  go_wp2_with fail
  refine (first_at _ _ _ _ HO.out HE.out _).mono ?_
  rintro e w1 ⟨rfl, hb1⟩
  go_upto_region 4 with fail
  have X := Blk.newV (W := w1) rfl 23 #[.int .i64 0, .int .i64 o]
  have hb2 := hb1.alloc hb1.size (.cells #[.int .i64 0, .int .i64 o] 23)
  generalize w1.alloc (.cells #[.int .i64 0, .int .i64 o] 23) = W at *
  have xc0 := extA_cell (X.cell (j := 0) rfl)
  have xc1 := extA_cell (X.cell (j := 1) rfl)
  refine wp_region_head (C := ExtA W) 6 (by kernel_rfl) (by decide) (by kernel_rfl) ⟨rfl, rfl, rfl, Nat.le_refl _, fun _ _ => rfl⟩ ?_
  simp only [List.take_succ_cons, List.take_zero]
  repeat
    (first
      | go_big_quiet_skip
      | (go_big_quiet_want
         go_big_quiet_op
         first
           | go_big_quiet_on
           | (apply Exists.intro
              refine ⟨fun w' hC => ?_, ?_⟩
              · (first
                  | with_reducible rfl
                  | (go_at_call 70; refine (nothing_any _).mono ?_; rintro e w2 ⟨rfl, hb9⟩; exact ⟨rfl, extA_then hC hb9⟩)
                  | (go_simp; done)
                  | (go_simp; with_reducible rfl))
              go_big_quiet_on)))
  refine wpQuiet_nil ?_
  intro wq hq
  clear xc0 xc1
  change wpAny _ _ _ _ (2 + 1) _ _ _
  refine wpAny_ready (rs := [6]) (by kernel_rfl) (by simp) ?_
  refine AllReady.cons rfl (fun K hK => ?_) AllReady.nil
  go_simp
  have XN := Blk.newV (W := wq) rfl 147 #[.int .i64 0, .int .i64 o, .int .i64 (-1), .int .i64 0, .int .i64 0, .int .i64 0, .int .i64 0, .string ⟨#[]⟩, .int .i64 c, .int .i64 sl]
  have hb3 := (hb2.trans (Below.mono hq hb2.size)).alloc (by have := hb2.size; have := Below.size hq; omega) (.cells #[.int .i64 0, .int .i64 o, .int .i64 (-1), .int .i64 0, .int .i64 0, .int .i64 0, .int .i64 0, .string ⟨#[]⟩, .int .i64 c, .int .i64 sl] 147)
  have hge : w.heap.size ≤ wq.heap.size := by have := hb2.size; have := Below.size hq; omega
  generalize hWW : wq.alloc (.cells #[.int .i64 0, .int .i64 o, .int .i64 (-1), .int .i64 0, .int .i64 0, .int .i64 0, .int .i64 0, .string ⟨#[]⟩, .int .i64 c, .int .i64 sl] 147) = W2 at *
  clear hWW
  refine hK _ _ ?_
  clear hK K
  refine wp_rest_quiet (ExtA W2) 7 _ rfl rfl (by kernel_rfl) (by kernel_rfl) (Below.refl _ _) ?_
  simp only [List.drop_succ_cons, List.drop_zero]
  repeat
    (first
      | go_big_quiet_skip
      | (go_big_quiet_want
         go_big_quiet_op
         first
           | go_big_quiet_on
           | (apply Exists.intro
              refine ⟨fun w' hC => ?_, ?_⟩
              · (first
                  | with_reducible rfl
                  | fail
                  | (go_simp; done)
                  | (go_simp; with_reducible rfl))
              go_big_quiet_on)))
  refine wpQuiet_nil ?_
  intro wr hr
  go_wp2
  go_ret2
  exact ⟨⟨_, rfl, XN.step hr, hge⟩, hb3.trans (Below.mono hr hb3.size)⟩
set_option maxRecDepth 100000 in
set_option maxHeartbeats 1000000 in
theorem new14_no (c sl : Int) (w : World) (he : opErr c sl ≠ 0) :
    Calls Tryz.prog 26 #[.int .i64 c, .int .i64 sl] w fun e w' => e = .returned (.tuple #[.pointer none, .int .i64 (opErr c sl)]) ∧ Below w.heap.size w w' := by
  obtain ⟨E, hE⟩ : ∃ E, opErr c sl = E := ⟨_, rfl⟩
  rw [hE] at he ⊢
  have HE := Lib.hid hE
  clear hE
  go_enter Tryz.func26, Tryz.ntmps26
  go_wp2_with fail
  refine (first_at _ _ _ _ rfl HE.out _).mono ?_
  rintro e w1 ⟨rfl, hb1⟩
  go_wp2
  go_ret2
  exact ⟨rfl, hb1.alloc hb1.size _⟩
def NoP (W : World) (p : Value) : Prop := p = .pointer none ∨ ∃ g, p = .pointer (some ⟨g, 0, none⟩) ∧ W.cell? ⟨g, 8, none⟩ = some (.int .i64 0)
theorem NoP.step {W W' : World} {p : Value} (h : NoP W p) (hb : Below W.heap.size W W') : NoP W' p := by
  rcases h with h | ⟨g, h, hc⟩
  · exact .inl h
  · exact .inr ⟨g, h, (hb.cell (World.block_lt_of_cell? W _ hc)).trans hc⟩
theorem none14_no (p : Value) (w : World) (h : NoP w p) : Calls Tryz.prog 145 #[p] w fun e w' => e = .returned (.bool true) ∧ w = w' := by
  rcases h with rfl | ⟨g, rfl, hc⟩
  · exact none14_nil w
  · exact none14_at g 0 true w rfl hc
set_option maxRecDepth 100000 in
set_option maxHeartbeats 1000000 in
theorem prom1_any (g b ba bx : Nat) (A : Acc) (x y : Int) (w : World) (h : AW w g A) (hb : Blk w b 23 [.int .i64 x, .int .i64 y]) (ha : Blk w ba 79 [.pointer (some ⟨g, 0, none⟩)])
    (hx : Blk w bx 33 [.int .i64 0, .int .i64 0, .int .i64 0, .int .i64 0, .int .i64 0, .string ⟨#[]⟩]) (hd : bx ≠ g) :
    Calls Tryz.prog 144 #[.pointer (some ⟨b, 0, none⟩), .pointer (some ⟨ba, 0, none⟩), .pointer (some ⟨bx, 0, none⟩)] w fun e w' => e = .returned (.tuple #[]) ∧
      (AW w' g { A with r := x, p := y } ∧ Blk w' bx 33 [.int .i64 A.ar, .int .i64 A.ap, .int .i64 A.k, .int .i64 A.m, .int .i64 A.n, .string A.s] ∧ Kx [g, bx] w w') := by
  obtain ⟨r, p, ar, ap, k, m, n, s, c, sl⟩ := A
  have cb0 := hb.cell (j := 0) rfl
  have cb1 := hb.cell (j := 1) rfl
  have ca0 := ha.cell (j := 0) rfl
  have hc0 := h.cell (j := 0) rfl
  have hc1 := h.cell (j := 1) rfl
  have hc2 := h.cell (j := 2) rfl
  have hc3 := h.cell (j := 3) rfl
  have hc4 := h.cell (j := 4) rfl
  have hc5 := h.cell (j := 5) rfl
  have hc6 := h.cell (j := 6) rfl
  have hc7 := h.cell (j := 7) rfl
  have hc8 := h.cell (j := 8) rfl
  have hc9 := h.cell (j := 9) rfl
  have gf0 := h.frozen 0
  have gf1 := h.frozen 1
  have gf2 := h.frozen 2
  have gf3 := h.frozen 3
  have gf4 := h.frozen 4
  have gf5 := h.frozen 5
  have xc0 := hx.cell (j := 0) rfl
  have xc1 := hx.cell (j := 1) rfl
  have xc2 := hx.cell (j := 2) rfl
  have xc3 := hx.cell (j := 3) rfl
  have xc4 := hx.cell (j := 4) rfl
  have xc5 := hx.cell (j := 5) rfl
  have xf0 := hx.frozen 0
  have xf1 := hx.frozen 1
  have xf2 := hx.frozen 2
  have xf3 := hx.frozen 3
  have xf4 := hx.frozen 4
  have xf5 := hx.frozen 5
  go_enter Tryz.func144, Tryz.ntmps144
  go_region
  go_returns
  have hg2 := ((((((((h.set 0 (.int .i64 x)).set 1 (.int .i64 y)).other (Ne.symm hd) 0 (.int .i64 ar)).other (Ne.symm hd) 1 (.int .i64 ap)).other (Ne.symm hd) 2 (.int .i64 k)).other (Ne.symm hd) 3 (.int .i64 m)).other (Ne.symm hd) 4 (.int .i64 n)).other (Ne.symm hd) 5 (.string s))
  have hx2 := ((((((((hx.other hd 0 (.int .i64 x)).other hd 1 (.int .i64 y)).set 0 (.int .i64 ar)).set 1 (.int .i64 ap)).set 2 (.int .i64 k)).set 3 (.int .i64 m)).set 4 (.int .i64 n)).set 5 (.string s))
  have hK := (((((((((Kx.refl [g, bx] w).setCell (p := ⟨g, 0, none⟩) (.inl (by simp)) (.int .i64 x)).setCell (p := ⟨g, 1, none⟩) (.inl (by simp)) (.int .i64 y)).setCell (p := ⟨bx, 0, none⟩) (.inl (by simp)) (.int .i64 ar)).setCell (p := ⟨bx, 1, none⟩) (.inl (by simp)) (.int .i64 ap)).setCell (p := ⟨bx, 2, none⟩) (.inl (by simp)) (.int .i64 k)).setCell (p := ⟨bx, 3, none⟩) (.inl (by simp)) (.int .i64 m)).setCell (p := ⟨bx, 4, none⟩) (.inl (by simp)) (.int .i64 n)).setCell (p := ⟨bx, 5, none⟩) (.inl (by simp)) (.string s))
  generalize (((((((w.setCell ⟨g, 0, none⟩ (.int .i64 x)).setCell ⟨g, 1, none⟩ (.int .i64 y)).setCell ⟨bx, 0, none⟩ (.int .i64 ar)).setCell ⟨bx, 1, none⟩ (.int .i64 ap)).setCell ⟨bx, 2, none⟩ (.int .i64 k)).setCell ⟨bx, 3, none⟩ (.int .i64 m)).setCell ⟨bx, 4, none⟩ (.int .i64 n)).setCell ⟨bx, 5, none⟩ (.string s) = W2 at *
  exact ⟨rfl, hg2, hx2, hK.drew⟩
end Go.Proofs.YtcahkcbenanfnaaGreatDoor

/- Package acceptor: Accept's closure; asked. -/
namespace Go.Proofs.YtcahkcbenanfnaaGreatDoor
open Go.RowKit
set_option maxRecDepth 100000 in
set_option maxHeartbeats 1000000 in
theorem acc1_any (g b be ba : Nat) (A : Acc) (x y k m n : Int) (s : ByteArray) (w : World) (h : AW w g A) (hb : Blk w b 23 [.int .i64 x, .int .i64 y]) (ha : Blk w ba 79 [.pointer (some ⟨g, 0, none⟩)])
    (he : Blk w be 26 [.int .i64 k, .int .i64 m, .int .i64 n, .string s]) :
    Calls Tryz.prog 146 #[.pointer (some ⟨b, 0, none⟩), .pointer (some ⟨be, 0, none⟩), .pointer (some ⟨ba, 0, none⟩)] w fun e w' => e = .returned (.tuple #[]) ∧
      (AW w' g ⟨x, y, x, y, k, m, n, s, A.c, A.sl⟩ ∧ Kx [g] w w') := by
  obtain ⟨r, p, ar, ap, k0, m0, n0, s0, c, sl⟩ := A
  have cbc0 := hb.cell (j := 0) rfl
  have cbc1 := hb.cell (j := 1) rfl
  have ca0 := ha.cell (j := 0) rfl
  have ec0 := he.cell (j := 0) rfl
  have ec1 := he.cell (j := 1) rfl
  have ec2 := he.cell (j := 2) rfl
  have ec3 := he.cell (j := 3) rfl
  have hc0 := h.cell (j := 0) rfl
  have hc1 := h.cell (j := 1) rfl
  have hc2 := h.cell (j := 2) rfl
  have hc3 := h.cell (j := 3) rfl
  have hc4 := h.cell (j := 4) rfl
  have hc5 := h.cell (j := 5) rfl
  have hc6 := h.cell (j := 6) rfl
  have hc7 := h.cell (j := 7) rfl
  have hc8 := h.cell (j := 8) rfl
  have hc9 := h.cell (j := 9) rfl
  have gf0 := h.frozen 0
  have gf1 := h.frozen 1
  have gf2 := h.frozen 2
  have gf3 := h.frozen 3
  have gf4 := h.frozen 4
  have gf5 := h.frozen 5
  have gf6 := h.frozen 6
  have gf7 := h.frozen 7
  go_enter Tryz.func146, Tryz.ntmps146
  go_wp2
  go_returns
  have hg2 := (((((((h.set 0 (.int .i64 x)).set 1 (.int .i64 y)).set 2 (.int .i64 x)).set 3 (.int .i64 y)).set 4 (.int .i64 k)).set 5 (.int .i64 m)).set 6 (.int .i64 n)).set 7 (.string s)
  have hK := ((((((((Kx.refl [g] w).setCell (p := ⟨g, 0, none⟩) (.inl (by simp)) (.int .i64 x)).setCell (p := ⟨g, 1, none⟩) (.inl (by simp)) (.int .i64 y)).setCell (p := ⟨g, 2, none⟩) (.inl (by simp)) (.int .i64 x)).setCell (p := ⟨g, 3, none⟩) (.inl (by simp)) (.int .i64 y)).setCell (p := ⟨g, 4, none⟩) (.inl (by simp)) (.int .i64 k)).setCell (p := ⟨g, 5, none⟩) (.inl (by simp)) (.int .i64 m)).setCell (p := ⟨g, 6, none⟩) (.inl (by simp)) (.int .i64 n)).setCell (p := ⟨g, 7, none⟩) (.inl (by simp)) (.string s)
  exact ⟨rfl, hg2, hK⟩

set_option maxRecDepth 100000 in
set_option maxHeartbeats 1000000 in
theorem askedN_any (p f : Value) (x y : Int) (su ma : Bool) (w : World) (h : NoP w p) :
    Calls Tryz.prog 142 #[p, .agg #[.int .i64 x, .int .i64 y], .bool su, .bool ma, f] w fun e w' => e = .returned (.tuple #[.bool false, .int .i64 1]) ∧ Below w.heap.size w w' := by
  go_enter Tryz.func142, Tryz.ntmps142
  have hb := (Below.refl w.heap.size w).alloc (Nat.le_refl _) (.cells #[.int .i64 x, .int .i64 y] 23)
  go_wp2_with fail
  refine (none14_no p _ (h.step hb)).mono ?_
  rintro e w2 ⟨rfl, rfl⟩
  go_wp2
  go_ret2
  exact ⟨rfl, hb⟩
set_option maxRecDepth 100000 in
set_option maxHeartbeats 1000000 in
theorem asked_ff (g : Nat) (A : Acc) (x y : Int) (ma : Bool) (f : Value) (w : World) (h : AW w g A) (hc : A.c ≠ 0) (hm : mayB A.c A.sl x y = false) :
    Calls Tryz.prog 142 #[.pointer (some ⟨g, 0, none⟩), .agg #[.int .i64 x, .int .i64 y], .bool false, .bool ma, f] w fun e w' => e = .returned (.tuple #[.bool false, .int .i64 2]) ∧ Below w.heap.size w w' := by
  obtain ⟨r, p, ar, ap, k, m, n, s, c, sl⟩ := A
  simp only at hc hm
  go_enter Tryz.func142, Tryz.ntmps142
  go_upto_region 1 with fail
  have X := Blk.newV (W := w) rfl 23 #[.int .i64 x, .int .i64 y]
  have hb := (Below.refl w.heap.size w).alloc (Nat.le_refl _) (.cells #[.int .i64 x, .int .i64 y] 23)
  have h1 : Blk (w.alloc (.cells #[.int .i64 x, .int .i64 y] 23)) g 147 _ := h.alloc _
  generalize w.alloc (.cells #[.int .i64 x, .int .i64 y] 23) = W at *
  go_wp2_with fail
  refine (none14_at g c false _ (by simp [hc]) (h1.cell (j := 8) rfl)).mono ?_
  rintro e w2 ⟨rfl, rfl⟩
  go_upto_region 3 with fail
  have xc0 := extA_cell (X.cell (j := 0) rfl)
  have xc1 := extA_cell (X.cell (j := 1) rfl)
  have ac8 := extA_cell (h1.cell (j := 8) rfl)
  have ac9 := extA_cell (h1.cell (j := 9) rfl)
  have HM := Lib.hid hm
  clear hm
  refine wp_region_head (C := ExtA W) 11 (by kernel_rfl) (by decide) (by kernel_rfl) ⟨rfl, rfl, rfl, Nat.le_refl _, fun _ _ => rfl⟩ ?_
  simp only [List.take_succ_cons, List.take_zero]
  repeat
    (first
      | go_big_quiet_skip
      | (go_big_quiet_want
         go_big_quiet_op
         first
           | go_big_quiet_on
           | (apply Exists.intro
              refine ⟨fun w' hC => ?_, ?_⟩
              · (first
                  | with_reducible rfl
                  | (go_at_call 47; refine (may_at _ _ _ _ _ HM.out _).mono ?_; rintro e w2 ⟨rfl, hb9⟩; exact ⟨rfl, extA_then hC hb9⟩)
                  | (go_simp; done)
                  | (go_simp; with_reducible rfl))
              go_big_quiet_on)))
  refine wpQuiet_nil ?_
  intro wq hq
  clear xc0 xc1 ac8 ac9
  change wpAny _ _ _ _ (3 + 1) _ _ _
  refine wpAny_ready (rs := [11]) (by kernel_rfl) (by simp) ?_
  refine AllReady.cons rfl (fun K hK => ?_) AllReady.nil
  go_simp
  have XS := Blk.newV (W := wq) rfl 4 #[.bool false, .bool false]
  have hb3 := (hb.trans (Below.mono hq hb.size)).alloc (by have := hb.size; have := Below.size hq; omega) (.cells #[.bool false, .bool false] 4)
  have hs3 := hb3.size
  generalize wq.alloc (.cells #[.bool false, .bool false] 4) = W2 at *
  refine hK _ _ ?_
  clear hK K
  refine wp_rest_quiet (ExtA W2) 12 _ rfl rfl (by kernel_rfl) (by kernel_rfl) (Below.refl _ _) ?_
  simp only [List.drop_succ_cons, List.drop_zero]
  repeat
    (first
      | go_big_quiet_skip
      | (go_big_quiet_want
         go_big_quiet_op
         first
           | go_big_quiet_on
           | (apply Exists.intro
              refine ⟨fun w' hC => ?_, ?_⟩
              · (first
                  | with_reducible rfl
                  | (go_at_call 102; refine (allA_any _ [false, false] 2 rfl (by omega) _ (XS.step hC)).mono ?_; rintro e w2 ⟨rfl, rfl⟩; exact ⟨rfl, hC⟩)
                  | (go_simp; done)
                  | (go_simp; with_reducible rfl))
              go_big_quiet_on)))
  refine wpQuiet_nil ?_
  intro wr hr
  have hb4 := hb3.trans (Below.mono hr hs3)
  clear hb hb3 hs3 X XS hq hr h1
  go_wp2
  go_ret2
  exact ⟨rfl, hb4⟩
set_option maxRecDepth 100000 in
set_option maxHeartbeats 1000000 in
theorem asked_ft (g : Nat) (A : Acc) (x y : Int) (ma : Bool) (f : Value) (w : World) (h : AW w g A) (hc : A.c ≠ 0) (hm : mayB A.c A.sl x y = false) :
    Calls Tryz.prog 142 #[.pointer (some ⟨g, 0, none⟩), .agg #[.int .i64 x, .int .i64 y], .bool true, .bool ma, f] w fun e w' => e = .returned (.tuple #[.bool false, .int .i64 2]) ∧ Below w.heap.size w w' := by
  obtain ⟨r, p, ar, ap, k, m, n, s, c, sl⟩ := A
  simp only at hc hm
  go_enter Tryz.func142, Tryz.ntmps142
  go_upto_region 1 with fail
  have X := Blk.newV (W := w) rfl 23 #[.int .i64 x, .int .i64 y]
  have hb := (Below.refl w.heap.size w).alloc (Nat.le_refl _) (.cells #[.int .i64 x, .int .i64 y] 23)
  have h1 : Blk (w.alloc (.cells #[.int .i64 x, .int .i64 y] 23)) g 147 _ := h.alloc _
  generalize w.alloc (.cells #[.int .i64 x, .int .i64 y] 23) = W at *
  go_wp2_with fail
  refine (none14_at g c false _ (by simp [hc]) (h1.cell (j := 8) rfl)).mono ?_
  rintro e w2 ⟨rfl, rfl⟩
  go_upto_region 3 with fail
  have xc0 := extA_cell (X.cell (j := 0) rfl)
  have xc1 := extA_cell (X.cell (j := 1) rfl)
  have ac8 := extA_cell (h1.cell (j := 8) rfl)
  have ac9 := extA_cell (h1.cell (j := 9) rfl)
  have HM := Lib.hid hm
  clear hm
  refine wp_region_head (C := ExtA W) 11 (by kernel_rfl) (by decide) (by kernel_rfl) ⟨rfl, rfl, rfl, Nat.le_refl _, fun _ _ => rfl⟩ ?_
  simp only [List.take_succ_cons, List.take_zero]
  repeat
    (first
      | go_big_quiet_skip
      | (go_big_quiet_want
         go_big_quiet_op
         first
           | go_big_quiet_on
           | (apply Exists.intro
              refine ⟨fun w' hC => ?_, ?_⟩
              · (first
                  | with_reducible rfl
                  | (go_at_call 47; refine (may_at _ _ _ _ _ HM.out _).mono ?_; rintro e w2 ⟨rfl, hb9⟩; exact ⟨rfl, extA_then hC hb9⟩)
                  | (go_simp; done)
                  | (go_simp; with_reducible rfl))
              go_big_quiet_on)))
  refine wpQuiet_nil ?_
  intro wq hq
  clear xc0 xc1 ac8 ac9
  change wpAny _ _ _ _ (3 + 1) _ _ _
  refine wpAny_ready (rs := [11]) (by kernel_rfl) (by simp) ?_
  refine AllReady.cons rfl (fun K hK => ?_) AllReady.nil
  go_simp
  have XS := Blk.newV (W := wq) rfl 4 #[.bool false, .bool true]
  have hb3 := (hb.trans (Below.mono hq hb.size)).alloc (by have := hb.size; have := Below.size hq; omega) (.cells #[.bool false, .bool true] 4)
  have hs3 := hb3.size
  generalize wq.alloc (.cells #[.bool false, .bool true] 4) = W2 at *
  refine hK _ _ ?_
  clear hK K
  refine wp_rest_quiet (ExtA W2) 12 _ rfl rfl (by kernel_rfl) (by kernel_rfl) (Below.refl _ _) ?_
  simp only [List.drop_succ_cons, List.drop_zero]
  repeat
    (first
      | go_big_quiet_skip
      | (go_big_quiet_want
         go_big_quiet_op
         first
           | go_big_quiet_on
           | (apply Exists.intro
              refine ⟨fun w' hC => ?_, ?_⟩
              · (first
                  | with_reducible rfl
                  | (go_at_call 102; refine (allA_any _ [false, true] 2 rfl (by omega) _ (XS.step hC)).mono ?_; rintro e w2 ⟨rfl, rfl⟩; exact ⟨rfl, hC⟩)
                  | (go_simp; done)
                  | (go_simp; with_reducible rfl))
              go_big_quiet_on)))
  refine wpQuiet_nil ?_
  intro wr hr
  have hb4 := hb3.trans (Below.mono hr hs3)
  clear hb hb3 hs3 X XS hq hr h1
  go_wp2
  go_ret2
  exact ⟨rfl, hb4⟩
set_option maxRecDepth 100000 in
set_option maxHeartbeats 1000000 in
theorem asked_tf (g : Nat) (A : Acc) (x y : Int) (ma : Bool) (f : Value) (w : World) (h : AW w g A) (hc : A.c ≠ 0) (hm : mayB A.c A.sl x y = true) :
    Calls Tryz.prog 142 #[.pointer (some ⟨g, 0, none⟩), .agg #[.int .i64 x, .int .i64 y], .bool false, .bool ma, f] w fun e w' => e = .returned (.tuple #[.bool false, .int .i64 2]) ∧ Below w.heap.size w w' := by
  obtain ⟨r, p, ar, ap, k, m, n, s, c, sl⟩ := A
  simp only at hc hm
  go_enter Tryz.func142, Tryz.ntmps142
  go_upto_region 1 with fail
  have X := Blk.newV (W := w) rfl 23 #[.int .i64 x, .int .i64 y]
  have hb := (Below.refl w.heap.size w).alloc (Nat.le_refl _) (.cells #[.int .i64 x, .int .i64 y] 23)
  have h1 : Blk (w.alloc (.cells #[.int .i64 x, .int .i64 y] 23)) g 147 _ := h.alloc _
  generalize w.alloc (.cells #[.int .i64 x, .int .i64 y] 23) = W at *
  go_wp2_with fail
  refine (none14_at g c false _ (by simp [hc]) (h1.cell (j := 8) rfl)).mono ?_
  rintro e w2 ⟨rfl, rfl⟩
  go_upto_region 3 with fail
  have xc0 := extA_cell (X.cell (j := 0) rfl)
  have xc1 := extA_cell (X.cell (j := 1) rfl)
  have ac8 := extA_cell (h1.cell (j := 8) rfl)
  have ac9 := extA_cell (h1.cell (j := 9) rfl)
  have HM := Lib.hid hm
  clear hm
  refine wp_region_head (C := ExtA W) 11 (by kernel_rfl) (by decide) (by kernel_rfl) ⟨rfl, rfl, rfl, Nat.le_refl _, fun _ _ => rfl⟩ ?_
  simp only [List.take_succ_cons, List.take_zero]
  repeat
    (first
      | go_big_quiet_skip
      | (go_big_quiet_want
         go_big_quiet_op
         first
           | go_big_quiet_on
           | (apply Exists.intro
              refine ⟨fun w' hC => ?_, ?_⟩
              · (first
                  | with_reducible rfl
                  | (go_at_call 47; refine (may_at _ _ _ _ _ HM.out _).mono ?_; rintro e w2 ⟨rfl, hb9⟩; exact ⟨rfl, extA_then hC hb9⟩)
                  | (go_simp; done)
                  | (go_simp; with_reducible rfl))
              go_big_quiet_on)))
  refine wpQuiet_nil ?_
  intro wq hq
  clear xc0 xc1 ac8 ac9
  change wpAny _ _ _ _ (3 + 1) _ _ _
  refine wpAny_ready (rs := [11]) (by kernel_rfl) (by simp) ?_
  refine AllReady.cons rfl (fun K hK => ?_) AllReady.nil
  go_simp
  have XS := Blk.newV (W := wq) rfl 4 #[.bool true, .bool false]
  have hb3 := (hb.trans (Below.mono hq hb.size)).alloc (by have := hb.size; have := Below.size hq; omega) (.cells #[.bool true, .bool false] 4)
  have hs3 := hb3.size
  generalize wq.alloc (.cells #[.bool true, .bool false] 4) = W2 at *
  refine hK _ _ ?_
  clear hK K
  refine wp_rest_quiet (ExtA W2) 12 _ rfl rfl (by kernel_rfl) (by kernel_rfl) (Below.refl _ _) ?_
  simp only [List.drop_succ_cons, List.drop_zero]
  repeat
    (first
      | go_big_quiet_skip
      | (go_big_quiet_want
         go_big_quiet_op
         first
           | go_big_quiet_on
           | (apply Exists.intro
              refine ⟨fun w' hC => ?_, ?_⟩
              · (first
                  | with_reducible rfl
                  | (go_at_call 102; refine (allA_any _ [true, false] 2 rfl (by omega) _ (XS.step hC)).mono ?_; rintro e w2 ⟨rfl, rfl⟩; exact ⟨rfl, hC⟩)
                  | (go_simp; done)
                  | (go_simp; with_reducible rfl))
              go_big_quiet_on)))
  refine wpQuiet_nil ?_
  intro wr hr
  have hb4 := hb3.trans (Below.mono hr hs3)
  clear hb hb3 hs3 X XS hq hr h1
  go_wp2
  go_ret2
  exact ⟨rfl, hb4⟩
set_option maxRecDepth 100000 in
set_option maxHeartbeats 1000000 in
theorem asked_tt (g : Nat) (A : Acc) (x y : Int) (f : Value) (w : World) (h : AW w g A) (hc : A.c ≠ 0) (hm : mayB A.c A.sl x y = true) :
    Calls Tryz.prog 142 #[.pointer (some ⟨g, 0, none⟩), .agg #[.int .i64 x, .int .i64 y], .bool true, .bool false, f] w fun e w' => e = .returned (.tuple #[.bool false, .int .i64 0]) ∧ Below w.heap.size w w' := by
  obtain ⟨r, p, ar, ap, k, m, n, s, c, sl⟩ := A
  simp only at hc hm
  go_enter Tryz.func142, Tryz.ntmps142
  go_upto_region 1 with fail
  have X := Blk.newV (W := w) rfl 23 #[.int .i64 x, .int .i64 y]
  have hb := (Below.refl w.heap.size w).alloc (Nat.le_refl _) (.cells #[.int .i64 x, .int .i64 y] 23)
  have h1 : Blk (w.alloc (.cells #[.int .i64 x, .int .i64 y] 23)) g 147 _ := h.alloc _
  generalize w.alloc (.cells #[.int .i64 x, .int .i64 y] 23) = W at *
  go_wp2_with fail
  refine (none14_at g c false _ (by simp [hc]) (h1.cell (j := 8) rfl)).mono ?_
  rintro e w2 ⟨rfl, rfl⟩
  go_upto_region 3 with fail
  have xc0 := extA_cell (X.cell (j := 0) rfl)
  have xc1 := extA_cell (X.cell (j := 1) rfl)
  have ac8 := extA_cell (h1.cell (j := 8) rfl)
  have ac9 := extA_cell (h1.cell (j := 9) rfl)
  have HM := Lib.hid hm
  clear hm
  refine wp_region_head (C := ExtA W) 11 (by kernel_rfl) (by decide) (by kernel_rfl) ⟨rfl, rfl, rfl, Nat.le_refl _, fun _ _ => rfl⟩ ?_
  simp only [List.take_succ_cons, List.take_zero]
  repeat
    (first
      | go_big_quiet_skip
      | (go_big_quiet_want
         go_big_quiet_op
         first
           | go_big_quiet_on
           | (apply Exists.intro
              refine ⟨fun w' hC => ?_, ?_⟩
              · (first
                  | with_reducible rfl
                  | (go_at_call 47; refine (may_at _ _ _ _ _ HM.out _).mono ?_; rintro e w2 ⟨rfl, hb9⟩; exact ⟨rfl, extA_then hC hb9⟩)
                  | (go_simp; done)
                  | (go_simp; with_reducible rfl))
              go_big_quiet_on)))
  refine wpQuiet_nil ?_
  intro wq hq
  clear xc0 xc1 ac8 ac9
  change wpAny _ _ _ _ (3 + 1) _ _ _
  refine wpAny_ready (rs := [11]) (by kernel_rfl) (by simp) ?_
  refine AllReady.cons rfl (fun K hK => ?_) AllReady.nil
  go_simp
  have XS := Blk.newV (W := wq) rfl 4 #[.bool true, .bool true]
  have hb3 := (hb.trans (Below.mono hq hb.size)).alloc (by have := hb.size; have := Below.size hq; omega) (.cells #[.bool true, .bool true] 4)
  have hs3 := hb3.size
  generalize wq.alloc (.cells #[.bool true, .bool true] 4) = W2 at *
  refine hK _ _ ?_
  clear hK K
  refine wp_rest_quiet (ExtA W2) 12 _ rfl rfl (by kernel_rfl) (by kernel_rfl) (Below.refl _ _) ?_
  simp only [List.drop_succ_cons, List.drop_zero]
  repeat
    (first
      | go_big_quiet_skip
      | (go_big_quiet_want
         go_big_quiet_op
         first
           | go_big_quiet_on
           | (apply Exists.intro
              refine ⟨fun w' hC => ?_, ?_⟩
              · (first
                  | with_reducible rfl
                  | (go_at_call 102; refine (allA_any _ [true, true] 2 rfl (by omega) _ (XS.step hC)).mono ?_; rintro e w2 ⟨rfl, rfl⟩; exact ⟨rfl, hC⟩)
                  | (go_simp; done)
                  | (go_simp; with_reducible rfl))
              go_big_quiet_on)))
  refine wpQuiet_nil ?_
  intro wr hr
  have hb4 := hb3.trans (Below.mono hr hs3)
  clear hb hb3 hs3 X XS hq hr h1
  go_wp2
  go_ret2
  exact ⟨rfl, hb4⟩
theorem asked_not (g : Nat) (A : Acc) (x y : Int) (su ma : Bool) (f : Value) (w : World) (h : AW w g A) (hc : A.c ≠ 0) (E : Int) (hE : (if mayB A.c A.sl x y && su then 0 else 2) = E) (hn : (mayB A.c A.sl x y && su && ma) = false) :
    Calls Tryz.prog 142 #[.pointer (some ⟨g, 0, none⟩), .agg #[.int .i64 x, .int .i64 y], .bool su, .bool ma, f] w fun e w' => e = .returned (.tuple #[.bool false, .int .i64 E]) ∧ Below w.heap.size w w' := by
  subst hE
  cases hm : mayB A.c A.sl x y <;> cases su
  · exact asked_ff g A x y _ f w h hc hm
  · exact asked_ft g A x y _ f w h hc hm
  · exact asked_tf g A x y _ f w h hc hm
  · cases ma
    · exact asked_tt g A x y f w h hc hm
    · rw [hm] at hn; cases hn
set_option maxRecDepth 100000 in
set_option maxHeartbeats 1000000 in
theorem asked_prom (g : Nat) (A : Acc) (x y : Int) (su ma : Bool) (q1 q2 q3 : Value) (w : World) (h : AW w g A) (hc : A.c ≠ 0) (hm : mayB A.c A.sl x y = true) (hs : su = true) (ha : ma = true) (D : World → Prop)
    (hdo : ∀ W, Below w.heap.size w W → Calls Tryz.prog 144 #[q1, q2, q3] W fun e w' => e = .returned (.tuple #[]) ∧ D w') :
    Calls Tryz.prog 142 #[.pointer (some ⟨g, 0, none⟩), .agg #[.int .i64 x, .int .i64 y], .bool su, .bool ma, .func (.func 144) #[] #[q1, q2, q3]] w fun e w' => e = .returned (.tuple #[.bool true, .int .i64 0]) ∧ D w' := by
  subst hs ha
  have HD := Lib.hid hdo
  clear hdo
  obtain ⟨r, p, ar, ap, k, m, n, s, c, sl⟩ := A
  simp only at hc hm
  go_enter Tryz.func142, Tryz.ntmps142
  go_upto_region 1 with fail
  have X := Blk.newV (W := w) rfl 23 #[.int .i64 x, .int .i64 y]
  have hb := (Below.refl w.heap.size w).alloc (Nat.le_refl _) (.cells #[.int .i64 x, .int .i64 y] 23)
  have h1 : Blk (w.alloc (.cells #[.int .i64 x, .int .i64 y] 23)) g 147 _ := h.alloc _
  generalize w.alloc (.cells #[.int .i64 x, .int .i64 y] 23) = W at *
  go_wp2_with fail
  refine (none14_at g c false _ (by simp [hc]) (h1.cell (j := 8) rfl)).mono ?_
  rintro e w2 ⟨rfl, rfl⟩
  go_upto_region 3 with fail
  have xc0 := extA_cell (X.cell (j := 0) rfl)
  have xc1 := extA_cell (X.cell (j := 1) rfl)
  have ac8 := extA_cell (h1.cell (j := 8) rfl)
  have ac9 := extA_cell (h1.cell (j := 9) rfl)
  have HM := Lib.hid hm
  clear hm
  refine wp_region_head (C := ExtA W) 11 (by kernel_rfl) (by decide) (by kernel_rfl) ⟨rfl, rfl, rfl, Nat.le_refl _, fun _ _ => rfl⟩ ?_
  simp only [List.take_succ_cons, List.take_zero]
  repeat
    (first
      | go_big_quiet_skip
      | (go_big_quiet_want
         go_big_quiet_op
         first
           | go_big_quiet_on
           | (apply Exists.intro
              refine ⟨fun w' hC => ?_, ?_⟩
              · (first
                  | with_reducible rfl
                  | (go_at_call 47; refine (may_at _ _ _ _ _ HM.out _).mono ?_; rintro e w2 ⟨rfl, hb9⟩; exact ⟨rfl, extA_then hC hb9⟩)
                  | (go_simp; done)
                  | (go_simp; with_reducible rfl))
              go_big_quiet_on)))
  refine wpQuiet_nil ?_
  intro wq hq
  clear xc0 xc1 ac8 ac9
  change wpAny _ _ _ _ (3 + 1) _ _ _
  refine wpAny_ready (rs := [11]) (by kernel_rfl) (by simp) ?_
  refine AllReady.cons rfl (fun K hK => ?_) AllReady.nil
  go_simp
  have XS := Blk.newV (W := wq) rfl 4 #[.bool true, .bool true]
  have hb3 := (hb.trans (Below.mono hq hb.size)).alloc (by have := hb.size; have := Below.size hq; omega) (.cells #[.bool true, .bool true] 4)
  have hs3 := hb3.size
  generalize wq.alloc (.cells #[.bool true, .bool true] 4) = W2 at *
  refine hK _ _ ?_
  clear hK K
  refine wp_rest_quiet (ExtA W2) 12 _ rfl rfl (by kernel_rfl) (by kernel_rfl) (Below.refl _ _) ?_
  simp only [List.drop_succ_cons, List.drop_zero]
  repeat
    (first
      | go_big_quiet_skip
      | (go_big_quiet_want
         go_big_quiet_op
         first
           | go_big_quiet_on
           | (apply Exists.intro
              refine ⟨fun w' hC => ?_, ?_⟩
              · (first
                  | with_reducible rfl
                  | (go_at_call 102; refine (allA_any _ [true, true] 2 rfl (by omega) _ (XS.step hC)).mono ?_; rintro e w2 ⟨rfl, rfl⟩; exact ⟨rfl, hC⟩)
                  | (go_simp; done)
                  | (go_simp; with_reducible rfl))
              go_big_quiet_on)))
  refine wpQuiet_nil ?_
  intro wr hr
  have hb4 := hb3.trans (Below.mono hr hs3)
  clear hb hb3 hs3 X XS hq hr h1
  go_wp2_with fail
  refine (HD.out _ hb4).mono ?_
  rintro e w5 ⟨rfl, hD⟩
  go_wp2
  go_ret2
  exact ⟨rfl, hD⟩
set_option maxRecDepth 100000 in
set_option maxHeartbeats 1000000 in
theorem asked_acc (g : Nat) (A : Acc) (x y : Int) (su ma : Bool) (q1 q2 q3 : Value) (w : World) (h : AW w g A) (hc : A.c ≠ 0) (hm : mayB A.c A.sl x y = true) (hs : su = true) (ha : ma = true) (D : World → Prop)
    (hdo : ∀ W, Below w.heap.size w W → Calls Tryz.prog 146 #[q1, q2, q3] W fun e w' => e = .returned (.tuple #[]) ∧ D w') :
    Calls Tryz.prog 142 #[.pointer (some ⟨g, 0, none⟩), .agg #[.int .i64 x, .int .i64 y], .bool su, .bool ma, .func (.func 146) #[] #[q1, q2, q3]] w fun e w' => e = .returned (.tuple #[.bool true, .int .i64 0]) ∧ D w' := by
  subst hs ha
  have HD := Lib.hid hdo
  clear hdo
  obtain ⟨r, p, ar, ap, k, m, n, s, c, sl⟩ := A
  simp only at hc hm
  go_enter Tryz.func142, Tryz.ntmps142
  go_upto_region 1 with fail
  have X := Blk.newV (W := w) rfl 23 #[.int .i64 x, .int .i64 y]
  have hb := (Below.refl w.heap.size w).alloc (Nat.le_refl _) (.cells #[.int .i64 x, .int .i64 y] 23)
  have h1 : Blk (w.alloc (.cells #[.int .i64 x, .int .i64 y] 23)) g 147 _ := h.alloc _
  generalize w.alloc (.cells #[.int .i64 x, .int .i64 y] 23) = W at *
  go_wp2_with fail
  refine (none14_at g c false _ (by simp [hc]) (h1.cell (j := 8) rfl)).mono ?_
  rintro e w2 ⟨rfl, rfl⟩
  go_upto_region 3 with fail
  have xc0 := extA_cell (X.cell (j := 0) rfl)
  have xc1 := extA_cell (X.cell (j := 1) rfl)
  have ac8 := extA_cell (h1.cell (j := 8) rfl)
  have ac9 := extA_cell (h1.cell (j := 9) rfl)
  have HM := Lib.hid hm
  clear hm
  refine wp_region_head (C := ExtA W) 11 (by kernel_rfl) (by decide) (by kernel_rfl) ⟨rfl, rfl, rfl, Nat.le_refl _, fun _ _ => rfl⟩ ?_
  simp only [List.take_succ_cons, List.take_zero]
  repeat
    (first
      | go_big_quiet_skip
      | (go_big_quiet_want
         go_big_quiet_op
         first
           | go_big_quiet_on
           | (apply Exists.intro
              refine ⟨fun w' hC => ?_, ?_⟩
              · (first
                  | with_reducible rfl
                  | (go_at_call 47; refine (may_at _ _ _ _ _ HM.out _).mono ?_; rintro e w2 ⟨rfl, hb9⟩; exact ⟨rfl, extA_then hC hb9⟩)
                  | (go_simp; done)
                  | (go_simp; with_reducible rfl))
              go_big_quiet_on)))
  refine wpQuiet_nil ?_
  intro wq hq
  clear xc0 xc1 ac8 ac9
  change wpAny _ _ _ _ (3 + 1) _ _ _
  refine wpAny_ready (rs := [11]) (by kernel_rfl) (by simp) ?_
  refine AllReady.cons rfl (fun K hK => ?_) AllReady.nil
  go_simp
  have XS := Blk.newV (W := wq) rfl 4 #[.bool true, .bool true]
  have hb3 := (hb.trans (Below.mono hq hb.size)).alloc (by have := hb.size; have := Below.size hq; omega) (.cells #[.bool true, .bool true] 4)
  have hs3 := hb3.size
  generalize wq.alloc (.cells #[.bool true, .bool true] 4) = W2 at *
  refine hK _ _ ?_
  clear hK K
  refine wp_rest_quiet (ExtA W2) 12 _ rfl rfl (by kernel_rfl) (by kernel_rfl) (Below.refl _ _) ?_
  simp only [List.drop_succ_cons, List.drop_zero]
  repeat
    (first
      | go_big_quiet_skip
      | (go_big_quiet_want
         go_big_quiet_op
         first
           | go_big_quiet_on
           | (apply Exists.intro
              refine ⟨fun w' hC => ?_, ?_⟩
              · (first
                  | with_reducible rfl
                  | (go_at_call 102; refine (allA_any _ [true, true] 2 rfl (by omega) _ (XS.step hC)).mono ?_; rintro e w2 ⟨rfl, rfl⟩; exact ⟨rfl, hC⟩)
                  | (go_simp; done)
                  | (go_simp; with_reducible rfl))
              go_big_quiet_on)))
  refine wpQuiet_nil ?_
  intro wr hr
  have hb4 := hb3.trans (Below.mono hr hs3)
  clear hb hb3 hs3 X XS hq hr h1
  go_wp2_with fail
  refine (HD.out _ hb4).mono ?_
  rintro e w5 ⟨rfl, hD⟩
  go_wp2
  go_ret2
  exact ⟨rfl, hD⟩
end Go.Proofs.YtcahkcbenanfnaaGreatDoor

/- Package acceptor: Promise, Copy, Same; of none. -/
namespace Go.Proofs.YtcahkcbenanfnaaGreatDoor
open Go.RowKit
theorem tri (w : World) (t1 t2 t3 : TypeId) (c1 c2 c3 : Array Value) :
    Blk (((w.alloc (.cells c1 t1)).alloc (.cells c2 t2)).alloc (.cells c3 t3)) w.heap.size t1 c1.toList ∧ Blk (((w.alloc (.cells c1 t1)).alloc (.cells c2 t2)).alloc (.cells c3 t3)) (w.heap.size + 1) t2 c2.toList ∧
    Blk (((w.alloc (.cells c1 t1)).alloc (.cells c2 t2)).alloc (.cells c3 t3)) (w.heap.size + 1 + 1) t3 c3.toList ∧ Below w.heap.size w (((w.alloc (.cells c1 t1)).alloc (.cells c2 t2)).alloc (.cells c3 t3)) ∧
    (((w.alloc (.cells c1 t1)).alloc (.cells c2 t2)).alloc (.cells c3 t3)).heap.size = w.heap.size + 1 + 1 + 1 :=
  have h1 := alloc_size rfl (.cells c1 t1)
  have h2 := alloc_size h1 (.cells c2 t2)
  ⟨((Blk.newV rfl t1 c1).alloc _).alloc _, (Blk.newV h1 t2 c2).alloc _, Blk.newV h2 t3 c3,
    (((Below.refl _ w).alloc (Nat.le_refl _) _).alloc (by omega) _).alloc (by omega) _, alloc_size h2 _⟩
def proE (A : Acc) (x y : Int) : Int := if mayB A.c A.sl x y && decide (0 < x) then 0 else 2
def proB (A : Acc) (x y : Int) : Bool := mayB A.c A.sl x y && decide (0 < x) && decide (0 < cmpI x y A.r A.p)
def proA (A : Acc) (x y : Int) : Acc := if proB A x y then { A with r := x, p := y } else A
def proX (A : Acc) (x y : Int) : Value := if proB A x y then acV A.ar A.ap A.k A.m A.n A.s else acV 0 0 0 0 0 ⟨#[]⟩
def proP (w : World) (g : Nat) (A : Acc) (x y : Int) (e : Ending) (w' : World) : Prop := e = .returned (.tuple #[proX A x y, .bool (proB A x y), .int .i64 (proE A x y)]) ∧ AW w' g (proA A x y) ∧ Kx [g] w w'
theorem below_kx {A W W' : World} {B : Nat} {ws : List Nat} (h : Kx ws A W) (hb : Below B W W') (hB : A.heap.size ≤ B) : Kx ws A W' :=
  ⟨hb.os.trans h.os, hb.tape.trans h.tape, hb.output.trans h.output, Nat.le_trans h.size hb.size, fun k hk hw => (hb.block k (by omega)).trans (h.block k hk hw)⟩
theorem AW.keep6 {W : World} {g b : Nat} {A : Acc} (h : AW W g A) (hne : g ≠ b) (x y z u v t : Value) : AW ((((((W.setCell ⟨b, 0, none⟩ x).setCell ⟨b, 1, none⟩ y).setCell ⟨b, 2, none⟩ z).setCell ⟨b, 3, none⟩ u).setCell ⟨b, 4, none⟩ v).setCell ⟨b, 5, none⟩ t) g A :=
  (((((Blk.other h hne 0 x).other hne 1 y).other hne 2 z).other hne 3 u).other hne 4 v).other hne 5 t
theorem Kx.keep6 {A W : World} {b : Nat} {ws : List Nat} (h : Kx ws A W) (hB : A.heap.size ≤ b) (x y z u v t : Value) : Kx ws A ((((((W.setCell ⟨b, 0, none⟩ x).setCell ⟨b, 1, none⟩ y).setCell ⟨b, 2, none⟩ z).setCell ⟨b, 3, none⟩ u).setCell ⟨b, 4, none⟩ v).setCell ⟨b, 5, none⟩ t) :=
  (((((h.setCell (p := ⟨b, 0, none⟩) (.inr hB) x).setCell (p := ⟨b, 1, none⟩) (.inr hB) y).setCell (p := ⟨b, 2, none⟩) (.inr hB) z).setCell (p := ⟨b, 3, none⟩) (.inr hB) u).setCell (p := ⟨b, 4, none⟩) (.inr hB) v).setCell (p := ⟨b, 5, none⟩) (.inr hB) t
set_option maxRecDepth 100000 in
set_option maxHeartbeats 400000 in
theorem above_no (p : Value) (x y : Int) (w : World) (h : NoP w p) : Calls Tryz.prog 143 #[p, .agg #[.int .i64 x, .int .i64 y]] w fun e w' => e = .returned (.int .i64 0) ∧ Below w.heap.size w w' := by
  go_enter Tryz.func143, Tryz.ntmps143
  have hb := (Below.refl w.heap.size w).alloc (Nat.le_refl _) (.cells #[.int .i64 x, .int .i64 y] 23)
  go_wp2_with fail
  refine (none14_no p _ (h.step hb)).mono ?_
  rintro e w2 ⟨rfl, rfl⟩
  go_wp2
  go_ret
  exact ⟨rfl, hb⟩
set_option maxRecDepth 100000 in
set_option maxHeartbeats 400000 in
theorem promised_no (p : Value) (w : World) (h : NoP w p) : Calls Tryz.prog 117 #[p] w fun e w' => e = .returned (.agg #[.int .i64 0, .int .i64 0]) ∧ Below w.heap.size w w' := by
  go_enter Tryz.func117, Tryz.ntmps117
  go_upto_region 1 with fail
  obtain ⟨B, hB⟩ : ∃ B, w.heap.size = B := ⟨_, rfl⟩
  have X := Blk.newV (W := w) hB 23 #[.int .i64 0, .int .i64 0]
  have hb := (Below.refl w.heap.size w).alloc (Nat.le_refl _) (.cells #[.int .i64 0, .int .i64 0] 23)
  have h1 := h.step hb
  generalize w.alloc (.cells #[.int .i64 0, .int .i64 0] 23) = W at *
  have xc0 := X.cell (j := 0) rfl
  have xc1 := X.cell (j := 1) rfl
  have xf0 := X.frozen 0
  have xf1 := X.frozen 1
  go_wp2_with fail
  refine (none14_no p _ h1).mono ?_
  rintro e w2 ⟨rfl, rfl⟩
  go_wp2
  rw [hB] at hb
  (try simp only [Exit.inBlock, Exit.then])
  refine bodyPost_ret (v := .agg #[.int .i64 0, .int .i64 0]) ?_ rfl ⟨rfl, ?_⟩
  · rw [r_cell1 rfl]
    go_simp
  · (try rw [hB])
    exact below2 hb (Nat.le_refl _) _ _
set_option maxRecDepth 100000 in
set_option maxHeartbeats 1000000 in
theorem promise_yes (g : Nat) (A : Acc) (x y : Int) (w : World) (h : AW w g A) (hc : A.c ≠ 0) (hp : proB A x y = true) :
    Calls Tryz.prog 116 #[.pointer (some ⟨g, 0, none⟩), .agg #[.int .i64 x, .int .i64 y]] w fun e w' =>
      e = .returned (.tuple #[.agg #[.int .i64 A.ar, .int .i64 A.ap, .int .i64 A.k, .int .i64 A.m, .int .i64 A.n, .string A.s], .bool true, .int .i64 0]) ∧ AW w' g { A with r := x, p := y } ∧ Kx [g] w w' := by
  unfold proB at hp
  simp only [Bool.and_eq_true] at hp
  obtain ⟨⟨hm, h0⟩, hl⟩ := hp
  have hlt := h.lt
  have HM := Lib.hid hm
  clear hm
  have H0 := Lib.hid h0
  clear h0
  have HL := Lib.hid hl
  clear hl
  go_enter Tryz.func116, Tryz.ntmps116
  go_upto_region 1 with fail
  obtain ⟨Xa, Xb, Xx, hb, hz⟩ := tri w 79 23 33 #[.pointer (some ⟨g, 0, none⟩)] #[.int .i64 x, .int .i64 y] #[.int .i64 0, .int .i64 0, .int .i64 0, .int .i64 0, .int .i64 0, .string ⟨#[]⟩]
  have h1 := h.step hb
  generalize ((w.alloc (.cells #[.pointer (some ⟨g, 0, none⟩)] 79)).alloc (.cells #[.int .i64 x, .int .i64 y] 23)).alloc (.cells #[.int .i64 0, .int .i64 0, .int .i64 0, .int .i64 0, .int .i64 0, .string ⟨#[]⟩] 33) = W at *
  obtain ⟨B, hB⟩ : ∃ B, w.heap.size = B := ⟨_, rfl⟩
  rw [hB] at Xa Xb Xx hz
  have pc0 := extA_cell (Xa.cell (j := 0) rfl)
  have xc0 := extA_cell (Xb.cell (j := 0) rfl)
  have xc1 := extA_cell (Xb.cell (j := 1) rfl)
  refine wp_region_head (C := ExtA W) 10 (by kernel_rfl) (by decide) (by kernel_rfl) ⟨rfl, rfl, rfl, Nat.le_refl _, fun _ _ => rfl⟩ ?_
  simp only [List.take_succ_cons, List.take_zero]
  repeat
    (first
      | go_big_quiet_skip
      | (go_big_quiet_want
         go_big_quiet_op
         first
           | go_big_quiet_on
           | (apply Exists.intro
              refine ⟨fun w' hC => ?_, ?_⟩
              · (first
                  | with_reducible rfl
                  | (go_at_call 143; refine (above_at g A x y _ (h1.step hC) hc).mono ?_; rintro e w2 ⟨rfl, hb9⟩; exact ⟨rfl, extA_then hC hb9⟩)
                  | (go_simp; done)
                  | (go_simp; with_reducible rfl))
              go_big_quiet_on)))
  refine wpQuiet_nil ?_
  intro wq hq
  clear pc0 xc0 xc1
  have hs := hb.size
  have hsq := Below.size hq
  change wpAny _ _ _ _ (5 + 1) _ _ _
  refine wpAny_ready (rs := [10]) (by kernel_rfl) (by simp) ?_
  refine AllReady.cons rfl (fun K hK => ?_) AllReady.nil
  go_simp
  have cA := asked_prom g A x y _ _ (.pointer (some ⟨B + 1, 0, none⟩)) (.pointer (some ⟨B, 0, none⟩)) (.pointer (some ⟨B + 1 + 1, 0, none⟩)) wq (h1.step hq) hc HM.out H0.out HL.out
    (fun w' => AW w' g { A with r := x, p := y } ∧ Blk w' (B + 1 + 1) 33 [.int .i64 A.ar, .int .i64 A.ap, .int .i64 A.k, .int .i64 A.m, .int .i64 A.n, .string A.s] ∧ Kx [g, B + 1 + 1] wq w')
    (fun W2 h2 => (prom1_any g (B + 1) B (B + 1 + 1) A x y W2 ((h1.step hq).step h2) ((Xb.step hq).step h2) ((Xa.step hq).step h2) ((Xx.step hq).step h2) (by omega)).mono fun e w' ⟨e1, e2, e3, e4⟩ => ⟨e1, e2, e3, (Kx.of_below _ h2 (Nat.le_refl _)).trans e4⟩)
  refine cA.mono ?_
  rintro e w2 ⟨rfl, hA2, hX2, hK2⟩
  have hb1 := hb.trans (Below.mono hq hs)
  have hs1 := hb1.size
  have hK3 : Kx [g] w w2 := (Kx.of_below [g] hb1 (Nat.le_refl _)).out hK2 (by
    intro z hz
    simp only [List.mem_cons, List.mem_nil_iff, or_false] at hz
    rcases hz with rfl | rfl
    · left; simp
    · right; omega)
  clear cA hK2 hb1 Xa Xb Xx h1 hb h
  refine hK _ _ ?_
  clear hK K
  refine wp_rest_quiet (ExtA w2) 11 _ rfl rfl (by kernel_rfl) (by kernel_rfl) (Below.refl _ _) ?_
  simp only [List.drop_succ_cons, List.drop_zero]
  repeat
    (first
      | go_big_quiet_skip
      | (go_big_quiet_want
         go_big_quiet_op
         first
           | go_big_quiet_on
           | (apply Exists.intro
              refine ⟨fun w' hC => ?_, ?_⟩
              · (first
                  | with_reducible rfl
                  | fail
                  | (go_simp; done)
                  | (go_simp; with_reducible rfl))
              go_big_quiet_on)))
  refine wpQuiet_nil ?_
  intro wr hr
  have hA3 := hA2.step hr
  have hX3 := hX2.step hr
  have hK4 := below_kx hK3 hr hK3.size
  clear hA2 hX2 hr hK3
  have xc0 := hX3.cell (j := 0) rfl
  have xc1 := hX3.cell (j := 1) rfl
  have xc2 := hX3.cell (j := 2) rfl
  have xc3 := hX3.cell (j := 3) rfl
  have xc4 := hX3.cell (j := 4) rfl
  have xc5 := hX3.cell (j := 5) rfl
  have xf0 := hX3.frozen 0
  have xf1 := hX3.frozen 1
  have xf2 := hX3.frozen 2
  have xf3 := hX3.frozen 3
  have xf4 := hX3.frozen 4
  have xf5 := hX3.frozen 5
  go_wp2
  (try simp only [Exit.inBlock, Exit.then])
  refine bodyPost_ret (v := .tuple #[.agg #[.int .i64 A.ar, .int .i64 A.ap, .int .i64 A.k, .int .i64 A.m, .int .i64 A.n, .string A.s], .bool true, .int .i64 0]) ?_ rfl ⟨rfl, ?_⟩
  · rw [r_cell1tt rfl]
    go_simp
  · (try rw [hB])
    exact ⟨hA3.keep6 (by omega) _ _ _ _ _ _, hK4.keep6 (by omega) _ _ _ _ _ _⟩
set_option maxRecDepth 100000 in
set_option maxHeartbeats 1000000 in
theorem promise_not (g : Nat) (A : Acc) (x y : Int) (w : World) (h : AW w g A) (hc : A.c ≠ 0) (hp : proB A x y = false) (E : Int) (hE : proE A x y = E) :
    Calls Tryz.prog 116 #[.pointer (some ⟨g, 0, none⟩), .agg #[.int .i64 x, .int .i64 y]] w fun e w' =>
      e = .returned (.tuple #[.agg #[.int .i64 0, .int .i64 0, .int .i64 0, .int .i64 0, .int .i64 0, .string ⟨#[]⟩], .bool false, .int .i64 E]) ∧ Below w.heap.size w w' := by
  unfold proB at hp
  unfold proE at hE
  have HP := Lib.hid hp
  clear hp
  have HE := Lib.hid hE
  clear hE
  go_enter Tryz.func116, Tryz.ntmps116
  go_upto_region 1 with fail
  obtain ⟨Xa, Xb, Xx, hb, hz⟩ := tri w 79 23 33 #[.pointer (some ⟨g, 0, none⟩)] #[.int .i64 x, .int .i64 y] #[.int .i64 0, .int .i64 0, .int .i64 0, .int .i64 0, .int .i64 0, .string ⟨#[]⟩]
  have h1 := h.step hb
  generalize ((w.alloc (.cells #[.pointer (some ⟨g, 0, none⟩)] 79)).alloc (.cells #[.int .i64 x, .int .i64 y] 23)).alloc (.cells #[.int .i64 0, .int .i64 0, .int .i64 0, .int .i64 0, .int .i64 0, .string ⟨#[]⟩] 33) = W at *
  obtain ⟨B, hB⟩ : ∃ B, w.heap.size = B := ⟨_, rfl⟩
  rw [hB] at Xa Xb Xx hz
  have pc0 := extA_cell (Xa.cell (j := 0) rfl)
  have xc0 := extA_cell (Xb.cell (j := 0) rfl)
  have xc1 := extA_cell (Xb.cell (j := 1) rfl)
  refine wp_region_head (C := ExtA W) 10 (by kernel_rfl) (by decide) (by kernel_rfl) ⟨rfl, rfl, rfl, Nat.le_refl _, fun _ _ => rfl⟩ ?_
  simp only [List.take_succ_cons, List.take_zero]
  repeat
    (first
      | go_big_quiet_skip
      | (go_big_quiet_want
         go_big_quiet_op
         first
           | go_big_quiet_on
           | (apply Exists.intro
              refine ⟨fun w' hC => ?_, ?_⟩
              · (first
                  | with_reducible rfl
                  | (go_at_call 143; refine (above_at g A x y _ (h1.step hC) hc).mono ?_; rintro e w2 ⟨rfl, hb9⟩; exact ⟨rfl, extA_then hC hb9⟩)
                  | (go_simp; done)
                  | (go_simp; with_reducible rfl))
              go_big_quiet_on)))
  refine wpQuiet_nil ?_
  intro wq hq
  clear pc0 xc0 xc1
  have hs := hb.size
  change wpAny _ _ _ _ (5 + 1) _ _ _
  refine wpAny_ready (rs := [10]) (by kernel_rfl) (by simp) ?_
  refine AllReady.cons rfl (fun K hK => ?_) AllReady.nil
  go_simp
  have cA := asked_not g A x y (decide (0 < x)) (decide (0 < cmpI x y A.r A.p)) (.func (.func 144) #[] #[.pointer (some ⟨B + 1, 0, none⟩), .pointer (some ⟨B, 0, none⟩), .pointer (some ⟨B + 1 + 1, 0, none⟩)]) wq (h1.step hq) hc E HE.out HP.out
  refine cA.mono ?_
  rintro e w2 ⟨rfl, hb2⟩
  have hb3 := (hb.trans (Below.mono hq hs))
  have hb4 := hb3.trans (hb2.mono hb3.size)
  have X2 := (Xx.step hq).step hb2
  clear cA hb3 Xa Xb Xx h1 h hb2
  have hs4 := hb4.size
  refine hK _ _ ?_
  clear hK K
  refine wp_rest_quiet (ExtA w2) 11 _ rfl rfl (by kernel_rfl) (by kernel_rfl) (Below.refl _ _) ?_
  simp only [List.drop_succ_cons, List.drop_zero]
  repeat
    (first
      | go_big_quiet_skip
      | (go_big_quiet_want
         go_big_quiet_op
         first
           | go_big_quiet_on
           | (apply Exists.intro
              refine ⟨fun w' hC => ?_, ?_⟩
              · (first
                  | with_reducible rfl
                  | fail
                  | (go_simp; done)
                  | (go_simp; with_reducible rfl))
              go_big_quiet_on)))
  refine wpQuiet_nil ?_
  intro wr hr
  have X3 := X2.step hr
  have hb5 := hb4.trans (Below.mono hr hs4)
  rw [hB] at hb5
  have xc0 := X3.cell (j := 0) rfl
  have xc1 := X3.cell (j := 1) rfl
  have xc2 := X3.cell (j := 2) rfl
  have xc3 := X3.cell (j := 3) rfl
  have xc4 := X3.cell (j := 4) rfl
  have xc5 := X3.cell (j := 5) rfl
  have xf0 := X3.frozen 0
  have xf1 := X3.frozen 1
  have xf2 := X3.frozen 2
  have xf3 := X3.frozen 3
  have xf4 := X3.frozen 4
  have xf5 := X3.frozen 5
  go_wp2
  (try simp only [Exit.inBlock, Exit.then])
  refine bodyPost_ret (v := .tuple #[.agg #[.int .i64 0, .int .i64 0, .int .i64 0, .int .i64 0, .int .i64 0, .string ⟨#[]⟩], .bool false, .int .i64 E]) ?_ rfl ⟨rfl, ?_⟩
  · rw [r_cell1tt rfl]
    go_simp
  · (try rw [hB])
    exact below6 (b := B + 1 + 1) hb5 (by omega) _ _ _ _ _ _
theorem promise_any (g : Nat) (A : Acc) (x y : Int) (w : World) (h : AW w g A) (hc : A.c ≠ 0) :
    Calls Tryz.prog 116 #[.pointer (some ⟨g, 0, none⟩), .agg #[.int .i64 x, .int .i64 y]] w (proP w g A x y) := by
  unfold proP
  cases hp : proB A x y
  · refine (promise_not g A x y w h hc hp _ rfl).mono ?_
    rintro e w' ⟨rfl, hb⟩
    exact ⟨by simp [proX, hp, acV], by simp only [proA, hp]; exact h.step hb, Kx.of_below _ hb (Nat.le_refl _)⟩
  · refine (promise_yes g A x y w h hc hp).mono ?_
    rintro e w' ⟨rfl, h1, h2⟩
    refine ⟨?_, by simp only [proA, hp]; exact h1, h2⟩
    have : proE A x y = 0 := by
      unfold proB at hp; unfold proE
      simp only [Bool.and_eq_true] at hp
      simp [hp.1.1]; simpa using hp.1.2
    rw [this]
    simp [proX, hp, acV]
set_option maxRecDepth 100000 in
set_option maxHeartbeats 1000000 in
theorem promise_no0 (x y : Int) (w : World) (h : NoP w (.pointer none)) :
    Calls Tryz.prog 116 #[.pointer none, .agg #[.int .i64 x, .int .i64 y]] w fun e w' =>
      e = .returned (.tuple #[.agg #[.int .i64 0, .int .i64 0, .int .i64 0, .int .i64 0, .int .i64 0, .string ⟨#[]⟩], .bool false, .int .i64 1]) ∧ Below w.heap.size w w' := by
  go_enter Tryz.func116, Tryz.ntmps116
  go_upto_region 1 with fail
  obtain ⟨Xa, Xb, Xx, hb, hz⟩ := tri w 79 23 33 #[.pointer none] #[.int .i64 x, .int .i64 y] #[.int .i64 0, .int .i64 0, .int .i64 0, .int .i64 0, .int .i64 0, .string ⟨#[]⟩]
  have h1 := h.step hb
  generalize ((w.alloc (.cells #[.pointer none] 79)).alloc (.cells #[.int .i64 x, .int .i64 y] 23)).alloc (.cells #[.int .i64 0, .int .i64 0, .int .i64 0, .int .i64 0, .int .i64 0, .string ⟨#[]⟩] 33) = W at *
  obtain ⟨B, hB⟩ : ∃ B, w.heap.size = B := ⟨_, rfl⟩
  rw [hB] at Xa Xb Xx hz
  have pc0 := extA_cell (Xa.cell (j := 0) rfl)
  have xc0 := extA_cell (Xb.cell (j := 0) rfl)
  have xc1 := extA_cell (Xb.cell (j := 1) rfl)
  refine wp_region_head (C := ExtA W) 10 (by kernel_rfl) (by decide) (by kernel_rfl) ⟨rfl, rfl, rfl, Nat.le_refl _, fun _ _ => rfl⟩ ?_
  simp only [List.take_succ_cons, List.take_zero]
  repeat
    (first
      | go_big_quiet_skip
      | (go_big_quiet_want
         go_big_quiet_op
         first
           | go_big_quiet_on
           | (apply Exists.intro
              refine ⟨fun w' hC => ?_, ?_⟩
              · (first
                  | with_reducible rfl
                  | (go_at_call 143; refine (above_no (.pointer none) x y _ (h1.step hC)).mono ?_; rintro e w2 ⟨rfl, hb9⟩; exact ⟨rfl, extA_then hC hb9⟩)
                  | (go_simp; done)
                  | (go_simp; with_reducible rfl))
              go_big_quiet_on)))
  refine wpQuiet_nil ?_
  intro wq hq
  clear pc0 xc0 xc1
  have hs := hb.size
  change wpAny _ _ _ _ (5 + 1) _ _ _
  refine wpAny_ready (rs := [10]) (by kernel_rfl) (by simp) ?_
  refine AllReady.cons rfl (fun K hK => ?_) AllReady.nil
  go_simp
  have cA := askedN_any (.pointer none) (.func (.func 144) #[] #[.pointer (some ⟨B + 1, 0, none⟩), .pointer (some ⟨B, 0, none⟩), .pointer (some ⟨B + 1 + 1, 0, none⟩)]) x y (decide (0 < x)) false wq (h1.step hq)
  refine cA.mono ?_
  rintro e w2 ⟨rfl, hb2⟩
  have hb3 := (hb.trans (Below.mono hq hs))
  have hb4 := hb3.trans (hb2.mono hb3.size)
  have X2 := (Xx.step hq).step hb2
  clear cA hb3 Xa Xb Xx h1 h hb2
  have hs4 := hb4.size
  refine hK _ _ ?_
  clear hK K
  refine wp_rest_quiet (ExtA w2) 11 _ rfl rfl (by kernel_rfl) (by kernel_rfl) (Below.refl _ _) ?_
  simp only [List.drop_succ_cons, List.drop_zero]
  repeat
    (first
      | go_big_quiet_skip
      | (go_big_quiet_want
         go_big_quiet_op
         first
           | go_big_quiet_on
           | (apply Exists.intro
              refine ⟨fun w' hC => ?_, ?_⟩
              · (first
                  | with_reducible rfl
                  | fail
                  | (go_simp; done)
                  | (go_simp; with_reducible rfl))
              go_big_quiet_on)))
  refine wpQuiet_nil ?_
  intro wr hr
  have X3 := X2.step hr
  have hb5 := hb4.trans (Below.mono hr hs4)
  rw [hB] at hb5
  have xc0 := X3.cell (j := 0) rfl
  have xc1 := X3.cell (j := 1) rfl
  have xc2 := X3.cell (j := 2) rfl
  have xc3 := X3.cell (j := 3) rfl
  have xc4 := X3.cell (j := 4) rfl
  have xc5 := X3.cell (j := 5) rfl
  have xf0 := X3.frozen 0
  have xf1 := X3.frozen 1
  have xf2 := X3.frozen 2
  have xf3 := X3.frozen 3
  have xf4 := X3.frozen 4
  have xf5 := X3.frozen 5
  go_wp2
  (try simp only [Exit.inBlock, Exit.then])
  refine bodyPost_ret (v := .tuple #[.agg #[.int .i64 0, .int .i64 0, .int .i64 0, .int .i64 0, .int .i64 0, .string ⟨#[]⟩], .bool false, .int .i64 1]) ?_ rfl ⟨rfl, ?_⟩
  · rw [r_cell1tt rfl]
    go_simp
  · (try rw [hB])
    exact below6 (b := B + 1 + 1) hb5 (by omega) _ _ _ _ _ _
set_option maxRecDepth 100000 in
set_option maxHeartbeats 1000000 in
theorem promise_no1 (g : Nat) (x y : Int) (w : World) (h : NoP w (.pointer (some ⟨g, 0, none⟩))) :
    Calls Tryz.prog 116 #[.pointer (some ⟨g, 0, none⟩), .agg #[.int .i64 x, .int .i64 y]] w fun e w' =>
      e = .returned (.tuple #[.agg #[.int .i64 0, .int .i64 0, .int .i64 0, .int .i64 0, .int .i64 0, .string ⟨#[]⟩], .bool false, .int .i64 1]) ∧ Below w.heap.size w w' := by
  go_enter Tryz.func116, Tryz.ntmps116
  go_upto_region 1 with fail
  obtain ⟨Xa, Xb, Xx, hb, hz⟩ := tri w 79 23 33 #[.pointer (some ⟨g, 0, none⟩)] #[.int .i64 x, .int .i64 y] #[.int .i64 0, .int .i64 0, .int .i64 0, .int .i64 0, .int .i64 0, .string ⟨#[]⟩]
  have h1 := h.step hb
  generalize ((w.alloc (.cells #[.pointer (some ⟨g, 0, none⟩)] 79)).alloc (.cells #[.int .i64 x, .int .i64 y] 23)).alloc (.cells #[.int .i64 0, .int .i64 0, .int .i64 0, .int .i64 0, .int .i64 0, .string ⟨#[]⟩] 33) = W at *
  obtain ⟨B, hB⟩ : ∃ B, w.heap.size = B := ⟨_, rfl⟩
  rw [hB] at Xa Xb Xx hz
  have pc0 := extA_cell (Xa.cell (j := 0) rfl)
  have xc0 := extA_cell (Xb.cell (j := 0) rfl)
  have xc1 := extA_cell (Xb.cell (j := 1) rfl)
  refine wp_region_head (C := ExtA W) 10 (by kernel_rfl) (by decide) (by kernel_rfl) ⟨rfl, rfl, rfl, Nat.le_refl _, fun _ _ => rfl⟩ ?_
  simp only [List.take_succ_cons, List.take_zero]
  repeat
    (first
      | go_big_quiet_skip
      | (go_big_quiet_want
         go_big_quiet_op
         first
           | go_big_quiet_on
           | (apply Exists.intro
              refine ⟨fun w' hC => ?_, ?_⟩
              · (first
                  | with_reducible rfl
                  | (go_at_call 143; refine (above_no (.pointer (some ⟨g, 0, none⟩)) x y _ (h1.step hC)).mono ?_; rintro e w2 ⟨rfl, hb9⟩; exact ⟨rfl, extA_then hC hb9⟩)
                  | (go_simp; done)
                  | (go_simp; with_reducible rfl))
              go_big_quiet_on)))
  refine wpQuiet_nil ?_
  intro wq hq
  clear pc0 xc0 xc1
  have hs := hb.size
  change wpAny _ _ _ _ (5 + 1) _ _ _
  refine wpAny_ready (rs := [10]) (by kernel_rfl) (by simp) ?_
  refine AllReady.cons rfl (fun K hK => ?_) AllReady.nil
  go_simp
  have cA := askedN_any (.pointer (some ⟨g, 0, none⟩)) (.func (.func 144) #[] #[.pointer (some ⟨B + 1, 0, none⟩), .pointer (some ⟨B, 0, none⟩), .pointer (some ⟨B + 1 + 1, 0, none⟩)]) x y (decide (0 < x)) false wq (h1.step hq)
  refine cA.mono ?_
  rintro e w2 ⟨rfl, hb2⟩
  have hb3 := (hb.trans (Below.mono hq hs))
  have hb4 := hb3.trans (hb2.mono hb3.size)
  have X2 := (Xx.step hq).step hb2
  clear cA hb3 Xa Xb Xx h1 h hb2
  have hs4 := hb4.size
  refine hK _ _ ?_
  clear hK K
  refine wp_rest_quiet (ExtA w2) 11 _ rfl rfl (by kernel_rfl) (by kernel_rfl) (Below.refl _ _) ?_
  simp only [List.drop_succ_cons, List.drop_zero]
  repeat
    (first
      | go_big_quiet_skip
      | (go_big_quiet_want
         go_big_quiet_op
         first
           | go_big_quiet_on
           | (apply Exists.intro
              refine ⟨fun w' hC => ?_, ?_⟩
              · (first
                  | with_reducible rfl
                  | fail
                  | (go_simp; done)
                  | (go_simp; with_reducible rfl))
              go_big_quiet_on)))
  refine wpQuiet_nil ?_
  intro wr hr
  have X3 := X2.step hr
  have hb5 := hb4.trans (Below.mono hr hs4)
  rw [hB] at hb5
  have xc0 := X3.cell (j := 0) rfl
  have xc1 := X3.cell (j := 1) rfl
  have xc2 := X3.cell (j := 2) rfl
  have xc3 := X3.cell (j := 3) rfl
  have xc4 := X3.cell (j := 4) rfl
  have xc5 := X3.cell (j := 5) rfl
  have xf0 := X3.frozen 0
  have xf1 := X3.frozen 1
  have xf2 := X3.frozen 2
  have xf3 := X3.frozen 3
  have xf4 := X3.frozen 4
  have xf5 := X3.frozen 5
  go_wp2
  (try simp only [Exit.inBlock, Exit.then])
  refine bodyPost_ret (v := .tuple #[.agg #[.int .i64 0, .int .i64 0, .int .i64 0, .int .i64 0, .int .i64 0, .string ⟨#[]⟩], .bool false, .int .i64 1]) ?_ rfl ⟨rfl, ?_⟩
  · rw [r_cell1tt rfl]
    go_simp
  · (try rw [hB])
    exact below6 (b := B + 1 + 1) hb5 (by omega) _ _ _ _ _ _
theorem promise_no (p : Value) (x y : Int) (w : World) (h : NoP w p) :
    Calls Tryz.prog 116 #[p, .agg #[.int .i64 x, .int .i64 y]] w fun e w' =>
      e = .returned (.tuple #[.agg #[.int .i64 0, .int .i64 0, .int .i64 0, .int .i64 0, .int .i64 0, .string ⟨#[]⟩], .bool false, .int .i64 1]) ∧ Below w.heap.size w w' := by
  have h2 := h
  rcases h with rfl | ⟨g, rfl, hc⟩
  · exact promise_no0 x y w h2
  · exact promise_no1 g x y w h2
end Go.Proofs.YtcahkcbenanfnaaGreatDoor

/- The document's acceptor: New, Promise, Accept. -/
namespace Go.Proofs.YtcahkcbenanfnaaGreatDoor
open Go.RowKit
def first14 (c sl : Int) : Acc := ⟨0, ownerI c sl, -1, 0, 0, 0, 0, ⟨#[]⟩, c, sl⟩
def refL (A : Acc) : List Value := [.int .i64 A.c, .int .i64 A.sl, .int .i64 A.r, .int .i64 A.p, .int .i64 A.ar, .int .i64 A.ap, .int .i64 A.k, .int .i64 A.m, .int .i64 A.n, .string A.s]
def refV (A : Acc) : Value := .agg #[.int .i64 A.c, .int .i64 A.sl, .int .i64 A.r, .int .i64 A.p, .int .i64 A.ar, .int .i64 A.ap, .int .i64 A.k, .int .i64 A.m, .int .i64 A.n, .string A.s]
def zA : Acc := ⟨0, 0, 0, 0, 0, 0, 0, ⟨#[]⟩, 0, 0⟩
theorem own_mod {c sl : Int} (h : opErr c sl = 0) : ownerI c sl = sl % c ∧ 3 ≤ c ∧ c ≤ 9 ∧ 0 ≤ sl ∧ sl ≤ 4095 ∧ rightB c = true ∧ slotB sl = true := by
  rcases opErr_cases c sl with ⟨-, h1, h2⟩ | ⟨h1, -⟩
  · have := right_bd h1
    have := slot_bd h2
    exact ⟨by unfold ownerI ofI; simp [h1, h2], by omega, by omega, by omega, by omega, h1, h2⟩
  · exact absurd h h1
theorem less_gt (x y r p : Int) : lessB r p x y = decide (0 < cmpI x y r p) := by
  rcases less_cmp x y r p with ⟨h1, h2⟩ | ⟨h1, h2, h3⟩ | ⟨h1, h2, h3⟩
  · rw [h2]
    rcases less_cmp r p x y with ⟨g1, g2⟩ | ⟨g1, g2, g3⟩ | ⟨g1, g2, g3⟩
    · unfold lessB at h1 g1; simp at h1 g1; omega
    · rw [g1]; rfl
    · rw [g1]; rfl
  · rw [h2, h3]; rfl
  · rw [h2, h3]; rfl
theorem less_ge (x y r p : Int) : lessB x y r p = !decide (0 ≤ cmpI x y r p) := by
  rcases less_cmp x y r p with ⟨h1, h2⟩ | ⟨h1, h2, h3⟩ | ⟨h1, h2, h3⟩
  · rw [h1, h2]; rfl
  · rw [h1, h3]; rfl
  · rw [h1, h3]; rfl
theorem none14ref_any (w : World) : Calls Tryz.prog 109 #[] w fun e w' => e = .returned (.agg #[.int .i64 (-1), .int .i64 0]) ∧ Below w.heap.size w w' := by
  go_enter Tryz.func109, Tryz.ntmps109
  go_wp2
  go_returns
  exact ⟨rfl, by go_grown⟩
theorem quad (w : World) (t1 t2 t3 t4 : TypeId) (c1 c2 c3 c4 : Array Value) :
    Blk ((((w.alloc (.cells c1 t1)).alloc (.cells c2 t2)).alloc (.cells c3 t3)).alloc (.cells c4 t4)) w.heap.size t1 c1.toList ∧ Blk ((((w.alloc (.cells c1 t1)).alloc (.cells c2 t2)).alloc (.cells c3 t3)).alloc (.cells c4 t4)) (w.heap.size + 1) t2 c2.toList ∧
    Blk ((((w.alloc (.cells c1 t1)).alloc (.cells c2 t2)).alloc (.cells c3 t3)).alloc (.cells c4 t4)) (w.heap.size + 1 + 1) t3 c3.toList ∧ Blk ((((w.alloc (.cells c1 t1)).alloc (.cells c2 t2)).alloc (.cells c3 t3)).alloc (.cells c4 t4)) (w.heap.size + 1 + 1 + 1) t4 c4.toList ∧
    Below w.heap.size w ((((w.alloc (.cells c1 t1)).alloc (.cells c2 t2)).alloc (.cells c3 t3)).alloc (.cells c4 t4)) ∧
    ((((w.alloc (.cells c1 t1)).alloc (.cells c2 t2)).alloc (.cells c3 t3)).alloc (.cells c4 t4)).heap.size = w.heap.size + 1 + 1 + 1 + 1 :=
  have h := tri w t1 t2 t3 c1 c2 c3
  ⟨h.1.alloc _, h.2.1.alloc _, h.2.2.1.alloc _, Blk.newV h.2.2.2.2 t4 c4, h.2.2.2.1.alloc (by rw [h.2.2.2.2]; omega) _, alloc_size h.2.2.2.2 _⟩
end Go.Proofs.YtcahkcbenanfnaaGreatDoor
