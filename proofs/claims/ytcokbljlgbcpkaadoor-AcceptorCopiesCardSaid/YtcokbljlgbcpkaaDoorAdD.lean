
/- Package acceptor: Accept's closure; asked. -/
import Derived.Test.YtcokbljlgbcpkaaDoorAdC
namespace Go.Proofs.YtcokbljlgbcpkaaDoor
open Go.RowKit
set_option maxRecDepth 100000 in
set_option maxHeartbeats 1000000 in
theorem acc1_any (g b be ba : Nat) (A : Acc) (x y k m n : Int) (s : ByteArray) (w : World) (h : AW w g A) (hb : Blk w b 36 [.int .i64 x, .int .i64 y]) (ha : Blk w ba 29 [.pointer (some ⟨g, 0, none⟩)])
    (he : Blk w be 24 [.int .i64 k, .int .i64 m, .int .i64 n, .string s]) :
    Calls Tryd.prog 39 #[.pointer (some ⟨b, 0, none⟩), .pointer (some ⟨be, 0, none⟩), .pointer (some ⟨ba, 0, none⟩)] w fun e w' => e = .returned (.tuple #[]) ∧
      (AW w' g ⟨x, y, x, y, k, m, n, s, A.c, A.sl⟩ ∧ Kx [g] w w') := by
  obtain ⟨r, p, ar, ap, k0, m0, n0, s0, c, sl⟩ := A
  have cbc0 := hb.cell (j := 0) rfl
  have cbc1 := hb.cell (j := 1) rfl
  have ca0 := ha.cell (j := 0) rfl
  have ec0 := he.cell (j := 0) rfl
  have ec1 := he.cell (j := 1) rfl
  have ec2 := he.cell (j := 2) rfl
  have ec3 := he.cell (j := 3) rfl
  have hc0 := h.cell (j := 0) rfl
  have hc1 := h.cell (j := 1) rfl
  have hc2 := h.cell (j := 2) rfl
  have hc3 := h.cell (j := 3) rfl
  have hc4 := h.cell (j := 4) rfl
  have hc5 := h.cell (j := 5) rfl
  have hc6 := h.cell (j := 6) rfl
  have hc7 := h.cell (j := 7) rfl
  have hc8 := h.cell (j := 8) rfl
  have hc9 := h.cell (j := 9) rfl
  have gf0 := h.frozen 0
  have gf1 := h.frozen 1
  have gf2 := h.frozen 2
  have gf3 := h.frozen 3
  have gf4 := h.frozen 4
  have gf5 := h.frozen 5
  have gf6 := h.frozen 6
  have gf7 := h.frozen 7
  go_enter Tryd.func39, Tryd.ntmps39
  go_wp2
  go_returns
  have hg2 := (((((((h.set 0 (.int .i64 x)).set 1 (.int .i64 y)).set 2 (.int .i64 x)).set 3 (.int .i64 y)).set 4 (.int .i64 k)).set 5 (.int .i64 m)).set 6 (.int .i64 n)).set 7 (.string s)
  have hK := ((((((((Kx.refl [g] w).setCell (p := ⟨g, 0, none⟩) (.inl (by simp)) (.int .i64 x)).setCell (p := ⟨g, 1, none⟩) (.inl (by simp)) (.int .i64 y)).setCell (p := ⟨g, 2, none⟩) (.inl (by simp)) (.int .i64 x)).setCell (p := ⟨g, 3, none⟩) (.inl (by simp)) (.int .i64 y)).setCell (p := ⟨g, 4, none⟩) (.inl (by simp)) (.int .i64 k)).setCell (p := ⟨g, 5, none⟩) (.inl (by simp)) (.int .i64 m)).setCell (p := ⟨g, 6, none⟩) (.inl (by simp)) (.int .i64 n)).setCell (p := ⟨g, 7, none⟩) (.inl (by simp)) (.string s)
  exact ⟨rfl, hg2, hK⟩

set_option maxRecDepth 100000 in
set_option maxHeartbeats 1000000 in
theorem askedN_any (p f : Value) (x y : Int) (su ma : Bool) (w : World) (h : NoP w p) :
    Calls Tryd.prog 36 #[p, .agg #[.int .i64 x, .int .i64 y], .bool su, .bool ma, f] w fun e w' => e = .returned (.tuple #[.bool false, .int .i64 1]) ∧ Below w.heap.size w w' := by
  go_enter Tryd.func36, Tryd.ntmps36
  have hb := (Below.refl w.heap.size w).alloc (Nat.le_refl _) (.cells #[.int .i64 x, .int .i64 y] 36)
  go_wp2_with fail
  refine (none14_no p _ (h.step hb)).mono ?_
  rintro e w2 ⟨rfl, rfl⟩
  go_wp2
  go_ret2
  exact ⟨rfl, hb⟩
set_option maxRecDepth 100000 in
set_option maxHeartbeats 1000000 in
theorem asked_ff (g : Nat) (A : Acc) (x y : Int) (ma : Bool) (f : Value) (w : World) (h : AW w g A) (hc : A.c ≠ 0) (hm : mayB A.c A.sl x y = false) :
    Calls Tryd.prog 36 #[.pointer (some ⟨g, 0, none⟩), .agg #[.int .i64 x, .int .i64 y], .bool false, .bool ma, f] w fun e w' => e = .returned (.tuple #[.bool false, .int .i64 2]) ∧ Below w.heap.size w w' := by
  obtain ⟨r, p, ar, ap, k, m, n, s, c, sl⟩ := A
  simp only at hc hm
  go_enter Tryd.func36, Tryd.ntmps36
  go_upto_region 1 with fail
  have X := Blk.newV (W := w) rfl 36 #[.int .i64 x, .int .i64 y]
  have hb := (Below.refl w.heap.size w).alloc (Nat.le_refl _) (.cells #[.int .i64 x, .int .i64 y] 36)
  have h1 : Blk (w.alloc (.cells #[.int .i64 x, .int .i64 y] 36)) g 57 _ := h.alloc _
  generalize w.alloc (.cells #[.int .i64 x, .int .i64 y] 36) = W at *
  go_wp2_with fail
  refine (none14_at g c false _ (by simp [hc]) (h1.cell (j := 8) rfl)).mono ?_
  rintro e w2 ⟨rfl, rfl⟩
  go_upto_region 3 with fail
  have xc0 := extA_cell (X.cell (j := 0) rfl)
  have xc1 := extA_cell (X.cell (j := 1) rfl)
  have ac8 := extA_cell (h1.cell (j := 8) rfl)
  have ac9 := extA_cell (h1.cell (j := 9) rfl)
  have HM := Lib.hid hm
  clear hm
  refine wp_region_head (C := ExtA W) 11 (by kernel_rfl) (by decide) (by kernel_rfl) ⟨rfl, rfl, rfl, Nat.le_refl _, fun _ _ => rfl⟩ ?_
  simp only [List.take_succ_cons, List.take_zero]
  repeat
    (first
      | go_big_quiet_skip
      | (go_big_quiet_want
         go_big_quiet_op
         first
           | go_big_quiet_on
           | (apply Exists.intro
              refine ⟨fun w' hC => ?_, ?_⟩
              · (first
                  | with_reducible rfl
                  | (go_at_call 48; refine (may_at _ _ _ _ _ HM.out _).mono ?_; rintro e w2 ⟨rfl, hb9⟩; exact ⟨rfl, extA_then hC hb9⟩)
                  | (go_simp; done)
                  | (go_simp; with_reducible rfl))
              go_big_quiet_on)))
  refine wpQuiet_nil ?_
  intro wq hq
  clear xc0 xc1 ac8 ac9
  change wpAny _ _ _ _ (3 + 1) _ _ _
  refine wpAny_ready (rs := [11]) (by kernel_rfl) (by simp) ?_
  refine AllReady.cons rfl (fun K hK => ?_) AllReady.nil
  go_simp
  have XS := Blk.newV (W := wq) rfl 4 #[.bool false, .bool false]
  have hb3 := (hb.trans (Below.mono hq hb.size)).alloc (by have := hb.size; have := Below.size hq; omega) (.cells #[.bool false, .bool false] 4)
  have hs3 := hb3.size
  generalize wq.alloc (.cells #[.bool false, .bool false] 4) = W2 at *
  refine hK _ _ ?_
  clear hK K
  refine wp_rest_quiet (ExtA W2) 12 _ rfl rfl (by kernel_rfl) (by kernel_rfl) (Below.refl _ _) ?_
  simp only [List.drop_succ_cons, List.drop_zero]
  repeat
    (first
      | go_big_quiet_skip
      | (go_big_quiet_want
         go_big_quiet_op
         first
           | go_big_quiet_on
           | (apply Exists.intro
              refine ⟨fun w' hC => ?_, ?_⟩
              · (first
                  | with_reducible rfl
                  | (go_at_call 28; refine (allA_any _ [false, false] 2 rfl (by omega) _ (XS.step hC)).mono ?_; rintro e w2 ⟨rfl, rfl⟩; exact ⟨rfl, hC⟩)
                  | (go_simp; done)
                  | (go_simp; with_reducible rfl))
              go_big_quiet_on)))
  refine wpQuiet_nil ?_
  intro wr hr
  have hb4 := hb3.trans (Below.mono hr hs3)
  clear hb hb3 hs3 X XS hq hr h1
  go_wp2
  go_ret2
  exact ⟨rfl, hb4⟩
set_option maxRecDepth 100000 in
set_option maxHeartbeats 1000000 in
theorem asked_ft (g : Nat) (A : Acc) (x y : Int) (ma : Bool) (f : Value) (w : World) (h : AW w g A) (hc : A.c ≠ 0) (hm : mayB A.c A.sl x y = false) :
    Calls Tryd.prog 36 #[.pointer (some ⟨g, 0, none⟩), .agg #[.int .i64 x, .int .i64 y], .bool true, .bool ma, f] w fun e w' => e = .returned (.tuple #[.bool false, .int .i64 2]) ∧ Below w.heap.size w w' := by
  obtain ⟨r, p, ar, ap, k, m, n, s, c, sl⟩ := A
  simp only at hc hm
  go_enter Tryd.func36, Tryd.ntmps36
  go_upto_region 1 with fail
  have X := Blk.newV (W := w) rfl 36 #[.int .i64 x, .int .i64 y]
  have hb := (Below.refl w.heap.size w).alloc (Nat.le_refl _) (.cells #[.int .i64 x, .int .i64 y] 36)
  have h1 : Blk (w.alloc (.cells #[.int .i64 x, .int .i64 y] 36)) g 57 _ := h.alloc _
  generalize w.alloc (.cells #[.int .i64 x, .int .i64 y] 36) = W at *
  go_wp2_with fail
  refine (none14_at g c false _ (by simp [hc]) (h1.cell (j := 8) rfl)).mono ?_
  rintro e w2 ⟨rfl, rfl⟩
  go_upto_region 3 with fail
  have xc0 := extA_cell (X.cell (j := 0) rfl)
  have xc1 := extA_cell (X.cell (j := 1) rfl)
  have ac8 := extA_cell (h1.cell (j := 8) rfl)
  have ac9 := extA_cell (h1.cell (j := 9) rfl)
  have HM := Lib.hid hm
  clear hm
  refine wp_region_head (C := ExtA W) 11 (by kernel_rfl) (by decide) (by kernel_rfl) ⟨rfl, rfl, rfl, Nat.le_refl _, fun _ _ => rfl⟩ ?_
  simp only [List.take_succ_cons, List.take_zero]
  repeat
    (first
      | go_big_quiet_skip
      | (go_big_quiet_want
         go_big_quiet_op
         first
           | go_big_quiet_on
           | (apply Exists.intro
              refine ⟨fun w' hC => ?_, ?_⟩
              · (first
                  | with_reducible rfl
                  | (go_at_call 48; refine (may_at _ _ _ _ _ HM.out _).mono ?_; rintro e w2 ⟨rfl, hb9⟩; exact ⟨rfl, extA_then hC hb9⟩)
                  | (go_simp; done)
                  | (go_simp; with_reducible rfl))
              go_big_quiet_on)))
  refine wpQuiet_nil ?_
  intro wq hq
  clear xc0 xc1 ac8 ac9
  change wpAny _ _ _ _ (3 + 1) _ _ _
  refine wpAny_ready (rs := [11]) (by kernel_rfl) (by simp) ?_
  refine AllReady.cons rfl (fun K hK => ?_) AllReady.nil
  go_simp
  have XS := Blk.newV (W := wq) rfl 4 #[.bool false, .bool true]
  have hb3 := (hb.trans (Below.mono hq hb.size)).alloc (by have := hb.size; have := Below.size hq; omega) (.cells #[.bool false, .bool true] 4)
  have hs3 := hb3.size
  generalize wq.alloc (.cells #[.bool false, .bool true] 4) = W2 at *
  refine hK _ _ ?_
  clear hK K
  refine wp_rest_quiet (ExtA W2) 12 _ rfl rfl (by kernel_rfl) (by kernel_rfl) (Below.refl _ _) ?_
  simp only [List.drop_succ_cons, List.drop_zero]
  repeat
    (first
      | go_big_quiet_skip
      | (go_big_quiet_want
         go_big_quiet_op
         first
           | go_big_quiet_on
           | (apply Exists.intro
              refine ⟨fun w' hC => ?_, ?_⟩
              · (first
                  | with_reducible rfl
                  | (go_at_call 28; refine (allA_any _ [false, true] 2 rfl (by omega) _ (XS.step hC)).mono ?_; rintro e w2 ⟨rfl, rfl⟩; exact ⟨rfl, hC⟩)
                  | (go_simp; done)
                  | (go_simp; with_reducible rfl))
              go_big_quiet_on)))
  refine wpQuiet_nil ?_
  intro wr hr
  have hb4 := hb3.trans (Below.mono hr hs3)
  clear hb hb3 hs3 X XS hq hr h1
  go_wp2
  go_ret2
  exact ⟨rfl, hb4⟩
set_option maxRecDepth 100000 in
set_option maxHeartbeats 1000000 in
theorem asked_tf (g : Nat) (A : Acc) (x y : Int) (ma : Bool) (f : Value) (w : World) (h : AW w g A) (hc : A.c ≠ 0) (hm : mayB A.c A.sl x y = true) :
    Calls Tryd.prog 36 #[.pointer (some ⟨g, 0, none⟩), .agg #[.int .i64 x, .int .i64 y], .bool false, .bool ma, f] w fun e w' => e = .returned (.tuple #[.bool false, .int .i64 2]) ∧ Below w.heap.size w w' := by
  obtain ⟨r, p, ar, ap, k, m, n, s, c, sl⟩ := A
  simp only at hc hm
  go_enter Tryd.func36, Tryd.ntmps36
  go_upto_region 1 with fail
  have X := Blk.newV (W := w) rfl 36 #[.int .i64 x, .int .i64 y]
  have hb := (Below.refl w.heap.size w).alloc (Nat.le_refl _) (.cells #[.int .i64 x, .int .i64 y] 36)
  have h1 : Blk (w.alloc (.cells #[.int .i64 x, .int .i64 y] 36)) g 57 _ := h.alloc _
  generalize w.alloc (.cells #[.int .i64 x, .int .i64 y] 36) = W at *
  go_wp2_with fail
  refine (none14_at g c false _ (by simp [hc]) (h1.cell (j := 8) rfl)).mono ?_
  rintro e w2 ⟨rfl, rfl⟩
  go_upto_region 3 with fail
  have xc0 := extA_cell (X.cell (j := 0) rfl)
  have xc1 := extA_cell (X.cell (j := 1) rfl)
  have ac8 := extA_cell (h1.cell (j := 8) rfl)
  have ac9 := extA_cell (h1.cell (j := 9) rfl)
  have HM := Lib.hid hm
  clear hm
  refine wp_region_head (C := ExtA W) 11 (by kernel_rfl) (by decide) (by kernel_rfl) ⟨rfl, rfl, rfl, Nat.le_refl _, fun _ _ => rfl⟩ ?_
  simp only [List.take_succ_cons, List.take_zero]
  repeat
    (first
      | go_big_quiet_skip
      | (go_big_quiet_want
         go_big_quiet_op
         first
           | go_big_quiet_on
           | (apply Exists.intro
              refine ⟨fun w' hC => ?_, ?_⟩
              · (first
                  | with_reducible rfl
                  | (go_at_call 48; refine (may_at _ _ _ _ _ HM.out _).mono ?_; rintro e w2 ⟨rfl, hb9⟩; exact ⟨rfl, extA_then hC hb9⟩)
                  | (go_simp; done)
                  | (go_simp; with_reducible rfl))
              go_big_quiet_on)))
  refine wpQuiet_nil ?_
  intro wq hq
  clear xc0 xc1 ac8 ac9
  change wpAny _ _ _ _ (3 + 1) _ _ _
  refine wpAny_ready (rs := [11]) (by kernel_rfl) (by simp) ?_
  refine AllReady.cons rfl (fun K hK => ?_) AllReady.nil
  go_simp
  have XS := Blk.newV (W := wq) rfl 4 #[.bool true, .bool false]
  have hb3 := (hb.trans (Below.mono hq hb.size)).alloc (by have := hb.size; have := Below.size hq; omega) (.cells #[.bool true, .bool false] 4)
  have hs3 := hb3.size
  generalize wq.alloc (.cells #[.bool true, .bool false] 4) = W2 at *
  refine hK _ _ ?_
  clear hK K
  refine wp_rest_quiet (ExtA W2) 12 _ rfl rfl (by kernel_rfl) (by kernel_rfl) (Below.refl _ _) ?_
  simp only [List.drop_succ_cons, List.drop_zero]
  repeat
    (first
      | go_big_quiet_skip
      | (go_big_quiet_want
         go_big_quiet_op
         first
           | go_big_quiet_on
           | (apply Exists.intro
              refine ⟨fun w' hC => ?_, ?_⟩
              · (first
                  | with_reducible rfl
                  | (go_at_call 28; refine (allA_any _ [true, false] 2 rfl (by omega) _ (XS.step hC)).mono ?_; rintro e w2 ⟨rfl, rfl⟩; exact ⟨rfl, hC⟩)
                  | (go_simp; done)
                  | (go_simp; with_reducible rfl))
              go_big_quiet_on)))
  refine wpQuiet_nil ?_
  intro wr hr
  have hb4 := hb3.trans (Below.mono hr hs3)
  clear hb hb3 hs3 X XS hq hr h1
  go_wp2
  go_ret2
  exact ⟨rfl, hb4⟩
set_option maxRecDepth 100000 in
set_option maxHeartbeats 1000000 in
theorem asked_tt (g : Nat) (A : Acc) (x y : Int) (f : Value) (w : World) (h : AW w g A) (hc : A.c ≠ 0) (hm : mayB A.c A.sl x y = true) :
    Calls Tryd.prog 36 #[.pointer (some ⟨g, 0, none⟩), .agg #[.int .i64 x, .int .i64 y], .bool true, .bool false, f] w fun e w' => e = .returned (.tuple #[.bool false, .int .i64 0]) ∧ Below w.heap.size w w' := by
  obtain ⟨r, p, ar, ap, k, m, n, s, c, sl⟩ := A
  simp only at hc hm
  go_enter Tryd.func36, Tryd.ntmps36
  go_upto_region 1 with fail
  have X := Blk.newV (W := w) rfl 36 #[.int .i64 x, .int .i64 y]
  have hb := (Below.refl w.heap.size w).alloc (Nat.le_refl _) (.cells #[.int .i64 x, .int .i64 y] 36)
  have h1 : Blk (w.alloc (.cells #[.int .i64 x, .int .i64 y] 36)) g 57 _ := h.alloc _
  generalize w.alloc (.cells #[.int .i64 x, .int .i64 y] 36) = W at *
  go_wp2_with fail
  refine (none14_at g c false _ (by simp [hc]) (h1.cell (j := 8) rfl)).mono ?_
  rintro e w2 ⟨rfl, rfl⟩
  go_upto_region 3 with fail
  have xc0 := extA_cell (X.cell (j := 0) rfl)
  have xc1 := extA_cell (X.cell (j := 1) rfl)
  have ac8 := extA_cell (h1.cell (j := 8) rfl)
  have ac9 := extA_cell (h1.cell (j := 9) rfl)
  have HM := Lib.hid hm
  clear hm
  refine wp_region_head (C := ExtA W) 11 (by kernel_rfl) (by decide) (by kernel_rfl) ⟨rfl, rfl, rfl, Nat.le_refl _, fun _ _ => rfl⟩ ?_
  simp only [List.take_succ_cons, List.take_zero]
  repeat
    (first
      | go_big_quiet_skip
      | (go_big_quiet_want
         go_big_quiet_op
         first
           | go_big_quiet_on
           | (apply Exists.intro
              refine ⟨fun w' hC => ?_, ?_⟩
              · (first
                  | with_reducible rfl
                  | (go_at_call 48; refine (may_at _ _ _ _ _ HM.out _).mono ?_; rintro e w2 ⟨rfl, hb9⟩; exact ⟨rfl, extA_then hC hb9⟩)
                  | (go_simp; done)
                  | (go_simp; with_reducible rfl))
              go_big_quiet_on)))
  refine wpQuiet_nil ?_
  intro wq hq
  clear xc0 xc1 ac8 ac9
  change wpAny _ _ _ _ (3 + 1) _ _ _
  refine wpAny_ready (rs := [11]) (by kernel_rfl) (by simp) ?_
  refine AllReady.cons rfl (fun K hK => ?_) AllReady.nil
  go_simp
  have XS := Blk.newV (W := wq) rfl 4 #[.bool true, .bool true]
  have hb3 := (hb.trans (Below.mono hq hb.size)).alloc (by have := hb.size; have := Below.size hq; omega) (.cells #[.bool true, .bool true] 4)
  have hs3 := hb3.size
  generalize wq.alloc (.cells #[.bool true, .bool true] 4) = W2 at *
  refine hK _ _ ?_
  clear hK K
  refine wp_rest_quiet (ExtA W2) 12 _ rfl rfl (by kernel_rfl) (by kernel_rfl) (Below.refl _ _) ?_
  simp only [List.drop_succ_cons, List.drop_zero]
  repeat
    (first
      | go_big_quiet_skip
      | (go_big_quiet_want
         go_big_quiet_op
         first
           | go_big_quiet_on
           | (apply Exists.intro
              refine ⟨fun w' hC => ?_, ?_⟩
              · (first
                  | with_reducible rfl
                  | (go_at_call 28; refine (allA_any _ [true, true] 2 rfl (by omega) _ (XS.step hC)).mono ?_; rintro e w2 ⟨rfl, rfl⟩; exact ⟨rfl, hC⟩)
                  | (go_simp; done)
                  | (go_simp; with_reducible rfl))
              go_big_quiet_on)))
  refine wpQuiet_nil ?_
  intro wr hr
  have hb4 := hb3.trans (Below.mono hr hs3)
  clear hb hb3 hs3 X XS hq hr h1
  go_wp2
  go_ret2
  exact ⟨rfl, hb4⟩
theorem asked_not (g : Nat) (A : Acc) (x y : Int) (su ma : Bool) (f : Value) (w : World) (h : AW w g A) (hc : A.c ≠ 0) (E : Int) (hE : (if mayB A.c A.sl x y && su then 0 else 2) = E) (hn : (mayB A.c A.sl x y && su && ma) = false) :
    Calls Tryd.prog 36 #[.pointer (some ⟨g, 0, none⟩), .agg #[.int .i64 x, .int .i64 y], .bool su, .bool ma, f] w fun e w' => e = .returned (.tuple #[.bool false, .int .i64 E]) ∧ Below w.heap.size w w' := by
  subst hE
  cases hm : mayB A.c A.sl x y <;> cases su
  · exact asked_ff g A x y _ f w h hc hm
  · exact asked_ft g A x y _ f w h hc hm
  · exact asked_tf g A x y _ f w h hc hm
  · cases ma
    · exact asked_tt g A x y f w h hc hm
    · rw [hm] at hn; cases hn
set_option maxRecDepth 100000 in
set_option maxHeartbeats 1000000 in
theorem asked_prom (g : Nat) (A : Acc) (x y : Int) (su ma : Bool) (q1 q2 q3 : Value) (w : World) (h : AW w g A) (hc : A.c ≠ 0) (hm : mayB A.c A.sl x y = true) (hs : su = true) (ha : ma = true) (D : World → Prop)
    (hdo : ∀ W, Below w.heap.size w W → Calls Tryd.prog 38 #[q1, q2, q3] W fun e w' => e = .returned (.tuple #[]) ∧ D w') :
    Calls Tryd.prog 36 #[.pointer (some ⟨g, 0, none⟩), .agg #[.int .i64 x, .int .i64 y], .bool su, .bool ma, .func (.func 38) #[] #[q1, q2, q3]] w fun e w' => e = .returned (.tuple #[.bool true, .int .i64 0]) ∧ D w' := by
  subst hs ha
  have HD := Lib.hid hdo
  clear hdo
  obtain ⟨r, p, ar, ap, k, m, n, s, c, sl⟩ := A
  simp only at hc hm
  go_enter Tryd.func36, Tryd.ntmps36
  go_upto_region 1 with fail
  have X := Blk.newV (W := w) rfl 36 #[.int .i64 x, .int .i64 y]
  have hb := (Below.refl w.heap.size w).alloc (Nat.le_refl _) (.cells #[.int .i64 x, .int .i64 y] 36)
  have h1 : Blk (w.alloc (.cells #[.int .i64 x, .int .i64 y] 36)) g 57 _ := h.alloc _
  generalize w.alloc (.cells #[.int .i64 x, .int .i64 y] 36) = W at *
  go_wp2_with fail
  refine (none14_at g c false _ (by simp [hc]) (h1.cell (j := 8) rfl)).mono ?_
  rintro e w2 ⟨rfl, rfl⟩
  go_upto_region 3 with fail
  have xc0 := extA_cell (X.cell (j := 0) rfl)
  have xc1 := extA_cell (X.cell (j := 1) rfl)
  have ac8 := extA_cell (h1.cell (j := 8) rfl)
  have ac9 := extA_cell (h1.cell (j := 9) rfl)
  have HM := Lib.hid hm
  clear hm
  refine wp_region_head (C := ExtA W) 11 (by kernel_rfl) (by decide) (by kernel_rfl) ⟨rfl, rfl, rfl, Nat.le_refl _, fun _ _ => rfl⟩ ?_
  simp only [List.take_succ_cons, List.take_zero]
  repeat
    (first
      | go_big_quiet_skip
      | (go_big_quiet_want
         go_big_quiet_op
         first
           | go_big_quiet_on
           | (apply Exists.intro
              refine ⟨fun w' hC => ?_, ?_⟩
              · (first
                  | with_reducible rfl
                  | (go_at_call 48; refine (may_at _ _ _ _ _ HM.out _).mono ?_; rintro e w2 ⟨rfl, hb9⟩; exact ⟨rfl, extA_then hC hb9⟩)
                  | (go_simp; done)
                  | (go_simp; with_reducible rfl))
              go_big_quiet_on)))
  refine wpQuiet_nil ?_
  intro wq hq
  clear xc0 xc1 ac8 ac9
  change wpAny _ _ _ _ (3 + 1) _ _ _
  refine wpAny_ready (rs := [11]) (by kernel_rfl) (by simp) ?_
  refine AllReady.cons rfl (fun K hK => ?_) AllReady.nil
  go_simp
  have XS := Blk.newV (W := wq) rfl 4 #[.bool true, .bool true]
  have hb3 := (hb.trans (Below.mono hq hb.size)).alloc (by have := hb.size; have := Below.size hq; omega) (.cells #[.bool true, .bool true] 4)
  have hs3 := hb3.size
  generalize wq.alloc (.cells #[.bool true, .bool true] 4) = W2 at *
  refine hK _ _ ?_
  clear hK K
  refine wp_rest_quiet (ExtA W2) 12 _ rfl rfl (by kernel_rfl) (by kernel_rfl) (Below.refl _ _) ?_
  simp only [List.drop_succ_cons, List.drop_zero]
  repeat
    (first
      | go_big_quiet_skip
      | (go_big_quiet_want
         go_big_quiet_op
         first
           | go_big_quiet_on
           | (apply Exists.intro
              refine ⟨fun w' hC => ?_, ?_⟩
              · (first
                  | with_reducible rfl
                  | (go_at_call 28; refine (allA_any _ [true, true] 2 rfl (by omega) _ (XS.step hC)).mono ?_; rintro e w2 ⟨rfl, rfl⟩; exact ⟨rfl, hC⟩)
                  | (go_simp; done)
                  | (go_simp; with_reducible rfl))
              go_big_quiet_on)))
  refine wpQuiet_nil ?_
  intro wr hr
  have hb4 := hb3.trans (Below.mono hr hs3)
  clear hb hb3 hs3 X XS hq hr h1
  go_wp2_with fail
  refine (HD.out _ hb4).mono ?_
  rintro e w5 ⟨rfl, hD⟩
  go_wp2
  go_ret2
  exact ⟨rfl, hD⟩
set_option maxRecDepth 100000 in
set_option maxHeartbeats 1000000 in
theorem asked_acc (g : Nat) (A : Acc) (x y : Int) (su ma : Bool) (q1 q2 q3 : Value) (w : World) (h : AW w g A) (hc : A.c ≠ 0) (hm : mayB A.c A.sl x y = true) (hs : su = true) (ha : ma = true) (D : World → Prop)
    (hdo : ∀ W, Below w.heap.size w W → Calls Tryd.prog 39 #[q1, q2, q3] W fun e w' => e = .returned (.tuple #[]) ∧ D w') :
    Calls Tryd.prog 36 #[.pointer (some ⟨g, 0, none⟩), .agg #[.int .i64 x, .int .i64 y], .bool su, .bool ma, .func (.func 39) #[] #[q1, q2, q3]] w fun e w' => e = .returned (.tuple #[.bool true, .int .i64 0]) ∧ D w' := by
  subst hs ha
  have HD := Lib.hid hdo
  clear hdo
  obtain ⟨r, p, ar, ap, k, m, n, s, c, sl⟩ := A
  simp only at hc hm
  go_enter Tryd.func36, Tryd.ntmps36
  go_upto_region 1 with fail
  have X := Blk.newV (W := w) rfl 36 #[.int .i64 x, .int .i64 y]
  have hb := (Below.refl w.heap.size w).alloc (Nat.le_refl _) (.cells #[.int .i64 x, .int .i64 y] 36)
  have h1 : Blk (w.alloc (.cells #[.int .i64 x, .int .i64 y] 36)) g 57 _ := h.alloc _
  generalize w.alloc (.cells #[.int .i64 x, .int .i64 y] 36) = W at *
  go_wp2_with fail
  refine (none14_at g c false _ (by simp [hc]) (h1.cell (j := 8) rfl)).mono ?_
  rintro e w2 ⟨rfl, rfl⟩
  go_upto_region 3 with fail
  have xc0 := extA_cell (X.cell (j := 0) rfl)
  have xc1 := extA_cell (X.cell (j := 1) rfl)
  have ac8 := extA_cell (h1.cell (j := 8) rfl)
  have ac9 := extA_cell (h1.cell (j := 9) rfl)
  have HM := Lib.hid hm
  clear hm
  refine wp_region_head (C := ExtA W) 11 (by kernel_rfl) (by decide) (by kernel_rfl) ⟨rfl, rfl, rfl, Nat.le_refl _, fun _ _ => rfl⟩ ?_
  simp only [List.take_succ_cons, List.take_zero]
  repeat
    (first
      | go_big_quiet_skip
      | (go_big_quiet_want
         go_big_quiet_op
         first
           | go_big_quiet_on
           | (apply Exists.intro
              refine ⟨fun w' hC => ?_, ?_⟩
              · (first
                  | with_reducible rfl
                  | (go_at_call 48; refine (may_at _ _ _ _ _ HM.out _).mono ?_; rintro e w2 ⟨rfl, hb9⟩; exact ⟨rfl, extA_then hC hb9⟩)
                  | (go_simp; done)
                  | (go_simp; with_reducible rfl))
              go_big_quiet_on)))
  refine wpQuiet_nil ?_
  intro wq hq
  clear xc0 xc1 ac8 ac9
  change wpAny _ _ _ _ (3 + 1) _ _ _
  refine wpAny_ready (rs := [11]) (by kernel_rfl) (by simp) ?_
  refine AllReady.cons rfl (fun K hK => ?_) AllReady.nil
  go_simp
  have XS := Blk.newV (W := wq) rfl 4 #[.bool true, .bool true]
  have hb3 := (hb.trans (Below.mono hq hb.size)).alloc (by have := hb.size; have := Below.size hq; omega) (.cells #[.bool true, .bool true] 4)
  have hs3 := hb3.size
  generalize wq.alloc (.cells #[.bool true, .bool true] 4) = W2 at *
  refine hK _ _ ?_
  clear hK K
  refine wp_rest_quiet (ExtA W2) 12 _ rfl rfl (by kernel_rfl) (by kernel_rfl) (Below.refl _ _) ?_
  simp only [List.drop_succ_cons, List.drop_zero]
  repeat
    (first
      | go_big_quiet_skip
      | (go_big_quiet_want
         go_big_quiet_op
         first
           | go_big_quiet_on
           | (apply Exists.intro
              refine ⟨fun w' hC => ?_, ?_⟩
              · (first
                  | with_reducible rfl
                  | (go_at_call 28; refine (allA_any _ [true, true] 2 rfl (by omega) _ (XS.step hC)).mono ?_; rintro e w2 ⟨rfl, rfl⟩; exact ⟨rfl, hC⟩)
                  | (go_simp; done)
                  | (go_simp; with_reducible rfl))
              go_big_quiet_on)))
  refine wpQuiet_nil ?_
  intro wr hr
  have hb4 := hb3.trans (Below.mono hr hs3)
  clear hb hb3 hs3 X XS hq hr h1
  go_wp2_with fail
  refine (HD.out _ hb4).mono ?_
  rintro e w5 ⟨rfl, hD⟩
  go_wp2
  go_ret2
  exact ⟨rfl, hD⟩
end Go.Proofs.YtcokbljlgbcpkaaDoor
