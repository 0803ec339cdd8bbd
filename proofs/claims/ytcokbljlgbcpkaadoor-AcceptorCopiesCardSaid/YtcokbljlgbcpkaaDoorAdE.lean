
/- Package acceptor: Promise, Copy, Same; of none. -/
import Derived.Test.YtcokbljlgbcpkaaDoorAdD
namespace Go.Proofs.YtcokbljlgbcpkaaDoor
open Go.RowKit
theorem tri (w : World) (t1 t2 t3 : TypeId) (c1 c2 c3 : Array Value) :
    Blk (((w.alloc (.cells c1 t1)).alloc (.cells c2 t2)).alloc (.cells c3 t3)) w.heap.size t1 c1.toList ∧ Blk (((w.alloc (.cells c1 t1)).alloc (.cells c2 t2)).alloc (.cells c3 t3)) (w.heap.size + 1) t2 c2.toList ∧
    Blk (((w.alloc (.cells c1 t1)).alloc (.cells c2 t2)).alloc (.cells c3 t3)) (w.heap.size + 1 + 1) t3 c3.toList ∧ Below w.heap.size w (((w.alloc (.cells c1 t1)).alloc (.cells c2 t2)).alloc (.cells c3 t3)) ∧
    (((w.alloc (.cells c1 t1)).alloc (.cells c2 t2)).alloc (.cells c3 t3)).heap.size = w.heap.size + 1 + 1 + 1 :=
  have h1 := alloc_size rfl (.cells c1 t1)
  have h2 := alloc_size h1 (.cells c2 t2)
  ⟨((Blk.newV rfl t1 c1).alloc _).alloc _, (Blk.newV h1 t2 c2).alloc _, Blk.newV h2 t3 c3,
    (((Below.refl _ w).alloc (Nat.le_refl _) _).alloc (by omega) _).alloc (by omega) _, alloc_size h2 _⟩
def proE (A : Acc) (x y : Int) : Int := if mayB A.c A.sl x y && decide (0 < x) then 0 else 2
def proB (A : Acc) (x y : Int) : Bool := mayB A.c A.sl x y && decide (0 < x) && decide (0 < cmpI x y A.r A.p)
def proA (A : Acc) (x y : Int) : Acc := if proB A x y then { A with r := x, p := y } else A
def proX (A : Acc) (x y : Int) : Value := if proB A x y then acV A.ar A.ap A.k A.m A.n A.s else acV 0 0 0 0 0 ⟨#[]⟩
def proP (w : World) (g : Nat) (A : Acc) (x y : Int) (e : Ending) (w' : World) : Prop := e = .returned (.tuple #[proX A x y, .bool (proB A x y), .int .i64 (proE A x y)]) ∧ AW w' g (proA A x y) ∧ Kx [g] w w'
theorem below_kx {A W W' : World} {B : Nat} {ws : List Nat} (h : Kx ws A W) (hb : Below B W W') (hB : A.heap.size ≤ B) : Kx ws A W' :=
  ⟨hb.os.trans h.os, hb.tape.trans h.tape, hb.output.trans h.output, Nat.le_trans h.size hb.size, fun k hk hw => (hb.block k (by omega)).trans (h.block k hk hw)⟩
theorem AW.keep6 {W : World} {g b : Nat} {A : Acc} (h : AW W g A) (hne : g ≠ b) (x y z u v t : Value) : AW ((((((W.setCell ⟨b, 0, none⟩ x).setCell ⟨b, 1, none⟩ y).setCell ⟨b, 2, none⟩ z).setCell ⟨b, 3, none⟩ u).setCell ⟨b, 4, none⟩ v).setCell ⟨b, 5, none⟩ t) g A :=
  (((((Blk.other h hne 0 x).other hne 1 y).other hne 2 z).other hne 3 u).other hne 4 v).other hne 5 t
theorem Kx.keep6 {A W : World} {b : Nat} {ws : List Nat} (h : Kx ws A W) (hB : A.heap.size ≤ b) (x y z u v t : Value) : Kx ws A ((((((W.setCell ⟨b, 0, none⟩ x).setCell ⟨b, 1, none⟩ y).setCell ⟨b, 2, none⟩ z).setCell ⟨b, 3, none⟩ u).setCell ⟨b, 4, none⟩ v).setCell ⟨b, 5, none⟩ t) :=
  (((((h.setCell (p := ⟨b, 0, none⟩) (.inr hB) x).setCell (p := ⟨b, 1, none⟩) (.inr hB) y).setCell (p := ⟨b, 2, none⟩) (.inr hB) z).setCell (p := ⟨b, 3, none⟩) (.inr hB) u).setCell (p := ⟨b, 4, none⟩) (.inr hB) v).setCell (p := ⟨b, 5, none⟩) (.inr hB) t
set_option maxRecDepth 100000 in
set_option maxHeartbeats 400000 in
theorem above_no (p : Value) (x y : Int) (w : World) (h : NoP w p) : Calls Tryd.prog 37 #[p, .agg #[.int .i64 x, .int .i64 y]] w fun e w' => e = .returned (.int .i64 0) ∧ Below w.heap.size w w' := by
  go_enter Tryd.func37, Tryd.ntmps37
  have hb := (Below.refl w.heap.size w).alloc (Nat.le_refl _) (.cells #[.int .i64 x, .int .i64 y] 36)
  go_wp2_with fail
  refine (none14_no p _ (h.step hb)).mono ?_
  rintro e w2 ⟨rfl, rfl⟩
  go_wp2
  go_ret
  exact ⟨rfl, hb⟩
set_option maxRecDepth 100000 in
set_option maxHeartbeats 400000 in
theorem promised_no (p : Value) (w : World) (h : NoP w p) : Calls Tryd.prog 15 #[p] w fun e w' => e = .returned (.agg #[.int .i64 0, .int .i64 0]) ∧ Below w.heap.size w w' := by
  go_enter Tryd.func15, Tryd.ntmps15
  go_upto_region 1 with fail
  obtain ⟨B, hB⟩ : ∃ B, w.heap.size = B := ⟨_, rfl⟩
  have X := Blk.newV (W := w) hB 36 #[.int .i64 0, .int .i64 0]
  have hb := (Below.refl w.heap.size w).alloc (Nat.le_refl _) (.cells #[.int .i64 0, .int .i64 0] 36)
  have h1 := h.step hb
  generalize w.alloc (.cells #[.int .i64 0, .int .i64 0] 36) = W at *
  have xc0 := X.cell (j := 0) rfl
  have xc1 := X.cell (j := 1) rfl
  have xf0 := X.frozen 0
  have xf1 := X.frozen 1
  go_wp2_with fail
  refine (none14_no p _ h1).mono ?_
  rintro e w2 ⟨rfl, rfl⟩
  go_wp2
  rw [hB] at hb
  (try simp only [Exit.inBlock, Exit.then])
  refine bodyPost_ret (v := .agg #[.int .i64 0, .int .i64 0]) ?_ rfl ⟨rfl, ?_⟩
  · rw [r_cell1 rfl]
    go_simp
  · (try rw [hB])
    exact below2 hb (Nat.le_refl _) _ _
set_option maxRecDepth 100000 in
set_option maxHeartbeats 400000 in
theorem accepted_no (p : Value) (w : World) (h : NoP w p) : Calls Tryd.prog 16 #[p] w fun e w' => e = .returned (.tuple #[.agg #[.int .i64 0, .int .i64 0, .int .i64 0, .int .i64 0, .int .i64 0, .string ⟨#[]⟩], .bool false]) ∧ Below w.heap.size w w' := by
  go_enter Tryd.func16, Tryd.ntmps16
  go_upto_region 1 with fail
  obtain ⟨B, hB⟩ : ∃ B, w.heap.size = B := ⟨_, rfl⟩
  have X := Blk.newV (W := w) hB 39 #[.int .i64 0, .int .i64 0, .int .i64 0, .int .i64 0, .int .i64 0, .string ⟨#[]⟩]
  have hb := (Below.refl w.heap.size w).alloc (Nat.le_refl _) (.cells #[.int .i64 0, .int .i64 0, .int .i64 0, .int .i64 0, .int .i64 0, .string ⟨#[]⟩] 39)
  have h1 := h.step hb
  generalize w.alloc (.cells #[.int .i64 0, .int .i64 0, .int .i64 0, .int .i64 0, .int .i64 0, .string ⟨#[]⟩] 39) = W at *
  have cN := fun W' (hx : ExtA W W') => none14_no p W' (h1.step hx)
  refine wp_region_extB (by kernel_rfl) (by kernel_rfl) ?_
  repeat
    (first
      | go_big_quiet_skip
      | (go_big_quiet_want
         go_big_quiet_op
         first
           | go_big_quiet_on
           | (apply Exists.intro
              refine ⟨fun w' hC => ?_, ?_⟩
              · (first
                  | with_reducible rfl
                  | (go_at_call 35; refine (cN _ hC).mono ?_; rintro e w2 ⟨rfl, rfl⟩; exact ⟨rfl, hC⟩)
                  | (go_simp; done)
                  | (go_simp; with_reducible rfl))
              go_big_quiet_on)))
  refine wpQuiet_nil ?_
  intro wq hq
  have hb2 := hb.trans (Below.mono hq hb.size)
  have X2 := X.step hq
  clear cN X h1 hq
  have xc0 := X2.cell (j := 0) rfl
  have xc1 := X2.cell (j := 1) rfl
  have xc2 := X2.cell (j := 2) rfl
  have xc3 := X2.cell (j := 3) rfl
  have xc4 := X2.cell (j := 4) rfl
  have xc5 := X2.cell (j := 5) rfl
  have xf0 := X2.frozen 0
  have xf1 := X2.frozen 1
  have xf2 := X2.frozen 2
  have xf3 := X2.frozen 3
  have xf4 := X2.frozen 4
  have xf5 := X2.frozen 5
  go_wp2
  rw [hB] at hb2
  (try simp only [Exit.inBlock, Exit.then])
  refine bodyPost_ret (v := .tuple #[.agg #[.int .i64 0, .int .i64 0, .int .i64 0, .int .i64 0, .int .i64 0, .string ⟨#[]⟩], .bool false]) ?_ rfl ⟨rfl, ?_⟩
  · rw [r_cell1t rfl]
    go_simp
  · (try rw [hB])
    exact below6 hb2 (Nat.le_refl _) _ _ _ _ _ _
set_option maxRecDepth 100000 in
set_option maxHeartbeats 400000 in
theorem copy_no (p : Value) (w : World) (h : NoP w p) : Calls Tryd.prog 21 #[p] w fun e w' => e = .returned (.pointer none) ∧ w = w' := by
  go_enter Tryd.func21, Tryd.ntmps21
  go_wp2_with fail
  refine (none14_no p _ h).mono ?_
  rintro e w2 ⟨rfl, rfl⟩
  go_wp2
  go_ret
  exact ⟨rfl, rfl⟩
set_option maxRecDepth 100000 in
set_option maxHeartbeats 400000 in
theorem copy14_any (g : Nat) (A : Acc) (w : World) (h : AW w g A) (hc : A.c ≠ 0) : Calls Tryd.prog 21 #[.pointer (some ⟨g, 0, none⟩)] w fun e w' => (∃ o, e = .returned (.pointer (some ⟨o, 0, none⟩)) ∧ AW w' o A ∧ w.heap.size ≤ o) ∧ Below w.heap.size w w' := by
  obtain ⟨r, p, ar, ap, k, m, n, s, c, sl⟩ := A
  simp only at hc
  have hc0 := h.cell (j := 0) rfl
  have hc1 := h.cell (j := 1) rfl
  have hc2 := h.cell (j := 2) rfl
  have hc3 := h.cell (j := 3) rfl
  have hc4 := h.cell (j := 4) rfl
  have hc5 := h.cell (j := 5) rfl
  have hc6 := h.cell (j := 6) rfl
  have hc7 := h.cell (j := 7) rfl
  have hc8 := h.cell (j := 8) rfl
  have hc9 := h.cell (j := 9) rfl
  go_enter Tryd.func21, Tryd.ntmps21
  go_wp2_with fail
  refine (none14_at g c false _ (by simp [hc]) hc8).mono ?_
  rintro e w2 ⟨rfl, rfl⟩
  go_wp2
  go_ret
  refine ⟨⟨_, rfl, Blk.newV rfl _ _, Nat.le_refl _⟩, (Below.refl _ _).alloc (Nat.le_refl _) _⟩
set_option maxRecDepth 100000 in
set_option maxHeartbeats 1000000 in
theorem promise_yes (g : Nat) (A : Acc) (x y : Int) (w : World) (h : AW w g A) (hc : A.c ≠ 0) (hp : proB A x y = true) :
    Calls Tryd.prog 17 #[.pointer (some ⟨g, 0, none⟩), .agg #[.int .i64 x, .int .i64 y]] w fun e w' =>
      e = .returned (.tuple #[.agg #[.int .i64 A.ar, .int .i64 A.ap, .int .i64 A.k, .int .i64 A.m, .int .i64 A.n, .string A.s], .bool true, .int .i64 0]) ∧ AW w' g { A with r := x, p := y } ∧ Kx [g] w w' := by
  unfold proB at hp
  simp only [Bool.and_eq_true] at hp
  obtain ⟨⟨hm, h0⟩, hl⟩ := hp
  have hlt := h.lt
  have HM := Lib.hid hm
  clear hm
  have H0 := Lib.hid h0
  clear h0
  have HL := Lib.hid hl
  clear hl
  go_enter Tryd.func17, Tryd.ntmps17
  go_upto_region 1 with fail
  obtain ⟨Xa, Xb, Xx, hb, hz⟩ := tri w 29 36 39 #[.pointer (some ⟨g, 0, none⟩)] #[.int .i64 x, .int .i64 y] #[.int .i64 0, .int .i64 0, .int .i64 0, .int .i64 0, .int .i64 0, .string ⟨#[]⟩]
  have h1 := h.step hb
  generalize ((w.alloc (.cells #[.pointer (some ⟨g, 0, none⟩)] 29)).alloc (.cells #[.int .i64 x, .int .i64 y] 36)).alloc (.cells #[.int .i64 0, .int .i64 0, .int .i64 0, .int .i64 0, .int .i64 0, .string ⟨#[]⟩] 39) = W at *
  obtain ⟨B, hB⟩ : ∃ B, w.heap.size = B := ⟨_, rfl⟩
  rw [hB] at Xa Xb Xx hz
  have pc0 := extA_cell (Xa.cell (j := 0) rfl)
  have xc0 := extA_cell (Xb.cell (j := 0) rfl)
  have xc1 := extA_cell (Xb.cell (j := 1) rfl)
  refine wp_region_head (C := ExtA W) 10 (by kernel_rfl) (by decide) (by kernel_rfl) ⟨rfl, rfl, rfl, Nat.le_refl _, fun _ _ => rfl⟩ ?_
  simp only [List.take_succ_cons, List.take_zero]
  repeat
    (first
      | go_big_quiet_skip
      | (go_big_quiet_want
         go_big_quiet_op
         first
           | go_big_quiet_on
           | (apply Exists.intro
              refine ⟨fun w' hC => ?_, ?_⟩
              · (first
                  | with_reducible rfl
                  | (go_at_call 37; refine (above_at g A x y _ (h1.step hC) hc).mono ?_; rintro e w2 ⟨rfl, hb9⟩; exact ⟨rfl, extA_then hC hb9⟩)
                  | (go_simp; done)
                  | (go_simp; with_reducible rfl))
              go_big_quiet_on)))
  refine wpQuiet_nil ?_
  intro wq hq
  clear pc0 xc0 xc1
  have hs := hb.size
  have hsq := Below.size hq
  change wpAny _ _ _ _ (5 + 1) _ _ _
  refine wpAny_ready (rs := [10]) (by kernel_rfl) (by simp) ?_
  refine AllReady.cons rfl (fun K hK => ?_) AllReady.nil
  go_simp
  have cA := asked_prom g A x y _ _ (.pointer (some ⟨B + 1, 0, none⟩)) (.pointer (some ⟨B, 0, none⟩)) (.pointer (some ⟨B + 1 + 1, 0, none⟩)) wq (h1.step hq) hc HM.out H0.out HL.out
    (fun w' => AW w' g { A with r := x, p := y } ∧ Blk w' (B + 1 + 1) 39 [.int .i64 A.ar, .int .i64 A.ap, .int .i64 A.k, .int .i64 A.m, .int .i64 A.n, .string A.s] ∧ Kx [g, B + 1 + 1] wq w')
    (fun W2 h2 => (prom1_any g (B + 1) B (B + 1 + 1) A x y W2 ((h1.step hq).step h2) ((Xb.step hq).step h2) ((Xa.step hq).step h2) ((Xx.step hq).step h2) (by omega)).mono fun e w' ⟨e1, e2, e3, e4⟩ => ⟨e1, e2, e3, (Kx.of_below _ h2 (Nat.le_refl _)).trans e4⟩)
  refine cA.mono ?_
  rintro e w2 ⟨rfl, hA2, hX2, hK2⟩
  have hb1 := hb.trans (Below.mono hq hs)
  have hs1 := hb1.size
  have hK3 : Kx [g] w w2 := (Kx.of_below [g] hb1 (Nat.le_refl _)).out hK2 (by
    intro z hz
    simp only [List.mem_cons, List.mem_nil_iff, or_false] at hz
    rcases hz with rfl | rfl
    · left; simp
    · right; omega)
  clear cA hK2 hb1 Xa Xb Xx h1 hb h
  refine hK _ _ ?_
  clear hK K
  refine wp_rest_quiet (ExtA w2) 11 _ rfl rfl (by kernel_rfl) (by kernel_rfl) (Below.refl _ _) ?_
  simp only [List.drop_succ_cons, List.drop_zero]
  repeat
    (first
      | go_big_quiet_skip
      | (go_big_quiet_want
         go_big_quiet_op
         first
           | go_big_quiet_on
           | (apply Exists.intro
              refine ⟨fun w' hC => ?_, ?_⟩
              · (first
                  | with_reducible rfl
                  | fail
                  | (go_simp; done)
                  | (go_simp; with_reducible rfl))
              go_big_quiet_on)))
  refine wpQuiet_nil ?_
  intro wr hr
  have hA3 := hA2.step hr
  have hX3 := hX2.step hr
  have hK4 := below_kx hK3 hr hK3.size
  clear hA2 hX2 hr hK3
  have xc0 := hX3.cell (j := 0) rfl
  have xc1 := hX3.cell (j := 1) rfl
  have xc2 := hX3.cell (j := 2) rfl
  have xc3 := hX3.cell (j := 3) rfl
  have xc4 := hX3.cell (j := 4) rfl
  have xc5 := hX3.cell (j := 5) rfl
  have xf0 := hX3.frozen 0
  have xf1 := hX3.frozen 1
  have xf2 := hX3.frozen 2
  have xf3 := hX3.frozen 3
  have xf4 := hX3.frozen 4
  have xf5 := hX3.frozen 5
  go_wp2
  (try simp only [Exit.inBlock, Exit.then])
  refine bodyPost_ret (v := .tuple #[.agg #[.int .i64 A.ar, .int .i64 A.ap, .int .i64 A.k, .int .i64 A.m, .int .i64 A.n, .string A.s], .bool true, .int .i64 0]) ?_ rfl ⟨rfl, ?_⟩
  · rw [r_cell1tt rfl]
    go_simp
  · (try rw [hB])
    exact ⟨hA3.keep6 (by omega) _ _ _ _ _ _, hK4.keep6 (by omega) _ _ _ _ _ _⟩
set_option maxRecDepth 100000 in
set_option maxHeartbeats 1000000 in
theorem promise_not (g : Nat) (A : Acc) (x y : Int) (w : World) (h : AW w g A) (hc : A.c ≠ 0) (hp : proB A x y = false) (E : Int) (hE : proE A x y = E) :
    Calls Tryd.prog 17 #[.pointer (some ⟨g, 0, none⟩), .agg #[.int .i64 x, .int .i64 y]] w fun e w' =>
      e = .returned (.tuple #[.agg #[.int .i64 0, .int .i64 0, .int .i64 0, .int .i64 0, .int .i64 0, .string ⟨#[]⟩], .bool false, .int .i64 E]) ∧ Below w.heap.size w w' := by
  unfold proB at hp
  unfold proE at hE
  have HP := Lib.hid hp
  clear hp
  have HE := Lib.hid hE
  clear hE
  go_enter Tryd.func17, Tryd.ntmps17
  go_upto_region 1 with fail
  obtain ⟨Xa, Xb, Xx, hb, hz⟩ := tri w 29 36 39 #[.pointer (some ⟨g, 0, none⟩)] #[.int .i64 x, .int .i64 y] #[.int .i64 0, .int .i64 0, .int .i64 0, .int .i64 0, .int .i64 0, .string ⟨#[]⟩]
  have h1 := h.step hb
  generalize ((w.alloc (.cells #[.pointer (some ⟨g, 0, none⟩)] 29)).alloc (.cells #[.int .i64 x, .int .i64 y] 36)).alloc (.cells #[.int .i64 0, .int .i64 0, .int .i64 0, .int .i64 0, .int .i64 0, .string ⟨#[]⟩] 39) = W at *
  obtain ⟨B, hB⟩ : ∃ B, w.heap.size = B := ⟨_, rfl⟩
  rw [hB] at Xa Xb Xx hz
  have pc0 := extA_cell (Xa.cell (j := 0) rfl)
  have xc0 := extA_cell (Xb.cell (j := 0) rfl)
  have xc1 := extA_cell (Xb.cell (j := 1) rfl)
  refine wp_region_head (C := ExtA W) 10 (by kernel_rfl) (by decide) (by kernel_rfl) ⟨rfl, rfl, rfl, Nat.le_refl _, fun _ _ => rfl⟩ ?_
  simp only [List.take_succ_cons, List.take_zero]
  repeat
    (first
      | go_big_quiet_skip
      | (go_big_quiet_want
         go_big_quiet_op
         first
           | go_big_quiet_on
           | (apply Exists.intro
              refine ⟨fun w' hC => ?_, ?_⟩
              · (first
                  | with_reducible rfl
                  | (go_at_call 37; refine (above_at g A x y _ (h1.step hC) hc).mono ?_; rintro e w2 ⟨rfl, hb9⟩; exact ⟨rfl, extA_then hC hb9⟩)
                  | (go_simp; done)
                  | (go_simp; with_reducible rfl))
              go_big_quiet_on)))
  refine wpQuiet_nil ?_
  intro wq hq
  clear pc0 xc0 xc1
  have hs := hb.size
  change wpAny _ _ _ _ (5 + 1) _ _ _
  refine wpAny_ready (rs := [10]) (by kernel_rfl) (by simp) ?_
  refine AllReady.cons rfl (fun K hK => ?_) AllReady.nil
  go_simp
  have cA := asked_not g A x y (decide (0 < x)) (decide (0 < cmpI x y A.r A.p)) (.func (.func 38) #[] #[.pointer (some ⟨B + 1, 0, none⟩), .pointer (some ⟨B, 0, none⟩), .pointer (some ⟨B + 1 + 1, 0, none⟩)]) wq (h1.step hq) hc E HE.out HP.out
  refine cA.mono ?_
  rintro e w2 ⟨rfl, hb2⟩
  have hb3 := (hb.trans (Below.mono hq hs))
  have hb4 := hb3.trans (hb2.mono hb3.size)
  have X2 := (Xx.step hq).step hb2
  clear cA hb3 Xa Xb Xx h1 h hb2
  have hs4 := hb4.size
  refine hK _ _ ?_
  clear hK K
  refine wp_rest_quiet (ExtA w2) 11 _ rfl rfl (by kernel_rfl) (by kernel_rfl) (Below.refl _ _) ?_
  simp only [List.drop_succ_cons, List.drop_zero]
  repeat
    (first
      | go_big_quiet_skip
      | (go_big_quiet_want
         go_big_quiet_op
         first
           | go_big_quiet_on
           | (apply Exists.intro
              refine ⟨fun w' hC => ?_, ?_⟩
              · (first
                  | with_reducible rfl
                  | fail
                  | (go_simp; done)
                  | (go_simp; with_reducible rfl))
              go_big_quiet_on)))
  refine wpQuiet_nil ?_
  intro wr hr
  have X3 := X2.step hr
  have hb5 := hb4.trans (Below.mono hr hs4)
  rw [hB] at hb5
  have xc0 := X3.cell (j := 0) rfl
  have xc1 := X3.cell (j := 1) rfl
  have xc2 := X3.cell (j := 2) rfl
  have xc3 := X3.cell (j := 3) rfl
  have xc4 := X3.cell (j := 4) rfl
  have xc5 := X3.cell (j := 5) rfl
  have xf0 := X3.frozen 0
  have xf1 := X3.frozen 1
  have xf2 := X3.frozen 2
  have xf3 := X3.frozen 3
  have xf4 := X3.frozen 4
  have xf5 := X3.frozen 5
  go_wp2
  (try simp only [Exit.inBlock, Exit.then])
  refine bodyPost_ret (v := .tuple #[.agg #[.int .i64 0, .int .i64 0, .int .i64 0, .int .i64 0, .int .i64 0, .string ⟨#[]⟩], .bool false, .int .i64 E]) ?_ rfl ⟨rfl, ?_⟩
  · rw [r_cell1tt rfl]
    go_simp
  · (try rw [hB])
    exact below6 (b := B + 1 + 1) hb5 (by omega) _ _ _ _ _ _
theorem promise_any (g : Nat) (A : Acc) (x y : Int) (w : World) (h : AW w g A) (hc : A.c ≠ 0) :
    Calls Tryd.prog 17 #[.pointer (some ⟨g, 0, none⟩), .agg #[.int .i64 x, .int .i64 y]] w (proP w g A x y) := by
  unfold proP
  cases hp : proB A x y
  · refine (promise_not g A x y w h hc hp _ rfl).mono ?_
    rintro e w' ⟨rfl, hb⟩
    exact ⟨by simp [proX, hp, acV], by simp only [proA, hp]; exact h.step hb, Kx.of_below _ hb (Nat.le_refl _)⟩
  · refine (promise_yes g A x y w h hc hp).mono ?_
    rintro e w' ⟨rfl, h1, h2⟩
    refine ⟨?_, by simp only [proA, hp]; exact h1, h2⟩
    have : proE A x y = 0 := by
      unfold proB at hp; unfold proE
      simp only [Bool.and_eq_true] at hp
      simp [hp.1.1]; simpa using hp.1.2
    rw [this]
    simp [proX, hp, acV]
set_option maxRecDepth 100000 in
set_option maxHeartbeats 1000000 in
theorem promise_no0 (x y : Int) (w : World) (h : NoP w (.pointer none)) :
    Calls Tryd.prog 17 #[.pointer none, .agg #[.int .i64 x, .int .i64 y]] w fun e w' =>
      e = .returned (.tuple #[.agg #[.int .i64 0, .int .i64 0, .int .i64 0, .int .i64 0, .int .i64 0, .string ⟨#[]⟩], .bool false, .int .i64 1]) ∧ Below w.heap.size w w' := by
  go_enter Tryd.func17, Tryd.ntmps17
  go_upto_region 1 with fail
  obtain ⟨Xa, Xb, Xx, hb, hz⟩ := tri w 29 36 39 #[.pointer none] #[.int .i64 x, .int .i64 y] #[.int .i64 0, .int .i64 0, .int .i64 0, .int .i64 0, .int .i64 0, .string ⟨#[]⟩]
  have h1 := h.step hb
  generalize ((w.alloc (.cells #[.pointer none] 29)).alloc (.cells #[.int .i64 x, .int .i64 y] 36)).alloc (.cells #[.int .i64 0, .int .i64 0, .int .i64 0, .int .i64 0, .int .i64 0, .string ⟨#[]⟩] 39) = W at *
  obtain ⟨B, hB⟩ : ∃ B, w.heap.size = B := ⟨_, rfl⟩
  rw [hB] at Xa Xb Xx hz
  have pc0 := extA_cell (Xa.cell (j := 0) rfl)
  have xc0 := extA_cell (Xb.cell (j := 0) rfl)
  have xc1 := extA_cell (Xb.cell (j := 1) rfl)
  refine wp_region_head (C := ExtA W) 10 (by kernel_rfl) (by decide) (by kernel_rfl) ⟨rfl, rfl, rfl, Nat.le_refl _, fun _ _ => rfl⟩ ?_
  simp only [List.take_succ_cons, List.take_zero]
  repeat
    (first
      | go_big_quiet_skip
      | (go_big_quiet_want
         go_big_quiet_op
         first
           | go_big_quiet_on
           | (apply Exists.intro
              refine ⟨fun w' hC => ?_, ?_⟩
              · (first
                  | with_reducible rfl
                  | (go_at_call 37; refine (above_no (.pointer none) x y _ (h1.step hC)).mono ?_; rintro e w2 ⟨rfl, hb9⟩; exact ⟨rfl, extA_then hC hb9⟩)
                  | (go_simp; done)
                  | (go_simp; with_reducible rfl))
              go_big_quiet_on)))
  refine wpQuiet_nil ?_
  intro wq hq
  clear pc0 xc0 xc1
  have hs := hb.size
  change wpAny _ _ _ _ (5 + 1) _ _ _
  refine wpAny_ready (rs := [10]) (by kernel_rfl) (by simp) ?_
  refine AllReady.cons rfl (fun K hK => ?_) AllReady.nil
  go_simp
  have cA := askedN_any (.pointer none) (.func (.func 38) #[] #[.pointer (some ⟨B + 1, 0, none⟩), .pointer (some ⟨B, 0, none⟩), .pointer (some ⟨B + 1 + 1, 0, none⟩)]) x y (decide (0 < x)) false wq (h1.step hq)
  refine cA.mono ?_
  rintro e w2 ⟨rfl, hb2⟩
  have hb3 := (hb.trans (Below.mono hq hs))
  have hb4 := hb3.trans (hb2.mono hb3.size)
  have X2 := (Xx.step hq).step hb2
  clear cA hb3 Xa Xb Xx h1 h hb2
  have hs4 := hb4.size
  refine hK _ _ ?_
  clear hK K
  refine wp_rest_quiet (ExtA w2) 11 _ rfl rfl (by kernel_rfl) (by kernel_rfl) (Below.refl _ _) ?_
  simp only [List.drop_succ_cons, List.drop_zero]
  repeat
    (first
      | go_big_quiet_skip
      | (go_big_quiet_want
         go_big_quiet_op
         first
           | go_big_quiet_on
           | (apply Exists.intro
              refine ⟨fun w' hC => ?_, ?_⟩
              · (first
                  | with_reducible rfl
                  | fail
                  | (go_simp; done)
                  | (go_simp; with_reducible rfl))
              go_big_quiet_on)))
  refine wpQuiet_nil ?_
  intro wr hr
  have X3 := X2.step hr
  have hb5 := hb4.trans (Below.mono hr hs4)
  rw [hB] at hb5
  have xc0 := X3.cell (j := 0) rfl
  have xc1 := X3.cell (j := 1) rfl
  have xc2 := X3.cell (j := 2) rfl
  have xc3 := X3.cell (j := 3) rfl
  have xc4 := X3.cell (j := 4) rfl
  have xc5 := X3.cell (j := 5) rfl
  have xf0 := X3.frozen 0
  have xf1 := X3.frozen 1
  have xf2 := X3.frozen 2
  have xf3 := X3.frozen 3
  have xf4 := X3.frozen 4
  have xf5 := X3.frozen 5
  go_wp2
  (try simp only [Exit.inBlock, Exit.then])
  refine bodyPost_ret (v := .tuple #[.agg #[.int .i64 0, .int .i64 0, .int .i64 0, .int .i64 0, .int .i64 0, .string ⟨#[]⟩], .bool false, .int .i64 1]) ?_ rfl ⟨rfl, ?_⟩
  · rw [r_cell1tt rfl]
    go_simp
  · (try rw [hB])
    exact below6 (b := B + 1 + 1) hb5 (by omega) _ _ _ _ _ _
set_option maxRecDepth 100000 in
set_option maxHeartbeats 1000000 in
theorem promise_no1 (g : Nat) (x y : Int) (w : World) (h : NoP w (.pointer (some ⟨g, 0, none⟩))) :
    Calls Tryd.prog 17 #[.pointer (some ⟨g, 0, none⟩), .agg #[.int .i64 x, .int .i64 y]] w fun e w' =>
      e = .returned (.tuple #[.agg #[.int .i64 0, .int .i64 0, .int .i64 0, .int .i64 0, .int .i64 0, .string ⟨#[]⟩], .bool false, .int .i64 1]) ∧ Below w.heap.size w w' := by
  go_enter Tryd.func17, Tryd.ntmps17
  go_upto_region 1 with fail
  obtain ⟨Xa, Xb, Xx, hb, hz⟩ := tri w 29 36 39 #[.pointer (some ⟨g, 0, none⟩)] #[.int .i64 x, .int .i64 y] #[.int .i64 0, .int .i64 0, .int .i64 0, .int .i64 0, .int .i64 0, .string ⟨#[]⟩]
  have h1 := h.step hb
  generalize ((w.alloc (.cells #[.pointer (some ⟨g, 0, none⟩)] 29)).alloc (.cells #[.int .i64 x, .int .i64 y] 36)).alloc (.cells #[.int .i64 0, .int .i64 0, .int .i64 0, .int .i64 0, .int .i64 0, .string ⟨#[]⟩] 39) = W at *
  obtain ⟨B, hB⟩ : ∃ B, w.heap.size = B := ⟨_, rfl⟩
  rw [hB] at Xa Xb Xx hz
  have pc0 := extA_cell (Xa.cell (j := 0) rfl)
  have xc0 := extA_cell (Xb.cell (j := 0) rfl)
  have xc1 := extA_cell (Xb.cell (j := 1) rfl)
  refine wp_region_head (C := ExtA W) 10 (by kernel_rfl) (by decide) (by kernel_rfl) ⟨rfl, rfl, rfl, Nat.le_refl _, fun _ _ => rfl⟩ ?_
  simp only [List.take_succ_cons, List.take_zero]
  repeat
    (first
      | go_big_quiet_skip
      | (go_big_quiet_want
         go_big_quiet_op
         first
           | go_big_quiet_on
           | (apply Exists.intro
              refine ⟨fun w' hC => ?_, ?_⟩
              · (first
                  | with_reducible rfl
                  | (go_at_call 37; refine (above_no (.pointer (some ⟨g, 0, none⟩)) x y _ (h1.step hC)).mono ?_; rintro e w2 ⟨rfl, hb9⟩; exact ⟨rfl, extA_then hC hb9⟩)
                  | (go_simp; done)
                  | (go_simp; with_reducible rfl))
              go_big_quiet_on)))
  refine wpQuiet_nil ?_
  intro wq hq
  clear pc0 xc0 xc1
  have hs := hb.size
  change wpAny _ _ _ _ (5 + 1) _ _ _
  refine wpAny_ready (rs := [10]) (by kernel_rfl) (by simp) ?_
  refine AllReady.cons rfl (fun K hK => ?_) AllReady.nil
  go_simp
  have cA := askedN_any (.pointer (some ⟨g, 0, none⟩)) (.func (.func 38) #[] #[.pointer (some ⟨B + 1, 0, none⟩), .pointer (some ⟨B, 0, none⟩), .pointer (some ⟨B + 1 + 1, 0, none⟩)]) x y (decide (0 < x)) false wq (h1.step hq)
  refine cA.mono ?_
  rintro e w2 ⟨rfl, hb2⟩
  have hb3 := (hb.trans (Below.mono hq hs))
  have hb4 := hb3.trans (hb2.mono hb3.size)
  have X2 := (Xx.step hq).step hb2
  clear cA hb3 Xa Xb Xx h1 h hb2
  have hs4 := hb4.size
  refine hK _ _ ?_
  clear hK K
  refine wp_rest_quiet (ExtA w2) 11 _ rfl rfl (by kernel_rfl) (by kernel_rfl) (Below.refl _ _) ?_
  simp only [List.drop_succ_cons, List.drop_zero]
  repeat
    (first
      | go_big_quiet_skip
      | (go_big_quiet_want
         go_big_quiet_op
         first
           | go_big_quiet_on
           | (apply Exists.intro
              refine ⟨fun w' hC => ?_, ?_⟩
              · (first
                  | with_reducible rfl
                  | fail
                  | (go_simp; done)
                  | (go_simp; with_reducible rfl))
              go_big_quiet_on)))
  refine wpQuiet_nil ?_
  intro wr hr
  have X3 := X2.step hr
  have hb5 := hb4.trans (Below.mono hr hs4)
  rw [hB] at hb5
  have xc0 := X3.cell (j := 0) rfl
  have xc1 := X3.cell (j := 1) rfl
  have xc2 := X3.cell (j := 2) rfl
  have xc3 := X3.cell (j := 3) rfl
  have xc4 := X3.cell (j := 4) rfl
  have xc5 := X3.cell (j := 5) rfl
  have xf0 := X3.frozen 0
  have xf1 := X3.frozen 1
  have xf2 := X3.frozen 2
  have xf3 := X3.frozen 3
  have xf4 := X3.frozen 4
  have xf5 := X3.frozen 5
  go_wp2
  (try simp only [Exit.inBlock, Exit.then])
  refine bodyPost_ret (v := .tuple #[.agg #[.int .i64 0, .int .i64 0, .int .i64 0, .int .i64 0, .int .i64 0, .string ⟨#[]⟩], .bool false, .int .i64 1]) ?_ rfl ⟨rfl, ?_⟩
  · rw [r_cell1tt rfl]
    go_simp
  · (try rw [hB])
    exact below6 (b := B + 1 + 1) hb5 (by omega) _ _ _ _ _ _
theorem promise_no (p : Value) (x y : Int) (w : World) (h : NoP w p) :
    Calls Tryd.prog 17 #[p, .agg #[.int .i64 x, .int .i64 y]] w fun e w' =>
      e = .returned (.tuple #[.agg #[.int .i64 0, .int .i64 0, .int .i64 0, .int .i64 0, .int .i64 0, .string ⟨#[]⟩], .bool false, .int .i64 1]) ∧ Below w.heap.size w w' := by
  have h2 := h
  rcases h with rfl | ⟨g, rfl, hc⟩
  · exact promise_no0 x y w h2
  · exact promise_no1 g x y w h2
end Go.Proofs.YtcokbljlgbcpkaaDoor
