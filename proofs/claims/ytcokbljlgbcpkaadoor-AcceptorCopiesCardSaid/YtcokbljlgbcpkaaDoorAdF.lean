
/- Package acceptor: Accept, Same. -/
import Derived.Test.YtcokbljlgbcpkaaDoorAdE
import Derived.Test.YtcokbljlgbcpkaaDoorAcC
import Derived.Test.YtcokbljlgbcpkaaDoorEqs
namespace Go.Proofs.YtcokbljlgbcpkaaDoor
open Go.RowKit
theorem sized (n : Nat) (s : ByteArray) (h : s.size ≤ n) (hn : n ≤ 9223372036854775807) : s.size ≤ 9223372036854775807 := Nat.le_trans h hn
def accE (A : Acc) (x y k m n : Int) (s : ByteArray) : Int := if mayB A.c A.sl x y && entB k m n s then 0 else 2
def accB (A : Acc) (x y k m n : Int) (s : ByteArray) : Bool := mayB A.c A.sl x y && entB k m n s && decide (0 ≤ cmpI x y A.r A.p)
def accA (A : Acc) (x y k m n : Int) (s : ByteArray) : Acc := if accB A x y k m n s then ⟨x, y, x, y, k, m, n, s, A.c, A.sl⟩ else A
def accP (w : World) (g : Nat) (A : Acc) (x y k m n : Int) (s : ByteArray) (e : Ending) (w' : World) : Prop :=
  e = .returned (.tuple #[.bool (accB A x y k m n s), .int .i64 (accE A x y k m n s)]) ∧ AW w' g (accA A x y k m n s) ∧ Kx [g] w w'
set_option maxRecDepth 100000 in
set_option maxHeartbeats 1000000 in
theorem accept_yes (g : Nat) (A : Acc) (x y k m n : Int) (s : ByteArray) (w : World) (h : AW w g A) (hc : A.c ≠ 0) (hs : s.size ≤ 9223372036854775807) (hT : Tabs w) (hp : accB A x y k m n s = true) :
    Calls Tryd.prog 18 #[.pointer (some ⟨g, 0, none⟩), .agg #[.int .i64 x, .int .i64 y], .agg #[.int .i64 k, .int .i64 m, .int .i64 n, .string s]] w fun e w' =>
      e = .returned (.tuple #[.bool true, .int .i64 0]) ∧ AW w' g ⟨x, y, x, y, k, m, n, s, A.c, A.sl⟩ ∧ Kx [g] w w' := by
  unfold accB at hp
  simp only [Bool.and_eq_true] at hp
  obtain ⟨⟨hm, h0⟩, hl⟩ := hp
  have hlt := h.lt
  have HM := Lib.hid hm
  clear hm
  have H0 := Lib.hid h0
  clear h0
  have HL := Lib.hid hl
  clear hl
  go_enter Tryd.func18, Tryd.ntmps18
  go_upto_region 1 with fail
  obtain ⟨Xa, Xb, Xe, hb, hz⟩ := tri w 29 36 24 #[.pointer (some ⟨g, 0, none⟩)] #[.int .i64 x, .int .i64 y] #[.int .i64 k, .int .i64 m, .int .i64 n, .string s]
  have h1 := h.step hb
  have hT1 := hT.step hb
  generalize ((w.alloc (.cells #[.pointer (some ⟨g, 0, none⟩)] 29)).alloc (.cells #[.int .i64 x, .int .i64 y] 36)).alloc (.cells #[.int .i64 k, .int .i64 m, .int .i64 n, .string s] 24) = W at *
  obtain ⟨B, hB⟩ : ∃ B, w.heap.size = B := ⟨_, rfl⟩
  rw [hB] at Xa Xb Xe hz
  have pc0 := extA_cell (Xa.cell (j := 0) rfl)
  have xc0 := extA_cell (Xb.cell (j := 0) rfl)
  have xc1 := extA_cell (Xb.cell (j := 1) rfl)
  have ec0 := extA_cell (Xe.cell (j := 0) rfl)
  have ec1 := extA_cell (Xe.cell (j := 1) rfl)
  have ec2 := extA_cell (Xe.cell (j := 2) rfl)
  have ec3 := extA_cell (Xe.cell (j := 3) rfl)
  refine wp_region_head (C := ExtA W) 9 (by kernel_rfl) (by decide) (by kernel_rfl) ⟨rfl, rfl, rfl, Nat.le_refl _, fun _ _ => rfl⟩ ?_
  simp only [List.take_succ_cons, List.take_zero]
  repeat
    (first
      | go_big_quiet_skip
      | (go_big_quiet_want
         go_big_quiet_op
         first
           | go_big_quiet_on
           | (apply Exists.intro
              refine ⟨fun w' hC => ?_, ?_⟩
              · (first
                  | with_reducible rfl
                  | (go_at_call 37; refine (above_at g A x y _ (h1.step hC) hc).mono ?_; rintro e w2 ⟨rfl, hb9⟩; exact ⟨rfl, extA_then hC hb9⟩) | (go_at_call 10; refine (ent_any k m n s _ hs (hT1.step hC)).mono ?_; rintro e w2 ⟨rfl, hb9⟩; exact ⟨rfl, extA_then hC hb9⟩)
                  | (go_simp; done)
                  | (go_simp; with_reducible rfl))
              go_big_quiet_on)))
  refine wpQuiet_nil ?_
  intro wq hq
  clear pc0 xc0 xc1 ec0 ec1 ec2 ec3
  have hsz := hb.size
  have hsq := Below.size hq
  change wpAny _ _ _ _ (4 + 1) _ _ _
  refine wpAny_ready (rs := [9]) (by kernel_rfl) (by simp) ?_
  refine AllReady.cons rfl (fun K hK => ?_) AllReady.nil
  go_simp
  have cA := asked_acc g A x y _ _ (.pointer (some ⟨B + 1, 0, none⟩)) (.pointer (some ⟨B + 1 + 1, 0, none⟩)) (.pointer (some ⟨B, 0, none⟩)) wq (h1.step hq) hc HM.out H0.out HL.out
    (fun w' => AW w' g ⟨x, y, x, y, k, m, n, s, A.c, A.sl⟩ ∧ Kx [g] wq w')
    (fun W2 h2 => (acc1_any g (B + 1) (B + 1 + 1) B A x y k m n s W2 ((h1.step hq).step h2) ((Xb.step hq).step h2) ((Xa.step hq).step h2) ((Xe.step hq).step h2)).mono fun e w' ⟨e1, e2, e4⟩ => ⟨e1, e2, (Kx.of_below _ h2 (Nat.le_refl _)).trans e4⟩)
  refine cA.mono ?_
  rintro e w2 ⟨rfl, hA2, hK2⟩
  have hb1 := hb.trans (Below.mono hq hsz)
  have hK3 : Kx [g] w w2 := (Kx.of_below [g] hb1 (Nat.le_refl _)).trans hK2
  clear cA hK2 hb1 Xa Xb Xe h1 hb h hT hT1
  refine hK _ _ ?_
  clear hK K
  refine wp_rest_quiet (ExtA w2) 10 _ rfl rfl (by kernel_rfl) (by kernel_rfl) (Below.refl _ _) ?_
  simp only [List.drop_succ_cons, List.drop_zero]
  repeat
    (first
      | go_big_quiet_skip
      | (go_big_quiet_want
         go_big_quiet_op
         first
           | go_big_quiet_on
           | (apply Exists.intro
              refine ⟨fun w' hC => ?_, ?_⟩
              · (first
                  | with_reducible rfl
                  | fail
                  | (go_simp; done)
                  | (go_simp; with_reducible rfl))
              go_big_quiet_on)))
  refine wpQuiet_nil ?_
  intro wr hr
  have hA3 := hA2.step hr
  have hK4 := below_kx hK3 hr hK3.size
  clear hA2 hr hK3
  go_wp2
  go_ret2
  exact ⟨rfl, hA3, hK4⟩
set_option maxRecDepth 100000 in
set_option maxHeartbeats 1000000 in
theorem accept_not (g : Nat) (A : Acc) (x y k m n : Int) (s : ByteArray) (w : World) (h : AW w g A) (hc : A.c ≠ 0) (hs : s.size ≤ 9223372036854775807) (hT : Tabs w) (hp : accB A x y k m n s = false) (E : Int) (hE : accE A x y k m n s = E) :
    Calls Tryd.prog 18 #[.pointer (some ⟨g, 0, none⟩), .agg #[.int .i64 x, .int .i64 y], .agg #[.int .i64 k, .int .i64 m, .int .i64 n, .string s]] w fun e w' =>
      e = .returned (.tuple #[.bool false, .int .i64 E]) ∧ Below w.heap.size w w' := by
  unfold accB at hp
  unfold accE at hE
  have HP := Lib.hid hp
  clear hp
  have HE := Lib.hid hE
  clear hE
  go_enter Tryd.func18, Tryd.ntmps18
  go_upto_region 1 with fail
  obtain ⟨Xa, Xb, Xe, hb, hz⟩ := tri w 29 36 24 #[.pointer (some ⟨g, 0, none⟩)] #[.int .i64 x, .int .i64 y] #[.int .i64 k, .int .i64 m, .int .i64 n, .string s]
  have h1 := h.step hb
  have hT1 := hT.step hb
  generalize ((w.alloc (.cells #[.pointer (some ⟨g, 0, none⟩)] 29)).alloc (.cells #[.int .i64 x, .int .i64 y] 36)).alloc (.cells #[.int .i64 k, .int .i64 m, .int .i64 n, .string s] 24) = W at *
  obtain ⟨B, hB⟩ : ∃ B, w.heap.size = B := ⟨_, rfl⟩
  rw [hB] at Xa Xb Xe hz
  have pc0 := extA_cell (Xa.cell (j := 0) rfl)
  have xc0 := extA_cell (Xb.cell (j := 0) rfl)
  have xc1 := extA_cell (Xb.cell (j := 1) rfl)
  have ec0 := extA_cell (Xe.cell (j := 0) rfl)
  have ec1 := extA_cell (Xe.cell (j := 1) rfl)
  have ec2 := extA_cell (Xe.cell (j := 2) rfl)
  have ec3 := extA_cell (Xe.cell (j := 3) rfl)
  refine wp_region_head (C := ExtA W) 9 (by kernel_rfl) (by decide) (by kernel_rfl) ⟨rfl, rfl, rfl, Nat.le_refl _, fun _ _ => rfl⟩ ?_
  simp only [List.take_succ_cons, List.take_zero]
  repeat
    (first
      | go_big_quiet_skip
      | (go_big_quiet_want
         go_big_quiet_op
         first
           | go_big_quiet_on
           | (apply Exists.intro
              refine ⟨fun w' hC => ?_, ?_⟩
              · (first
                  | with_reducible rfl
                  | (go_at_call 37; refine (above_at g A x y _ (h1.step hC) hc).mono ?_; rintro e w2 ⟨rfl, hb9⟩; exact ⟨rfl, extA_then hC hb9⟩) | (go_at_call 10; refine (ent_any k m n s _ hs (hT1.step hC)).mono ?_; rintro e w2 ⟨rfl, hb9⟩; exact ⟨rfl, extA_then hC hb9⟩)
                  | (go_simp; done)
                  | (go_simp; with_reducible rfl))
              go_big_quiet_on)))
  refine wpQuiet_nil ?_
  intro wq hq
  clear pc0 xc0 xc1 ec0 ec1 ec2 ec3
  have hsz := hb.size
  have hsq := Below.size hq
  change wpAny _ _ _ _ (4 + 1) _ _ _
  refine wpAny_ready (rs := [9]) (by kernel_rfl) (by simp) ?_
  refine AllReady.cons rfl (fun K hK => ?_) AllReady.nil
  go_simp
  have cA := asked_not g A x y (entB k m n s) (decide (0 ≤ cmpI x y A.r A.p)) (.func (.func 39) #[] #[.pointer (some ⟨B + 1, 0, none⟩), .pointer (some ⟨B + 1 + 1, 0, none⟩), .pointer (some ⟨B, 0, none⟩)]) wq (h1.step hq) hc E HE.out HP.out
  refine cA.mono ?_
  rintro e w2 ⟨rfl, hb2⟩
  have hb3 := (hb.trans (Below.mono hq hsz))
  have hb4 := hb3.trans (hb2.mono hb3.size)
  clear cA hb3 Xa Xb Xe h1 h hb2 hT hT1
  have hs4 := hb4.size
  refine hK _ _ ?_
  clear hK K
  refine wp_rest_quiet (ExtA w2) 10 _ rfl rfl (by kernel_rfl) (by kernel_rfl) (Below.refl _ _) ?_
  simp only [List.drop_succ_cons, List.drop_zero]
  repeat
    (first
      | go_big_quiet_skip
      | (go_big_quiet_want
         go_big_quiet_op
         first
           | go_big_quiet_on
           | (apply Exists.intro
              refine ⟨fun w' hC => ?_, ?_⟩
              · (first
                  | with_reducible rfl
                  | fail
                  | (go_simp; done)
                  | (go_simp; with_reducible rfl))
              go_big_quiet_on)))
  refine wpQuiet_nil ?_
  intro wr hr
  have hb5 := hb4.trans (Below.mono hr hs4)
  go_wp2
  go_ret2
  exact ⟨rfl, hb5⟩
theorem accept_any (g : Nat) (A : Acc) (x y k m n : Int) (s : ByteArray) (w : World) (h : AW w g A) (hc : A.c ≠ 0) (hs : s.size ≤ 9223372036854775807) (hT : Tabs w) :
    Calls Tryd.prog 18 #[.pointer (some ⟨g, 0, none⟩), .agg #[.int .i64 x, .int .i64 y], .agg #[.int .i64 k, .int .i64 m, .int .i64 n, .string s]] w (accP w g A x y k m n s) := by
  unfold accP
  cases hp : accB A x y k m n s
  · refine (accept_not g A x y k m n s w h hc hs hT hp _ rfl).mono ?_
    rintro e w' ⟨rfl, hb⟩
    exact ⟨rfl, by simp only [accA, hp]; exact h.step hb, Kx.of_below _ hb (Nat.le_refl _)⟩
  · refine (accept_yes g A x y k m n s w h hc hs hT hp).mono ?_
    rintro e w' ⟨rfl, h1, h2⟩
    refine ⟨?_, by simp only [accA, hp]; exact h1, h2⟩
    have : accE A x y k m n s = 0 := by
      unfold accB at hp; unfold accE
      simp only [Bool.and_eq_true] at hp
      simp [hp.1.1, hp.1.2]
    rw [this]
set_option maxRecDepth 100000 in
set_option maxHeartbeats 1000000 in
theorem accept_no0 (x y k m n : Int) (s : ByteArray) (w : World) (h : NoP w (.pointer none)) (hs : s.size ≤ 9223372036854775807) (hT : Tabs w) :
    Calls Tryd.prog 18 #[.pointer none, .agg #[.int .i64 x, .int .i64 y], .agg #[.int .i64 k, .int .i64 m, .int .i64 n, .string s]] w fun e w' =>
      e = .returned (.tuple #[.bool false, .int .i64 1]) ∧ Below w.heap.size w w' := by
  go_enter Tryd.func18, Tryd.ntmps18
  go_upto_region 1 with fail
  obtain ⟨Xa, Xb, Xe, hb, hz⟩ := tri w 29 36 24 #[.pointer none] #[.int .i64 x, .int .i64 y] #[.int .i64 k, .int .i64 m, .int .i64 n, .string s]
  have h1 := h.step hb
  have hT1 := hT.step hb
  generalize ((w.alloc (.cells #[.pointer none] 29)).alloc (.cells #[.int .i64 x, .int .i64 y] 36)).alloc (.cells #[.int .i64 k, .int .i64 m, .int .i64 n, .string s] 24) = W at *
  obtain ⟨B, hB⟩ : ∃ B, w.heap.size = B := ⟨_, rfl⟩
  rw [hB] at Xa Xb Xe hz
  have pc0 := extA_cell (Xa.cell (j := 0) rfl)
  have xc0 := extA_cell (Xb.cell (j := 0) rfl)
  have xc1 := extA_cell (Xb.cell (j := 1) rfl)
  have ec0 := extA_cell (Xe.cell (j := 0) rfl)
  have ec1 := extA_cell (Xe.cell (j := 1) rfl)
  have ec2 := extA_cell (Xe.cell (j := 2) rfl)
  have ec3 := extA_cell (Xe.cell (j := 3) rfl)
  refine wp_region_head (C := ExtA W) 9 (by kernel_rfl) (by decide) (by kernel_rfl) ⟨rfl, rfl, rfl, Nat.le_refl _, fun _ _ => rfl⟩ ?_
  simp only [List.take_succ_cons, List.take_zero]
  repeat
    (first
      | go_big_quiet_skip
      | (go_big_quiet_want
         go_big_quiet_op
         first
           | go_big_quiet_on
           | (apply Exists.intro
              refine ⟨fun w' hC => ?_, ?_⟩
              · (first
                  | with_reducible rfl
                  | (go_at_call 37; refine (above_no (.pointer none) x y _ (h1.step hC)).mono ?_; rintro e w2 ⟨rfl, hb9⟩; exact ⟨rfl, extA_then hC hb9⟩) | (go_at_call 10; refine (ent_any k m n s _ hs (hT1.step hC)).mono ?_; rintro e w2 ⟨rfl, hb9⟩; exact ⟨rfl, extA_then hC hb9⟩)
                  | (go_simp; done)
                  | (go_simp; with_reducible rfl))
              go_big_quiet_on)))
  refine wpQuiet_nil ?_
  intro wq hq
  clear pc0 xc0 xc1 ec0 ec1 ec2 ec3
  have hsz := hb.size
  have hsq := Below.size hq
  change wpAny _ _ _ _ (4 + 1) _ _ _
  refine wpAny_ready (rs := [9]) (by kernel_rfl) (by simp) ?_
  refine AllReady.cons rfl (fun K hK => ?_) AllReady.nil
  go_simp
  have cA := askedN_any (.pointer none) (.func (.func 39) #[] #[.pointer (some ⟨B + 1, 0, none⟩), .pointer (some ⟨B + 1 + 1, 0, none⟩), .pointer (some ⟨B, 0, none⟩)]) x y (entB k m n s) true wq (h1.step hq)
  refine cA.mono ?_
  rintro e w2 ⟨rfl, hb2⟩
  have hb3 := (hb.trans (Below.mono hq hsz))
  have hb4 := hb3.trans (hb2.mono hb3.size)
  clear cA hb3 Xa Xb Xe h1 h hb2 hT hT1
  have hs4 := hb4.size
  refine hK _ _ ?_
  clear hK K
  refine wp_rest_quiet (ExtA w2) 10 _ rfl rfl (by kernel_rfl) (by kernel_rfl) (Below.refl _ _) ?_
  simp only [List.drop_succ_cons, List.drop_zero]
  repeat
    (first
      | go_big_quiet_skip
      | (go_big_quiet_want
         go_big_quiet_op
         first
           | go_big_quiet_on
           | (apply Exists.intro
              refine ⟨fun w' hC => ?_, ?_⟩
              · (first
                  | with_reducible rfl
                  | fail
                  | (go_simp; done)
                  | (go_simp; with_reducible rfl))
              go_big_quiet_on)))
  refine wpQuiet_nil ?_
  intro wr hr
  have hb5 := hb4.trans (Below.mono hr hs4)
  go_wp2
  go_ret2
  exact ⟨rfl, hb5⟩
set_option maxRecDepth 100000 in
set_option maxHeartbeats 1000000 in
theorem accept_no1 (g : Nat) (x y k m n : Int) (s : ByteArray) (w : World) (h : NoP w (.pointer (some ⟨g, 0, none⟩))) (hs : s.size ≤ 9223372036854775807) (hT : Tabs w) :
    Calls Tryd.prog 18 #[.pointer (some ⟨g, 0, none⟩), .agg #[.int .i64 x, .int .i64 y], .agg #[.int .i64 k, .int .i64 m, .int .i64 n, .string s]] w fun e w' =>
      e = .returned (.tuple #[.bool false, .int .i64 1]) ∧ Below w.heap.size w w' := by
  go_enter Tryd.func18, Tryd.ntmps18
  go_upto_region 1 with fail
  obtain ⟨Xa, Xb, Xe, hb, hz⟩ := tri w 29 36 24 #[.pointer (some ⟨g, 0, none⟩)] #[.int .i64 x, .int .i64 y] #[.int .i64 k, .int .i64 m, .int .i64 n, .string s]
  have h1 := h.step hb
  have hT1 := hT.step hb
  generalize ((w.alloc (.cells #[.pointer (some ⟨g, 0, none⟩)] 29)).alloc (.cells #[.int .i64 x, .int .i64 y] 36)).alloc (.cells #[.int .i64 k, .int .i64 m, .int .i64 n, .string s] 24) = W at *
  obtain ⟨B, hB⟩ : ∃ B, w.heap.size = B := ⟨_, rfl⟩
  rw [hB] at Xa Xb Xe hz
  have pc0 := extA_cell (Xa.cell (j := 0) rfl)
  have xc0 := extA_cell (Xb.cell (j := 0) rfl)
  have xc1 := extA_cell (Xb.cell (j := 1) rfl)
  have ec0 := extA_cell (Xe.cell (j := 0) rfl)
  have ec1 := extA_cell (Xe.cell (j := 1) rfl)
  have ec2 := extA_cell (Xe.cell (j := 2) rfl)
  have ec3 := extA_cell (Xe.cell (j := 3) rfl)
  refine wp_region_head (C := ExtA W) 9 (by kernel_rfl) (by decide) (by kernel_rfl) ⟨rfl, rfl, rfl, Nat.le_refl _, fun _ _ => rfl⟩ ?_
  simp only [List.take_succ_cons, List.take_zero]
  repeat
    (first
      | go_big_quiet_skip
      | (go_big_quiet_want
         go_big_quiet_op
         first
           | go_big_quiet_on
           | (apply Exists.intro
              refine ⟨fun w' hC => ?_, ?_⟩
              · (first
                  | with_reducible rfl
                  | (go_at_call 37; refine (above_no (.pointer (some ⟨g, 0, none⟩)) x y _ (h1.step hC)).mono ?_; rintro e w2 ⟨rfl, hb9⟩; exact ⟨rfl, extA_then hC hb9⟩) | (go_at_call 10; refine (ent_any k m n s _ hs (hT1.step hC)).mono ?_; rintro e w2 ⟨rfl, hb9⟩; exact ⟨rfl, extA_then hC hb9⟩)
                  | (go_simp; done)
                  | (go_simp; with_reducible rfl))
              go_big_quiet_on)))
  refine wpQuiet_nil ?_
  intro wq hq
  clear pc0 xc0 xc1 ec0 ec1 ec2 ec3
  have hsz := hb.size
  have hsq := Below.size hq
  change wpAny _ _ _ _ (4 + 1) _ _ _
  refine wpAny_ready (rs := [9]) (by kernel_rfl) (by simp) ?_
  refine AllReady.cons rfl (fun K hK => ?_) AllReady.nil
  go_simp
  have cA := askedN_any (.pointer (some ⟨g, 0, none⟩)) (.func (.func 39) #[] #[.pointer (some ⟨B + 1, 0, none⟩), .pointer (some ⟨B + 1 + 1, 0, none⟩), .pointer (some ⟨B, 0, none⟩)]) x y (entB k m n s) true wq (h1.step hq)
  refine cA.mono ?_
  rintro e w2 ⟨rfl, hb2⟩
  have hb3 := (hb.trans (Below.mono hq hsz))
  have hb4 := hb3.trans (hb2.mono hb3.size)
  clear cA hb3 Xa Xb Xe h1 h hb2 hT hT1
  have hs4 := hb4.size
  refine hK _ _ ?_
  clear hK K
  refine wp_rest_quiet (ExtA w2) 10 _ rfl rfl (by kernel_rfl) (by kernel_rfl) (Below.refl _ _) ?_
  simp only [List.drop_succ_cons, List.drop_zero]
  repeat
    (first
      | go_big_quiet_skip
      | (go_big_quiet_want
         go_big_quiet_op
         first
           | go_big_quiet_on
           | (apply Exists.intro
              refine ⟨fun w' hC => ?_, ?_⟩
              · (first
                  | with_reducible rfl
                  | fail
                  | (go_simp; done)
                  | (go_simp; with_reducible rfl))
              go_big_quiet_on)))
  refine wpQuiet_nil ?_
  intro wr hr
  have hb5 := hb4.trans (Below.mono hr hs4)
  go_wp2
  go_ret2
  exact ⟨rfl, hb5⟩
theorem accept_no (p : Value) (x y k m n : Int) (s : ByteArray) (w : World) (h : NoP w p) (hs : s.size ≤ 9223372036854775807) (hT : Tabs w) :
    Calls Tryd.prog 18 #[p, .agg #[.int .i64 x, .int .i64 y], .agg #[.int .i64 k, .int .i64 m, .int .i64 n, .string s]] w fun e w' =>
      e = .returned (.tuple #[.bool false, .int .i64 1]) ∧ Below w.heap.size w w' := by
  have h2 := h
  rcases h with rfl | ⟨g, rfl, hc⟩
  · exact accept_no0 x y k m n s w h2 hs hT
  · exact accept_no1 g x y k m n s w h2 hs hT
def sameA (A B : Acc) : Bool := eq8 A.r A.p A.ar A.ap A.k A.m A.n A.s B.r B.p B.ar B.ap B.k B.m B.n B.s
set_option maxRecDepth 100000 in
set_option maxHeartbeats 1000000 in
theorem same14_any (g o : Nat) (A B : Acc) (w : World) (h : AW w g A) (h2 : AW w o B) (hc : A.c ≠ 0) (hd : B.c = A.c) (he : B.sl = A.sl) :
    Calls Tryd.prog 22 #[.pointer (some ⟨g, 0, none⟩), .pointer (some ⟨o, 0, none⟩)] w fun e w' => e = .returned (.bool (sameA A B)) ∧ Below w.heap.size w w' := by
  obtain ⟨r, p, ar, ap, k, m, n, s, c, sl⟩ := A
  obtain ⟨r2, p2, ar2, ap2, k2, m2, n2, s2, c2, sl2⟩ := B
  simp only at hc hd he
  subst hd he
  unfold sameA
  simp only
  have hE := fun W => eq_acceptor r p ar ap k m n s r2 p2 ar2 ap2 k2 m2 n2 s2 c2 sl2 W
  generalize eq8 r p ar ap k m n s r2 p2 ar2 ap2 k2 m2 n2 s2 = R at hE ⊢
  have ac0 := h.cell (j := 0) rfl
  have ac1 := h.cell (j := 1) rfl
  have ac2 := h.cell (j := 2) rfl
  have ac3 := h.cell (j := 3) rfl
  have ac4 := h.cell (j := 4) rfl
  have ac5 := h.cell (j := 5) rfl
  have ac6 := h.cell (j := 6) rfl
  have ac7 := h.cell (j := 7) rfl
  have ac8 := h.cell (j := 8) rfl
  have ac9 := h.cell (j := 9) rfl
  have bc0 := h2.cell (j := 0) rfl
  have bc1 := h2.cell (j := 1) rfl
  have bc2 := h2.cell (j := 2) rfl
  have bc3 := h2.cell (j := 3) rfl
  have bc4 := h2.cell (j := 4) rfl
  have bc5 := h2.cell (j := 5) rfl
  have bc6 := h2.cell (j := 6) rfl
  have bc7 := h2.cell (j := 7) rfl
  have bc8 := h2.cell (j := 8) rfl
  have bc9 := h2.cell (j := 9) rfl
  go_enter Tryd.func22, Tryd.ntmps22
  go_wp2_with fail
  refine (none14_at g c2 false _ (by simp [hc]) ac8).mono ?_
  rintro e w2 ⟨rfl, rfl⟩
  go_wp2_with fail
  refine (none14_at o c2 false _ (by simp [hc]) bc8).mono ?_
  rintro e w2 ⟨rfl, rfl⟩
  go_upto_region 3 with fail
  go_region
  go_wp2
  go_ret
  exact ⟨rfl, (Below.refl _ _).drew⟩
set_option maxRecDepth 100000 in
set_option maxHeartbeats 400000 in
theorem same14_no1 (p q : Value) (w : World) (h : NoP w p) (h2 : NoP w q) : Calls Tryd.prog 22 #[p, q] w fun e w' => e = .returned (.bool true) ∧ w = w' := by
  go_enter Tryd.func22, Tryd.ntmps22
  go_wp2_with fail
  refine (none14_no p _ h).mono ?_
  rintro e w2 ⟨rfl, rfl⟩
  go_wp2_with fail
  refine (none14_no p _ h).mono ?_
  rintro e w2 ⟨rfl, rfl⟩
  go_wp2_with fail
  refine (none14_no q _ h2).mono ?_
  rintro e w2 ⟨rfl, rfl⟩
  go_wp2
  go_ret
  exact ⟨rfl, rfl⟩
set_option maxRecDepth 100000 in
set_option maxHeartbeats 400000 in
theorem same14_no2 (g : Nat) (A : Acc) (q : Value) (w : World) (h : AW w g A) (hc : A.c ≠ 0) (h2 : NoP w q) : Calls Tryd.prog 22 #[.pointer (some ⟨g, 0, none⟩), q] w fun e w' => e = .returned (.bool false) ∧ w = w' := by
  obtain ⟨r, p, ar, ap, k, m, n, s, c, sl⟩ := A
  simp only at hc
  have ac0 := h.cell (j := 0) rfl
  have ac1 := h.cell (j := 1) rfl
  have ac2 := h.cell (j := 2) rfl
  have ac3 := h.cell (j := 3) rfl
  have ac4 := h.cell (j := 4) rfl
  have ac5 := h.cell (j := 5) rfl
  have ac6 := h.cell (j := 6) rfl
  have ac7 := h.cell (j := 7) rfl
  have ac8 := h.cell (j := 8) rfl
  have ac9 := h.cell (j := 9) rfl
  go_enter Tryd.func22, Tryd.ntmps22
  go_wp2_with fail
  refine (none14_at g c false _ (by simp [hc]) ac8).mono ?_
  rintro e w2 ⟨rfl, rfl⟩
  go_wp2_with fail
  refine (none14_no q _ h2).mono ?_
  rintro e w2 ⟨rfl, rfl⟩
  go_wp2_with fail
  refine (none14_at g c false _ (by simp [hc]) ac8).mono ?_
  rintro e w2 ⟨rfl, rfl⟩
  go_wp2
  go_ret
  exact ⟨rfl, rfl⟩
set_option maxRecDepth 100000 in
set_option maxHeartbeats 400000 in
theorem same14_no3 (g : Nat) (A : Acc) (q : Value) (w : World) (h : AW w g A) (hc : A.c ≠ 0) (h2 : NoP w q) : Calls Tryd.prog 22 #[q, .pointer (some ⟨g, 0, none⟩)] w fun e w' => e = .returned (.bool false) ∧ w = w' := by
  obtain ⟨r, p, ar, ap, k, m, n, s, c, sl⟩ := A
  simp only at hc
  have ac0 := h.cell (j := 0) rfl
  have ac1 := h.cell (j := 1) rfl
  have ac2 := h.cell (j := 2) rfl
  have ac3 := h.cell (j := 3) rfl
  have ac4 := h.cell (j := 4) rfl
  have ac5 := h.cell (j := 5) rfl
  have ac6 := h.cell (j := 6) rfl
  have ac7 := h.cell (j := 7) rfl
  have ac8 := h.cell (j := 8) rfl
  have ac9 := h.cell (j := 9) rfl
  go_enter Tryd.func22, Tryd.ntmps22
  go_wp2_with fail
  refine (none14_no q _ h2).mono ?_
  rintro e w2 ⟨rfl, rfl⟩
  go_wp2_with fail
  refine (none14_no q _ h2).mono ?_
  rintro e w2 ⟨rfl, rfl⟩
  go_wp2_with fail
  refine (none14_at g c false _ (by simp [hc]) ac8).mono ?_
  rintro e w2 ⟨rfl, rfl⟩
  go_wp2
  go_ret
  exact ⟨rfl, rfl⟩
end Go.Proofs.YtcokbljlgbcpkaaDoor
