
/- The document's acceptor: New, Promise, Accept. -/
import Derived.Test.YtcokbljlgbcpkaaDoorAdE
import Derived.Test.YtcokbljlgbcpkaaDoorAcO
namespace Go.Proofs.YtcokbljlgbcpkaaDoor
open Go.RowKit
def first14 (c sl : Int) : Acc := ⟨0, ownerI c sl, -1, 0, 0, 0, 0, ⟨#[]⟩, c, sl⟩
def refL (A : Acc) : List Value := [.int .i64 A.c, .int .i64 A.sl, .int .i64 A.r, .int .i64 A.p, .int .i64 A.ar, .int .i64 A.ap, .int .i64 A.k, .int .i64 A.m, .int .i64 A.n, .string A.s]
def refV (A : Acc) : Value := .agg #[.int .i64 A.c, .int .i64 A.sl, .int .i64 A.r, .int .i64 A.p, .int .i64 A.ar, .int .i64 A.ap, .int .i64 A.k, .int .i64 A.m, .int .i64 A.n, .string A.s]
def zA : Acc := ⟨0, 0, 0, 0, 0, 0, 0, ⟨#[]⟩, 0, 0⟩
theorem own_mod {c sl : Int} (h : opErr c sl = 0) : ownerI c sl = sl % c ∧ 3 ≤ c ∧ c ≤ 9 ∧ 0 ≤ sl ∧ sl ≤ 4095 ∧ rightB c = true ∧ slotB sl = true := by
  rcases opErr_cases c sl with ⟨-, h1, h2⟩ | ⟨h1, -⟩
  · have := right_bd h1
    have := slot_bd h2
    exact ⟨by unfold ownerI ofI; simp [h1, h2], by omega, by omega, by omega, by omega, h1, h2⟩
  · exact absurd h h1
theorem less_gt (x y r p : Int) : lessB r p x y = decide (0 < cmpI x y r p) := by
  rcases less_cmp x y r p with ⟨h1, h2⟩ | ⟨h1, h2, h3⟩ | ⟨h1, h2, h3⟩
  · rw [h2]
    rcases less_cmp r p x y with ⟨g1, g2⟩ | ⟨g1, g2, g3⟩ | ⟨g1, g2, g3⟩
    · unfold lessB at h1 g1; simp at h1 g1; omega
    · rw [g1]; rfl
    · rw [g1]; rfl
  · rw [h2, h3]; rfl
  · rw [h2, h3]; rfl
theorem less_ge (x y r p : Int) : lessB x y r p = !decide (0 ≤ cmpI x y r p) := by
  rcases less_cmp x y r p with ⟨h1, h2⟩ | ⟨h1, h2, h3⟩ | ⟨h1, h2, h3⟩
  · rw [h1, h2]; rfl
  · rw [h1, h3]; rfl
  · rw [h1, h3]; rfl
theorem none14ref_any (w : World) : Calls Tryd.prog 43 #[] w fun e w' => e = .returned (.agg #[.int .i64 (-1), .int .i64 0]) ∧ Below w.heap.size w w' := by
  go_enter Tryd.func43, Tryd.ntmps43
  go_wp2
  go_returns
  exact ⟨rfl, by go_grown⟩
set_option maxRecDepth 100000 in
set_option maxHeartbeats 1000000 in
theorem refNew14_ok (c sl : Int) (w : World) (h : opErr c sl = 0) : Calls Tryd.prog 20 #[.int .i64 c, .int .i64 sl] w fun e w' => e = .returned (.tuple #[refV (first14 c sl), .int .i64 0]) ∧ Below w.heap.size w w' := by
  obtain ⟨ho, c3, c9, s0, s1, hr, hs⟩ := own_mod h
  unfold first14 refV
  simp only
  rw [ho]
  obtain ⟨o, hoo⟩ : ∃ o, sl % c = o := ⟨_, rfl⟩
  rw [hoo]
  have cF := fun W => refFirst_any c sl W c3 c9 s0 s1
  rw [hoo] at cF
  clear ho hoo h
  have HR := Lib.hid hr
  clear hr
  have HS := Lib.hid hs
  clear hs
  go_enter Tryd.func20, Tryd.ntmps20
  go_upto_region 1 with fail
  obtain ⟨B, hB⟩ : ∃ B, w.heap.size = B := ⟨_, rfl⟩
  have X := Blk.newV (W := w) hB 51 #[.int .i64 0, .int .i64 0, .int .i64 0, .int .i64 0, .int .i64 0, .int .i64 0, .int .i64 0, .int .i64 0, .int .i64 0, .string ⟨#[]⟩]
  have hb := (Below.refl w.heap.size w).alloc (Nat.le_refl _) (.cells #[.int .i64 0, .int .i64 0, .int .i64 0, .int .i64 0, .int .i64 0, .int .i64 0, .int .i64 0, .int .i64 0, .int .i64 0, .string ⟨#[]⟩] 51)
  generalize w.alloc (.cells #[.int .i64 0, .int .i64 0, .int .i64 0, .int .i64 0, .int .i64 0, .int .i64 0, .int .i64 0, .int .i64 0, .int .i64 0, .string ⟨#[]⟩] 51) = W at *
  rw [hB] at hb
  go_wp2_with fail
  refine (refRight_at _ _ HR.out _).mono ?_
  rintro e w2 ⟨rfl, rfl⟩
  go_wp2_with fail
  refine (refSlot_at _ _ HS.out _).mono ?_
  rintro e w2 ⟨rfl, rfl⟩
  go_wp2_with fail
  refine (cF _).mono ?_
  rintro e w2 ⟨rfl, hb2⟩
  have X2 := X.step hb2
  have hb3 := hb.trans (hb2.mono (by have := hb.size; omega))
  clear X hb hb2
  go_wp2_with fail
  refine (none14ref_any _).mono ?_
  rintro e w3 ⟨rfl, hb4⟩
  have X3 := X2.step hb4
  have hb5 := hb3.trans (hb4.mono (by have := hb3.size; omega))
  clear X2 hb3 hb4
  have xc0 := X3.cell (j := 0) rfl
  have xc1 := X3.cell (j := 1) rfl
  have xc2 := X3.cell (j := 2) rfl
  have xc3 := X3.cell (j := 3) rfl
  have xc4 := X3.cell (j := 4) rfl
  have xc5 := X3.cell (j := 5) rfl
  have xc6 := X3.cell (j := 6) rfl
  have xc7 := X3.cell (j := 7) rfl
  have xc8 := X3.cell (j := 8) rfl
  have xc9 := X3.cell (j := 9) rfl
  have xf0 := X3.frozen 0
  have xf1 := X3.frozen 1
  have xf2 := X3.frozen 2
  have xf3 := X3.frozen 3
  have xf4 := X3.frozen 4
  have xf5 := X3.frozen 5
  have xf6 := X3.frozen 6
  have xf7 := X3.frozen 7
  have xf8 := X3.frozen 8
  have xf9 := X3.frozen 9
  go_wp2
  (try simp only [Exit.inBlock, Exit.then])
  refine bodyPost_ret (v := .tuple #[.agg #[.int .i64 c, .int .i64 sl, .int .i64 0, .int .i64 o, .int .i64 (-1), .int .i64 0, .int .i64 0, .int .i64 0, .int .i64 0, .string ⟨#[]⟩], .int .i64 0]) ?_ rfl ⟨rfl, ?_⟩
  · rw [r_cell1t rfl]
    go_simp
  · (try rw [hB])
    exact below10 (b := B) hb5 (Nat.le_refl _) _ _ _ _ _ _ _ _ _ _
set_option maxRecDepth 100000 in
set_option maxHeartbeats 1000000 in
theorem refNew14_no (c sl : Int) (w : World) (h : opErr c sl ≠ 0) : Calls Tryd.prog 20 #[.int .i64 c, .int .i64 sl] w fun e w' => e = .returned (.tuple #[refV zA, .int .i64 (opErr c sl)]) ∧ Below w.heap.size w w' := by
  unfold zA refV
  simp only
  cases hr : rightB c
  · rw [show opErr c sl = 2 by simp [opErr, hr]]
    clear h
    have HR := Lib.hid hr
    clear hr
    go_enter Tryd.func20, Tryd.ntmps20
    go_upto_region 1 with fail
    obtain ⟨B, hB⟩ : ∃ B, w.heap.size = B := ⟨_, rfl⟩
    have X := Blk.newV (W := w) hB 51 #[.int .i64 0, .int .i64 0, .int .i64 0, .int .i64 0, .int .i64 0, .int .i64 0, .int .i64 0, .int .i64 0, .int .i64 0, .string ⟨#[]⟩]
    have hb := (Below.refl w.heap.size w).alloc (Nat.le_refl _) (.cells #[.int .i64 0, .int .i64 0, .int .i64 0, .int .i64 0, .int .i64 0, .int .i64 0, .int .i64 0, .int .i64 0, .int .i64 0, .string ⟨#[]⟩] 51)
    generalize w.alloc (.cells #[.int .i64 0, .int .i64 0, .int .i64 0, .int .i64 0, .int .i64 0, .int .i64 0, .int .i64 0, .int .i64 0, .int .i64 0, .string ⟨#[]⟩] 51) = W at *
    rw [hB] at hb
    go_wp2_with fail
    refine (refRight_at _ _ HR.out _).mono ?_
    rintro e w2 ⟨rfl, rfl⟩
    have xc0 := X.cell (j := 0) rfl
    have xc1 := X.cell (j := 1) rfl
    have xc2 := X.cell (j := 2) rfl
    have xc3 := X.cell (j := 3) rfl
    have xc4 := X.cell (j := 4) rfl
    have xc5 := X.cell (j := 5) rfl
    have xc6 := X.cell (j := 6) rfl
    have xc7 := X.cell (j := 7) rfl
    have xc8 := X.cell (j := 8) rfl
    have xc9 := X.cell (j := 9) rfl
    have xf0 := X.frozen 0
    have xf1 := X.frozen 1
    have xf2 := X.frozen 2
    have xf3 := X.frozen 3
    have xf4 := X.frozen 4
    have xf5 := X.frozen 5
    have xf6 := X.frozen 6
    have xf7 := X.frozen 7
    have xf8 := X.frozen 8
    have xf9 := X.frozen 9
    go_wp2
    (try simp only [Exit.inBlock, Exit.then])
    refine bodyPost_ret (v := .tuple #[.agg #[.int .i64 0, .int .i64 0, .int .i64 0, .int .i64 0, .int .i64 0, .int .i64 0, .int .i64 0, .int .i64 0, .int .i64 0, .string ⟨#[]⟩], .int .i64 2]) ?_ rfl ⟨rfl, ?_⟩
    · rw [r_cell1t rfl]
      go_simp
    · (try rw [hB])
      exact below10 (b := B) hb (Nat.le_refl _) _ _ _ _ _ _ _ _ _ _
  · cases hs : slotB sl
    · rw [show opErr c sl = 4 by simp [opErr, hr, hs]]
      clear h
      have HR := Lib.hid hr
      clear hr
      have HS := Lib.hid hs
      clear hs
      go_enter Tryd.func20, Tryd.ntmps20
      go_upto_region 1 with fail
      obtain ⟨B, hB⟩ : ∃ B, w.heap.size = B := ⟨_, rfl⟩
      have X := Blk.newV (W := w) hB 51 #[.int .i64 0, .int .i64 0, .int .i64 0, .int .i64 0, .int .i64 0, .int .i64 0, .int .i64 0, .int .i64 0, .int .i64 0, .string ⟨#[]⟩]
      have hb := (Below.refl w.heap.size w).alloc (Nat.le_refl _) (.cells #[.int .i64 0, .int .i64 0, .int .i64 0, .int .i64 0, .int .i64 0, .int .i64 0, .int .i64 0, .int .i64 0, .int .i64 0, .string ⟨#[]⟩] 51)
      generalize w.alloc (.cells #[.int .i64 0, .int .i64 0, .int .i64 0, .int .i64 0, .int .i64 0, .int .i64 0, .int .i64 0, .int .i64 0, .int .i64 0, .string ⟨#[]⟩] 51) = W at *
      rw [hB] at hb
      go_wp2_with fail
      refine (refRight_at _ _ HR.out _).mono ?_
      rintro e w2 ⟨rfl, rfl⟩
      go_wp2_with fail
      refine (refSlot_at _ _ HS.out _).mono ?_
      rintro e w2 ⟨rfl, rfl⟩
      have xc0 := X.cell (j := 0) rfl
      have xc1 := X.cell (j := 1) rfl
      have xc2 := X.cell (j := 2) rfl
      have xc3 := X.cell (j := 3) rfl
      have xc4 := X.cell (j := 4) rfl
      have xc5 := X.cell (j := 5) rfl
      have xc6 := X.cell (j := 6) rfl
      have xc7 := X.cell (j := 7) rfl
      have xc8 := X.cell (j := 8) rfl
      have xc9 := X.cell (j := 9) rfl
      have xf0 := X.frozen 0
      have xf1 := X.frozen 1
      have xf2 := X.frozen 2
      have xf3 := X.frozen 3
      have xf4 := X.frozen 4
      have xf5 := X.frozen 5
      have xf6 := X.frozen 6
      have xf7 := X.frozen 7
      have xf8 := X.frozen 8
      have xf9 := X.frozen 9
      go_wp2
      (try simp only [Exit.inBlock, Exit.then])
      refine bodyPost_ret (v := .tuple #[.agg #[.int .i64 0, .int .i64 0, .int .i64 0, .int .i64 0, .int .i64 0, .int .i64 0, .int .i64 0, .int .i64 0, .int .i64 0, .string ⟨#[]⟩], .int .i64 4]) ?_ rfl ⟨rfl, ?_⟩
      · rw [r_cell1t rfl]
        go_simp
      · (try rw [hB])
        exact below10 (b := B) hb (Nat.le_refl _) _ _ _ _ _ _ _ _ _ _
    · exact absurd (by simp [opErr, hr, hs]) h
theorem quad (w : World) (t1 t2 t3 t4 : TypeId) (c1 c2 c3 c4 : Array Value) :
    Blk ((((w.alloc (.cells c1 t1)).alloc (.cells c2 t2)).alloc (.cells c3 t3)).alloc (.cells c4 t4)) w.heap.size t1 c1.toList ∧ Blk ((((w.alloc (.cells c1 t1)).alloc (.cells c2 t2)).alloc (.cells c3 t3)).alloc (.cells c4 t4)) (w.heap.size + 1) t2 c2.toList ∧
    Blk ((((w.alloc (.cells c1 t1)).alloc (.cells c2 t2)).alloc (.cells c3 t3)).alloc (.cells c4 t4)) (w.heap.size + 1 + 1) t3 c3.toList ∧ Blk ((((w.alloc (.cells c1 t1)).alloc (.cells c2 t2)).alloc (.cells c3 t3)).alloc (.cells c4 t4)) (w.heap.size + 1 + 1 + 1) t4 c4.toList ∧
    Below w.heap.size w ((((w.alloc (.cells c1 t1)).alloc (.cells c2 t2)).alloc (.cells c3 t3)).alloc (.cells c4 t4)) ∧
    ((((w.alloc (.cells c1 t1)).alloc (.cells c2 t2)).alloc (.cells c3 t3)).alloc (.cells c4 t4)).heap.size = w.heap.size + 1 + 1 + 1 + 1 :=
  have h := tri w t1 t2 t3 c1 c2 c3
  ⟨h.1.alloc _, h.2.1.alloc _, h.2.2.1.alloc _, Blk.newV h.2.2.2.2 t4 c4, h.2.2.2.1.alloc (by rw [h.2.2.2.2]; omega) _, alloc_size h.2.2.2.2 _⟩
set_option maxRecDepth 100000 in
set_option maxHeartbeats 2000000 in
theorem refPromise_no (r p ar ap k m n : Int) (s : ByteArray) (c sl x y : Int) (w : World) (hm : (mayB c sl x y && decide (0 < x)) = false) :
    Calls Tryd.prog 44 #[.agg #[.int .i64 c, .int .i64 sl, .int .i64 r, .int .i64 p, .int .i64 ar, .int .i64 ap, .int .i64 k, .int .i64 m, .int .i64 n, .string s], .agg #[.int .i64 x, .int .i64 y]] w fun e w' =>
      e = .returned (.tuple #[.agg #[.int .i64 c, .int .i64 sl, .int .i64 r, .int .i64 p, .int .i64 ar, .int .i64 ap, .int .i64 k, .int .i64 m, .int .i64 n, .string s], .agg #[.int .i64 0, .int .i64 0, .int .i64 0, .int .i64 0, .int .i64 0, .string ⟨#[]⟩], .bool false, .int .i64 2]) ∧ Below w.heap.size w w' := by
  cases h1 : mayB c sl x y
  · clear hm
    go_enter Tryd.func44, Tryd.ntmps44
    go_upto_region 1 with fail
    obtain ⟨Xa, Xb, Xr, Xx, hb, hz⟩ := quad w 51 36 51 39 #[.int .i64 c, .int .i64 sl, .int .i64 r, .int .i64 p, .int .i64 ar, .int .i64 ap, .int .i64 k, .int .i64 m, .int .i64 n, .string s] #[.int .i64 x, .int .i64 y] #[.int .i64 0, .int .i64 0, .int .i64 0, .int .i64 0, .int .i64 0, .int .i64 0, .int .i64 0, .int .i64 0, .int .i64 0, .string ⟨#[]⟩] #[.int .i64 0, .int .i64 0, .int .i64 0, .int .i64 0, .int .i64 0, .string ⟨#[]⟩]
    generalize (((w.alloc (.cells #[.int .i64 c, .int .i64 sl, .int .i64 r, .int .i64 p, .int .i64 ar, .int .i64 ap, .int .i64 k, .int .i64 m, .int .i64 n, .string s] 51)).alloc (.cells #[.int .i64 x, .int .i64 y] 36)).alloc (.cells #[.int .i64 0, .int .i64 0, .int .i64 0, .int .i64 0, .int .i64 0, .int .i64 0, .int .i64 0, .int .i64 0, .int .i64 0, .string ⟨#[]⟩] 51)).alloc (.cells #[.int .i64 0, .int .i64 0, .int .i64 0, .int .i64 0, .int .i64 0, .string ⟨#[]⟩] 39) = W at *
    obtain ⟨B, hB⟩ : ∃ B, w.heap.size = B := ⟨_, rfl⟩
    rw [hB] at Xa Xb Xr Xx hz hb
    have ac0 := Xa.cell (j := 0) rfl
    have ac1 := Xa.cell (j := 1) rfl
    have bc0 := Xb.cell (j := 0) rfl
    have bc1 := Xb.cell (j := 1) rfl
    go_wp2_with fail
    refine (refMay_any _ _ _ _ _).mono ?_
    rintro e w2 ⟨rfl, hb2⟩
    have Ya := Xa.step hb2
    have Yb := Xb.step hb2
    have Yr := Xr.step hb2
    have Yx := Xx.step hb2
    have hb3 := hb.trans (hb2.mono (by have := hb.size; omega))
    clear ac0 ac1 bc0 bc1 hb2 hb Xa Xb Xr Xx
    have bc0 := Yb.cell (j := 0) rfl
    have bc1 := Yb.cell (j := 1) rfl
    have ac0 := Ya.cell (j := 0) rfl
    have ac1 := Ya.cell (j := 1) rfl
    have ac2 := Ya.cell (j := 2) rfl
    have ac3 := Ya.cell (j := 3) rfl
    have ac4 := Ya.cell (j := 4) rfl
    have ac5 := Ya.cell (j := 5) rfl
    have ac6 := Ya.cell (j := 6) rfl
    have ac7 := Ya.cell (j := 7) rfl
    have ac8 := Ya.cell (j := 8) rfl
    have ac9 := Ya.cell (j := 9) rfl
    have rc0 := Yr.cell (j := 0) rfl
    have rc1 := Yr.cell (j := 1) rfl
    have rc2 := Yr.cell (j := 2) rfl
    have rc3 := Yr.cell (j := 3) rfl
    have rc4 := Yr.cell (j := 4) rfl
    have rc5 := Yr.cell (j := 5) rfl
    have rc6 := Yr.cell (j := 6) rfl
    have rc7 := Yr.cell (j := 7) rfl
    have rc8 := Yr.cell (j := 8) rfl
    have rc9 := Yr.cell (j := 9) rfl
    have rf0 := Yr.frozen 0
    have rf1 := Yr.frozen 1
    have rf2 := Yr.frozen 2
    have rf3 := Yr.frozen 3
    have rf4 := Yr.frozen 4
    have rf5 := Yr.frozen 5
    have rf6 := Yr.frozen 6
    have rf7 := Yr.frozen 7
    have rf8 := Yr.frozen 8
    have rf9 := Yr.frozen 9
    have xc0 := Yx.cell (j := 0) rfl
    have xc1 := Yx.cell (j := 1) rfl
    have xc2 := Yx.cell (j := 2) rfl
    have xc3 := Yx.cell (j := 3) rfl
    have xc4 := Yx.cell (j := 4) rfl
    have xc5 := Yx.cell (j := 5) rfl
    have xf0 := Yx.frozen 0
    have xf1 := Yx.frozen 1
    have xf2 := Yx.frozen 2
    have xf3 := Yx.frozen 3
    have xf4 := Yx.frozen 4
    have xf5 := Yx.frozen 5
    go_wp2
    (try simp only [Exit.inBlock, Exit.then])
    refine bodyPost_ret (v := .tuple #[.agg #[.int .i64 c, .int .i64 sl, .int .i64 r, .int .i64 p, .int .i64 ar, .int .i64 ap, .int .i64 k, .int .i64 m, .int .i64 n, .string s], .agg #[.int .i64 0, .int .i64 0, .int .i64 0, .int .i64 0, .int .i64 0, .string ⟨#[]⟩], .bool false, .int .i64 2]) ?_ rfl ⟨rfl, ?_⟩
    · rw [r_cell2tt rfl]
      go_simp
    · (try rw [hB])
      exact below6 (b := B + 1 + 1 + 1) (below10 (b := B + 1 + 1) hb3 (by omega) _ _ _ _ _ _ _ _ _ _) (by omega) _ _ _ _ _ _
  · have hx : x = 0 := by
      rw [h1] at hm
      unfold mayB at h1
      simp only [Bool.and_eq_true] at h1
      have := chk_bd h1.2.1
      simp at hm
      omega
    subst hx
    clear hm
    go_enter Tryd.func44, Tryd.ntmps44
    go_upto_region 1 with fail
    obtain ⟨Xa, Xb, Xr, Xx, hb, hz⟩ := quad w 51 36 51 39 #[.int .i64 c, .int .i64 sl, .int .i64 r, .int .i64 p, .int .i64 ar, .int .i64 ap, .int .i64 k, .int .i64 m, .int .i64 n, .string s] #[.int .i64 0, .int .i64 y] #[.int .i64 0, .int .i64 0, .int .i64 0, .int .i64 0, .int .i64 0, .int .i64 0, .int .i64 0, .int .i64 0, .int .i64 0, .string ⟨#[]⟩] #[.int .i64 0, .int .i64 0, .int .i64 0, .int .i64 0, .int .i64 0, .string ⟨#[]⟩]
    generalize (((w.alloc (.cells #[.int .i64 c, .int .i64 sl, .int .i64 r, .int .i64 p, .int .i64 ar, .int .i64 ap, .int .i64 k, .int .i64 m, .int .i64 n, .string s] 51)).alloc (.cells #[.int .i64 0, .int .i64 y] 36)).alloc (.cells #[.int .i64 0, .int .i64 0, .int .i64 0, .int .i64 0, .int .i64 0, .int .i64 0, .int .i64 0, .int .i64 0, .int .i64 0, .string ⟨#[]⟩] 51)).alloc (.cells #[.int .i64 0, .int .i64 0, .int .i64 0, .int .i64 0, .int .i64 0, .string ⟨#[]⟩] 39) = W at *
    obtain ⟨B, hB⟩ : ∃ B, w.heap.size = B := ⟨_, rfl⟩
    rw [hB] at Xa Xb Xr Xx hz hb
    have ac0 := Xa.cell (j := 0) rfl
    have ac1 := Xa.cell (j := 1) rfl
    have bc0 := Xb.cell (j := 0) rfl
    have bc1 := Xb.cell (j := 1) rfl
    go_wp2_with fail
    refine (refMay_any _ _ _ _ _).mono ?_
    rintro e w2 ⟨rfl, hb2⟩
    have Ya := Xa.step hb2
    have Yb := Xb.step hb2
    have Yr := Xr.step hb2
    have Yx := Xx.step hb2
    have hb3 := hb.trans (hb2.mono (by have := hb.size; omega))
    clear ac0 ac1 bc0 bc1 hb2 hb Xa Xb Xr Xx
    have bc0 := Yb.cell (j := 0) rfl
    have bc1 := Yb.cell (j := 1) rfl
    have ac0 := Ya.cell (j := 0) rfl
    have ac1 := Ya.cell (j := 1) rfl
    have ac2 := Ya.cell (j := 2) rfl
    have ac3 := Ya.cell (j := 3) rfl
    have ac4 := Ya.cell (j := 4) rfl
    have ac5 := Ya.cell (j := 5) rfl
    have ac6 := Ya.cell (j := 6) rfl
    have ac7 := Ya.cell (j := 7) rfl
    have ac8 := Ya.cell (j := 8) rfl
    have ac9 := Ya.cell (j := 9) rfl
    have rc0 := Yr.cell (j := 0) rfl
    have rc1 := Yr.cell (j := 1) rfl
    have rc2 := Yr.cell (j := 2) rfl
    have rc3 := Yr.cell (j := 3) rfl
    have rc4 := Yr.cell (j := 4) rfl
    have rc5 := Yr.cell (j := 5) rfl
    have rc6 := Yr.cell (j := 6) rfl
    have rc7 := Yr.cell (j := 7) rfl
    have rc8 := Yr.cell (j := 8) rfl
    have rc9 := Yr.cell (j := 9) rfl
    have rf0 := Yr.frozen 0
    have rf1 := Yr.frozen 1
    have rf2 := Yr.frozen 2
    have rf3 := Yr.frozen 3
    have rf4 := Yr.frozen 4
    have rf5 := Yr.frozen 5
    have rf6 := Yr.frozen 6
    have rf7 := Yr.frozen 7
    have rf8 := Yr.frozen 8
    have rf9 := Yr.frozen 9
    have xc0 := Yx.cell (j := 0) rfl
    have xc1 := Yx.cell (j := 1) rfl
    have xc2 := Yx.cell (j := 2) rfl
    have xc3 := Yx.cell (j := 3) rfl
    have xc4 := Yx.cell (j := 4) rfl
    have xc5 := Yx.cell (j := 5) rfl
    have xf0 := Yx.frozen 0
    have xf1 := Yx.frozen 1
    have xf2 := Yx.frozen 2
    have xf3 := Yx.frozen 3
    have xf4 := Yx.frozen 4
    have xf5 := Yx.frozen 5
    go_wp2
    (try simp only [Exit.inBlock, Exit.then])
    refine bodyPost_ret (v := .tuple #[.agg #[.int .i64 c, .int .i64 sl, .int .i64 r, .int .i64 p, .int .i64 ar, .int .i64 ap, .int .i64 k, .int .i64 m, .int .i64 n, .string s], .agg #[.int .i64 0, .int .i64 0, .int .i64 0, .int .i64 0, .int .i64 0, .string ⟨#[]⟩], .bool false, .int .i64 2]) ?_ rfl ⟨rfl, ?_⟩
    · rw [r_cell2tt rfl]
      go_simp
    · (try rw [hB])
      exact below6 (b := B + 1 + 1 + 1) (below10 (b := B + 1 + 1) hb3 (by omega) _ _ _ _ _ _ _ _ _ _) (by omega) _ _ _ _ _ _
set_option maxRecDepth 100000 in
set_option maxHeartbeats 2000000 in
theorem refPromise_not (r p ar ap k m n : Int) (s : ByteArray) (c sl x y : Int) (w : World) (hm : mayB c sl x y = true) (hx : 0 < x) (hl : lessB r p x y = false) :
    Calls Tryd.prog 44 #[.agg #[.int .i64 c, .int .i64 sl, .int .i64 r, .int .i64 p, .int .i64 ar, .int .i64 ap, .int .i64 k, .int .i64 m, .int .i64 n, .string s], .agg #[.int .i64 x, .int .i64 y]] w fun e w' =>
      e = .returned (.tuple #[.agg #[.int .i64 c, .int .i64 sl, .int .i64 r, .int .i64 p, .int .i64 ar, .int .i64 ap, .int .i64 k, .int .i64 m, .int .i64 n, .string s], .agg #[.int .i64 0, .int .i64 0, .int .i64 0, .int .i64 0, .int .i64 0, .string ⟨#[]⟩], .bool false, .int .i64 0]) ∧ Below w.heap.size w w' := by
  have hx0 : ¬ x = 0 := by omega
  have cL := fun W => refLess_at r p x y _ hl W
  clear hl
  go_enter Tryd.func44, Tryd.ntmps44
  go_upto_region 1 with fail
  obtain ⟨Xa, Xb, Xr, Xx, hb, hz⟩ := quad w 51 36 51 39 #[.int .i64 c, .int .i64 sl, .int .i64 r, .int .i64 p, .int .i64 ar, .int .i64 ap, .int .i64 k, .int .i64 m, .int .i64 n, .string s] #[.int .i64 x, .int .i64 y] #[.int .i64 0, .int .i64 0, .int .i64 0, .int .i64 0, .int .i64 0, .int .i64 0, .int .i64 0, .int .i64 0, .int .i64 0, .string ⟨#[]⟩] #[.int .i64 0, .int .i64 0, .int .i64 0, .int .i64 0, .int .i64 0, .string ⟨#[]⟩]
  generalize (((w.alloc (.cells #[.int .i64 c, .int .i64 sl, .int .i64 r, .int .i64 p, .int .i64 ar, .int .i64 ap, .int .i64 k, .int .i64 m, .int .i64 n, .string s] 51)).alloc (.cells #[.int .i64 x, .int .i64 y] 36)).alloc (.cells #[.int .i64 0, .int .i64 0, .int .i64 0, .int .i64 0, .int .i64 0, .int .i64 0, .int .i64 0, .int .i64 0, .int .i64 0, .string ⟨#[]⟩] 51)).alloc (.cells #[.int .i64 0, .int .i64 0, .int .i64 0, .int .i64 0, .int .i64 0, .string ⟨#[]⟩] 39) = W at *
  obtain ⟨B, hB⟩ : ∃ B, w.heap.size = B := ⟨_, rfl⟩
  rw [hB] at Xa Xb Xr Xx hz hb
  have ac0 := Xa.cell (j := 0) rfl
  have ac1 := Xa.cell (j := 1) rfl
  have bc0 := Xb.cell (j := 0) rfl
  have bc1 := Xb.cell (j := 1) rfl
  go_wp2_with fail
  refine (refMay_any _ _ _ _ _).mono ?_
  rintro e w2 ⟨rfl, hb2⟩
  have Ya := Xa.step hb2
  have Yb := Xb.step hb2
  have Yr := Xr.step hb2
  have Yx := Xx.step hb2
  have hb3 := hb.trans (hb2.mono (by have := hb.size; omega))
  clear ac0 ac1 bc0 bc1 hb2 hb Xa Xb Xr Xx
  have bc0 := Yb.cell (j := 0) rfl
  have bc1 := Yb.cell (j := 1) rfl
  have ac0 := Ya.cell (j := 0) rfl
  have ac1 := Ya.cell (j := 1) rfl
  have ac2 := Ya.cell (j := 2) rfl
  have ac3 := Ya.cell (j := 3) rfl
  have ac4 := Ya.cell (j := 4) rfl
  have ac5 := Ya.cell (j := 5) rfl
  have ac6 := Ya.cell (j := 6) rfl
  have ac7 := Ya.cell (j := 7) rfl
  have ac8 := Ya.cell (j := 8) rfl
  have ac9 := Ya.cell (j := 9) rfl
  go_wp2_with fail
  refine (cL _).mono ?_
  rintro e w3 ⟨rfl, hb4⟩
  have Za := Ya.step hb4
  have Zr := Yr.step hb4
  have Zx := Yx.step hb4
  have hb5 := hb3.trans (hb4.mono (by have := hb3.size; omega))
  clear ac0 ac1 ac2 ac3 ac4 ac5 ac6 ac7 ac8 ac9 bc0 bc1 Ya Yb Yr Yx hb3 hb4
  have Yr := Zr
  have Yx := Zx
  have hb3 := hb5
  clear Zr Zx hb5
  have ac0 := Za.cell (j := 0) rfl
  have ac1 := Za.cell (j := 1) rfl
  have ac2 := Za.cell (j := 2) rfl
  have ac3 := Za.cell (j := 3) rfl
  have ac4 := Za.cell (j := 4) rfl
  have ac5 := Za.cell (j := 5) rfl
  have ac6 := Za.cell (j := 6) rfl
  have ac7 := Za.cell (j := 7) rfl
  have ac8 := Za.cell (j := 8) rfl
  have ac9 := Za.cell (j := 9) rfl
  have rc0 := Yr.cell (j := 0) rfl
  have rc1 := Yr.cell (j := 1) rfl
  have rc2 := Yr.cell (j := 2) rfl
  have rc3 := Yr.cell (j := 3) rfl
  have rc4 := Yr.cell (j := 4) rfl
  have rc5 := Yr.cell (j := 5) rfl
  have rc6 := Yr.cell (j := 6) rfl
  have rc7 := Yr.cell (j := 7) rfl
  have rc8 := Yr.cell (j := 8) rfl
  have rc9 := Yr.cell (j := 9) rfl
  have rf0 := Yr.frozen 0
  have rf1 := Yr.frozen 1
  have rf2 := Yr.frozen 2
  have rf3 := Yr.frozen 3
  have rf4 := Yr.frozen 4
  have rf5 := Yr.frozen 5
  have rf6 := Yr.frozen 6
  have rf7 := Yr.frozen 7
  have rf8 := Yr.frozen 8
  have rf9 := Yr.frozen 9
  have xc0 := Yx.cell (j := 0) rfl
  have xc1 := Yx.cell (j := 1) rfl
  have xc2 := Yx.cell (j := 2) rfl
  have xc3 := Yx.cell (j := 3) rfl
  have xc4 := Yx.cell (j := 4) rfl
  have xc5 := Yx.cell (j := 5) rfl
  have xf0 := Yx.frozen 0
  have xf1 := Yx.frozen 1
  have xf2 := Yx.frozen 2
  have xf3 := Yx.frozen 3
  have xf4 := Yx.frozen 4
  have xf5 := Yx.frozen 5
  go_wp2
  (try simp only [Exit.inBlock, Exit.then])
  refine bodyPost_ret (v := .tuple #[.agg #[.int .i64 c, .int .i64 sl, .int .i64 r, .int .i64 p, .int .i64 ar, .int .i64 ap, .int .i64 k, .int .i64 m, .int .i64 n, .string s], .agg #[.int .i64 0, .int .i64 0, .int .i64 0, .int .i64 0, .int .i64 0, .string ⟨#[]⟩], .bool false, .int .i64 0]) ?_ rfl ⟨rfl, ?_⟩
  · rw [r_cell2tt rfl]
    go_simp
  · (try rw [hB])
    exact below6 (b := B + 1 + 1 + 1) (below10 (b := B + 1 + 1) hb3 (by omega) _ _ _ _ _ _ _ _ _ _) (by omega) _ _ _ _ _ _
set_option maxRecDepth 100000 in
set_option maxHeartbeats 2000000 in
theorem refPromise_yes (r p ar ap k m n : Int) (s : ByteArray) (c sl x y : Int) (w : World) (hm : mayB c sl x y = true) (hx : 0 < x) (hl : lessB r p x y = true) :
    Calls Tryd.prog 44 #[.agg #[.int .i64 c, .int .i64 sl, .int .i64 r, .int .i64 p, .int .i64 ar, .int .i64 ap, .int .i64 k, .int .i64 m, .int .i64 n, .string s], .agg #[.int .i64 x, .int .i64 y]] w fun e w' =>
      e = .returned (.tuple #[.agg #[.int .i64 c, .int .i64 sl, .int .i64 x, .int .i64 y, .int .i64 ar, .int .i64 ap, .int .i64 k, .int .i64 m, .int .i64 n, .string s], .agg #[.int .i64 ar, .int .i64 ap, .int .i64 k, .int .i64 m, .int .i64 n, .string s], .bool true, .int .i64 0]) ∧ Below w.heap.size w w' := by
  have hx0 : ¬ x = 0 := by omega
  have cL := fun W => refLess_at r p x y _ hl W
  clear hl
  go_enter Tryd.func44, Tryd.ntmps44
  go_upto_region 1 with fail
  obtain ⟨Xa, Xb, Xr, Xx, hb, hz⟩ := quad w 51 36 51 39 #[.int .i64 c, .int .i64 sl, .int .i64 r, .int .i64 p, .int .i64 ar, .int .i64 ap, .int .i64 k, .int .i64 m, .int .i64 n, .string s] #[.int .i64 x, .int .i64 y] #[.int .i64 0, .int .i64 0, .int .i64 0, .int .i64 0, .int .i64 0, .int .i64 0, .int .i64 0, .int .i64 0, .int .i64 0, .string ⟨#[]⟩] #[.int .i64 0, .int .i64 0, .int .i64 0, .int .i64 0, .int .i64 0, .string ⟨#[]⟩]
  generalize (((w.alloc (.cells #[.int .i64 c, .int .i64 sl, .int .i64 r, .int .i64 p, .int .i64 ar, .int .i64 ap, .int .i64 k, .int .i64 m, .int .i64 n, .string s] 51)).alloc (.cells #[.int .i64 x, .int .i64 y] 36)).alloc (.cells #[.int .i64 0, .int .i64 0, .int .i64 0, .int .i64 0, .int .i64 0, .int .i64 0, .int .i64 0, .int .i64 0, .int .i64 0, .string ⟨#[]⟩] 51)).alloc (.cells #[.int .i64 0, .int .i64 0, .int .i64 0, .int .i64 0, .int .i64 0, .string ⟨#[]⟩] 39) = W at *
  obtain ⟨B, hB⟩ : ∃ B, w.heap.size = B := ⟨_, rfl⟩
  rw [hB] at Xa Xb Xr Xx hz hb
  have ac0 := Xa.cell (j := 0) rfl
  have ac1 := Xa.cell (j := 1) rfl
  have bc0 := Xb.cell (j := 0) rfl
  have bc1 := Xb.cell (j := 1) rfl
  go_wp2_with fail
  refine (refMay_any _ _ _ _ _).mono ?_
  rintro e w2 ⟨rfl, hb2⟩
  have Ya := Xa.step hb2
  have Yb := Xb.step hb2
  have Yr := Xr.step hb2
  have Yx := Xx.step hb2
  have hb3 := hb.trans (hb2.mono (by have := hb.size; omega))
  clear ac0 ac1 bc0 bc1 hb2 hb Xa Xb Xr Xx
  have bc0 := Yb.cell (j := 0) rfl
  have bc1 := Yb.cell (j := 1) rfl
  have ac0 := Ya.cell (j := 0) rfl
  have ac1 := Ya.cell (j := 1) rfl
  have ac2 := Ya.cell (j := 2) rfl
  have ac3 := Ya.cell (j := 3) rfl
  have ac4 := Ya.cell (j := 4) rfl
  have ac5 := Ya.cell (j := 5) rfl
  have ac6 := Ya.cell (j := 6) rfl
  have ac7 := Ya.cell (j := 7) rfl
  have ac8 := Ya.cell (j := 8) rfl
  have ac9 := Ya.cell (j := 9) rfl
  go_wp2_with fail
  refine (cL _).mono ?_
  rintro e w3 ⟨rfl, hb4⟩
  have Za := Ya.step hb4
  have Zb := Yb.step hb4
  have Zr := Yr.step hb4
  have Zx := Yx.step hb4
  have hb5 := hb3.trans (hb4.mono (by have := hb3.size; omega))
  clear ac0 ac1 ac2 ac3 ac4 ac5 ac6 ac7 ac8 ac9 bc0 bc1 Ya Yb Yr Yx hb3 hb4
  have ac0 := Za.cell (j := 0) rfl
  have ac1 := Za.cell (j := 1) rfl
  have ac2 := Za.cell (j := 2) rfl
  have ac3 := Za.cell (j := 3) rfl
  have ac4 := Za.cell (j := 4) rfl
  have ac5 := Za.cell (j := 5) rfl
  have ac6 := Za.cell (j := 6) rfl
  have ac7 := Za.cell (j := 7) rfl
  have ac8 := Za.cell (j := 8) rfl
  have ac9 := Za.cell (j := 9) rfl
  have af0 := Za.frozen 0
  have af1 := Za.frozen 1
  have af2 := Za.frozen 2
  have af3 := Za.frozen 3
  have af4 := Za.frozen 4
  have af5 := Za.frozen 5
  have af6 := Za.frozen 6
  have af7 := Za.frozen 7
  have af8 := Za.frozen 8
  have af9 := Za.frozen 9
  have bc0 := Zb.cell (j := 0) rfl
  have bc1 := Zb.cell (j := 1) rfl
  go_upto_region 6 with fail
  have Va := (Za.set 2 (.int .i64 x)).set 3 (.int .i64 y)
  have Vr := (Zr.other (show B + 1 + 1 ≠ B by omega) 2 (.int .i64 x)).other (show B + 1 + 1 ≠ B by omega) 3 (.int .i64 y)
  have Vx := (Zx.other (show B + 1 + 1 + 1 ≠ B by omega) 2 (.int .i64 x)).other (show B + 1 + 1 + 1 ≠ B by omega) 3 (.int .i64 y)
  have hb6 := (hb5.setCell (p := ⟨B, 2, none⟩) (Nat.le_refl _) (.int .i64 x)).setCell (p := ⟨B, 3, none⟩) (Nat.le_refl _) (.int .i64 y)
  generalize (w3.setCell ⟨B, 2, none⟩ (.int .i64 x)).setCell ⟨B, 3, none⟩ (.int .i64 y) = w4 at *
  clear ac0 ac1 ac2 ac3 ac4 ac5 ac6 ac7 ac8 ac9 af0 af1 af2 af3 af4 af5 af6 af7 af8 af9 bc0 bc1 Za Zb Zr Zx hb5
  simp only [List.set_cons_succ, List.set_cons_zero] at Va
  have ac0 := Va.cell (j := 0) rfl
  have ac1 := Va.cell (j := 1) rfl
  have ac2 := Va.cell (j := 2) rfl
  have ac3 := Va.cell (j := 3) rfl
  have ac4 := Va.cell (j := 4) rfl
  have ac5 := Va.cell (j := 5) rfl
  have ac6 := Va.cell (j := 6) rfl
  have ac7 := Va.cell (j := 7) rfl
  have ac8 := Va.cell (j := 8) rfl
  have ac9 := Va.cell (j := 9) rfl
  have rc0 := Vr.cell (j := 0) rfl
  have rc1 := Vr.cell (j := 1) rfl
  have rc2 := Vr.cell (j := 2) rfl
  have rc3 := Vr.cell (j := 3) rfl
  have rc4 := Vr.cell (j := 4) rfl
  have rc5 := Vr.cell (j := 5) rfl
  have rc6 := Vr.cell (j := 6) rfl
  have rc7 := Vr.cell (j := 7) rfl
  have rc8 := Vr.cell (j := 8) rfl
  have rc9 := Vr.cell (j := 9) rfl
  have rf0 := Vr.frozen 0
  have rf1 := Vr.frozen 1
  have rf2 := Vr.frozen 2
  have rf3 := Vr.frozen 3
  have rf4 := Vr.frozen 4
  have rf5 := Vr.frozen 5
  have rf6 := Vr.frozen 6
  have rf7 := Vr.frozen 7
  have rf8 := Vr.frozen 8
  have rf9 := Vr.frozen 9
  have xc0 := Vx.cell (j := 0) rfl
  have xc1 := Vx.cell (j := 1) rfl
  have xc2 := Vx.cell (j := 2) rfl
  have xc3 := Vx.cell (j := 3) rfl
  have xc4 := Vx.cell (j := 4) rfl
  have xc5 := Vx.cell (j := 5) rfl
  have xf0 := Vx.frozen 0
  have xf1 := Vx.frozen 1
  have xf2 := Vx.frozen 2
  have xf3 := Vx.frozen 3
  have xf4 := Vx.frozen 4
  have xf5 := Vx.frozen 5
  go_region
  have hb7 := below6 (b := B + 1 + 1 + 1) (below10 (b := B + 1 + 1) hb6 (by omega) (.int .i64 c) (.int .i64 sl) (.int .i64 x) (.int .i64 y) (.int .i64 ar) (.int .i64 ap) (.int .i64 k) (.int .i64 m) (.int .i64 n) (.string s)) (by omega) (.int .i64 ar) (.int .i64 ap) (.int .i64 k) (.int .i64 m) (.int .i64 n) (.string s)
  go_wp2
  (try simp only [Exit.inBlock, Exit.then])
  refine bodyPost_ret (v := .tuple #[.agg #[.int .i64 c, .int .i64 sl, .int .i64 x, .int .i64 y, .int .i64 ar, .int .i64 ap, .int .i64 k, .int .i64 m, .int .i64 n, .string s], .agg #[.int .i64 ar, .int .i64 ap, .int .i64 k, .int .i64 m, .int .i64 n, .string s], .bool true, .int .i64 0]) ?_ rfl ⟨rfl, ?_⟩
  · rw [r_cell2tt rfl]
    go_simp
  · (try rw [hB])
    exact hb7.drew
theorem refPromise_any (A : Acc) (x y : Int) (w : World) :
    Calls Tryd.prog 44 #[refV A, .agg #[.int .i64 x, .int .i64 y]] w fun e w' => e = .returned (.tuple #[refV (proA A x y), proX A x y, .bool (proB A x y), .int .i64 (proE A x y)]) ∧ Below w.heap.size w w' := by
  obtain ⟨r, p, ar, ap, k, m, n, s, c, sl⟩ := A
  cases h1 : mayB c sl x y && decide (0 < x)
  · rw [show proB ⟨r, p, ar, ap, k, m, n, s, c, sl⟩ x y = false by unfold proB; simp only; rw [h1]; rfl, show proE ⟨r, p, ar, ap, k, m, n, s, c, sl⟩ x y = 2 by unfold proE; simp only; rw [h1]; rfl,
      show proA ⟨r, p, ar, ap, k, m, n, s, c, sl⟩ x y = ⟨r, p, ar, ap, k, m, n, s, c, sl⟩ by unfold proA proB; simp only; rw [h1]; rfl, show proX ⟨r, p, ar, ap, k, m, n, s, c, sl⟩ x y = acV 0 0 0 0 0 ⟨#[]⟩ by unfold proX proB; simp only; rw [h1]; rfl]
    exact refPromise_no r p ar ap k m n s c sl x y w h1
  · have h2 := h1
    simp only [Bool.and_eq_true, decide_eq_true_eq] at h2
    rw [show proE ⟨r, p, ar, ap, k, m, n, s, c, sl⟩ x y = 0 by unfold proE; simp only; rw [h1]; rfl]
    cases hl : lessB r p x y
    · have hg := less_gt x y r p
      rw [hl] at hg
      rw [show proB ⟨r, p, ar, ap, k, m, n, s, c, sl⟩ x y = false by unfold proB; simp only; rw [← hg, Bool.and_false],
        show proA ⟨r, p, ar, ap, k, m, n, s, c, sl⟩ x y = ⟨r, p, ar, ap, k, m, n, s, c, sl⟩ by unfold proA proB; simp only; rw [← hg, Bool.and_false]; rfl, show proX ⟨r, p, ar, ap, k, m, n, s, c, sl⟩ x y = acV 0 0 0 0 0 ⟨#[]⟩ by unfold proX proB; simp only; rw [← hg, Bool.and_false]; rfl]
      exact refPromise_not r p ar ap k m n s c sl x y w h2.1 h2.2 hl
    · have hg := less_gt x y r p
      rw [hl] at hg
      rw [show proB ⟨r, p, ar, ap, k, m, n, s, c, sl⟩ x y = true by unfold proB; simp only; rw [← hg, h1]; rfl,
        show proA ⟨r, p, ar, ap, k, m, n, s, c, sl⟩ x y = ⟨x, y, ar, ap, k, m, n, s, c, sl⟩ by unfold proA proB; simp only; rw [← hg, h1]; rfl, show proX ⟨r, p, ar, ap, k, m, n, s, c, sl⟩ x y = acV ar ap k m n s by unfold proX proB; simp only; rw [← hg, h1]; rfl]
      exact refPromise_yes r p ar ap k m n s c sl x y w h2.1 h2.2 hl
end Go.Proofs.YtcokbljlgbcpkaaDoor
