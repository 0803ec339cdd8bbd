
/- Walk of AcceptorRises. -/
import Derived.Test.YtcokbljlgbcpkaaDoorAdN
namespace Go.Proofs.YtcokbljlgbcpkaaDoor
open Go.RowKit
theorem AcAt.step {w w' : World} {b o : Nat} {e : Ac} (h : AcAt w b o e) (hb : Below w.heap.size w w') : AcAt w' b o e := h.far (fun _ _ hv => cells_kept hb hv)
theorem AcAt.kx {ws : List Nat} {w w' : World} {b o : Nat} {e : Ac} (h : AcAt w b o e) (hb : Kx ws w w') (hw : b ∉ ws) : AcAt w' b o e := h.far (fun _ _ hv => kx_cell hb hv hw)
set_option maxRecDepth 100000 in
set_option maxHeartbeats 1000000 in
theorem rises_few (c sl : Int) (l : List Ac) (ao : Option Addr) (cap : Nat) (w : World) (hT : Tabs w) (hE : HasAc w ao l) (hl : l.length ≤ 9223372036854775807) (hs : ∀ e, e ∈ l → e.s.size ≤ 9223372036854775807) (hf : fewB l 40 = false) :
    Calls Tryd.prog 4 #[.int .i64 c, .int .i64 sl, .slice ao l.length cap] w fun e w' => e = .returned (.bool true) ∧ Below w.heap.size w w' := by
  have cF := few_any l ao cap 40 w hE hl hs
  rw [hf] at cF
  clear hf hE hs
  go_enter Tryd.func4, Tryd.ntmps4
  go_wp2_with fail
  refine (cF).mono ?_
  rintro e w1 ⟨rfl, hb1⟩
  go_wp2_with fail
  refine (works14_any _ (hT.step hb1)).mono ?_
  rintro e w2 ⟨rfl, hb2⟩
  go_wp2
  go_ret
  exact ⟨rfl, hb1.trans (hb2.mono (by have := hb1.size; omega))⟩
set_option maxRecDepth 100000 in
set_option maxHeartbeats 1000000 in
theorem rises_no (c sl : Int) (l : List Ac) (ao : Option Addr) (cap : Nat) (w : World) (hT : Tabs w) (hE : HasAc w ao l) (hl : l.length ≤ 9223372036854775807) (hs : ∀ e, e ∈ l → e.s.size ≤ 9223372036854775807) (hf : fewB l 40 = true) (h0 : opErr c sl ≠ 0) :
    Calls Tryd.prog 4 #[.int .i64 c, .int .i64 sl, .slice ao l.length cap] w fun e w' => e = .returned (.bool true) ∧ Below w.heap.size w w' := by
  have cF := few_any l ao cap 40 w hE hl hs
  rw [hf] at cF
  have cN := fun W => new14_no c sl W h0
  generalize opErr c sl = E at *
  have hd : (E != 0) = true := by simpa using h0
  clear hf hE hs
  go_enter Tryd.func4, Tryd.ntmps4
  go_wp2_with fail
  refine (cF).mono ?_
  rintro e w1 ⟨rfl, hb1⟩
  go_wp2_with fail
  refine (cN _).mono ?_
  rintro e w2 ⟨rfl, hb2⟩
  have hb3 := hb1.trans (hb2.mono (by have := hb1.size; omega))
  go_wp2_with fail
  refine (num14_any _ _).mono ?_
  rintro e w3 ⟨rfl, rfl⟩
  go_wp2_with fail
  refine (works14_any _ (hT.step hb3)).mono ?_
  rintro e w4 ⟨rfl, hb4⟩
  go_wp2
  go_ret
  exact ⟨rfl, hb3.trans (hb4.mono (by have := hb3.size; omega))⟩
set_option maxRecDepth 100000 in
set_option maxHeartbeats 8000000 in
theorem rises_yes (c sl : Int) (l : List Ac) (ao : Option Addr) (cap : Nat) (w : World) (hT : Tabs w) (hE : HasAc w ao l) (hl : l.length ≤ 9223372036854775807) (hs : ∀ e, e ∈ l → e.s.size ≤ 9223372036854775807) (hf : fewB l 40 = true) (h0 : opErr c sl = 0) :
    Calls Tryd.prog 4 #[.int .i64 c, .int .i64 sl, .slice ao l.length cap] w fun e w' => e = .returned (.bool true) ∧ Below w.heap.size w w' := by
  have cF := few_any l ao cap 40 w hE hl hs
  rw [hf] at cF
  have cN := fun W => new14_ok c sl _ W rfl h0
  have hI0 := inv_first h0
  unfold first14 at hI0
  obtain ⟨N, hN⟩ : ∃ N, l.length = N := ⟨_, rfl⟩
  have hNI : (N : Int) ≤ 9223372036854775807 := by omega
  obtain ⟨B, hB⟩ : ∃ B, w.heap.size = B := ⟨_, rfl⟩
  rw [hN] at cF ⊢
  rw [hB] at cF ⊢
  generalize ownerI c sl = o at cN hI0
  clear hf h0
  have HS := Lib.hid hs
  clear hs
  go_enter Tryd.func4, Tryd.ntmps4
  go_wp2_with fail
  refine (cF).mono ?_
  rintro e w1 ⟨rfl, hb1⟩
  go_wp2_with fail
  refine (cN _).mono ?_
  rintro e w2 ⟨⟨g, rfl, hA, hg⟩, hb2⟩
  have hgB : B ≤ g := Nat.le_trans (by have := hb1.size; omega) hg
  have hb3 := hb1.trans (hb2.mono (by have := hb1.size; omega))
  clear cN cF hg hb1 hb2
  go_wp2_with fail
  refine (num14_any 0 _).mono ?_
  rintro e w3 ⟨rfl, rfl⟩
  go_wp2_with fail
  go_loopw [9] (fun i wr => ∃ (j : Nat) (A : Acc), i = .int .i64 j ∧ j ≤ N ∧ AW wr g A ∧ InvA A ∧ Below B w wr) (fun i _ => N - (intOf i).toNat)
  case atStart => exact ⟨0, _, rfl, by omega, hA, hI0, hb3⟩
  case round =>
    clear hA hI0 hb3
    obtain ⟨j, A, rfl, hj, hA, hI, hb⟩ := hrel
    by_cases hlt : j < N
    · obtain ⟨e, he⟩ : ∃ e, l[j]? = some e := ⟨l[j], by simp [hN, hlt]⟩
      obtain ⟨b, off, rfl, hQ⟩ := hE j e he
      have hbB : b < B := hB ▸ World.block_lt_of_cell? w _ hQ.h0
      have hQ1 : AcAt wr b (off + j * 7) e := hQ.step (hB ▸ hb)
      have hj0 : (0 : Int) ≤ (j : Int) := by omega
      have hj1 : (j : Int) < (N : Int) := by omega
      have hse := HS.out e (List.mem_of_getElem? he)
      obtain ⟨ew, ex, ey, ek, em, en, es⟩ := e
      obtain ⟨a1, a2, a3, a4, a5, a6, hX, hXf⟩ := accX_at A
      have cA1 := fun W hW => accepted_at g A W hW hI.c hI.good
      have cP1 := fun W hW => promised_at g A W hW hI.c
      rw [hX] at cA1
      obtain ⟨had, hh⟩ : ∃ had, accH A = had := ⟨_, rfl⟩
      rw [hh] at cA1 hXf
      clear hQ he HS hE
      go_wp2_with fail
      refine (cP1 _ hA).mono ?_
      rintro e w3 ⟨rfl, hb3⟩
      go_upto_region 10 with fail
      obtain ⟨G1, hG1⟩ : ∃ G1, w3.heap.size = G1 := ⟨_, rfl⟩
      have X1 := Blk.newV hG1 36 #[.int .i64 A.r, .int .i64 A.p]
      have hbn := (Below.refl w3.heap.size w3).alloc (Nat.le_refl _) (.cells #[.int .i64 A.r, .int .i64 A.p] 36)
      have hbm := hb3.trans (hbn.mono (by have := hb3.size; omega))
      have hA3 := hA.step hbm
      have hQ3 := hQ1.step hbm
      have hb4 := hb.trans (hbm.mono (by have := hb.size; omega))
      have hG1B : B ≤ G1 := by have := hb.size; have := hb3.size; omega
      have hgG1 : g < G1 := by have := hA.lt; have := hb3.size; omega
      rw [hG1]
      clear hbn hbm hb3 hA hQ1 hb
      generalize w3.alloc (.cells #[.int .i64 A.r, .int .i64 A.p] 36) = w4 at *
      clear hG1
      go_wp2_with fail
      refine (cA1 _ hA3).mono ?_
      rintro e w5 ⟨rfl, hb5⟩
      go_upto_region 12 with fail
      obtain ⟨G2, hG2⟩ : ∃ G2, w5.heap.size = G2 := ⟨_, rfl⟩
      have X2 := Blk.newV hG2 39 #[.int .i64 a1, .int .i64 a2, .int .i64 a3, .int .i64 a4, .int .i64 a5, .string a6]
      have hbn := (Below.refl w5.heap.size w5).alloc (Nat.le_refl _) (.cells #[.int .i64 a1, .int .i64 a2, .int .i64 a3, .int .i64 a4, .int .i64 a5, .string a6] 39)
      have hbm := hb5.trans (hbn.mono (by have := hb5.size; omega))
      have hA5 := hA3.step hbm
      have hQ5 := hQ3.step hbm
      have X3 := X1.step hbm
      have hb6 := hb4.trans (hbm.mono (by have := hb4.size; omega))
      have hG2B : B ≤ G2 := by have := hb4.size; have := hb5.size; omega
      have hgG2 : g < G2 := by have := hA3.lt; have := hb5.size; omega
      rw [hG2]
      clear hbn hbm hb5 hA3 hQ3 hb4 X1 cA1 cP1
      generalize w5.alloc (.cells #[.int .i64 a1, .int .i64 a2, .int .i64 a3, .int .i64 a4, .int .i64 a5, .string a6] 39) = w6 at *
      clear hG2
      have hT6 := hT.step (hB ▸ hb6)
      have q0 := hQ5.h0
      have q1 := hQ5.h1
      have q2 := hQ5.h2
      have q3 := hQ5.h3
      have q4 := hQ5.h4
      have q5 := hQ5.h5
      have q6 := hQ5.h6
      simp only at q0 q1 q2 q3 q4 q5 q6 hse
      go_upto_if 49 with fail
      go_cut [13] from 31 to 134 (fun v13 wx => ∃ (A2 : Acc) (ok : Bool), v13 = .bool ok ∧ AW wx g A2 ∧ RiseF A A2 ex ey ok ∧ InvA A2 ∧ Kx [g] w6 wx)
      case first =>
        by_cases hw : ew = 0
        · subst hw
          have cP := promise_any g A ex ey _ hA5 hI.c
          obtain ⟨hR, hI2⟩ := rise_pro hI ex ey
          unfold proP at cP
          obtain ⟨c1, c2, c3, c4, c5, c6, hX2⟩ := proX_formN A ex ey
          rw [hX2] at cP
          generalize proA A ex ey = A2 at *
          generalize proB A ex ey = ok at *
          generalize proE A ex ey = er at *
          go_wp2_with fail
          refine (cP).mono ?_
          rintro e wx ⟨rfl, h7, hK7⟩
          go_wp2_with fail
          go_meet
          exact ⟨A2, ok, rfl, h7, hR, hI2, hK7⟩
        · have hwd : (ew == 0) = false := by simp [hw]
          have cP := fun W hW hT => accept_any g A ex ey ek em en es W hW hI.c hse hT
          obtain ⟨hR, hI2⟩ := rise_acc hI ex ey ek em en es
          unfold accP at cP
          generalize accA A ex ey ek em en es = A2 at *
          generalize accB A ex ey ek em en es = ok at *
          generalize accE A ex ey ek em en es = er at *
          have hbg : b ∉ [g] := by simp; omega
          have u1 := kxcN q1 hbg
          have u2 := kxcN q2 hbg
          have u3 := kxcN q3 hbg
          have u4 := kxcN q4 hbg
          have u5 := kxcN q5 hbg
          have u6 := kxcN q6 hbg
          go_upto_region 14 with fail
          refine wp_region_held (S := Kx [g] w6) (by kernel_rfl) ?_
          have hst : Below w6.heap.size w6 { w6 with drawn := w6.drawn + 1 } := ⟨rfl, rfl, rfl, Nat.le_refl _, fun _ _ => rfl⟩
          have hS : Kx [g] w6 { w6 with drawn := w6.drawn + 1 } := ⟨rfl, rfl, rfl, Nat.le_refl _, fun _ _ _ => rfl⟩
          have hA6 := hA5.step hst
          have hT7 := hT6.step hst
          generalize ({ w6 with drawn := w6.drawn + 1 } : World) = wq at *
          refine wpAnyH_take (i := 0) (v := ?_) rfl (by kernel_rfl) (by kernel_rfl) (by kernel_rfl) (fun _ _ _ h => h) (Or.inl ⟨by rfl, ?_⟩) hS ?_
          rotate_left
          · intro W hSW
            have y1 := u1 _ hSW
            have y2 := u2 _ hSW
            have y3 := u3 _ hSW
            have y4 := u4 _ hSW
            have y5 := u5 _ hSW
            have y6 := u6 _ hSW
            go_simp
            try with_reducible rfl
          dsimp only [Act.put]
          refine wpAnyH_take (i := 1) (v := ?_) rfl (by kernel_rfl) (by kernel_rfl) (by kernel_rfl) (fun _ _ _ h => h) (Or.inl ⟨by rfl, ?_⟩) hS ?_
          rotate_left
          · intro W hSW
            have y1 := u1 _ hSW
            have y2 := u2 _ hSW
            have y3 := u3 _ hSW
            have y4 := u4 _ hSW
            have y5 := u5 _ hSW
            have y6 := u6 _ hSW
            go_simp
            try with_reducible rfl
          dsimp only [Act.put]
          refine wpAnyH_take (i := 2) (v := ?_) rfl (by kernel_rfl) (by kernel_rfl) (by kernel_rfl) (fun _ _ _ h => h) (Or.inl ⟨by rfl, ?_⟩) hS ?_
          rotate_left
          · intro W hSW
            have y1 := u1 _ hSW
            have y2 := u2 _ hSW
            have y3 := u3 _ hSW
            have y4 := u4 _ hSW
            have y5 := u5 _ hSW
            have y6 := u6 _ hSW
            go_simp
            try with_reducible rfl
          dsimp only [Act.put]
          refine wpAnyH_take (i := 3) (v := ?_) rfl (by kernel_rfl) (by kernel_rfl) (by kernel_rfl) (fun _ _ _ h => h) (Or.inl ⟨by rfl, ?_⟩) hS ?_
          rotate_left
          · intro W hSW
            have y1 := u1 _ hSW
            have y2 := u2 _ hSW
            have y3 := u3 _ hSW
            have y4 := u4 _ hSW
            have y5 := u5 _ hSW
            have y6 := u6 _ hSW
            go_simp
            try with_reducible rfl
          dsimp only [Act.put]
          refine wpAnyH_take (i := 4) (v := ?_) rfl (by kernel_rfl) (by kernel_rfl) (by kernel_rfl) (fun _ _ _ h => h) (Or.inl ⟨by rfl, ?_⟩) hS ?_
          rotate_left
          · intro W hSW
            have y1 := u1 _ hSW
            have y2 := u2 _ hSW
            have y3 := u3 _ hSW
            have y4 := u4 _ hSW
            have y5 := u5 _ hSW
            have y6 := u6 _ hSW
            go_simp
            try with_reducible rfl
          dsimp only [Act.put]
          refine wpAnyH_take (i := 5) (v := ?_) rfl (by kernel_rfl) (by kernel_rfl) (by kernel_rfl) (fun _ _ _ h => h) (Or.inl ⟨by rfl, ?_⟩) hS ?_
          rotate_left
          · intro W hSW
            have y1 := u1 _ hSW
            have y2 := u2 _ hSW
            have y3 := u3 _ hSW
            have y4 := u4 _ hSW
            have y5 := u5 _ hSW
            have y6 := u6 _ hSW
            go_simp
            try with_reducible rfl
          dsimp only [Act.put]
          refine wpAnyH_take (i := 6) (v := ?_) rfl (by kernel_rfl) (by kernel_rfl) (by kernel_rfl) (fun _ _ _ h => h) (Or.inl ⟨by rfl, ?_⟩) hS ?_
          rotate_left
          · intro W hSW
            have y1 := u1 _ hSW
            have y2 := u2 _ hSW
            have y3 := u3 _ hSW
            have y4 := u4 _ hSW
            have y5 := u5 _ hSW
            have y6 := u6 _ hSW
            go_simp
            try with_reducible rfl
          dsimp only [Act.put]
          refine wpAnyH_take (i := 7) (v := ?_) rfl (by kernel_rfl) (by kernel_rfl) (by kernel_rfl) (fun _ _ _ h => h) (Or.inl ⟨by rfl, ?_⟩) hS ?_
          rotate_left
          · intro W hSW
            have y1 := u1 _ hSW
            have y2 := u2 _ hSW
            have y3 := u3 _ hSW
            have y4 := u4 _ hSW
            have y5 := u5 _ hSW
            have y6 := u6 _ hSW
            go_simp
            try with_reducible rfl
          dsimp only [Act.put]
          refine wpAnyH_take (i := 8) (v := ?_) rfl (by kernel_rfl) (by kernel_rfl) (by kernel_rfl) (fun _ _ _ h => h) (Or.inl ⟨by rfl, ?_⟩) hS ?_
          rotate_left
          · intro W hSW
            have y1 := u1 _ hSW
            have y2 := u2 _ hSW
            have y3 := u3 _ hSW
            have y4 := u4 _ hSW
            have y5 := u5 _ hSW
            have y6 := u6 _ hSW
            go_simp
            try with_reducible rfl
          dsimp only [Act.put]
          refine wpAnyH_take (i := 9) (v := ?_) rfl (by kernel_rfl) (by kernel_rfl) (by kernel_rfl) (fun _ _ _ h => h) (Or.inl ⟨by rfl, ?_⟩) hS ?_
          rotate_left
          · intro W hSW
            have y1 := u1 _ hSW
            have y2 := u2 _ hSW
            have y3 := u3 _ hSW
            have y4 := u4 _ hSW
            have y5 := u5 _ hSW
            have y6 := u6 _ hSW
            go_simp
            try with_reducible rfl
          dsimp only [Act.put]
          refine wpAnyH_take (i := 10) (v := ?_) rfl (by kernel_rfl) (by kernel_rfl) (by kernel_rfl) (fun _ _ _ h => h) (Or.inl ⟨by rfl, ?_⟩) hS ?_
          rotate_left
          · intro W hSW
            have y1 := u1 _ hSW
            have y2 := u2 _ hSW
            have y3 := u3 _ hSW
            have y4 := u4 _ hSW
            have y5 := u5 _ hSW
            have y6 := u6 _ hSW
            go_simp
            try with_reducible rfl
          dsimp only [Act.put]
          refine wpAnyH_ready (rs := [11]) (by kernel_rfl) (by simp) ?_
          refine AllReadyH.cons rfl (fun K hK => ?_) AllReadyH.nil
          go_simp
          refine (cP _ hA6 hT7).mono ?_
          rintro e wz ⟨rfl, h7, hK7⟩
          refine hK.out _ _ (hS.trans hK7) (fun hS => ?_)
          clear hK K
          refine wpAnyH_take (i := 12) (v := ?_) rfl (by kernel_rfl) (by kernel_rfl) (by kernel_rfl) (fun _ _ _ h => h) (Or.inl ⟨by rfl, ?_⟩) hS ?_
          rotate_left
          · intro W hSW
            have y1 := u1 _ hSW
            have y2 := u2 _ hSW
            have y3 := u3 _ hSW
            have y4 := u4 _ hSW
            have y5 := u5 _ hSW
            have y6 := u6 _ hSW
            go_simp
            try with_reducible rfl
          dsimp only [Act.put]
          refine wpAnyH_take (i := 13) (v := ?_) rfl (by kernel_rfl) (by kernel_rfl) (by kernel_rfl) (fun _ _ _ h => h) (Or.inl ⟨by rfl, ?_⟩) hS ?_
          rotate_left
          · intro W hSW
            have y1 := u1 _ hSW
            have y2 := u2 _ hSW
            have y3 := u3 _ hSW
            have y4 := u4 _ hSW
            have y5 := u5 _ hSW
            have y6 := u6 _ hSW
            go_simp
            try with_reducible rfl
          dsimp only [Act.put]
          refine wpAnyH_take (i := 14) (v := ?_) rfl (by kernel_rfl) (by kernel_rfl) (by kernel_rfl) (fun _ _ _ h => h) (Or.inl ⟨by rfl, ?_⟩) hS ?_
          rotate_left
          · intro W hSW
            have y1 := u1 _ hSW
            have y2 := u2 _ hSW
            have y3 := u3 _ hSW
            have y4 := u4 _ hSW
            have y5 := u5 _ hSW
            have y6 := u6 _ hSW
            go_simp
            try with_reducible rfl
          dsimp only [Act.put]
          refine wpAnyH_ready (rs := [15]) (by kernel_rfl) (by simp) ?_
          refine AllReadyH.cons rfl (fun K hK => ?_) AllReadyH.nil
          go_simp
          refine hK.out _ _ hS (fun hS => ?_)
          clear hK K
          refine wpAnyH_done (by kernel_rfl) ?_ _
          go_wp2_with fail
          go_meet
          exact ⟨A2, ok, rfl, h7, hR, hI2, hS⟩
      case rest =>
      obtain ⟨A2, ok, rfl, h7, hR, hI2, hK⟩ := hcut
      generalize wc = w7 at *
      have hb7 : Below B w w7 := hb6.trans (hK.below (by have := hb6.size; omega) (by simp; omega))
      have X4 := hK.blk X3 (by simp; omega)
      have X5 := hK.blk X2 (by simp; omega)
      have hQ7 := hQ5.kx hK (by simp; omega)
      obtain ⟨b1, b2, b3, b4, b5, b6, hY, hYf⟩ := accX_at A2
      have cA2 := fun W hW => accepted_at g A2 W hW hI2.c hI2.good
      have cP2 := fun W hW => promised_at g A2 W hW hI2.c
      rw [hY] at cA2
      obtain ⟨has, hh2⟩ : ∃ has, accH A2 = has := ⟨_, rfl⟩
      rw [hh2] at cA2 hYf
      clear q0 q1 q2 q3 q4 q5 q6 hK hA5 hQ5 X2 X3 hb6 hT6
      go_wp2_with fail
      refine (cP2 _ h7).mono ?_
      rintro e w8 ⟨rfl, hb8⟩
      go_upto_region 16 with fail
      have X6 := Blk.newV (W := w8) rfl 36 #[.int .i64 A2.r, .int .i64 A2.p]
      have hbn := (Below.refl w8.heap.size w8).alloc (Nat.le_refl _) (.cells #[.int .i64 A2.r, .int .i64 A2.p] 36)
      have hbm := hb8.trans (hbn.mono (by have := hb8.size; omega))
      have hA8 := h7.step hbm
      have hQ8 := hQ7.step hbm
      have X7 := X4.step hbm
      have X8 := X5.step hbm
      have hb9 := hb7.trans (hbm.mono (by have := hb7.size; omega))
      generalize w8.alloc (.cells #[.int .i64 A2.r, .int .i64 A2.p] 36) = w9 at *
      generalize w8.heap.size = G3 at *
      clear hbn hbm hb8 h7 hQ7 X4 X5 hb7
      go_wp2_with fail
      refine (cA2 _ hA8).mono ?_
      rintro e wa ⟨rfl, hba⟩
      go_upto_region 17 with fail
      have X9 := Blk.newV (W := wa) rfl 39 #[.int .i64 b1, .int .i64 b2, .int .i64 b3, .int .i64 b4, .int .i64 b5, .string b6]
      have hbn := (Below.refl wa.heap.size wa).alloc (Nat.le_refl _) (.cells #[.int .i64 b1, .int .i64 b2, .int .i64 b3, .int .i64 b4, .int .i64 b5, .string b6] 39)
      have hbm := hba.trans (hbn.mono (by have := hba.size; omega))
      have h7 := hA8.step hbm
      have hQ9 := hQ8.step hbm
      have Xa := X7.step hbm
      have Xb := X8.step hbm
      have Xc := X6.step hbm
      have hb7 := hb9.trans (hbm.mono (by have := hb9.size; omega))
      generalize wa.alloc (.cells #[.int .i64 b1, .int .i64 b2, .int .i64 b3, .int .i64 b4, .int .i64 b5, .string b6] 39) = wb at *
      generalize wa.heap.size = G4 at *
      clear hbn hbm hba hA8 hQ8 X7 X8 X6 hb9 cA2 cP2
      have sc0 := extA_cell (Xa.cell (j := 0) rfl)
      have sc1 := extA_cell (Xa.cell (j := 1) rfl)
      have tc0 := extA_cell (Xb.cell (j := 0) rfl)
      have tc1 := extA_cell (Xb.cell (j := 1) rfl)
      have tc2 := extA_cell (Xb.cell (j := 2) rfl)
      have tc3 := extA_cell (Xb.cell (j := 3) rfl)
      have tc4 := extA_cell (Xb.cell (j := 4) rfl)
      have tc5 := extA_cell (Xb.cell (j := 5) rfl)
      have uc0 := extA_cell (Xc.cell (j := 0) rfl)
      have uc1 := extA_cell (Xc.cell (j := 1) rfl)
      have vc0 := extA_cell (X9.cell (j := 0) rfl)
      have vc1 := extA_cell (X9.cell (j := 1) rfl)
      have vc2 := extA_cell (X9.cell (j := 2) rfl)
      have vc3 := extA_cell (X9.cell (j := 3) rfl)
      have vc4 := extA_cell (X9.cell (j := 4) rfl)
      have vc5 := extA_cell (X9.cell (j := 5) rfl)
      have q1 := extA_cell hQ9.h1
      have q2 := extA_cell hQ9.h2
      simp only at q1 q2
      clear Xa Xb Xc X9 hQ9
      have k1 := hR.f1
      cases ok
      · obtain rfl := hR.f5 rfl
        rw [hX] at hY
        obtain ⟨rfl, rfl, rfl, rfl, rfl, rfl⟩ : a1 = b1 ∧ a2 = b2 ∧ a3 = b3 ∧ a4 = b4 ∧ a5 = b5 ∧ a6 = b6 := by
          injection hY with hY; injection hY with hY; simpa using hY
        rw [hh] at hh2
        subst hh2
        cases had
        · refine wp_region_extB (by kernel_rfl) (by kernel_rfl) ?_
          repeat
            (first
              | go_big_quiet_skip
              | (go_big_quiet_want
                 go_big_quiet_op
                 first
                   | go_big_quiet_on
                   | (apply Exists.intro
                      refine ⟨fun w' hC => ?_, ?_⟩
                      · (first
                          | with_reducible rfl
                          | (go_at_call 19; refine (refLess_at _ _ _ _ false (by first | exact k1 | exact k2 | exact k3 | exact k4) _).mono ?_; rintro e w2 ⟨rfl, hb9⟩; exact ⟨rfl, extA_then hC hb9⟩)
                          | (go_simp; done)
                          | (go_simp; with_reducible rfl))
                      go_big_quiet_on)))
          refine wpQuiet_nil ?_
          intro wq hq
          have h8 := h7.step hq
          have hb8 := hb7.trans (Below.mono hq (by have := hb7.size; omega))
          go_wp2
          go_roundw
          case rel => exact ⟨j + 1, A2, by go_num, by omega, h8, hI2, hb8⟩
          case measure => simp [intOf]; omega
        · obtain ⟨rfl, rfl⟩ := hXf rfl
          have k2 := less_irr A2.ar A2.ap
          have k3 := hR.f3 hh
          refine wp_region_extB (by kernel_rfl) (by kernel_rfl) ?_
          repeat
            (first
              | go_big_quiet_skip
              | (go_big_quiet_want
                 go_big_quiet_op
                 first
                   | go_big_quiet_on
                   | (apply Exists.intro
                      refine ⟨fun w' hC => ?_, ?_⟩
                      · (first
                          | with_reducible rfl
                          | (go_at_call 19; refine (refLess_at _ _ _ _ false (by first | exact k1 | exact k2 | exact k3 | exact k4) _).mono ?_; rintro e w2 ⟨rfl, hb9⟩; exact ⟨rfl, extA_then hC hb9⟩)
                          | (go_simp; done)
                          | (go_simp; with_reducible rfl))
                      go_big_quiet_on)))
          refine wpQuiet_nil ?_
          intro wq hq
          have h8 := h7.step hq
          have hb8 := hb7.trans (Below.mono hq (by have := hb7.size; omega))
          go_wp2
          go_roundw
          case rel => exact ⟨j + 1, A2, by go_num, by omega, h8, hI2, hb8⟩
          case measure => simp [intOf]; omega
      · have k4 := hR.f4 rfl
        cases had
        · cases has
          · refine wp_region_extB (by kernel_rfl) (by kernel_rfl) ?_
            repeat
              (first
                | go_big_quiet_skip
                | (go_big_quiet_want
                   go_big_quiet_op
                   first
                     | go_big_quiet_on
                     | (apply Exists.intro
                        refine ⟨fun w' hC => ?_, ?_⟩
                        · (first
                            | with_reducible rfl
                            | (go_at_call 19; refine (refLess_at _ _ _ _ false (by first | exact k1 | exact k2 | exact k3 | exact k4) _).mono ?_; rintro e w2 ⟨rfl, hb9⟩; exact ⟨rfl, extA_then hC hb9⟩)
                            | (go_simp; done)
                            | (go_simp; with_reducible rfl))
                        go_big_quiet_on)))
            refine wpQuiet_nil ?_
            intro wq hq
            have h8 := h7.step hq
            have hb8 := hb7.trans (Below.mono hq (by have := hb7.size; omega))
            go_wp2
            go_roundw
            case rel => exact ⟨j + 1, A2, by go_num, by omega, h8, hI2, hb8⟩
            case measure => simp [intOf]; omega
          · obtain ⟨rfl, rfl⟩ := hYf rfl
            have k3 := hR.f3 hh2
            refine wp_region_extB (by kernel_rfl) (by kernel_rfl) ?_
            repeat
              (first
                | go_big_quiet_skip
                | (go_big_quiet_want
                   go_big_quiet_op
                   first
                     | go_big_quiet_on
                     | (apply Exists.intro
                        refine ⟨fun w' hC => ?_, ?_⟩
                        · (first
                            | with_reducible rfl
                            | (go_at_call 19; refine (refLess_at _ _ _ _ false (by first | exact k1 | exact k2 | exact k3 | exact k4) _).mono ?_; rintro e w2 ⟨rfl, hb9⟩; exact ⟨rfl, extA_then hC hb9⟩)
                            | (go_simp; done)
                            | (go_simp; with_reducible rfl))
                        go_big_quiet_on)))
            refine wpQuiet_nil ?_
            intro wq hq
            have h8 := h7.step hq
            have hb8 := hb7.trans (Below.mono hq (by have := hb7.size; omega))
            go_wp2
            go_roundw
            case rel => exact ⟨j + 1, A2, by go_num, by omega, h8, hI2, hb8⟩
            case measure => simp [intOf]; omega
        · obtain ⟨rfl, rfl⟩ := hXf rfl
          obtain ⟨k5, k2⟩ := hR.f2 hh
          rw [hh2] at k5
          subst k5
          obtain ⟨rfl, rfl⟩ := hYf rfl
          have k3 := hR.f3 hh2
          refine wp_region_extB (by kernel_rfl) (by kernel_rfl) ?_
          repeat
            (first
              | go_big_quiet_skip
              | (go_big_quiet_want
                 go_big_quiet_op
                 first
                   | go_big_quiet_on
                   | (apply Exists.intro
                      refine ⟨fun w' hC => ?_, ?_⟩
                      · (first
                          | with_reducible rfl
                          | (go_at_call 19; refine (refLess_at _ _ _ _ false (by first | exact k1 | exact k2 | exact k3 | exact k4) _).mono ?_; rintro e w2 ⟨rfl, hb9⟩; exact ⟨rfl, extA_then hC hb9⟩)
                          | (go_simp; done)
                          | (go_simp; with_reducible rfl))
                      go_big_quiet_on)))
          refine wpQuiet_nil ?_
          intro wq hq
          have h8 := h7.step hq
          have hb8 := hb7.trans (Below.mono hq (by have := hb7.size; omega))
          go_wp2
          go_roundw
          case rel => exact ⟨j + 1, A2, by go_num, by omega, h8, hI2, hb8⟩
          case measure => simp [intOf]; omega
    · obtain rfl : j = N := by omega
      have hbw := hb
      go_wp2_with fail
      refine (works14_any _ (hT.step (hB ▸ hb))).mono ?_
      rintro e w9 ⟨rfl, hb9⟩
      go_wp2
      go_ret
      exact ⟨rfl, hb.trans (hb9.mono (by have := hb.size; omega))⟩
theorem rises_walkx (c sl : Int) (x : Option Addr) (len cap : Nat) (w : World) (hT : Tabs w) (h : ∃ l : List Ac, l.length = len ∧ HasAc w x l ∧ (∀ e, e ∈ l → e.s.size ≤ maxLen) ∧ len ≤ maxLen) :
    Calls Tryd.prog 4 #[.int .i64 c, .int .i64 sl, .slice x len cap] w fun r w' => r = .returned (.bool true) ∧ Below w.heap.size w w' := by
  obtain ⟨l, rfl, hE, hs, hl⟩ := h
  have hl2 : l.length ≤ 9223372036854775807 := by unfold maxLen at hl; omega
  have hs2 : ∀ e, e ∈ l → e.s.size ≤ 9223372036854775807 := fun e he => by have := hs e he; unfold maxLen at this; omega
  cases hf : fewB l 40
  · exact rises_few c sl l x cap w hT hE hl2 hs2 hf
  · by_cases h0 : opErr c sl = 0
    · exact rises_yes c sl l x cap w hT hE hl2 hs2 hf h0
    · exact rises_no c sl l x cap w hT hE hl2 hs2 hf h0
end Go.Proofs.YtcokbljlgbcpkaaDoor
