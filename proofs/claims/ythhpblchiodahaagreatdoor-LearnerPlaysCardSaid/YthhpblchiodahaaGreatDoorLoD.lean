
/- Package learner: ordered's iterator. -/
import Derived.Test.YthhpblchiodahaaGreatDoorLoC
namespace Go.Proofs.YthhpblchiodahaaGreatDoor
set_option linter.unusedSimpArgs false
set_option linter.unusedVariables false
open Go.RowKit Go.Maps
attribute [local go_sem] Oper.semAt_some
theorem sorted2_any (Bm b : Nat) (L : HMap) (w1 : World) (X : Blk w1 Bm 60 [.map (some b)]) (hM1 : MapH w1 b L) (hn : L.length ≤ 1000) :
    Calls Tryz.prog 76 #[.func (.func 121) #[] #[.pointer (some ⟨Bm, 0, none⟩)], cmpV] w1
      fun e w' => (∃ ao cap, e = .returned (.slice ao L.length cap) ∧ BalR w' w1.heap.size ao ((srtB L).map (·.1))) ∧ Below w1.heap.size w1 w' := by
  unfold cmpV
  refine (sortedB_any Bm b L w1 X hM1 hn).mono ?_
  rintro e w' ⟨⟨v, rfl, hR⟩, hb⟩
  obtain ⟨ao, cap, rfl, hB⟩ := row_balR hR
  exact ⟨⟨ao, cap, rfl, hB⟩, hb⟩
set_option maxRecDepth 100000 in
set_option maxHeartbeats 4000000 in
theorem ord_xsO (gO bm bc b : Nat) (L : HMap) (w : World) (hBm : Blk w bm 60 [.map (some b)]) (hBc : Blk w bc 129 [cmpV]) (hM : MapH w b L) (hn : L.length ≤ 1000)
    (hk : ∀ p ∈ L, okB p.1) (hO : w.cell? ⟨gO, 0, none⟩ = some (.slice none 0 0)) (h1 : bm ≠ gO) (h3 : b ≠ gO) :
    SeqXs Tryz.prog 75 #[.pointer (some ⟨bm, 0, none⟩), .pointer (some ⟨bc, 0, none⟩)] hEnc (srtB L) (KpO gO (fun k => k = gO)) w := by
  obtain ⟨xs, hxs⟩ : ∃ xs, srtB L = xs := ⟨_, rfl⟩
  have cS := fun Bm W hX hM => sorted2_any Bm b L W hX hM hn
  have hmem : ∀ (k : Nat) x, xs[k]? = some x → x ∈ L := fun k x hx => (srtB_perm L).mem_iff.1 (by rw [hxs]; exact List.mem_of_getElem? hx)
  obtain ⟨N, hN⟩ : ∃ N, xs.length = N := ⟨_, rfl⟩
  have hLN : L.length = N := by rw [← hN, ← hxs, srtB_len]
  have hNI : (N : Int) ≤ 1000 := by omega
  rw [hxs, hLN] at cS
  rw [hxs]
  intro l J Jx W hW hJ hJx hY h0
  have hzW := hW.size
  have hgO := World.block_lt_of_cell? w _ hO
  have hOW := (hW.cell hgO).trans hO
  have hb0 := Below.refl W.heap.size W
  have hBm' := hBm.below hW hBm.lt
  have hBc' := hBc.below hW hBc.lt
  have hM' : MapH W b L := MapG.heap hM (hW.block b (MapG.lt hM))
  have hbl := hBm'.lt
  have hml : b < W.heap.size := MapG.lt hM'
  have hgl : gO < W.heap.size := Nat.lt_of_lt_of_le hgO hzW
  unfold cmpV at hBc'
  clear hBm hBc hM hO hgO
  have HY := Lib.hid hY
  clear hY
  refine callsIn_of_wp Tryz.func75 rfl trivial ?_ rfl
  simp only [Tryz.ntmps75, List.size_toArray, List.length_cons, List.length_nil, Nat.reduceAdd, Nat.reduceSub, Array.replicate_succ, Array.replicate_zero, List.push_toArray, List.append_toArray, List.nil_append, List.cons_append]
  refine (wpIn_wide (n := 2)).2 ?_
  go_upto_region 0 with fail
  have hbW : From W W := From.refl W
  have u0 := fun (W' : World) (h : Kx [] W W') => (h.blk hBm' (by simp)).cell (j := 0) rfl
  have u1 := fun (W' : World) (h : Kx [] W W') => (h.blk hBc' (by simp)).cell (j := 0) rfl
  refine wp_region_held (S := Kx [] W) (by kernel_rfl) ?_
  have hst : Below (W).heap.size W { W with drawn := (W).drawn + 1 } := ⟨rfl, rfl, rfl, Nat.le_refl _, fun _ _ => rfl⟩
  have hS : (Kx [] W) { W with drawn := (W).drawn + 1 } := by first | exact ⟨rfl, rfl, rfl, Nat.le_refl _, fun _ _ _ => rfl⟩ | exact ⟨rfl, rfl, rfl, Nat.le_refl _, fun _ _ => rfl⟩ | exact hS0
  replace hbW := hbW.step hst
  clear hst
  generalize ({ W with drawn := (W).drawn + 1 } : World) = wq at *
  refine wpAnyH_take (i := 0) (v := ?_) rfl (by kernel_rfl) (by kernel_rfl) (by kernel_rfl) (fun _ _ _ h => h) (Or.inl ⟨by kernel_rfl, ?_⟩) hS ?_
  rotate_left
  · intro W hSW
    have y0 := u0 _ hSW
    have y1 := u1 _ hSW
    go_simp
    try with_reducible rfl
  dsimp only [Act.put]
  refine wpAnyH_take (i := 2) (v := ?_) rfl (by kernel_rfl) (by kernel_rfl) (by kernel_rfl) (fun _ _ _ h => h) (Or.inl ⟨by kernel_rfl, ?_⟩) hS ?_
  rotate_left
  · intro W hSW
    have y0 := u0 _ hSW
    have y1 := u1 _ hSW
    go_simp
    try with_reducible rfl
  dsimp only [Act.put]
  refine wpAnyH_take (i := 5) (v := ?_) rfl (by kernel_rfl) (by kernel_rfl) (by kernel_rfl) (fun _ _ _ h => h) (Or.inl ⟨by kernel_rfl, ?_⟩) hS ?_
  rotate_left
  · intro W hSW
    have y0 := u0 _ hSW
    have y1 := u1 _ hSW
    go_simp
    try with_reducible rfl
  dsimp only [Act.put]
  refine wpAnyH_ready (rs := [1]) (by kernel_rfl) (by simp) ?_
  refine AllReadyH.cons rfl (fun K hK => ?_) AllReadyH.nil
  go_simp
  refine (keysM_any b _).mono ?_
  rintro e w2 ⟨rfl, rfl⟩
  obtain ⟨gX, hgX⟩ : ∃ g, wq.heap.size = g := ⟨_, rfl⟩
  have X := Blk.newV hgX 60 #[.map (some b)]
  have hbn := (Below.refl wq.heap.size wq).alloc (Nat.le_refl _) (.cells #[.map (some b)] 60)
  have hM2 : MapH (wq.alloc (.cells #[.map (some b)] 60)) b L := MapG.step (MapG.step hM' hbW) hbn
  have hb2 := hbW.step hbn
  rw [hgX]
  generalize wq.alloc (.cells #[.map (some b)] 60) = w2 at *
  refine hK.out _ _ (hS.step hbn) (fun hS => ?_)
  clear hK K
  refine wpAnyH_ready (rs := [3]) (by kernel_rfl) (by simp) ?_
  refine AllReadyH.cons rfl (fun K hK => ?_) AllReadyH.nil
  go_simp
  refine (cS gX _ X hM2).mono ?_
  rintro e w3 ⟨⟨ao, cap, rfl, hB⟩, hbn3⟩
  have hb3 := hb2.step hbn3
  refine hK.out _ _ (hS.step hbn3) (fun hS => ?_)
  clear hK K
  refine wpAnyH_ready (rs := [4]) (by kernel_rfl) (by simp) ?_
  refine AllReadyH.cons rfl (fun K hK => ?_) AllReadyH.nil
  go_simp
  refine hK.out _ _ (hS) (fun hS => ?_)
  clear hK K
  refine wpAnyH_done (by kernel_rfl) ?_ _
  have hsz3 := hb2.size
  have hBm3 := hBm'.step hb3
  have hM3 : MapH w3 b L := MapG.step hM' hb3
  have hJ3 := abides_below hJ h0 hb3
  have hO3 := (Below.cell hb3 hgl).trans hOW
  have hs3 := Below.size hb3
  obtain ⟨G, hG⟩ : ∃ G, w3.heap.size = G := ⟨_, rfl⟩
  rw [hG] at hs3
  have hno3 : Hid (∀ r, r < G → ¬ OwnB w3 gO r) := Lib.hid (fun r _ ⟨v, hv, hr⟩ => by rw [hO3] at hv; cases hv; cases hr)
  have hBR : BalR w3 w2.heap.size ao (xs.map (·.1)) := hB
  have hlx : (xs.map (·.1)).length = N := by rw [List.length_map, hN]
  have hrow : Hid (∀ g, 0 < N → ao = some ⟨g, 0, none⟩ → g < G) := Lib.hid (fun g hN0 hg => by
    obtain ⟨g2, e1, e2⟩ := hBR.lts (by omega)
    rw [hg] at e1
    cases e1
    omega)
  have hWw2 := hb2.size
  obtain ⟨B2, hB2⟩ : ∃ B, w2.heap.size = B := ⟨_, rfl⟩
  rw [hB2] at hBR hWw2
  clear hS hb3 hb2 hbn hbn3 hM2 X hB hO3 hOW h0 hM' hBc' hBm' hbW u0 u1 hB2 cS hsz3 hgX
  go_wp2_with fail
  refine (wpIn_wide (n := 2)).1 ?_
  gi_loopw [11] (fun i wr => ∃ k : Nat, k ≤ N ∧ i = .int .i64 k ∧ BalR wr B2 ao (xs.map (·.1)) ∧ Blk wr bm 60 [.map (some b)] ∧ MapH wr b L ∧ J k wr ∧ Hid (∀ r, r < G → ¬ OwnB wr gO r) ∧ Hid (G ≤ wr.heap.size)) (fun i _ => N - (intOf i).toNat)
  case atStart => exact ⟨0, by omega, rfl, hBR, hBm3, hM3, hJ3, hno3, Lib.hid (by omega)⟩
  case round =>
    clear hBR hBm3 hM3 hJ3 hno3
    obtain ⟨k, hkN, rfl, hSr, hBr, hMr, hJr, hnr, hGr⟩ := hrel
    by_cases hlt : k < N
    · obtain ⟨x, hx⟩ : ∃ x, xs[k]? = some x := ⟨xs[k], by simp [hN, hlt]⟩
      have hxm := hmem k x hx
      obtain ⟨g, hao, hgb, hc0, hc1⟩ := hSr k x.1 (by rw [List.getElem?_map, hx]; rfl)
      have hlk := fun W' (h : Below wr.heap.size wr W') => MapG.look1 (MapG.step hMr h) keyB Tryz.underlying60 (zero_heard W') x.1 (hk x hxm)
      rw [getG_mem (MapG.nodup hMr) hxm] at hlk
      simp only at hlk
      have hgG := hrow.out g (by omega) hao
      subst hao
      obtain ⟨⟨⟨kr, kp⟩, hd⟩, hxe⟩ : ∃ z, x = z := ⟨_, rfl⟩
      subst hxe
      simp only at hc0 hc1 hlk
      obtain ⟨V, hV⟩ : ∃ V, evH hd = V := ⟨_, rfl⟩
      have HV := Lib.hid hV
      rw [hV] at hlk
      unfold ekB at hlk
      simp only at hlk
      have hk0 : (0 : Int) ≤ (k : Int) := by omega
      have hk1 : (k : Int) < (N : Int) := by omega
      clear hxm hmem hV
      have HX := Lib.hid hx
      clear hx
      have hb := From.refl wr
      gi_upto_region 3 with fail
      obtain ⟨gX, hgX⟩ : ∃ g, (wr).heap.size = g := ⟨_, rfl⟩
      have X := Blk.newV hgX 66 #[.int .i64 kr, .int .i64 kp]
      have hbn := (Below.refl (wr).heap.size wr).alloc (Nat.le_refl _) (.cells #[.int .i64 kr, .int .i64 kp] 66)
      replace hb := hb.step hbn
      replace hBr := hBr.step hbn
      replace hMr := hMr.step hbn
      replace hSr := hSr.step hbn
      clear hbn
      rw [hgX]
      generalize (wr).alloc (.cells #[.int .i64 kr, .int .i64 kp] 66) = w4 at *
      have hJ4 := abides_below hJ hJr hb.out
      have X_0 := extA_cell (X.cell (j := 0) rfl)
      have X_1 := extA_cell (X.cell (j := 1) rfl)
      have b0 := extA_cell (hBr.cell (j := 0) rfl)
      have hlk4 := fun W' (h : ExtA w4 W') => hlk W' (Below.trans hb.out (h.mono hb.size))
      clear hlk hJr hc0 hc1
      refine wpIn_region_headRW (C := ExtA w4) 5 (by kernel_rfl) (by decide) (by kernel_rfl) (by kernel_rfl) ⟨rfl, rfl, rfl, Nat.le_refl _, fun _ _ => rfl⟩ ?_
      simp only [List.take_succ_cons, List.take_zero]
      repeat
        (first
          | go_big_quiet_skip
          | (go_big_quiet_want
             go_big_quiet_op
             first
               | go_big_quiet_on
               | (apply Exists.intro
                  refine ⟨fun w' hC9 => ?_, ?_⟩
                  · (first
                      | with_reducible rfl
                      | fail
                      | (go_simp; done)
                      | (go_simp; with_reducible rfl))
                  go_big_quiet_on)))
      refine wpQuiet_nil ?_
      intro w5 hq
      have hJ5 := abides_below hJ hJ4 hq
      replace hBr := hBr.step hq
      replace hMr : MapH w5 b L := MapG.step hMr hq
      replace hSr := hSr.step hq
      replace hb := hb.step hq
      obtain ⟨fn, tmps, assign, body, hy, hR⟩ := HY.out k _ _ HX.out hJ5
      have HR := Lib.hid hR
      dsimp only [hEnc, ekB] at hy
      rw [HV.out] at hy
      clear hR hlk4 hJ4 hJ5 hq b0
      refine wpAnyIn_ready (rs := [5]) (by kernel_rfl) (by simp) ?_
      refine AllReadyIn.cons rfl (fun K hK => ?_) AllReadyIn.nil
      refine stepIn_yieldW (args := #[.agg #[.int .i64 kr, .int .i64 kp], V]) rfl _ _ _ rfl rfl (by kernel_rfl) hy (by omega) (HR.out.mono ?_)
      rintro e W3 (⟨rfl, hJ3, hKp⟩ | ⟨rfl, hJx3⟩)
      · refine ⟨_, rfl, hK _ _ ?_⟩
        have hK2 := hKp (by have := hGr.out; have := Below.size hb; omega)
        have hK3 := hK2.c
        have hno5 : ∀ r, r < G → ¬ OwnB w5 gO r := fun r hr h => by
          obtain ⟨v, hv, hrr⟩ := h
          exact hnr.out r hr ⟨v, by
            rw [← hv]
            exact (Below.cell hb (p := ⟨gO, 0, none⟩) (by have := hGr.out; show gO < wr.heap.size; omega)).symm, hrr⟩
        have hno : ∀ r, r < G → r ≠ gO → ¬ (r = gO ∨ OwnB w5 gO r) := fun r hr hne h => h.elim hne (hno5 r hr)
        have hgO2 : g ≠ gO := by omega
        have hS3 := hSr.kbn hK3 (fun g' e => by cases e; exact hno g hgG hgO2)
        have hB3 := hK3.blk hBr (hno bm (by omega) h1)
        have hM3 : MapH W3 b L := by
          obtain ⟨es, clock, hes, hrest⟩ := hMr
          exact ⟨es, clock, hK3 b _ hes rfl (hno b (by omega) h3), hrest⟩
        have hsz5 := Below.size hb
        have hn3 : Hid (∀ r, r < G → ¬ OwnB W3 gO r) := Lib.hid (fun r hr h => (hK2.own r h).elim (hno5 r hr) (fun h => by have := hGr.out; omega))
        have hG3 : Hid (G ≤ W3.heap.size) := Lib.hid (Nat.le_trans (Nat.le_trans hGr.out hsz5) hK2.size)
        clear hy HR hKp hK2 hK3 hno hno5 hK
        refine wpAnyIn_ready (rs := [6]) (by kernel_rfl) (by simp) ?_
        refine AllReadyIn.cons rfl (fun K2 hK2 => ?_) AllReadyIn.nil
        refine stepIn_valW rfl (.bool false) (fun c hc => by cases hc) (by kernel_rfl) (hK2 _ _ ?_)
        refine wpAnyIn_done (by kernel_rfl) ?_ _
        gi_wp2
        go_roundw
        case rel => exact ⟨k + 1, by omega, by go_num, hS3, hB3, hM3, hJ3, hn3, hG3⟩
        case measure => simp [intOf]; omega
      · refine ⟨_, rfl, hK _ _ ?_⟩
        clear hy HR hK
        refine wpAnyIn_ready (rs := [6]) (by kernel_rfl) (by simp) ?_
        refine AllReadyIn.cons rfl (fun K2 hK2 => ?_) AllReadyIn.nil
        refine stepIn_valW rfl (.bool true) (fun c hc => by cases hc) (by kernel_rfl) (hK2 _ _ ?_)
        refine wpAnyIn_done (by kernel_rfl) ?_ _
        gi_wp2
        (try simp only [Exit.inBlock, Exit.then])
        refine bodyPost_ret (results_none rfl _ _ _) rfl ?_
        exact ⟨⟨_, rfl⟩, .inr ⟨k, by omega, hJx3⟩⟩
    · obtain rfl : k = N := by omega
      gi_wp2
      (try rw [Exit.noGoto_normal])
      refine bodyPost_end (results_none rfl _ _ _) rfl ?_
      exact ⟨⟨_, rfl⟩, .inl (by rw [hN]; exact hJr)⟩
end Go.Proofs.YthhpblchiodahaaGreatDoor
