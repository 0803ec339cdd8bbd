
/- Walk of LearnerPlays: the calls. -/
import Derived.Test.YthhpblchiodahaaGreatDoorLpP
namespace Go.Proofs.YthhpblchiodahaaGreatDoor
set_option linter.unusedSimpArgs false
set_option linter.unusedVariables false
open Go.RowKit Go.Maps
set_option maxRecDepth 100000 in
set_option maxHeartbeats 8000000 in
theorem plays16_yes (c sl : Int) (l : List La) (ao : Option Addr) (cap : Nat) (w : World) (hT : Tabs w) (hE : HasLa w ao l) (hl : l.length ≤ 9223372036854775807) (hs : ∀ e, e ∈ l → e.s.size ≤ 9223372036854775807) (hf : fewL l 40 = true) (h0 : opErr c sl = 0) :
    Calls Tryz.prog 4 #[.int .i64 c, .int .i64 sl, .slice ao l.length cap] w fun e w' => e = .returned (.bool true) ∧ Below w.heap.size w w' := by
  have cF := fun W (hW : Below w.heap.size w W) => few16_any l ao cap 40 W (hE.step hW) hl hs
  rw [hf] at cF
  have cA := fun W => new16_ok c sl W h0
  have cB := fun W => rnew16_any c sl W
  rw [if_pos h0, h0] at cB
  unfold rV newA at cB
  simp only at cB
  have hG0 : GoodL (newA c sl) [] := ⟨h0, fun x h => by cases h⟩
  have hl40 := (fewL_small hf).1
  obtain ⟨N, hN⟩ : ∃ N, l.length = N := ⟨_, rfl⟩
  rw [hN] at cF hl40 ⊢
  clear hf h0 hl
  have HS := Lib.hid hs
  clear hs
  have HN := Lib.hid hN
  clear hN
  have hb := From.refl w
  go_enter Tryz.func4, Tryz.ntmps4
  go_wp2_with fail
  refine (cF _ hb.out).mono ?_
  rintro e w1 ⟨rfl, hbn⟩
  replace hb := hb.step hbn
  clear hbn
  go_wp2_with fail
  refine (cA _).mono ?_
  rintro e w2 ⟨⟨g, b, rfl, h, hg, hbb⟩, hbn⟩
  have hsz1 := hb.size
  replace hb := hb.step hbn
  clear hbn cA cF
  have hwg : w.heap.size ≤ g := by omega
  have hwb : w.heap.size ≤ b := by omega
  clear hg hbb hsz1
  go_wp2_with fail
  refine (cB _).mono ?_
  rintro e w4 ⟨rfl, hbn⟩
  replace hb := hb.step hbn
  replace h := h.step hbn
  clear hbn
  go_upto_region 5 with fail
  have hgl := h.lt
  have hbl := h.ltb
  obtain ⟨gO, hgO⟩ : ∃ g, (w4).heap.size = g := ⟨_, rfl⟩
  have O := Blk.newV hgO 55 #[.int .i64 c, .int .i64 sl, .slice none 0 0, .bool false, .int .i64 0, .int .i64 0, .int .i64 0, .string ⟨#[]⟩]
  have hbn := (Below.refl (w4).heap.size w4).alloc (Nat.le_refl _) (.cells #[.int .i64 c, .int .i64 sl, .slice none 0 0, .bool false, .int .i64 0, .int .i64 0, .int .i64 0, .string ⟨#[]⟩] 55)
  replace hb := hb.step hbn
  replace h := h.step hbn
  clear hbn
  rw [hgO]
  generalize (w4).alloc (.cells #[.int .i64 c, .int .i64 sl, .slice none 0 0, .bool false, .int .i64 0, .int .i64 0, .int .i64 0, .string ⟨#[]⟩] 55) = wk at *
  rw [hgO] at hgl hbl
  have hOl := O.lt
  have hwO : w.heap.size ≤ gO := by omega
  clear hgO cB
  go_upto_if 45 with fail
  obtain ⟨nq, hnq⟩ : ∃ n, wk.heap.size = n := ⟨_, rfl⟩
  go_cut [11] from 42 to 48 (fun v11 wx => ∃ p, p = v11 ∧ NoQ16 nq p wx ∧ Below wk.heap.size wk wx)
  case first =>
    go_wp2_with fail
    · go_meet
      exact ⟨_, rfl, .inr ⟨wk.heap.size, by rw [hnq], by omega, (Blk.newV (W := wk) rfl 62 #[.int .i64 0, .int .i64 0, .int .i64 0, .string ⟨#[]⟩, .bool false, .int .i64 0, .int .i64 0, .map none]).cell (j := 5) rfl⟩, (Below.refl wk.heap.size wk).alloc (Nat.le_refl _) _⟩
    · go_meet
      exact ⟨_, rfl, .inl rfl, Below.refl _ _⟩
  case' rest =>
    rw [hnq] at hOl
    have hz : SzI nq wk := by unfold SzI; omega
    obtain ⟨p, rfl, hq, hbn⟩ := hcut
    replace hb := hb.step hbn
    replace h := h.step hbn
    replace O := O.step hbn
    replace hz := hz.step hbn
    clear hbn
    generalize wc = w0 at *
    go_wp2_with fail
    refine (hear16_no _ 0 0 0 0 0 0 ⟨#[]⟩ _ hq.out).mono ?_
    rintro e w6 ⟨rfl, hbn⟩
    replace hb := hb.step hbn
    replace hq := hq.step hbn
    replace h := h.step hbn
    replace O := O.step hbn
    replace hz := hz.step hbn
    clear hbn
    go_wp2_with fail
    refine (told_no _ 0 0 0 ⟨#[]⟩ _ hq.out).mono ?_
    rintro e w7 ⟨rfl, hbn⟩
    replace hb := hb.step hbn
    replace hq := hq.step hbn
    replace h := h.step hbn
    replace O := O.step hbn
    replace hz := hz.step hbn
    clear hbn
    go_wp2_with fail
    refine (skipped_no _ _ hq.out).mono ?_
    rintro e w8 ⟨rfl, hbn⟩
    replace hb := hb.step hbn
    replace hq := hq.step hbn
    replace h := h.step hbn
    replace O := O.step hbn
    replace hz := hz.step hbn
    clear hbn
    go_wp2_with fail
    refine (chosen_no _ _ hq.out).mono ?_
    rintro e w9 ⟨rfl, hbn⟩
    replace hb := hb.step hbn
    replace hq := hq.step hbn
    replace h := h.step hbn
    replace O := O.step hbn
    replace hz := hz.step hbn
    clear hbn
    go_upto_region 12 with fail
    obtain ⟨gZ, hgZ⟩ : ∃ g, (w9).heap.size = g := ⟨_, rfl⟩
    have lt_O_Z := O.lt
    rw [hgZ] at lt_O_Z
    have Z := Blk.newV hgZ 24 #[.int .i64 0, .int .i64 0, .int .i64 0, .string ⟨#[]⟩]
    have hbn := (Below.refl (w9).heap.size w9).alloc (Nat.le_refl _) (.cells #[.int .i64 0, .int .i64 0, .int .i64 0, .string ⟨#[]⟩] 24)
    replace hb := hb.step hbn
    replace hq := hq.step hbn
    replace h := h.step hbn
    replace O := O.step hbn
    replace hz := hz.step hbn
    clear hbn
    rw [hgZ]
    generalize (w9).alloc (.cells #[.int .i64 0, .int .i64 0, .int .i64 0, .string ⟨#[]⟩] 24) = w10 at *
    clear hgZ
    go_wp2_with fail
    refine (num16_any 1 _).mono ?_
    rintro e wx ⟨rfl, rfl⟩
    go_wp2_with fail
    refine (num16_any 1 _).mono ?_
    rintro e wx ⟨rfl, rfl⟩
    go_wp2_with fail
    refine (num16_any 1 _).mono ?_
    rintro e wx ⟨rfl, rfl⟩
    go_wp2_with fail
    refine (heard_no _ _ hq.out).mono ?_
    rintro e w11 ⟨rfl, hbn⟩
    replace hb := hb.step hbn
    replace hq := hq.step hbn
    replace h := h.step hbn
    replace O := O.step hbn
    replace hz := hz.step hbn
    replace Z := Z.step hbn
    clear hbn
    go_wp2_with fail
    refine (copy_no _ _ hq.out).mono ?_
    rintro e wx ⟨rfl, rfl⟩
    go_wp2_with fail
    refine (same_no _ (.pointer none) _ hq.out (.inl rfl)).mono ?_
    rintro e wx ⟨rfl, rfl⟩
    go_wp2_with fail
    go_loopw [20] (fun v wr => ∃ (j : Nat) (A : Lrn) (L : HMap) (a : Option Addr) (n cp : Nat), v = .int .i64 j ∧ j ≤ N ∧ LW wr g b A L ∧ GoodL A L ∧ OkL L ∧ L.length ≤ j ∧ Blk wr gO 55 [.int .i64 A.c, .int .i64 A.sl, .slice a n cp, .bool A.is, .int .i64 A.k, .int .i64 A.m, .int .i64 A.n, .string A.s] ∧ HdR wr nq (.slice a n cp) (srtB L) ∧ NoQ16 nq p wr ∧ From w wr ∧ SzI nq wr) (fun v _ => N - (intOf v).toNat)
    case atStart => exact ⟨0, newA c sl, [], none, 0, 0, rfl, by omega, h, hG0, OkL.nil, Nat.le_refl _, O, by rw [show srtB ([] : HMap) = [] from List.length_eq_zero_iff.1 (srtB_len [])]; exact HdR.nil _ _, hq, hb, hz⟩
    clear h hG0 O hq hb hz
    case' round =>
      obtain ⟨j, A, L, a, n, cp, rfl, hj, h, hG, hOk, hLj, O, hR, hq, hb, hz⟩ := hrel
      have j0 : (0 : Int) ≤ (j : Int) := by omega
      by_cases hlt : j < N
      · have j1 : (j : Int) < (N : Int) := by omega
        have hNl := HN.out
        obtain ⟨e, he⟩ : ∃ e, l[j]? = some e := ⟨l[j]'(by omega), List.getElem?_eq_getElem _⟩
        have hse := HS.out e (List.mem_of_getElem? he)
        have hltb := hE.lt he
        obtain ⟨ba, off, rfl, hQ⟩ := (hE.step hb.out) j e he
        have hbl2 := hltb ba off rfl
        have cA := fun W h1 h2 h3 hT => act16_any nq g b A L a n cp e W h1 hG h2 h3 ⟨by omega, by omega⟩ (by omega) hse hT
        have hG2 := hG.act e
        have hOk2 := hOk.act A e
        have hL2 := laL_len A L e
        obtain ⟨A2, hA2⟩ : ∃ A2, laA A L e = A2 := ⟨_, rfl⟩
        obtain ⟨L2, hL2e⟩ : ∃ L2, laL A L e = L2 := ⟨_, rfl⟩
        simp only [hA2, hL2e] at cA hG2 hOk2 hL2
        clear hA2 hL2e hG hOk
        unfold Both rV at cA
        obtain ⟨ew, pl, er, ep, ek, em, en, es⟩ := e
        simp only at cA hse
        have hbg : ba ∉ [g, b] := by simp; omega
        have hOg : gO ∉ [g, b] := by simp; omega
        have q0 := kx_all hQ.h0 hbg
        have q1 := kx_all hQ.h1 hbg
        have q2 := kx_all hQ.h2 hbg
        have q3 := kx_all hQ.h3 hbg
        have q4 := kx_all hQ.h4 hbg
        have q5 := kx_all hQ.h5 hbg
        have q6 := kx_all hQ.h6 hbg
        have q7 := kx_all hQ.h7 hbg
        simp only at q0 q1 q2 q3 q4 q5 q6 q7
        have hgr := h.lt
        have hbr := h.ltb
        have hOr := O.lt
        clear hQ he hltb hNl
        go_upto_region 19 with fail
        go_cut [21, 22] from 122 to 131 (fun v21 v22 wx => ∃ gt a2 n2 c2, v21 = .pointer (some ⟨gt, 0, none⟩) ∧ v22 = .bool true ∧ wr.heap.size ≤ gt ∧ Blk wx gt 55 [.int .i64 A2.c, .int .i64 A2.sl, .slice a2 n2 c2, .bool A2.is, .int .i64 A2.k, .int .i64 A2.m, .int .i64 A2.n, .string A2.s] ∧ HdR wx nq (.slice a2 n2 c2) (srtB L2) ∧ LW wx g b A2 L2 ∧ Kx [g, b] wr wx)
        case first =>
          have O_0 := kx_all (O.cell (j := 0) rfl) hOg
          have O_1 := kx_all (O.cell (j := 1) rfl) hOg
          have O_2 := kx_all (O.cell (j := 2) rfl) hOg
          have O_3 := kx_all (O.cell (j := 3) rfl) hOg
          have O_4 := kx_all (O.cell (j := 4) rfl) hOg
          have O_5 := kx_all (O.cell (j := 5) rfl) hOg
          have O_6 := kx_all (O.cell (j := 6) rfl) hOg
          have O_7 := kx_all (O.cell (j := 7) rfl) hOg
          refine wp_region_held (S := Kx [g, b] wr) (by kernel_rfl) ?_
          have hst : Below (wr).heap.size wr { wr with drawn := (wr).drawn + 1 } := ⟨rfl, rfl, rfl, Nat.le_refl _, fun _ _ => rfl⟩
          have hS : (Kx [g, b] wr) { wr with drawn := (wr).drawn + 1 } := by first | exact ⟨rfl, rfl, rfl, Nat.le_refl _, fun _ _ _ => rfl⟩ | exact ⟨rfl, rfl, rfl, Nat.le_refl _, fun _ _ => rfl⟩ | exact hS0
          replace h := h.step hst
          replace hR := hR.step hst
          replace hb := hb.step hst
          replace hz := hz.step hst
          clear hst
          generalize ({ wr with drawn := (wr).drawn + 1 } : World) = wq at *
          refine wpAnyH_take (i := 0) (v := ?_) rfl (by kernel_rfl) (by kernel_rfl) (by kernel_rfl) (fun _ _ _ h => h) (Or.inl ⟨by kernel_rfl, ?_⟩) hS ?_
          rotate_left
          · intro W hSW
            have y0 := q0 _ hSW
            have y1 := q1 _ hSW
            have y2 := q2 _ hSW
            have y3 := q3 _ hSW
            have y4 := q4 _ hSW
            have y5 := q5 _ hSW
            have y6 := q6 _ hSW
            have y7 := q7 _ hSW
            have y8 := O_0 _ hSW
            have y9 := O_1 _ hSW
            have y10 := O_2 _ hSW
            have y11 := O_3 _ hSW
            have y12 := O_4 _ hSW
            have y13 := O_5 _ hSW
            have y14 := O_6 _ hSW
            have y15 := O_7 _ hSW
            go_simp
            try with_reducible rfl
          dsimp only [Act.put]
          refine wpAnyH_take (i := 1) (v := ?_) rfl (by kernel_rfl) (by kernel_rfl) (by kernel_rfl) (fun _ _ _ h => h) (Or.inl ⟨by kernel_rfl, ?_⟩) hS ?_
          rotate_left
          · intro W hSW
            have y0 := q0 _ hSW
            have y1 := q1 _ hSW
            have y2 := q2 _ hSW
            have y3 := q3 _ hSW
            have y4 := q4 _ hSW
            have y5 := q5 _ hSW
            have y6 := q6 _ hSW
            have y7 := q7 _ hSW
            have y8 := O_0 _ hSW
            have y9 := O_1 _ hSW
            have y10 := O_2 _ hSW
            have y11 := O_3 _ hSW
            have y12 := O_4 _ hSW
            have y13 := O_5 _ hSW
            have y14 := O_6 _ hSW
            have y15 := O_7 _ hSW
            go_simp
            try with_reducible rfl
          dsimp only [Act.put]
          refine wpAnyH_take (i := 2) (v := ?_) rfl (by kernel_rfl) (by kernel_rfl) (by kernel_rfl) (fun _ _ _ h => h) (Or.inl ⟨by kernel_rfl, ?_⟩) hS ?_
          rotate_left
          · intro W hSW
            have y0 := q0 _ hSW
            have y1 := q1 _ hSW
            have y2 := q2 _ hSW
            have y3 := q3 _ hSW
            have y4 := q4 _ hSW
            have y5 := q5 _ hSW
            have y6 := q6 _ hSW
            have y7 := q7 _ hSW
            have y8 := O_0 _ hSW
            have y9 := O_1 _ hSW
            have y10 := O_2 _ hSW
            have y11 := O_3 _ hSW
            have y12 := O_4 _ hSW
            have y13 := O_5 _ hSW
            have y14 := O_6 _ hSW
            have y15 := O_7 _ hSW
            go_simp
            try with_reducible rfl
          dsimp only [Act.put]
          refine wpAnyH_take (i := 3) (v := ?_) rfl (by kernel_rfl) (by kernel_rfl) (by kernel_rfl) (fun _ _ _ h => h) (Or.inl ⟨by kernel_rfl, ?_⟩) hS ?_
          rotate_left
          · intro W hSW
            have y0 := q0 _ hSW
            have y1 := q1 _ hSW
            have y2 := q2 _ hSW
            have y3 := q3 _ hSW
            have y4 := q4 _ hSW
            have y5 := q5 _ hSW
            have y6 := q6 _ hSW
            have y7 := q7 _ hSW
            have y8 := O_0 _ hSW
            have y9 := O_1 _ hSW
            have y10 := O_2 _ hSW
            have y11 := O_3 _ hSW
            have y12 := O_4 _ hSW
            have y13 := O_5 _ hSW
            have y14 := O_6 _ hSW
            have y15 := O_7 _ hSW
            go_simp
            try with_reducible rfl
          dsimp only [Act.put]
          refine wpAnyH_take (i := 4) (v := ?_) rfl (by kernel_rfl) (by kernel_rfl) (by kernel_rfl) (fun _ _ _ h => h) (Or.inl ⟨by kernel_rfl, ?_⟩) hS ?_
          rotate_left
          · intro W hSW
            have y0 := q0 _ hSW
            have y1 := q1 _ hSW
            have y2 := q2 _ hSW
            have y3 := q3 _ hSW
            have y4 := q4 _ hSW
            have y5 := q5 _ hSW
            have y6 := q6 _ hSW
            have y7 := q7 _ hSW
            have y8 := O_0 _ hSW
            have y9 := O_1 _ hSW
            have y10 := O_2 _ hSW
            have y11 := O_3 _ hSW
            have y12 := O_4 _ hSW
            have y13 := O_5 _ hSW
            have y14 := O_6 _ hSW
            have y15 := O_7 _ hSW
            go_simp
            try with_reducible rfl
          dsimp only [Act.put]
          refine wpAnyH_take (i := 5) (v := ?_) rfl (by kernel_rfl) (by kernel_rfl) (by kernel_rfl) (fun _ _ _ h => h) (Or.inl ⟨by kernel_rfl, ?_⟩) hS ?_
          rotate_left
          · intro W hSW
            have y0 := q0 _ hSW
            have y1 := q1 _ hSW
            have y2 := q2 _ hSW
            have y3 := q3 _ hSW
            have y4 := q4 _ hSW
            have y5 := q5 _ hSW
            have y6 := q6 _ hSW
            have y7 := q7 _ hSW
            have y8 := O_0 _ hSW
            have y9 := O_1 _ hSW
            have y10 := O_2 _ hSW
            have y11 := O_3 _ hSW
            have y12 := O_4 _ hSW
            have y13 := O_5 _ hSW
            have y14 := O_6 _ hSW
            have y15 := O_7 _ hSW
            go_simp
            try with_reducible rfl
          dsimp only [Act.put]
          refine wpAnyH_ready (rs := [6, 10]) (by kernel_rfl) (by simp) ?_
          refine AllReadyH.cons rfl (fun K hK => ?_) (AllReadyH.cons rfl (fun K hK => ?_) AllReadyH.nil)
          ·
            go_simp
            refine (cA _ h hR hz (hT.step hb.out)).mono ?_
            rintro e wz ⟨⟨v2, rfl, hR2, h2⟩, hK7⟩
            have hK7 : Kx [g, b] _ _ := hK7
            obtain ⟨a2, c2, rfl, -⟩ := hR2.form
            obtain ⟨n2, hn2⟩ : ∃ n, (srtB L2).length = n := ⟨_, rfl⟩
            rw [hn2] at hR2 ⊢
            clear hn2
            refine hK.out _ _ (hS.trans hK7) (fun hS => ?_)
            clear hK7
            clear hK K
            refine wpAnyH_take (i := 7) (v := ?_) rfl (by kernel_rfl) (by kernel_rfl) (by kernel_rfl) (fun _ _ _ h => h) (Or.inl ⟨by kernel_rfl, ?_⟩) hS ?_
            rotate_left
            · intro W hSW
              go_simp
              try with_reducible rfl
            dsimp only [Act.put]
            refine wpAnyH_take (i := 8) (v := ?_) rfl (by kernel_rfl) (by kernel_rfl) (by kernel_rfl) (fun _ _ _ h => h) (Or.inl ⟨by kernel_rfl, ?_⟩) hS ?_
            rotate_left
            · intro W hSW
              go_simp
              try with_reducible rfl
            dsimp only [Act.put]
            refine wpAnyH_take (i := 9) (v := ?_) rfl (by kernel_rfl) (by kernel_rfl) (by kernel_rfl) (fun _ _ _ h => h) (Or.inl ⟨by kernel_rfl, ?_⟩) hS ?_
            rotate_left
            · intro W hSW
              go_simp
              try with_reducible rfl
            dsimp only [Act.put]
            refine wpAnyH_ready (rs := [10]) (by kernel_rfl) (by simp) ?_
            refine AllReadyH.cons rfl (fun K hK => ?_) AllReadyH.nil
            go_simp
            obtain ⟨gt, hgt⟩ : ∃ gt, wz.heap.size = gt := ⟨_, rfl⟩
            have hle : wr.heap.size ≤ gt := by have := hS.size; omega
            have XT := Blk.newV hgt 55 #[.int .i64 0, .int .i64 0, .slice none 0 0, .bool false, .int .i64 0, .int .i64 0, .int .i64 0, .string ⟨#[]⟩]
            have hba := (Below.refl wz.heap.size wz).alloc (Nat.le_refl _) (.cells #[.int .i64 0, .int .i64 0, .slice none 0 0, .bool false, .int .i64 0, .int .i64 0, .int .i64 0, .string ⟨#[]⟩] 55)
            replace h2 := h2.step hba
            replace hR2 := hR2.step hba
            refine hK.out _ _ (hS.step hba) (fun hS => ?_)
            rw [hgt]
            generalize wz.alloc (.cells #[.int .i64 0, .int .i64 0, .slice none 0 0, .bool false, .int .i64 0, .int .i64 0, .int .i64 0, .string ⟨#[]⟩] 55) = wa at *
            clear hgt hba
            clear hK K
            refine wpAnyH_ready (rs := [11]) (by kernel_rfl) (by simp) ?_
            refine AllReadyH.cons rfl (fun K hK => ?_) AllReadyH.nil
            refine step_store_row rfl 55 (.tmp 21) (.tmp 130) rfl rfl gt #[.int .i64 A2.c, .int .i64 A2.sl, .slice a2 n2 c2, .bool A2.is, .int .i64 A2.k, .int .i64 A2.m, .int .i64 A2.n, .string A2.s] (by kernel_rfl) (by kernel_rfl) _ _ XT (by kernel_rfl) (by kernel_rfl) (by kernel_rfl) ?_
            have hkn := kx_row wa gt #[.int .i64 A2.c, .int .i64 A2.sl, .slice a2 n2 c2, .bool A2.is, .int .i64 A2.k, .int .i64 A2.m, .int .i64 A2.n, .string A2.s]
            replace hR2 := hR2.kxL XT (by decide) (by decide) hkn
            replace XT := XT.row [.int .i64 A2.c, .int .i64 A2.sl, .slice a2 n2 c2, .bool A2.is, .int .i64 A2.k, .int .i64 A2.m, .int .i64 A2.n, .string A2.s]
            replace h2 := h2.kx hkn (by simp; omega)
            replace hS : Kx [g, b] wr (wa.setRow gt #[.int .i64 A2.c, .int .i64 A2.sl, .slice a2 n2 c2, .bool A2.is, .int .i64 A2.k, .int .i64 A2.m, .int .i64 A2.n, .string A2.s]) := Kx.kx hS hkn (by intro x hx; right; simp at hx; omega)
            refine hK.out _ _ hS (fun hS => ?_)
            generalize wa.setRow gt #[.int .i64 A2.c, .int .i64 A2.sl, .slice a2 n2 c2, .bool A2.is, .int .i64 A2.k, .int .i64 A2.m, .int .i64 A2.n, .string A2.s] = ws at *
            clear hkn
            clear hK K
            refine wpAnyH_ready (rs := [12]) (by kernel_rfl) (by simp) ?_
            refine AllReadyH.cons rfl (fun K hK => ?_) AllReadyH.nil
            go_simp
            refine hK.out _ _ (hS) (fun hS => ?_)
            clear hK K
            refine wpAnyH_done (by kernel_rfl) ?_ _
            go_wp2_with fail
            go_meet
            exact ⟨gt, _, _, _, rfl, rfl, hle, XT, hR2, h2, hS⟩
          ·
            go_simp
            obtain ⟨gt, hgt⟩ : ∃ gt, wq.heap.size = gt := ⟨_, rfl⟩
            have hle : wr.heap.size ≤ gt := by have := hS.size; omega
            have XT := Blk.newV hgt 55 #[.int .i64 0, .int .i64 0, .slice none 0 0, .bool false, .int .i64 0, .int .i64 0, .int .i64 0, .string ⟨#[]⟩]
            have hba := (Below.refl wq.heap.size wq).alloc (Nat.le_refl _) (.cells #[.int .i64 0, .int .i64 0, .slice none 0 0, .bool false, .int .i64 0, .int .i64 0, .int .i64 0, .string ⟨#[]⟩] 55)
            replace h := h.step hba
            replace hR := hR.step hba
            replace hb := hb.step hba
            replace hz := hz.step hba
            refine hK.out _ _ (hS.step hba) (fun hS => ?_)
            rw [hgt]
            generalize wq.alloc (.cells #[.int .i64 0, .int .i64 0, .slice none 0 0, .bool false, .int .i64 0, .int .i64 0, .int .i64 0, .string ⟨#[]⟩] 55) = wa at *
            clear hgt hba
            clear hK K
            refine wpAnyH_ready (rs := [6]) (by kernel_rfl) (by simp) ?_
            refine AllReadyH.cons rfl (fun K hK => ?_) AllReadyH.nil
            go_simp
            refine (cA _ h hR hz (hT.step hb.out)).mono ?_
            rintro e wz ⟨⟨v2, rfl, hR2, h2⟩, hK7⟩
            have hK7 : Kx [g, b] _ _ := hK7
            obtain ⟨a2, c2, rfl, -⟩ := hR2.form
            obtain ⟨n2, hn2⟩ : ∃ n, (srtB L2).length = n := ⟨_, rfl⟩
            rw [hn2] at hR2 ⊢
            clear hn2
            replace XT := hK7.blk XT (by simp; omega)
            refine hK.out _ _ (hS.trans hK7) (fun hS => ?_)
            clear hK7
            clear hK K
            refine wpAnyH_take (i := 7) (v := ?_) rfl (by kernel_rfl) (by kernel_rfl) (by kernel_rfl) (fun _ _ _ h => h) (Or.inl ⟨by kernel_rfl, ?_⟩) hS ?_
            rotate_left
            · intro W hSW
              go_simp
              try with_reducible rfl
            dsimp only [Act.put]
            refine wpAnyH_take (i := 8) (v := ?_) rfl (by kernel_rfl) (by kernel_rfl) (by kernel_rfl) (fun _ _ _ h => h) (Or.inl ⟨by kernel_rfl, ?_⟩) hS ?_
            rotate_left
            · intro W hSW
              go_simp
              try with_reducible rfl
            dsimp only [Act.put]
            refine wpAnyH_take (i := 9) (v := ?_) rfl (by kernel_rfl) (by kernel_rfl) (by kernel_rfl) (fun _ _ _ h => h) (Or.inl ⟨by kernel_rfl, ?_⟩) hS ?_
            rotate_left
            · intro W hSW
              go_simp
              try with_reducible rfl
            dsimp only [Act.put]
            refine wpAnyH_ready (rs := [11]) (by kernel_rfl) (by simp) ?_
            refine AllReadyH.cons rfl (fun K hK => ?_) AllReadyH.nil
            refine step_store_row rfl 55 (.tmp 21) (.tmp 130) rfl rfl gt #[.int .i64 A2.c, .int .i64 A2.sl, .slice a2 n2 c2, .bool A2.is, .int .i64 A2.k, .int .i64 A2.m, .int .i64 A2.n, .string A2.s] (by kernel_rfl) (by kernel_rfl) _ _ XT (by kernel_rfl) (by kernel_rfl) (by kernel_rfl) ?_
            have hkn := kx_row wz gt #[.int .i64 A2.c, .int .i64 A2.sl, .slice a2 n2 c2, .bool A2.is, .int .i64 A2.k, .int .i64 A2.m, .int .i64 A2.n, .string A2.s]
            replace hR2 := hR2.kxL XT (by decide) (by decide) hkn
            replace XT := XT.row [.int .i64 A2.c, .int .i64 A2.sl, .slice a2 n2 c2, .bool A2.is, .int .i64 A2.k, .int .i64 A2.m, .int .i64 A2.n, .string A2.s]
            replace h2 := h2.kx hkn (by simp; omega)
            replace hS : Kx [g, b] wr (wz.setRow gt #[.int .i64 A2.c, .int .i64 A2.sl, .slice a2 n2 c2, .bool A2.is, .int .i64 A2.k, .int .i64 A2.m, .int .i64 A2.n, .string A2.s]) := Kx.kx hS hkn (by intro x hx; right; simp at hx; omega)
            refine hK.out _ _ hS (fun hS => ?_)
            generalize wz.setRow gt #[.int .i64 A2.c, .int .i64 A2.sl, .slice a2 n2 c2, .bool A2.is, .int .i64 A2.k, .int .i64 A2.m, .int .i64 A2.n, .string A2.s] = ws at *
            clear hkn
            clear hK K
            refine wpAnyH_ready (rs := [12]) (by kernel_rfl) (by simp) ?_
            refine AllReadyH.cons rfl (fun K hK => ?_) AllReadyH.nil
            go_simp
            refine hK.out _ _ (hS) (fun hS => ?_)
            clear hK K
            refine wpAnyH_done (by kernel_rfl) ?_ _
            go_wp2_with fail
            go_meet
            exact ⟨gt, _, _, _, rfl, rfl, hle, XT, hR2, h2, hS⟩
        case' rest =>
          obtain ⟨gt, a2, n2, c2, rfl, rfl, hle, XT, hR2, h2, hK2⟩ := hcut
          clear cA q0 q1 q2 q3 q4 q5 q6 q7 h hR
          have O := hK2.blk O hOg
          have hq := hq.kx hK2 (by intro x hx; simp at hx; omega)
          have hb := From.kx hb hK2 (by intro x hx; simp at hx; omega)
          have hz := hz.kx hK2 trivial
          have hOt : gO < gt := by omega
          clear hK2
          generalize wc = w8 at *
          go_upto_region 20 with fail
          have O0 := O
          apply wp_region_lit
          refine wpList_load_row rfl 55 (.tmp 21) rfl gt (by kernel_rfl) _ _ (0, 0) _ XT Tryz.underlying55 rfl (by kernel_rfl) ?_
          dsimp only [Act.put]
          refine wpList_store_rowTo rfl 55 (.tmp 9) (.tmp 132) rfl rfl gO #[.int .i64 A2.c, .int .i64 A2.sl, .slice a2 n2 c2, .bool A2.is, .int .i64 A2.k, .int .i64 A2.m, .int .i64 A2.n, .string A2.s] (by kernel_rfl) (by kernel_rfl) _ _ O (by kernel_rfl) (by kernel_rfl) (by kernel_rfl) ?_
          have hkn := kx_row w8 gO #[.int .i64 A2.c, .int .i64 A2.sl, .slice a2 n2 c2, .bool A2.is, .int .i64 A2.k, .int .i64 A2.m, .int .i64 A2.n, .string A2.s]
          replace O := O.row [.int .i64 A2.c, .int .i64 A2.sl, .slice a2 n2 c2, .bool A2.is, .int .i64 A2.k, .int .i64 A2.m, .int .i64 A2.n, .string A2.s]
          generalize w8.setRow gO #[.int .i64 A2.c, .int .i64 A2.sl, .slice a2 n2 c2, .bool A2.is, .int .i64 A2.k, .int .i64 A2.m, .int .i64 A2.n, .string A2.s] = w9 at *
          refine wpList_nil ?_
          replace hR2 := hR2.kxL O0 (by decide) (by decide) hkn
          replace h2 := h2.kx hkn (by simp; omega)
          replace hq := hq.kx hkn (by intro x hx; simp at hx; omega)
          replace hb := From.kx hb hkn (by simp; omega)
          replace hz := hz.kx hkn trivial
          clear hkn XT O0
          have cI := fun W h1 h3 => is16_true nq g b A2 L2 a2 n2 c2 W h1 hG2.ne hOk2 hG2.vs (by omega) h3
          unfold rV at cI
          have O_0 := O.cell (j := 0) rfl
          have O_1 := O.cell (j := 1) rfl
          have O_2 := O.cell (j := 2) rfl
          have O_3 := O.cell (j := 3) rfl
          have O_4 := O.cell (j := 4) rfl
          have O_5 := O.cell (j := 5) rfl
          have O_6 := O.cell (j := 6) rfl
          have O_7 := O.cell (j := 7) rfl
          go_wp2_with fail
          refine (cI _ h2 hR2).mono ?_
          rintro e w10 ⟨rfl, hbn⟩
          replace h2 := h2.step hbn
          replace hR2 := hR2.step hbn
          replace hq := hq.step hbn
          replace hb := hb.step hbn
          replace hz := hz.step hbn
          replace O := O.step hbn
          clear hbn
          clear O_0 O_1 O_2 O_3 O_4 O_5 O_6 O_7 cI
          go_wp2_with fail
          go_roundw
          case rel => exact ⟨j + 1, A2, L2, a2, n2, c2, by go_num, by omega, h2, hG2, hOk2, by omega, O, hR2, hq, hb, hz⟩
          case measure => simp [intOf]; omega
      · obtain rfl : N = j := by omega
        generalize wr = wA at *
        have cH := fun W h1 => heard_any g b A L W h1 hG.ne hOk hG.vs (by omega)
        have hgr := h.lt
        have hbr := h.ltb
        have hOr := O.lt
        have hvl : ∀ x ∈ srtB L, x.2.vs.length = 9 := fun x hx => hG.vs x (mem_srtB hx)
        have hXL : (srtB L).length ≤ 1000 := by rw [srtB_len]; omega
        go_wp2_with fail
        refine (cH _ h).mono ?_
        rintro e wB ⟨⟨v, rfl, hV⟩, hF⟩
        obtain ⟨us, hI⟩ := hV.inc
        obtain ⟨av, cv, rfl, -⟩ := hV.form
        clear hV cH
        obtain ⟨B, hB⟩ : ∃ B, wA.heap.size = B := ⟨_, rfl⟩
        rw [hB] at hI hgr hbr hOr
        obtain ⟨xs, hxs⟩ : ∃ xs, srtB L = xs := ⟨_, rfl⟩
        have HXS := Lib.hid hxs
        rw [hxs] at hI hvl hXL ⊢
        obtain ⟨M, hM⟩ : ∃ n, xs.length = n := ⟨_, rfl⟩
        have HM := Lib.hid hM
        rw [hM] at hXL ⊢
        have hI : IncI B (.slice av M cv) xs us wB := by rw [← hM]; exact hI
        have hF : From wA wB := hF
        clear hxs hM hlt
        go_wp2_with fail
        go_loopw [144] (fun v W => ∃ i : Nat, v = .int .i64 i ∧ i ≤ M ∧ IncI B (.slice av M cv) xs us W ∧ From wA W) (fun v _ => M - (intOf v).toNat)
        case atStart => exact ⟨0, rfl, by omega, hI, hF⟩
        clear hI hF
        case' round =>
          obtain ⟨i, rfl, hi, hI, hF⟩ := hrel
          have i0 : (0 : Int) ≤ (i : Int) := by omega
          by_cases hlt2 : i < M
          · have i1 : (i : Int) < (M : Int) := by omega
            obtain ⟨x, hx⟩ : ∃ x, xs[i]? = some x := ⟨xs[i]'(by have := HM.out; omega), List.getElem?_eq_getElem _⟩
            obtain ⟨gh, ch, u, hva, hu, hAny, hcell⟩ := hI.row hx
            injection hva with e1 e2 e3
            subst e1 e3
            clear e2
            have hv9 := hvl x (List.mem_of_getElem? hx)
            have hnu9 : (plK 0 x.2.vs).length ≤ 9 := hv9 ▸ plK_len 0 x.2.vs
            obtain ⟨au, cu, rfl⟩ := hAny.form
            obtain ⟨nu, hnu⟩ : ∃ n, (plK 0 x.2.vs).length = n := ⟨_, rfl⟩
            have HROW := Lib.hid (fun W (hI : IncI B (.slice (some ⟨gh, 0, none⟩) M cv) xs us W) => hI.rows i x _ hx hu)
            simp only [hnu] at HROW hnu9 hcell
            obtain ⟨⟨⟨xr, xp⟩, ⟨xk, xm, xn, xs', xv⟩⟩, hxe⟩ : ∃ z, x = z := ⟨_, rfl⟩
            subst hxe
            have d0 := hcell 0 _ rfl
            have d1 := hcell 1 _ rfl
            have d2 := hcell 2 _ rfl
            have d3 := hcell 3 _ rfl
            have d4 := hcell 4 _ rfl
            have d5 := hcell 5 _ rfl
            have d6 := hcell 6 _ rfl
            simp only [Nat.add_zero] at d0 d1 d2 d3 d4 d5 d6
            clear hcell hAny hx hu hv9 hnu
            go_upto_region 26 with fail
            clear d0 d1 d2 d3 d4 d5 d6
            obtain ⟨gY, hgY⟩ : ∃ g, (wr).heap.size = g := ⟨_, rfl⟩
            have Y := Blk.newV hgY 81 #[.int .i64 xr, .int .i64 xp, .int .i64 xk, .int .i64 xm, .int .i64 xn, .string xs', .slice au nu cu]
            have hbn := (Below.refl (wr).heap.size wr).alloc (Nat.le_refl _) (.cells #[.int .i64 xr, .int .i64 xp, .int .i64 xk, .int .i64 xm, .int .i64 xn, .string xs', .slice au nu cu] 81)
            replace hI := hI.step hbn
            replace hF := hF.step hbn
            clear hbn
            rw [hgY]
            generalize (wr).alloc (.cells #[.int .i64 xr, .int .i64 xp, .int .i64 xk, .int .i64 xm, .int .i64 xn, .string xs', .slice au nu cu] 81) = wy at *
            clear hgY
            have y6 := Y.cell (j := 6) rfl
            go_wp2_with fail
            clear y6
            go_loopw [151] (fun v W => ∃ q : Nat, v = .int .i64 q ∧ q ≤ nu ∧ IncI B (.slice (some ⟨gh, 0, none⟩) M cv) xs us W ∧ From wA W ∧ Blk W gY 81 [.int .i64 xr, .int .i64 xp, .int .i64 xk, .int .i64 xm, .int .i64 xn, .string xs', .slice au nu cu]) (fun v _ => nu - (intOf v).toNat)
            case atStart => exact ⟨0, rfl, by omega, hI, hF, Y⟩
            clear hI hF Y
            case' round =>
              obtain ⟨q, rfl, hqn, hI, hF, Y⟩ := hrel
              have q0 : (0 : Int) ≤ (q : Int) := by omega
              have y6 := Y.cell (j := 6) rfl
              by_cases hlt3 : q < nu
              · have q1 : (q : Int) < (nu : Int) := by omega
                obtain ⟨gq, cq, z, cur, hvq, hgq, hBq, hcur⟩ := (HROW.out _ hI).cell hlt3
                injection hvq with e1 e2 e3
                subst e1 e3
                clear e2
                have kq := hBq.cell hcur
                have fq := hBq.frozen q
                have hYq : gY ∉ [gq] := fun hm => by
                  simp at hm
                  subst hm
                  have e : _ = some _ := hBq
                  rw [show wr.heap[gY]? = _ from Y] at e
                  injection e with e
                  injection e with _ e _
                  exact absurd e (by decide)
                go_wp2_with fail
                clear kq fq y6
                go_roundw
                case rel =>
                  refine ⟨q + 1, by go_num, by omega, hI.set hBq _, ?_, ?_⟩
                  · exact From.kx hF ((Kx.refl [gq] wr).setCell (.inl (by simp)) _) (by simp; omega)
                  · exact ((Kx.refl [gq] wr).setCell (.inl (by simp)) _).blk Y hYq
                case measure => simp [intOf]; omega
              · obtain rfl : nu = q := by omega
                clear y6 Y
                go_wp2_with fail
                go_roundw
                case rel => exact ⟨i + 1, by go_num, by omega, hI, hF⟩
                case measure => simp [intOf]; omega
          · obtain rfl : M = i := by omega
            go_wp2_with fail
            have h := h.step hF
            have hR := hR.step hF
            have hq := hq.step hF
            have hb := hb.step hF
            have O := Blk.step O hF
            clear hF hI HXS
            have cI := fun W h1 h3 => is16_true nq g b A L a n cp W h1 hG.ne hOk hG.vs (by omega) h3
            unfold rV at cI
            go_wp2_with fail
            refine (num16_any 0 _).mono ?_
            rintro e wx ⟨rfl, rfl⟩
            have O_0 := O.cell (j := 0) rfl
            have O_1 := O.cell (j := 1) rfl
            have O_2 := O.cell (j := 2) rfl
            have O_3 := O.cell (j := 3) rfl
            have O_4 := O.cell (j := 4) rfl
            have O_5 := O.cell (j := 5) rfl
            have O_6 := O.cell (j := 6) rfl
            have O_7 := O.cell (j := 7) rfl
            go_wp2_with fail
            refine (cI _ h hR).mono ?_
            rintro e w10 ⟨rfl, hbn⟩
            replace h := h.step hbn
            replace hR := hR.step hbn
            replace hq := hq.step hbn
            replace hb := hb.step hbn
            replace O := O.step hbn
            clear hbn
            clear O_0 O_1 O_2 O_3 O_4 O_5 O_6 O_7 cI
            go_wp2_with fail
            refine (same_left g b A L _ _ h hG.ne hq.out).mono ?_
            rintro e wx ⟨rfl, rfl⟩
            go_wp2_with fail
            refine (same_right g b A L _ _ h hG.ne hq.out).mono ?_
            rintro e wx ⟨rfl, rfl⟩
            go_wp2_with fail
            refine (works16_any _ (hT.step hb)).mono ?_
            rintro e w12 ⟨rfl, hbn⟩
            replace h := h.step hbn
            replace hR := hR.step hbn
            replace hq := hq.step hbn
            replace hb := hb.step hbn
            replace O := O.step hbn
            clear hbn
            go_wp2_with fail
            go_ret
            exact ⟨rfl, hb⟩
theorem LearnerPlays_walk (c sl : Int) (x : Option Addr) (len cap : Nat) (w : World) (hT : Tabs w) (hA : ∃ l : List La, l.length = len ∧ HasLa w x l ∧ (∀ e, e ∈ l → e.s.size ≤ maxLen) ∧ len ≤ maxLen) :
    Calls Tryz.prog 4 #[.int .i64 c, .int .i64 sl, .slice x len cap] w fun e w' => e = .returned (.bool true) ∧ Below w.heap.size w w' := by
  obtain ⟨l, rfl, hE, hs, hl⟩ := hA
  cases hf : fewL l 40
  · exact plays16_few c sl l x cap w hT hE hl hs hf
  · by_cases h0 : opErr c sl = 0
    · exact plays16_yes c sl l x cap w hT hE hl hs hf h0
    · exact plays16_no c sl l x cap w hT hE hl hs hf h0
end Go.Proofs.YthhpblchiodahaaGreatDoor
