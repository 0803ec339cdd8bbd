
/- Package proposer: State. -/
import Derived.Test.YtcahkcbenanfnaaGreatDoorPrC
import Derived.Test.YtcahkcbenanfnaaGreatDoorM1
namespace Go.Proofs.YtcahkcbenanfnaaGreatDoor
set_option linter.unusedSimpArgs false
set_option linter.unusedVariables false
open Go.RowKit
def votesP (A : Prp) : List Bool := if A.ph = 1 then A.pr else A.ac
def ppV (A : Prp) (v : Value) : Value := .agg #[.int .i64 A.ph, .int .i64 A.r, .int .i64 A.p, .int .i64 A.k, .int .i64 A.m, .int .i64 A.n, .string A.s, v, .int .i64 A.ur, .int .i64 A.up]
theorem row_low15 {W : World} {base base' n : Nat} {e : TypeId} {size : Nat} {v : Value} {xs : List Value} (h : W.ownsRow base e size v n xs) (hb : base' ≤ base) : W.ownsRow base' e size v n xs := by
  obtain ⟨h1, h2⟩ := h
  refine ⟨h1, ?_⟩
  rcases h2 with h2 | ⟨b, cap, cur, hv, hg, r⟩
  · exact Or.inl h2
  · exact Or.inr ⟨b, cap, cur, hv, Nat.le_trans hb hg, r⟩
theorem row_ge15 {W : World} {base n : Nat} {e : TypeId} {size : Nat} {v : Value} {xs : List Value} (h : W.ownsRow base e size v n xs) : ∀ k, v.ownBlock = some k → base ≤ k ∧ k < W.heap.size := by
  intro k hk
  obtain ⟨h1, h2⟩ := h
  rcases h2 with ⟨e, _⟩ | ⟨b, cap, cur, hv, hg, hh, _⟩
  · subst e; cases hk
  · subst hv; cases hk; exact ⟨hg, (Array.getElem?_eq_some_iff.1 hh).1⟩
theorem votes_len {A : Prp} (h1 : A.pr.length = 9) (h2 : A.ac.length = 9) : (votesP A).length = 9 := by unfold votesP; split <;> assumption
set_option maxRecDepth 100000 in
set_option maxHeartbeats 4000000 in
theorem state_any (g : Nat) (A : Prp) (w : World) (h : PW w g A) (hc : A.c ≠ 0) :
    Calls Tryz.prog 17 #[.pointer (some ⟨g, 0, none⟩)] w fun e w' => (∃ v, e = .returned (ppV A v) ∧ RowI w' w.heap.size v (plK 0 (votesP A))) ∧ Below w.heap.size w w' := by
  have hV := votes_len h.2.1 h.2.2
  have hv : votesP A = if A.ph = 1 then A.pr else A.ac := rfl
  unfold ppV
  generalize votesP A = hs at *
  obtain ⟨ph, k, m, n, s, pr, ac, br, bp, bk, bm, bn, bs, ur, up, c, sl, r, p⟩ := A
  simp only at hc hv ⊢
  have hlen : (plK 0 hs).length ≤ 9 := by have := plK_len 0 hs; omega
  have cA := fun W => setall_any hs hV W
  have cX := fun b W hB => set_xs b hs W hV hB
  have cC := fun b W hB => collect_xs 108 #[.pointer (some ⟨b, 0, none⟩)] (enters_of Tryz.func108 (by kernel_rfl) rfl) (plK 0 hs) (by omega) W (fun _ => False) (fun _ h => h.elim) (cX b W hB)
  obtain ⟨d0, d1, d2, d3, d4, d5, d6, d7, d8, hd⟩ := nine hV
  obtain ⟨hB, h1, h2⟩ := h
  obtain ⟨a0, a1, a2, a3, a4, a5, a6, a7, a8, rfl⟩ := nine h1
  obtain ⟨b0, b1, b2, b3, b4, b5, b6, b7, b8, rfl⟩ := nine h2
  have cN := fun W hW => none15_at g c false W (by simp [hc]) hW
  generalize plK 0 hs = xs at *
  rw [hd] at cA cC hv
  unfold setV at cA
  simp only [List.map_cons, List.map_nil] at cA cC
  clear cX hd hV h1 h2
  unfold prpL at hB
  simp only [List.map_cons, List.map_nil, List.cons_append, List.nil_append] at hB
  have hb := From.refl w
  have HV := Lib.hid hv
  clear hv
  go_enter Tryz.func17, Tryz.ntmps17
  go_upto_region 1 with fail
  obtain ⟨gR, hgR⟩ : ∃ g, (w).heap.size = g := ⟨_, rfl⟩
  have lt_hB_R := hB.lt
  rw [hgR] at lt_hB_R
  have R := Blk.newV hgR 55 #[.int .i64 0, .int .i64 0, .int .i64 0, .int .i64 0, .int .i64 0, .int .i64 0, .string ⟨#[]⟩, .slice none 0 0, .int .i64 0, .int .i64 0]
  have hbn := (Below.refl (w).heap.size w).alloc (Nat.le_refl _) (.cells #[.int .i64 0, .int .i64 0, .int .i64 0, .int .i64 0, .int .i64 0, .int .i64 0, .string ⟨#[]⟩, .slice none 0 0, .int .i64 0, .int .i64 0] 55)
  replace hb := hb.step hbn
  replace hB := hB.step hbn
  clear hbn
  rw [hgR]
  generalize (w).alloc (.cells #[.int .i64 0, .int .i64 0, .int .i64 0, .int .i64 0, .int .i64 0, .int .i64 0, .string ⟨#[]⟩, .slice none 0 0, .int .i64 0, .int .i64 0] 55) = w1 at *
  go_wp2_with fail
  refine (cN _ (hB.cell (j := 31) rfl)).mono ?_
  rintro e wx ⟨rfl, rfl⟩
  have hB_0 := hB.cell (j := 0) rfl
  have hB_1 := hB.cell (j := 1) rfl
  have hB_2 := hB.cell (j := 2) rfl
  have hB_3 := hB.cell (j := 3) rfl
  have hB_4 := hB.cell (j := 4) rfl
  have hB_5 := hB.cell (j := 5) rfl
  have hB_6 := hB.cell (j := 6) rfl
  have hB_7 := hB.cell (j := 7) rfl
  have hB_8 := hB.cell (j := 8) rfl
  have hB_9 := hB.cell (j := 9) rfl
  have hB_10 := hB.cell (j := 10) rfl
  have hB_11 := hB.cell (j := 11) rfl
  have hB_12 := hB.cell (j := 12) rfl
  have hB_13 := hB.cell (j := 13) rfl
  have hB_14 := hB.cell (j := 14) rfl
  have hB_15 := hB.cell (j := 15) rfl
  have hB_16 := hB.cell (j := 16) rfl
  have hB_17 := hB.cell (j := 17) rfl
  have hB_18 := hB.cell (j := 18) rfl
  have hB_19 := hB.cell (j := 19) rfl
  have hB_20 := hB.cell (j := 20) rfl
  have hB_21 := hB.cell (j := 21) rfl
  have hB_22 := hB.cell (j := 22) rfl
  have hB_23 := hB.cell (j := 23) rfl
  have hB_24 := hB.cell (j := 24) rfl
  have hB_25 := hB.cell (j := 25) rfl
  have hB_26 := hB.cell (j := 26) rfl
  have hB_27 := hB.cell (j := 27) rfl
  have hB_28 := hB.cell (j := 28) rfl
  have hB_29 := hB.cell (j := 29) rfl
  have hB_30 := hB.cell (j := 30) rfl
  have hB_31 := hB.cell (j := 31) rfl
  have hB_32 := hB.cell (j := 32) rfl
  have hB_33 := hB.cell (j := 33) rfl
  have hB_34 := hB.cell (j := 34) rfl
  go_upto_region 4 with fail
  clear hB_0 hB_1 hB_2 hB_3 hB_4 hB_5 hB_6 hB_7 hB_8 hB_9 hB_10 hB_11 hB_12 hB_13 hB_14 hB_15 hB_16 hB_17 hB_18 hB_19 hB_20 hB_21 hB_22 hB_23 hB_24 hB_25 hB_26 hB_27 hB_28 hB_29 hB_30 hB_31 hB_32 hB_33 hB_34
  have hzR := hb.size
  obtain ⟨gV, hgV⟩ : ∃ g, (w1).heap.size = g := ⟨_, rfl⟩
  have lt_R_V := R.lt
  rw [hgV] at lt_R_V
  have lt_hB_V := hB.lt
  rw [hgV] at lt_hB_V
  have V := Blk.newV hgV 39 #[.bool b0, .bool b1, .bool b2, .bool b3, .bool b4, .bool b5, .bool b6, .bool b7, .bool b8]
  have hbn := (Below.refl (w1).heap.size w1).alloc (Nat.le_refl _) (.cells #[.bool b0, .bool b1, .bool b2, .bool b3, .bool b4, .bool b5, .bool b6, .bool b7, .bool b8] 39)
  replace hb := hb.step hbn
  replace R := R.step hbn
  replace hB := hB.step hbn
  clear hbn
  rw [hgV]
  generalize (w1).alloc (.cells #[.bool b0, .bool b1, .bool b2, .bool b3, .bool b4, .bool b5, .bool b6, .bool b7, .bool b8] 39) = w2 at *
  by_cases hp : ph = 1
  · subst hp
    have hv := HV.out
    simp only [if_true] at hv
    injection hv with e0 hv
    injection hv with e1 hv
    injection hv with e2 hv
    injection hv with e3 hv
    injection hv with e4 hv
    injection hv with e5 hv
    injection hv with e6 hv
    injection hv with e7 hv
    injection hv with e8 hv
    subst e0 e1 e2 e3 e4 e5 e6 e7 e8
    clear hv HV
    have hB_0 := hB.cell (j := 0) rfl
    have hB_1 := hB.cell (j := 1) rfl
    have hB_2 := hB.cell (j := 2) rfl
    have hB_3 := hB.cell (j := 3) rfl
    have hB_4 := hB.cell (j := 4) rfl
    have hB_5 := hB.cell (j := 5) rfl
    have hB_6 := hB.cell (j := 6) rfl
    have hB_7 := hB.cell (j := 7) rfl
    have hB_8 := hB.cell (j := 8) rfl
    have hB_9 := hB.cell (j := 9) rfl
    have hB_10 := hB.cell (j := 10) rfl
    have hB_11 := hB.cell (j := 11) rfl
    have hB_12 := hB.cell (j := 12) rfl
    have hB_13 := hB.cell (j := 13) rfl
    have hB_14 := hB.cell (j := 14) rfl
    have hB_15 := hB.cell (j := 15) rfl
    have hB_16 := hB.cell (j := 16) rfl
    have hB_17 := hB.cell (j := 17) rfl
    have hB_18 := hB.cell (j := 18) rfl
    have hB_19 := hB.cell (j := 19) rfl
    have hB_20 := hB.cell (j := 20) rfl
    have hB_21 := hB.cell (j := 21) rfl
    have hB_22 := hB.cell (j := 22) rfl
    have hB_23 := hB.cell (j := 23) rfl
    have hB_24 := hB.cell (j := 24) rfl
    have hB_25 := hB.cell (j := 25) rfl
    have hB_26 := hB.cell (j := 26) rfl
    have hB_27 := hB.cell (j := 27) rfl
    have hB_28 := hB.cell (j := 28) rfl
    have hB_29 := hB.cell (j := 29) rfl
    have hB_30 := hB.cell (j := 30) rfl
    have hB_31 := hB.cell (j := 31) rfl
    have hB_32 := hB.cell (j := 32) rfl
    have hB_33 := hB.cell (j := 33) rfl
    have hB_34 := hB.cell (j := 34) rfl
    have V_0 := V.cell (j := 0) rfl
    have V_1 := V.cell (j := 1) rfl
    have V_2 := V.cell (j := 2) rfl
    have V_3 := V.cell (j := 3) rfl
    have V_4 := V.cell (j := 4) rfl
    have V_5 := V.cell (j := 5) rfl
    have V_6 := V.cell (j := 6) rfl
    have V_7 := V.cell (j := 7) rfl
    have V_8 := V.cell (j := 8) rfl
    have Vf0 := V.frozen 0
    have Vf1 := V.frozen 1
    have Vf2 := V.frozen 2
    have Vf3 := V.frozen 3
    have Vf4 := V.frozen 4
    have Vf5 := V.frozen 5
    have Vf6 := V.frozen 6
    have Vf7 := V.frozen 7
    have Vf8 := V.frozen 8
    go_upto_region 6 with fail
    clear hB_0 hB_1 hB_2 hB_3 hB_4 hB_5 hB_6 hB_7 hB_8 hB_9 hB_10 hB_11 hB_12 hB_13 hB_14 hB_15 hB_16 hB_17 hB_18 hB_19 hB_20 hB_21 hB_22 hB_23 hB_24 hB_25 hB_26 hB_27 hB_28 hB_29 hB_30 hB_31 hB_32 hB_33 hB_34
    clear V_0 V_1 V_2 V_3 V_4 V_5 V_6 V_7 V_8
    clear Vf0 Vf1 Vf2 Vf3 Vf4 Vf5 Vf6 Vf7 Vf8
    have hkn : Kx [gV] w2 (((((((((w2.setCell ⟨gV, 0, none⟩ (.bool d0)).setCell ⟨gV, 1, none⟩ (.bool d1)).setCell ⟨gV, 2, none⟩ (.bool d2)).setCell ⟨gV, 3, none⟩ (.bool d3)).setCell ⟨gV, 4, none⟩ (.bool d4)).setCell ⟨gV, 5, none⟩ (.bool d5)).setCell ⟨gV, 6, none⟩ (.bool d6)).setCell ⟨gV, 7, none⟩ (.bool d7)).setCell ⟨gV, 8, none⟩ (.bool d8)) := Kx.setCells [.bool d0, .bool d1, .bool d2, .bool d3, .bool d4, .bool d5, .bool d6, .bool d7, .bool d8] 0 _ (Kx.refl _ _) (.inl (by simp))
    replace V : Blk (((((((((w2.setCell ⟨gV, 0, none⟩ (.bool d0)).setCell ⟨gV, 1, none⟩ (.bool d1)).setCell ⟨gV, 2, none⟩ (.bool d2)).setCell ⟨gV, 3, none⟩ (.bool d3)).setCell ⟨gV, 4, none⟩ (.bool d4)).setCell ⟨gV, 5, none⟩ (.bool d5)).setCell ⟨gV, 6, none⟩ (.bool d6)).setCell ⟨gV, 7, none⟩ (.bool d7)).setCell ⟨gV, 8, none⟩ (.bool d8)) gV 39 [.bool d0, .bool d1, .bool d2, .bool d3, .bool d4, .bool d5, .bool d6, .bool d7, .bool d8] := Blk.puts [.bool d0, .bool d1, .bool d2, .bool d3, .bool d4, .bool d5, .bool d6, .bool d7, .bool d8] V rfl
    replace hb := hb.kx hkn (by first | (simp; done) | (simp; omega))
    replace R := R.kx hkn (by first | (simp; done) | (simp; omega))
    replace hB := hB.kx hkn (by first | (simp; done) | (simp; omega))
    clear hkn
    generalize ((((((((w2.setCell ⟨gV, 0, none⟩ (.bool d0)).setCell ⟨gV, 1, none⟩ (.bool d1)).setCell ⟨gV, 2, none⟩ (.bool d2)).setCell ⟨gV, 3, none⟩ (.bool d3)).setCell ⟨gV, 4, none⟩ (.bool d4)).setCell ⟨gV, 5, none⟩ (.bool d5)).setCell ⟨gV, 6, none⟩ (.bool d6)).setCell ⟨gV, 7, none⟩ (.bool d7)).setCell ⟨gV, 8, none⟩ (.bool d8) = w3 at *
    have hgn : g ∉ [gR] := by simp; omega
    have hvn : gV ∉ [gR] := by simp; omega
    have hB_0 := kx_all (hB.cell (j := 0) rfl) hgn
    have hB_1 := kx_all (hB.cell (j := 1) rfl) hgn
    have hB_2 := kx_all (hB.cell (j := 2) rfl) hgn
    have hB_3 := kx_all (hB.cell (j := 3) rfl) hgn
    have hB_4 := kx_all (hB.cell (j := 4) rfl) hgn
    have hB_5 := kx_all (hB.cell (j := 5) rfl) hgn
    have hB_6 := kx_all (hB.cell (j := 6) rfl) hgn
    have hB_7 := kx_all (hB.cell (j := 7) rfl) hgn
    have hB_8 := kx_all (hB.cell (j := 8) rfl) hgn
    have hB_9 := kx_all (hB.cell (j := 9) rfl) hgn
    have hB_10 := kx_all (hB.cell (j := 10) rfl) hgn
    have hB_11 := kx_all (hB.cell (j := 11) rfl) hgn
    have hB_12 := kx_all (hB.cell (j := 12) rfl) hgn
    have hB_13 := kx_all (hB.cell (j := 13) rfl) hgn
    have hB_14 := kx_all (hB.cell (j := 14) rfl) hgn
    have hB_15 := kx_all (hB.cell (j := 15) rfl) hgn
    have hB_16 := kx_all (hB.cell (j := 16) rfl) hgn
    have hB_17 := kx_all (hB.cell (j := 17) rfl) hgn
    have hB_18 := kx_all (hB.cell (j := 18) rfl) hgn
    have hB_19 := kx_all (hB.cell (j := 19) rfl) hgn
    have hB_20 := kx_all (hB.cell (j := 20) rfl) hgn
    have hB_21 := kx_all (hB.cell (j := 21) rfl) hgn
    have hB_22 := kx_all (hB.cell (j := 22) rfl) hgn
    have hB_23 := kx_all (hB.cell (j := 23) rfl) hgn
    have hB_24 := kx_all (hB.cell (j := 24) rfl) hgn
    have hB_25 := kx_all (hB.cell (j := 25) rfl) hgn
    have hB_26 := kx_all (hB.cell (j := 26) rfl) hgn
    have hB_27 := kx_all (hB.cell (j := 27) rfl) hgn
    have hB_28 := kx_all (hB.cell (j := 28) rfl) hgn
    have hB_29 := kx_all (hB.cell (j := 29) rfl) hgn
    have hB_30 := kx_all (hB.cell (j := 30) rfl) hgn
    have hB_31 := kx_all (hB.cell (j := 31) rfl) hgn
    have hB_32 := kx_all (hB.cell (j := 32) rfl) hgn
    have hB_33 := kx_all (hB.cell (j := 33) rfl) hgn
    have hB_34 := kx_all (hB.cell (j := 34) rfl) hgn
    have V_0 := kx_all (V.cell (j := 0) rfl) hvn
    have V_1 := kx_all (V.cell (j := 1) rfl) hvn
    have V_2 := kx_all (V.cell (j := 2) rfl) hvn
    have V_3 := kx_all (V.cell (j := 3) rfl) hvn
    have V_4 := kx_all (V.cell (j := 4) rfl) hvn
    have V_5 := kx_all (V.cell (j := 5) rfl) hvn
    have V_6 := kx_all (V.cell (j := 6) rfl) hvn
    have V_7 := kx_all (V.cell (j := 7) rfl) hvn
    have V_8 := kx_all (V.cell (j := 8) rfl) hvn
    refine wp_region_held (S := Kx [gR] w3) (by kernel_rfl) ?_
    have hst : Below (w3).heap.size w3 { w3 with drawn := (w3).drawn + 1 } := ⟨rfl, rfl, rfl, Nat.le_refl _, fun _ _ => rfl⟩
    have hS : (Kx [gR] w3) { w3 with drawn := (w3).drawn + 1 } := by first | exact ⟨rfl, rfl, rfl, Nat.le_refl _, fun _ _ _ => rfl⟩ | exact ⟨rfl, rfl, rfl, Nat.le_refl _, fun _ _ => rfl⟩ | exact hS0
    replace hb := hb.step hst
    replace R := R.step hst
    replace hB := hB.step hst
    replace V := V.step hst
    clear hst
    generalize ({ w3 with drawn := (w3).drawn + 1 } : World) = wq at *
    refine wpAnyH_take (i := 0) (v := ?_) rfl (by kernel_rfl) (by kernel_rfl) (by kernel_rfl) (fun _ _ _ h => h) (Or.inl ⟨by kernel_rfl, ?_⟩) hS ?_
    rotate_left
    · intro W hSW
      have y0 := hB_0 _ hSW
      have y1 := hB_1 _ hSW
      have y2 := hB_2 _ hSW
      have y3 := hB_3 _ hSW
      have y4 := hB_4 _ hSW
      have y5 := hB_29 _ hSW
      have y6 := hB_30 _ hSW
      have y7 := hB_33 _ hSW
      have y8 := hB_34 _ hSW
      have y9 := V_0 _ hSW
      have y10 := V_1 _ hSW
      have y11 := V_2 _ hSW
      have y12 := V_3 _ hSW
      have y13 := V_4 _ hSW
      have y14 := V_5 _ hSW
      have y15 := V_6 _ hSW
      have y16 := V_7 _ hSW
      have y17 := V_8 _ hSW
      go_simp
      try with_reducible rfl
    dsimp only [Act.put]
    refine wpAnyH_take (i := 1) (v := ?_) rfl (by kernel_rfl) (by kernel_rfl) (by kernel_rfl) (fun _ _ _ h => h) (Or.inl ⟨by kernel_rfl, ?_⟩) hS ?_
    rotate_left
    · intro W hSW
      have y0 := hB_0 _ hSW
      have y1 := hB_1 _ hSW
      have y2 := hB_2 _ hSW
      have y3 := hB_3 _ hSW
      have y4 := hB_4 _ hSW
      have y5 := hB_29 _ hSW
      have y6 := hB_30 _ hSW
      have y7 := hB_33 _ hSW
      have y8 := hB_34 _ hSW
      have y9 := V_0 _ hSW
      have y10 := V_1 _ hSW
      have y11 := V_2 _ hSW
      have y12 := V_3 _ hSW
      have y13 := V_4 _ hSW
      have y14 := V_5 _ hSW
      have y15 := V_6 _ hSW
      have y16 := V_7 _ hSW
      have y17 := V_8 _ hSW
      go_simp
      try with_reducible rfl
    dsimp only [Act.put]
    refine wpAnyH_take (i := 2) (v := ?_) rfl (by kernel_rfl) (by kernel_rfl) (by kernel_rfl) (fun _ _ _ h => h) (Or.inl ⟨by kernel_rfl, ?_⟩) hS ?_
    rotate_left
    · intro W hSW
      have y0 := hB_0 _ hSW
      have y1 := hB_1 _ hSW
      have y2 := hB_2 _ hSW
      have y3 := hB_3 _ hSW
      have y4 := hB_4 _ hSW
      have y5 := hB_29 _ hSW
      have y6 := hB_30 _ hSW
      have y7 := hB_33 _ hSW
      have y8 := hB_34 _ hSW
      have y9 := V_0 _ hSW
      have y10 := V_1 _ hSW
      have y11 := V_2 _ hSW
      have y12 := V_3 _ hSW
      have y13 := V_4 _ hSW
      have y14 := V_5 _ hSW
      have y15 := V_6 _ hSW
      have y16 := V_7 _ hSW
      have y17 := V_8 _ hSW
      go_simp
      try with_reducible rfl
    dsimp only [Act.put]
    refine wpAnyH_take (i := 3) (v := ?_) rfl (by kernel_rfl) (by kernel_rfl) (by kernel_rfl) (fun _ _ _ h => h) (Or.inl ⟨by kernel_rfl, ?_⟩) hS ?_
    rotate_left
    · intro W hSW
      have y0 := hB_0 _ hSW
      have y1 := hB_1 _ hSW
      have y2 := hB_2 _ hSW
      have y3 := hB_3 _ hSW
      have y4 := hB_4 _ hSW
      have y5 := hB_29 _ hSW
      have y6 := hB_30 _ hSW
      have y7 := hB_33 _ hSW
      have y8 := hB_34 _ hSW
      have y9 := V_0 _ hSW
      have y10 := V_1 _ hSW
      have y11 := V_2 _ hSW
      have y12 := V_3 _ hSW
      have y13 := V_4 _ hSW
      have y14 := V_5 _ hSW
      have y15 := V_6 _ hSW
      have y16 := V_7 _ hSW
      have y17 := V_8 _ hSW
      go_simp
      try with_reducible rfl
    dsimp only [Act.put]
    refine wpAnyH_take (i := 4) (v := ?_) rfl (by kernel_rfl) (by kernel_rfl) (by kernel_rfl) (fun _ _ _ h => h) (Or.inl ⟨by kernel_rfl, ?_⟩) hS ?_
    rotate_left
    · intro W hSW
      have y0 := hB_0 _ hSW
      have y1 := hB_1 _ hSW
      have y2 := hB_2 _ hSW
      have y3 := hB_3 _ hSW
      have y4 := hB_4 _ hSW
      have y5 := hB_29 _ hSW
      have y6 := hB_30 _ hSW
      have y7 := hB_33 _ hSW
      have y8 := hB_34 _ hSW
      have y9 := V_0 _ hSW
      have y10 := V_1 _ hSW
      have y11 := V_2 _ hSW
      have y12 := V_3 _ hSW
      have y13 := V_4 _ hSW
      have y14 := V_5 _ hSW
      have y15 := V_6 _ hSW
      have y16 := V_7 _ hSW
      have y17 := V_8 _ hSW
      go_simp
      try with_reducible rfl
    dsimp only [Act.put]
    refine wpAnyH_take (i := 5) (v := ?_) rfl (by kernel_rfl) (by kernel_rfl) (by kernel_rfl) (fun _ _ _ h => h) (Or.inl ⟨by kernel_rfl, ?_⟩) hS ?_
    rotate_left
    · intro W hSW
      have y0 := hB_0 _ hSW
      have y1 := hB_1 _ hSW
      have y2 := hB_2 _ hSW
      have y3 := hB_3 _ hSW
      have y4 := hB_4 _ hSW
      have y5 := hB_29 _ hSW
      have y6 := hB_30 _ hSW
      have y7 := hB_33 _ hSW
      have y8 := hB_34 _ hSW
      have y9 := V_0 _ hSW
      have y10 := V_1 _ hSW
      have y11 := V_2 _ hSW
      have y12 := V_3 _ hSW
      have y13 := V_4 _ hSW
      have y14 := V_5 _ hSW
      have y15 := V_6 _ hSW
      have y16 := V_7 _ hSW
      have y17 := V_8 _ hSW
      go_simp
      try with_reducible rfl
    dsimp only [Act.put]
    refine wpAnyH_take (i := 6) (v := ?_) rfl (by kernel_rfl) (by kernel_rfl) (by kernel_rfl) (fun _ _ _ h => h) (Or.inl ⟨by kernel_rfl, ?_⟩) hS ?_
    rotate_left
    · intro W hSW
      have y0 := hB_0 _ hSW
      have y1 := hB_1 _ hSW
      have y2 := hB_2 _ hSW
      have y3 := hB_3 _ hSW
      have y4 := hB_4 _ hSW
      have y5 := hB_29 _ hSW
      have y6 := hB_30 _ hSW
      have y7 := hB_33 _ hSW
      have y8 := hB_34 _ hSW
      have y9 := V_0 _ hSW
      have y10 := V_1 _ hSW
      have y11 := V_2 _ hSW
      have y12 := V_3 _ hSW
      have y13 := V_4 _ hSW
      have y14 := V_5 _ hSW
      have y15 := V_6 _ hSW
      have y16 := V_7 _ hSW
      have y17 := V_8 _ hSW
      go_simp
      try with_reducible rfl
    dsimp only [Act.put]
    refine wpAnyH_take (i := 7) (v := ?_) rfl (by kernel_rfl) (by kernel_rfl) (by kernel_rfl) (fun _ _ _ h => h) (Or.inl ⟨by kernel_rfl, ?_⟩) hS ?_
    rotate_left
    · intro W hSW
      have y0 := hB_0 _ hSW
      have y1 := hB_1 _ hSW
      have y2 := hB_2 _ hSW
      have y3 := hB_3 _ hSW
      have y4 := hB_4 _ hSW
      have y5 := hB_29 _ hSW
      have y6 := hB_30 _ hSW
      have y7 := hB_33 _ hSW
      have y8 := hB_34 _ hSW
      have y9 := V_0 _ hSW
      have y10 := V_1 _ hSW
      have y11 := V_2 _ hSW
      have y12 := V_3 _ hSW
      have y13 := V_4 _ hSW
      have y14 := V_5 _ hSW
      have y15 := V_6 _ hSW
      have y16 := V_7 _ hSW
      have y17 := V_8 _ hSW
      go_simp
      try with_reducible rfl
    dsimp only [Act.put]
    refine wpAnyH_take (i := 8) (v := ?_) rfl (by kernel_rfl) (by kernel_rfl) (by kernel_rfl) (fun _ _ _ h => h) (Or.inl ⟨by kernel_rfl, ?_⟩) hS ?_
    rotate_left
    · intro W hSW
      have y0 := hB_0 _ hSW
      have y1 := hB_1 _ hSW
      have y2 := hB_2 _ hSW
      have y3 := hB_3 _ hSW
      have y4 := hB_4 _ hSW
      have y5 := hB_29 _ hSW
      have y6 := hB_30 _ hSW
      have y7 := hB_33 _ hSW
      have y8 := hB_34 _ hSW
      have y9 := V_0 _ hSW
      have y10 := V_1 _ hSW
      have y11 := V_2 _ hSW
      have y12 := V_3 _ hSW
      have y13 := V_4 _ hSW
      have y14 := V_5 _ hSW
      have y15 := V_6 _ hSW
      have y16 := V_7 _ hSW
      have y17 := V_8 _ hSW
      go_simp
      try with_reducible rfl
    dsimp only [Act.put]
    refine wpAnyH_take (i := 9) (v := ?_) rfl (by kernel_rfl) (by kernel_rfl) (by kernel_rfl) (fun _ _ _ h => h) (Or.inl ⟨by kernel_rfl, ?_⟩) hS ?_
    rotate_left
    · intro W hSW
      have y0 := hB_0 _ hSW
      have y1 := hB_1 _ hSW
      have y2 := hB_2 _ hSW
      have y3 := hB_3 _ hSW
      have y4 := hB_4 _ hSW
      have y5 := hB_29 _ hSW
      have y6 := hB_30 _ hSW
      have y7 := hB_33 _ hSW
      have y8 := hB_34 _ hSW
      have y9 := V_0 _ hSW
      have y10 := V_1 _ hSW
      have y11 := V_2 _ hSW
      have y12 := V_3 _ hSW
      have y13 := V_4 _ hSW
      have y14 := V_5 _ hSW
      have y15 := V_6 _ hSW
      have y16 := V_7 _ hSW
      have y17 := V_8 _ hSW
      go_simp
      try with_reducible rfl
    dsimp only [Act.put]
    refine wpAnyH_take (i := 10) (v := ?_) rfl (by kernel_rfl) (by kernel_rfl) (by kernel_rfl) (fun _ _ _ h => h) (Or.inl ⟨by kernel_rfl, ?_⟩) hS ?_
    rotate_left
    · intro W hSW
      have y0 := hB_0 _ hSW
      have y1 := hB_1 _ hSW
      have y2 := hB_2 _ hSW
      have y3 := hB_3 _ hSW
      have y4 := hB_4 _ hSW
      have y5 := hB_29 _ hSW
      have y6 := hB_30 _ hSW
      have y7 := hB_33 _ hSW
      have y8 := hB_34 _ hSW
      have y9 := V_0 _ hSW
      have y10 := V_1 _ hSW
      have y11 := V_2 _ hSW
      have y12 := V_3 _ hSW
      have y13 := V_4 _ hSW
      have y14 := V_5 _ hSW
      have y15 := V_6 _ hSW
      have y16 := V_7 _ hSW
      have y17 := V_8 _ hSW
      go_simp
      try with_reducible rfl
    dsimp only [Act.put]
    refine wpAnyH_take (i := 11) (v := ?_) rfl (by kernel_rfl) (by kernel_rfl) (by kernel_rfl) (fun _ _ _ h => h) (Or.inl ⟨by kernel_rfl, ?_⟩) hS ?_
    rotate_left
    · intro W hSW
      have y0 := hB_0 _ hSW
      have y1 := hB_1 _ hSW
      have y2 := hB_2 _ hSW
      have y3 := hB_3 _ hSW
      have y4 := hB_4 _ hSW
      have y5 := hB_29 _ hSW
      have y6 := hB_30 _ hSW
      have y7 := hB_33 _ hSW
      have y8 := hB_34 _ hSW
      have y9 := V_0 _ hSW
      have y10 := V_1 _ hSW
      have y11 := V_2 _ hSW
      have y12 := V_3 _ hSW
      have y13 := V_4 _ hSW
      have y14 := V_5 _ hSW
      have y15 := V_6 _ hSW
      have y16 := V_7 _ hSW
      have y17 := V_8 _ hSW
      go_simp
      try with_reducible rfl
    dsimp only [Act.put]
    refine wpAnyH_take (i := 12) (v := ?_) rfl (by kernel_rfl) (by kernel_rfl) (by kernel_rfl) (fun _ _ _ h => h) (Or.inl ⟨by kernel_rfl, ?_⟩) hS ?_
    rotate_left
    · intro W hSW
      have y0 := hB_0 _ hSW
      have y1 := hB_1 _ hSW
      have y2 := hB_2 _ hSW
      have y3 := hB_3 _ hSW
      have y4 := hB_4 _ hSW
      have y5 := hB_29 _ hSW
      have y6 := hB_30 _ hSW
      have y7 := hB_33 _ hSW
      have y8 := hB_34 _ hSW
      have y9 := V_0 _ hSW
      have y10 := V_1 _ hSW
      have y11 := V_2 _ hSW
      have y12 := V_3 _ hSW
      have y13 := V_4 _ hSW
      have y14 := V_5 _ hSW
      have y15 := V_6 _ hSW
      have y16 := V_7 _ hSW
      have y17 := V_8 _ hSW
      go_simp
      try with_reducible rfl
    dsimp only [Act.put]
    refine wpAnyH_take (i := 13) (v := ?_) rfl (by kernel_rfl) (by kernel_rfl) (by kernel_rfl) (fun _ _ _ h => h) (Or.inl ⟨by kernel_rfl, ?_⟩) hS ?_
    rotate_left
    · intro W hSW
      have y0 := hB_0 _ hSW
      have y1 := hB_1 _ hSW
      have y2 := hB_2 _ hSW
      have y3 := hB_3 _ hSW
      have y4 := hB_4 _ hSW
      have y5 := hB_29 _ hSW
      have y6 := hB_30 _ hSW
      have y7 := hB_33 _ hSW
      have y8 := hB_34 _ hSW
      have y9 := V_0 _ hSW
      have y10 := V_1 _ hSW
      have y11 := V_2 _ hSW
      have y12 := V_3 _ hSW
      have y13 := V_4 _ hSW
      have y14 := V_5 _ hSW
      have y15 := V_6 _ hSW
      have y16 := V_7 _ hSW
      have y17 := V_8 _ hSW
      go_simp
      try with_reducible rfl
    dsimp only [Act.put]
    refine wpAnyH_take (i := 14) (v := ?_) rfl (by kernel_rfl) (by kernel_rfl) (by kernel_rfl) (fun _ _ _ h => h) (Or.inl ⟨by kernel_rfl, ?_⟩) hS ?_
    rotate_left
    · intro W hSW
      have y0 := hB_0 _ hSW
      have y1 := hB_1 _ hSW
      have y2 := hB_2 _ hSW
      have y3 := hB_3 _ hSW
      have y4 := hB_4 _ hSW
      have y5 := hB_29 _ hSW
      have y6 := hB_30 _ hSW
      have y7 := hB_33 _ hSW
      have y8 := hB_34 _ hSW
      have y9 := V_0 _ hSW
      have y10 := V_1 _ hSW
      have y11 := V_2 _ hSW
      have y12 := V_3 _ hSW
      have y13 := V_4 _ hSW
      have y14 := V_5 _ hSW
      have y15 := V_6 _ hSW
      have y16 := V_7 _ hSW
      have y17 := V_8 _ hSW
      go_simp
      try with_reducible rfl
    dsimp only [Act.put]
    refine wpAnyH_take (i := 17) (v := ?_) rfl (by kernel_rfl) (by kernel_rfl) (by kernel_rfl) (fun _ _ _ h => h) (Or.inl ⟨by kernel_rfl, ?_⟩) hS ?_
    rotate_left
    · intro W hSW
      have y0 := hB_0 _ hSW
      have y1 := hB_1 _ hSW
      have y2 := hB_2 _ hSW
      have y3 := hB_3 _ hSW
      have y4 := hB_4 _ hSW
      have y5 := hB_29 _ hSW
      have y6 := hB_30 _ hSW
      have y7 := hB_33 _ hSW
      have y8 := hB_34 _ hSW
      have y9 := V_0 _ hSW
      have y10 := V_1 _ hSW
      have y11 := V_2 _ hSW
      have y12 := V_3 _ hSW
      have y13 := V_4 _ hSW
      have y14 := V_5 _ hSW
      have y15 := V_6 _ hSW
      have y16 := V_7 _ hSW
      have y17 := V_8 _ hSW
      go_simp
      try with_reducible rfl
    dsimp only [Act.put]
    refine wpAnyH_take (i := 18) (v := ?_) rfl (by kernel_rfl) (by kernel_rfl) (by kernel_rfl) (fun _ _ _ h => h) (Or.inl ⟨by kernel_rfl, ?_⟩) hS ?_
    rotate_left
    · intro W hSW
      have y0 := hB_0 _ hSW
      have y1 := hB_1 _ hSW
      have y2 := hB_2 _ hSW
      have y3 := hB_3 _ hSW
      have y4 := hB_4 _ hSW
      have y5 := hB_29 _ hSW
      have y6 := hB_30 _ hSW
      have y7 := hB_33 _ hSW
      have y8 := hB_34 _ hSW
      have y9 := V_0 _ hSW
      have y10 := V_1 _ hSW
      have y11 := V_2 _ hSW
      have y12 := V_3 _ hSW
      have y13 := V_4 _ hSW
      have y14 := V_5 _ hSW
      have y15 := V_6 _ hSW
      have y16 := V_7 _ hSW
      have y17 := V_8 _ hSW
      go_simp
      try with_reducible rfl
    dsimp only [Act.put]
    refine wpAnyH_take (i := 19) (v := ?_) rfl (by kernel_rfl) (by kernel_rfl) (by kernel_rfl) (fun _ _ _ h => h) (Or.inl ⟨by kernel_rfl, ?_⟩) hS ?_
    rotate_left
    · intro W hSW
      have y0 := hB_0 _ hSW
      have y1 := hB_1 _ hSW
      have y2 := hB_2 _ hSW
      have y3 := hB_3 _ hSW
      have y4 := hB_4 _ hSW
      have y5 := hB_29 _ hSW
      have y6 := hB_30 _ hSW
      have y7 := hB_33 _ hSW
      have y8 := hB_34 _ hSW
      have y9 := V_0 _ hSW
      have y10 := V_1 _ hSW
      have y11 := V_2 _ hSW
      have y12 := V_3 _ hSW
      have y13 := V_4 _ hSW
      have y14 := V_5 _ hSW
      have y15 := V_6 _ hSW
      have y16 := V_7 _ hSW
      have y17 := V_8 _ hSW
      go_simp
      try with_reducible rfl
    dsimp only [Act.put]
    refine wpAnyH_take (i := 20) (v := ?_) rfl (by kernel_rfl) (by kernel_rfl) (by kernel_rfl) (fun _ _ _ h => h) (Or.inl ⟨by kernel_rfl, ?_⟩) hS ?_
    rotate_left
    · intro W hSW
      have y0 := hB_0 _ hSW
      have y1 := hB_1 _ hSW
      have y2 := hB_2 _ hSW
      have y3 := hB_3 _ hSW
      have y4 := hB_4 _ hSW
      have y5 := hB_29 _ hSW
      have y6 := hB_30 _ hSW
      have y7 := hB_33 _ hSW
      have y8 := hB_34 _ hSW
      have y9 := V_0 _ hSW
      have y10 := V_1 _ hSW
      have y11 := V_2 _ hSW
      have y12 := V_3 _ hSW
      have y13 := V_4 _ hSW
      have y14 := V_5 _ hSW
      have y15 := V_6 _ hSW
      have y16 := V_7 _ hSW
      have y17 := V_8 _ hSW
      go_simp
      try with_reducible rfl
    dsimp only [Act.put]
    refine wpAnyH_take (i := 21) (v := ?_) rfl (by kernel_rfl) (by kernel_rfl) (by kernel_rfl) (fun _ _ _ h => h) (Or.inl ⟨by kernel_rfl, ?_⟩) hS ?_
    rotate_left
    · intro W hSW
      have y0 := hB_0 _ hSW
      have y1 := hB_1 _ hSW
      have y2 := hB_2 _ hSW
      have y3 := hB_3 _ hSW
      have y4 := hB_4 _ hSW
      have y5 := hB_29 _ hSW
      have y6 := hB_30 _ hSW
      have y7 := hB_33 _ hSW
      have y8 := hB_34 _ hSW
      have y9 := V_0 _ hSW
      have y10 := V_1 _ hSW
      have y11 := V_2 _ hSW
      have y12 := V_3 _ hSW
      have y13 := V_4 _ hSW
      have y14 := V_5 _ hSW
      have y15 := V_6 _ hSW
      have y16 := V_7 _ hSW
      have y17 := V_8 _ hSW
      go_simp
      try with_reducible rfl
    dsimp only [Act.put]
    refine wpAnyH_ready (rs := [15]) (by kernel_rfl) (by simp) ?_
    refine AllReadyH.cons rfl (fun K hK => ?_) AllReadyH.nil
    go_simp
    refine (cA _).mono ?_
    rintro e wb ⟨rfl, hBx, hbn⟩
    have hz2 := hb.size
    replace hb := hb.step hbn
    replace R := R.step hbn
    replace hB := hB.step hbn
    replace V := V.step hbn
    have hseq := cC _ _ hBx
    have hRb := R.lt
    refine hK.out _ _ (hS.step hbn) (fun hS => ?_)
    obtain ⟨bq, hbq⟩ : ∃ b, wq.heap.size = b := ⟨_, rfl⟩
    rw [hbq] at hseq ⊢
    have hz3 := hb.size
    clear hbq hBx hbn cA cC
    unfold SetF
    clear hK K
    refine wpAnyH_ready (rs := [16]) (by kernel_rfl) (by simp) ?_
    refine AllReadyH.cons rfl (fun K hK => ?_) AllReadyH.nil
    go_simp
    refine hseq.mono ?_
    rintro e wc ⟨⟨v, rfl, hR⟩, hbn⟩
    replace hb := hb.step hbn
    replace R := R.step hbn
    replace hB := hB.step hbn
    replace V := V.step hbn
    have hR2 : RowI wc w.heap.size v xs := row_low15 hR hz3
    have hRb := R.lt
    have hRn : ∀ k, v.ownBlock = some k → k ∉ [gR] := fun k hk hm => by
      have := (row_ge15 hR k hk).1
      simp at hm
      omega
    obtain ⟨av, cv, rfl⟩ := RowI.form hR
    obtain ⟨N, hN⟩ : ∃ N, xs.length = N := ⟨_, rfl⟩
    rw [hN] at hRn hR2 ⊢
    refine hK.out _ _ (hS.step hbn) (fun hS => ?_)
    clear hR hbn
    clear hK K
    refine wpAnyH_take (i := 22) (v := ?_) rfl (by kernel_rfl) (by kernel_rfl) (by kernel_rfl) (fun _ _ _ h => h) (Or.inl ⟨by kernel_rfl, ?_⟩) hS ?_
    rotate_left
    · intro W hSW
      go_simp
      try with_reducible rfl
    dsimp only [Act.put]
    have R_0 := R.cell (j := 0) rfl
    have R_1 := R.cell (j := 1) rfl
    have R_2 := R.cell (j := 2) rfl
    have R_3 := R.cell (j := 3) rfl
    have R_4 := R.cell (j := 4) rfl
    have R_5 := R.cell (j := 5) rfl
    have R_6 := R.cell (j := 6) rfl
    have R_7 := R.cell (j := 7) rfl
    have R_8 := R.cell (j := 8) rfl
    have R_9 := R.cell (j := 9) rfl
    have Rf0 := R.frozen 0
    have Rf1 := R.frozen 1
    have Rf2 := R.frozen 2
    have Rf3 := R.frozen 3
    have Rf4 := R.frozen 4
    have Rf5 := R.frozen 5
    have Rf6 := R.frozen 6
    have Rf7 := R.frozen 7
    have Rf8 := R.frozen 8
    have Rf9 := R.frozen 9
    refine wpAnyH_ready (rs := [23]) (by kernel_rfl) (by simp) ?_
    refine AllReadyH.cons rfl (fun K hK => ?_) AllReadyH.nil
    go_simp
    have hkn : Kx [gR] wc ((((((((((wc.setCell ⟨gR, 0, none⟩ (.int .i64 1)).setCell ⟨gR, 1, none⟩ (.int .i64 r)).setCell ⟨gR, 2, none⟩ (.int .i64 p)).setCell ⟨gR, 3, none⟩ (.int .i64 k)).setCell ⟨gR, 4, none⟩ (.int .i64 m)).setCell ⟨gR, 5, none⟩ (.int .i64 n)).setCell ⟨gR, 6, none⟩ (.string s)).setCell ⟨gR, 7, none⟩ (.slice av N cv)).setCell ⟨gR, 8, none⟩ (.int .i64 ur)).setCell ⟨gR, 9, none⟩ (.int .i64 up)) := Kx.setCells [.int .i64 1, .int .i64 r, .int .i64 p, .int .i64 k, .int .i64 m, .int .i64 n, .string s, .slice av N cv, .int .i64 ur, .int .i64 up] 0 _ (Kx.refl _ _) (.inl (by simp))
    replace R : Blk ((((((((((wc.setCell ⟨gR, 0, none⟩ (.int .i64 1)).setCell ⟨gR, 1, none⟩ (.int .i64 r)).setCell ⟨gR, 2, none⟩ (.int .i64 p)).setCell ⟨gR, 3, none⟩ (.int .i64 k)).setCell ⟨gR, 4, none⟩ (.int .i64 m)).setCell ⟨gR, 5, none⟩ (.int .i64 n)).setCell ⟨gR, 6, none⟩ (.string s)).setCell ⟨gR, 7, none⟩ (.slice av N cv)).setCell ⟨gR, 8, none⟩ (.int .i64 ur)).setCell ⟨gR, 9, none⟩ (.int .i64 up)) gR 55 [.int .i64 1, .int .i64 r, .int .i64 p, .int .i64 k, .int .i64 m, .int .i64 n, .string s, .slice av N cv, .int .i64 ur, .int .i64 up] := Blk.puts [.int .i64 1, .int .i64 r, .int .i64 p, .int .i64 k, .int .i64 m, .int .i64 n, .string s, .slice av N cv, .int .i64 ur, .int .i64 up] R rfl
    replace hb := hb.kx hkn (by first | (simp; done) | (simp; omega))
    replace hS := hS.kx hkn (by first | (simp; done) | (simp; omega))
    generalize (((((((((wc.setCell ⟨gR, 0, none⟩ (.int .i64 1)).setCell ⟨gR, 1, none⟩ (.int .i64 r)).setCell ⟨gR, 2, none⟩ (.int .i64 p)).setCell ⟨gR, 3, none⟩ (.int .i64 k)).setCell ⟨gR, 4, none⟩ (.int .i64 m)).setCell ⟨gR, 5, none⟩ (.int .i64 n)).setCell ⟨gR, 6, none⟩ (.string s)).setCell ⟨gR, 7, none⟩ (.slice av N cv)).setCell ⟨gR, 8, none⟩ (.int .i64 ur)).setCell ⟨gR, 9, none⟩ (.int .i64 up) = ws at *
    replace hR2 : RowI ws w.heap.size (.slice av N cv) xs := row_kx (n := xs.length) hR2 hkn hRn
    refine hK.out _ _ hS (fun hS => ?_)
    clear hK K
    refine wpAnyH_done (by kernel_rfl) ?_ _
    clear hS hB V hkn
    have R_0 := R.cell (j := 0) rfl
    have R_1 := R.cell (j := 1) rfl
    have R_2 := R.cell (j := 2) rfl
    have R_3 := R.cell (j := 3) rfl
    have R_4 := R.cell (j := 4) rfl
    have R_5 := R.cell (j := 5) rfl
    have R_6 := R.cell (j := 6) rfl
    have R_7 := R.cell (j := 7) rfl
    have R_8 := R.cell (j := 8) rfl
    have R_9 := R.cell (j := 9) rfl
    go_wp2_with fail
    (try simp only [Exit.inBlock, Exit.then])
    refine bodyPost_ret (v := .agg #[.int .i64 1, .int .i64 r, .int .i64 p, .int .i64 k, .int .i64 m, .int .i64 n, .string s, .slice av N cv, .int .i64 ur, .int .i64 up]) ?_ rfl ⟨⟨_, rfl, hR2⟩, hb⟩
    rw [r_cell1 rfl]
    go_simp
  · have hv := HV.out
    rw [if_neg hp] at hv
    injection hv with e0 hv
    injection hv with e1 hv
    injection hv with e2 hv
    injection hv with e3 hv
    injection hv with e4 hv
    injection hv with e5 hv
    injection hv with e6 hv
    injection hv with e7 hv
    injection hv with e8 hv
    subst e0 e1 e2 e3 e4 e5 e6 e7 e8
    clear hv HV
    have hB_0 := hB.cell (j := 0) rfl
    have hB_1 := hB.cell (j := 1) rfl
    have hB_2 := hB.cell (j := 2) rfl
    have hB_3 := hB.cell (j := 3) rfl
    have hB_4 := hB.cell (j := 4) rfl
    have hB_5 := hB.cell (j := 5) rfl
    have hB_6 := hB.cell (j := 6) rfl
    have hB_7 := hB.cell (j := 7) rfl
    have hB_8 := hB.cell (j := 8) rfl
    have hB_9 := hB.cell (j := 9) rfl
    have hB_10 := hB.cell (j := 10) rfl
    have hB_11 := hB.cell (j := 11) rfl
    have hB_12 := hB.cell (j := 12) rfl
    have hB_13 := hB.cell (j := 13) rfl
    have hB_14 := hB.cell (j := 14) rfl
    have hB_15 := hB.cell (j := 15) rfl
    have hB_16 := hB.cell (j := 16) rfl
    have hB_17 := hB.cell (j := 17) rfl
    have hB_18 := hB.cell (j := 18) rfl
    have hB_19 := hB.cell (j := 19) rfl
    have hB_20 := hB.cell (j := 20) rfl
    have hB_21 := hB.cell (j := 21) rfl
    have hB_22 := hB.cell (j := 22) rfl
    have hB_23 := hB.cell (j := 23) rfl
    have hB_24 := hB.cell (j := 24) rfl
    have hB_25 := hB.cell (j := 25) rfl
    have hB_26 := hB.cell (j := 26) rfl
    have hB_27 := hB.cell (j := 27) rfl
    have hB_28 := hB.cell (j := 28) rfl
    have hB_29 := hB.cell (j := 29) rfl
    have hB_30 := hB.cell (j := 30) rfl
    have hB_31 := hB.cell (j := 31) rfl
    have hB_32 := hB.cell (j := 32) rfl
    have hB_33 := hB.cell (j := 33) rfl
    have hB_34 := hB.cell (j := 34) rfl
    go_upto_region 6 with fail
    clear hB_0 hB_1 hB_2 hB_3 hB_4 hB_5 hB_6 hB_7 hB_8 hB_9 hB_10 hB_11 hB_12 hB_13 hB_14 hB_15 hB_16 hB_17 hB_18 hB_19 hB_20 hB_21 hB_22 hB_23 hB_24 hB_25 hB_26 hB_27 hB_28 hB_29 hB_30 hB_31 hB_32 hB_33 hB_34
    have hgn : g ∉ [gR] := by simp; omega
    have hvn : gV ∉ [gR] := by simp; omega
    have hB_0 := kx_all (hB.cell (j := 0) rfl) hgn
    have hB_1 := kx_all (hB.cell (j := 1) rfl) hgn
    have hB_2 := kx_all (hB.cell (j := 2) rfl) hgn
    have hB_3 := kx_all (hB.cell (j := 3) rfl) hgn
    have hB_4 := kx_all (hB.cell (j := 4) rfl) hgn
    have hB_5 := kx_all (hB.cell (j := 5) rfl) hgn
    have hB_6 := kx_all (hB.cell (j := 6) rfl) hgn
    have hB_7 := kx_all (hB.cell (j := 7) rfl) hgn
    have hB_8 := kx_all (hB.cell (j := 8) rfl) hgn
    have hB_9 := kx_all (hB.cell (j := 9) rfl) hgn
    have hB_10 := kx_all (hB.cell (j := 10) rfl) hgn
    have hB_11 := kx_all (hB.cell (j := 11) rfl) hgn
    have hB_12 := kx_all (hB.cell (j := 12) rfl) hgn
    have hB_13 := kx_all (hB.cell (j := 13) rfl) hgn
    have hB_14 := kx_all (hB.cell (j := 14) rfl) hgn
    have hB_15 := kx_all (hB.cell (j := 15) rfl) hgn
    have hB_16 := kx_all (hB.cell (j := 16) rfl) hgn
    have hB_17 := kx_all (hB.cell (j := 17) rfl) hgn
    have hB_18 := kx_all (hB.cell (j := 18) rfl) hgn
    have hB_19 := kx_all (hB.cell (j := 19) rfl) hgn
    have hB_20 := kx_all (hB.cell (j := 20) rfl) hgn
    have hB_21 := kx_all (hB.cell (j := 21) rfl) hgn
    have hB_22 := kx_all (hB.cell (j := 22) rfl) hgn
    have hB_23 := kx_all (hB.cell (j := 23) rfl) hgn
    have hB_24 := kx_all (hB.cell (j := 24) rfl) hgn
    have hB_25 := kx_all (hB.cell (j := 25) rfl) hgn
    have hB_26 := kx_all (hB.cell (j := 26) rfl) hgn
    have hB_27 := kx_all (hB.cell (j := 27) rfl) hgn
    have hB_28 := kx_all (hB.cell (j := 28) rfl) hgn
    have hB_29 := kx_all (hB.cell (j := 29) rfl) hgn
    have hB_30 := kx_all (hB.cell (j := 30) rfl) hgn
    have hB_31 := kx_all (hB.cell (j := 31) rfl) hgn
    have hB_32 := kx_all (hB.cell (j := 32) rfl) hgn
    have hB_33 := kx_all (hB.cell (j := 33) rfl) hgn
    have hB_34 := kx_all (hB.cell (j := 34) rfl) hgn
    have V_0 := kx_all (V.cell (j := 0) rfl) hvn
    have V_1 := kx_all (V.cell (j := 1) rfl) hvn
    have V_2 := kx_all (V.cell (j := 2) rfl) hvn
    have V_3 := kx_all (V.cell (j := 3) rfl) hvn
    have V_4 := kx_all (V.cell (j := 4) rfl) hvn
    have V_5 := kx_all (V.cell (j := 5) rfl) hvn
    have V_6 := kx_all (V.cell (j := 6) rfl) hvn
    have V_7 := kx_all (V.cell (j := 7) rfl) hvn
    have V_8 := kx_all (V.cell (j := 8) rfl) hvn
    refine wp_region_held (S := Kx [gR] w2) (by kernel_rfl) ?_
    have hst : Below (w2).heap.size w2 { w2 with drawn := (w2).drawn + 1 } := ⟨rfl, rfl, rfl, Nat.le_refl _, fun _ _ => rfl⟩
    have hS : (Kx [gR] w2) { w2 with drawn := (w2).drawn + 1 } := by first | exact ⟨rfl, rfl, rfl, Nat.le_refl _, fun _ _ _ => rfl⟩ | exact ⟨rfl, rfl, rfl, Nat.le_refl _, fun _ _ => rfl⟩ | exact hS0
    replace hb := hb.step hst
    replace R := R.step hst
    replace hB := hB.step hst
    replace V := V.step hst
    clear hst
    generalize ({ w2 with drawn := (w2).drawn + 1 } : World) = wq at *
    refine wpAnyH_take (i := 0) (v := ?_) rfl (by kernel_rfl) (by kernel_rfl) (by kernel_rfl) (fun _ _ _ h => h) (Or.inl ⟨by kernel_rfl, ?_⟩) hS ?_
    rotate_left
    · intro W hSW
      have y0 := hB_0 _ hSW
      have y1 := hB_1 _ hSW
      have y2 := hB_2 _ hSW
      have y3 := hB_3 _ hSW
      have y4 := hB_4 _ hSW
      have y5 := hB_29 _ hSW
      have y6 := hB_30 _ hSW
      have y7 := hB_33 _ hSW
      have y8 := hB_34 _ hSW
      have y9 := V_0 _ hSW
      have y10 := V_1 _ hSW
      have y11 := V_2 _ hSW
      have y12 := V_3 _ hSW
      have y13 := V_4 _ hSW
      have y14 := V_5 _ hSW
      have y15 := V_6 _ hSW
      have y16 := V_7 _ hSW
      have y17 := V_8 _ hSW
      go_simp
      try with_reducible rfl
    dsimp only [Act.put]
    refine wpAnyH_take (i := 1) (v := ?_) rfl (by kernel_rfl) (by kernel_rfl) (by kernel_rfl) (fun _ _ _ h => h) (Or.inl ⟨by kernel_rfl, ?_⟩) hS ?_
    rotate_left
    · intro W hSW
      have y0 := hB_0 _ hSW
      have y1 := hB_1 _ hSW
      have y2 := hB_2 _ hSW
      have y3 := hB_3 _ hSW
      have y4 := hB_4 _ hSW
      have y5 := hB_29 _ hSW
      have y6 := hB_30 _ hSW
      have y7 := hB_33 _ hSW
      have y8 := hB_34 _ hSW
      have y9 := V_0 _ hSW
      have y10 := V_1 _ hSW
      have y11 := V_2 _ hSW
      have y12 := V_3 _ hSW
      have y13 := V_4 _ hSW
      have y14 := V_5 _ hSW
      have y15 := V_6 _ hSW
      have y16 := V_7 _ hSW
      have y17 := V_8 _ hSW
      go_simp
      try with_reducible rfl
    dsimp only [Act.put]
    refine wpAnyH_take (i := 2) (v := ?_) rfl (by kernel_rfl) (by kernel_rfl) (by kernel_rfl) (fun _ _ _ h => h) (Or.inl ⟨by kernel_rfl, ?_⟩) hS ?_
    rotate_left
    · intro W hSW
      have y0 := hB_0 _ hSW
      have y1 := hB_1 _ hSW
      have y2 := hB_2 _ hSW
      have y3 := hB_3 _ hSW
      have y4 := hB_4 _ hSW
      have y5 := hB_29 _ hSW
      have y6 := hB_30 _ hSW
      have y7 := hB_33 _ hSW
      have y8 := hB_34 _ hSW
      have y9 := V_0 _ hSW
      have y10 := V_1 _ hSW
      have y11 := V_2 _ hSW
      have y12 := V_3 _ hSW
      have y13 := V_4 _ hSW
      have y14 := V_5 _ hSW
      have y15 := V_6 _ hSW
      have y16 := V_7 _ hSW
      have y17 := V_8 _ hSW
      go_simp
      try with_reducible rfl
    dsimp only [Act.put]
    refine wpAnyH_take (i := 3) (v := ?_) rfl (by kernel_rfl) (by kernel_rfl) (by kernel_rfl) (fun _ _ _ h => h) (Or.inl ⟨by kernel_rfl, ?_⟩) hS ?_
    rotate_left
    · intro W hSW
      have y0 := hB_0 _ hSW
      have y1 := hB_1 _ hSW
      have y2 := hB_2 _ hSW
      have y3 := hB_3 _ hSW
      have y4 := hB_4 _ hSW
      have y5 := hB_29 _ hSW
      have y6 := hB_30 _ hSW
      have y7 := hB_33 _ hSW
      have y8 := hB_34 _ hSW
      have y9 := V_0 _ hSW
      have y10 := V_1 _ hSW
      have y11 := V_2 _ hSW
      have y12 := V_3 _ hSW
      have y13 := V_4 _ hSW
      have y14 := V_5 _ hSW
      have y15 := V_6 _ hSW
      have y16 := V_7 _ hSW
      have y17 := V_8 _ hSW
      go_simp
      try with_reducible rfl
    dsimp only [Act.put]
    refine wpAnyH_take (i := 4) (v := ?_) rfl (by kernel_rfl) (by kernel_rfl) (by kernel_rfl) (fun _ _ _ h => h) (Or.inl ⟨by kernel_rfl, ?_⟩) hS ?_
    rotate_left
    · intro W hSW
      have y0 := hB_0 _ hSW
      have y1 := hB_1 _ hSW
      have y2 := hB_2 _ hSW
      have y3 := hB_3 _ hSW
      have y4 := hB_4 _ hSW
      have y5 := hB_29 _ hSW
      have y6 := hB_30 _ hSW
      have y7 := hB_33 _ hSW
      have y8 := hB_34 _ hSW
      have y9 := V_0 _ hSW
      have y10 := V_1 _ hSW
      have y11 := V_2 _ hSW
      have y12 := V_3 _ hSW
      have y13 := V_4 _ hSW
      have y14 := V_5 _ hSW
      have y15 := V_6 _ hSW
      have y16 := V_7 _ hSW
      have y17 := V_8 _ hSW
      go_simp
      try with_reducible rfl
    dsimp only [Act.put]
    refine wpAnyH_take (i := 5) (v := ?_) rfl (by kernel_rfl) (by kernel_rfl) (by kernel_rfl) (fun _ _ _ h => h) (Or.inl ⟨by kernel_rfl, ?_⟩) hS ?_
    rotate_left
    · intro W hSW
      have y0 := hB_0 _ hSW
      have y1 := hB_1 _ hSW
      have y2 := hB_2 _ hSW
      have y3 := hB_3 _ hSW
      have y4 := hB_4 _ hSW
      have y5 := hB_29 _ hSW
      have y6 := hB_30 _ hSW
      have y7 := hB_33 _ hSW
      have y8 := hB_34 _ hSW
      have y9 := V_0 _ hSW
      have y10 := V_1 _ hSW
      have y11 := V_2 _ hSW
      have y12 := V_3 _ hSW
      have y13 := V_4 _ hSW
      have y14 := V_5 _ hSW
      have y15 := V_6 _ hSW
      have y16 := V_7 _ hSW
      have y17 := V_8 _ hSW
      go_simp
      try with_reducible rfl
    dsimp only [Act.put]
    refine wpAnyH_take (i := 6) (v := ?_) rfl (by kernel_rfl) (by kernel_rfl) (by kernel_rfl) (fun _ _ _ h => h) (Or.inl ⟨by kernel_rfl, ?_⟩) hS ?_
    rotate_left
    · intro W hSW
      have y0 := hB_0 _ hSW
      have y1 := hB_1 _ hSW
      have y2 := hB_2 _ hSW
      have y3 := hB_3 _ hSW
      have y4 := hB_4 _ hSW
      have y5 := hB_29 _ hSW
      have y6 := hB_30 _ hSW
      have y7 := hB_33 _ hSW
      have y8 := hB_34 _ hSW
      have y9 := V_0 _ hSW
      have y10 := V_1 _ hSW
      have y11 := V_2 _ hSW
      have y12 := V_3 _ hSW
      have y13 := V_4 _ hSW
      have y14 := V_5 _ hSW
      have y15 := V_6 _ hSW
      have y16 := V_7 _ hSW
      have y17 := V_8 _ hSW
      go_simp
      try with_reducible rfl
    dsimp only [Act.put]
    refine wpAnyH_take (i := 7) (v := ?_) rfl (by kernel_rfl) (by kernel_rfl) (by kernel_rfl) (fun _ _ _ h => h) (Or.inl ⟨by kernel_rfl, ?_⟩) hS ?_
    rotate_left
    · intro W hSW
      have y0 := hB_0 _ hSW
      have y1 := hB_1 _ hSW
      have y2 := hB_2 _ hSW
      have y3 := hB_3 _ hSW
      have y4 := hB_4 _ hSW
      have y5 := hB_29 _ hSW
      have y6 := hB_30 _ hSW
      have y7 := hB_33 _ hSW
      have y8 := hB_34 _ hSW
      have y9 := V_0 _ hSW
      have y10 := V_1 _ hSW
      have y11 := V_2 _ hSW
      have y12 := V_3 _ hSW
      have y13 := V_4 _ hSW
      have y14 := V_5 _ hSW
      have y15 := V_6 _ hSW
      have y16 := V_7 _ hSW
      have y17 := V_8 _ hSW
      go_simp
      try with_reducible rfl
    dsimp only [Act.put]
    refine wpAnyH_take (i := 8) (v := ?_) rfl (by kernel_rfl) (by kernel_rfl) (by kernel_rfl) (fun _ _ _ h => h) (Or.inl ⟨by kernel_rfl, ?_⟩) hS ?_
    rotate_left
    · intro W hSW
      have y0 := hB_0 _ hSW
      have y1 := hB_1 _ hSW
      have y2 := hB_2 _ hSW
      have y3 := hB_3 _ hSW
      have y4 := hB_4 _ hSW
      have y5 := hB_29 _ hSW
      have y6 := hB_30 _ hSW
      have y7 := hB_33 _ hSW
      have y8 := hB_34 _ hSW
      have y9 := V_0 _ hSW
      have y10 := V_1 _ hSW
      have y11 := V_2 _ hSW
      have y12 := V_3 _ hSW
      have y13 := V_4 _ hSW
      have y14 := V_5 _ hSW
      have y15 := V_6 _ hSW
      have y16 := V_7 _ hSW
      have y17 := V_8 _ hSW
      go_simp
      try with_reducible rfl
    dsimp only [Act.put]
    refine wpAnyH_take (i := 9) (v := ?_) rfl (by kernel_rfl) (by kernel_rfl) (by kernel_rfl) (fun _ _ _ h => h) (Or.inl ⟨by kernel_rfl, ?_⟩) hS ?_
    rotate_left
    · intro W hSW
      have y0 := hB_0 _ hSW
      have y1 := hB_1 _ hSW
      have y2 := hB_2 _ hSW
      have y3 := hB_3 _ hSW
      have y4 := hB_4 _ hSW
      have y5 := hB_29 _ hSW
      have y6 := hB_30 _ hSW
      have y7 := hB_33 _ hSW
      have y8 := hB_34 _ hSW
      have y9 := V_0 _ hSW
      have y10 := V_1 _ hSW
      have y11 := V_2 _ hSW
      have y12 := V_3 _ hSW
      have y13 := V_4 _ hSW
      have y14 := V_5 _ hSW
      have y15 := V_6 _ hSW
      have y16 := V_7 _ hSW
      have y17 := V_8 _ hSW
      go_simp
      try with_reducible rfl
    dsimp only [Act.put]
    refine wpAnyH_take (i := 10) (v := ?_) rfl (by kernel_rfl) (by kernel_rfl) (by kernel_rfl) (fun _ _ _ h => h) (Or.inl ⟨by kernel_rfl, ?_⟩) hS ?_
    rotate_left
    · intro W hSW
      have y0 := hB_0 _ hSW
      have y1 := hB_1 _ hSW
      have y2 := hB_2 _ hSW
      have y3 := hB_3 _ hSW
      have y4 := hB_4 _ hSW
      have y5 := hB_29 _ hSW
      have y6 := hB_30 _ hSW
      have y7 := hB_33 _ hSW
      have y8 := hB_34 _ hSW
      have y9 := V_0 _ hSW
      have y10 := V_1 _ hSW
      have y11 := V_2 _ hSW
      have y12 := V_3 _ hSW
      have y13 := V_4 _ hSW
      have y14 := V_5 _ hSW
      have y15 := V_6 _ hSW
      have y16 := V_7 _ hSW
      have y17 := V_8 _ hSW
      go_simp
      try with_reducible rfl
    dsimp only [Act.put]
    refine wpAnyH_take (i := 11) (v := ?_) rfl (by kernel_rfl) (by kernel_rfl) (by kernel_rfl) (fun _ _ _ h => h) (Or.inl ⟨by kernel_rfl, ?_⟩) hS ?_
    rotate_left
    · intro W hSW
      have y0 := hB_0 _ hSW
      have y1 := hB_1 _ hSW
      have y2 := hB_2 _ hSW
      have y3 := hB_3 _ hSW
      have y4 := hB_4 _ hSW
      have y5 := hB_29 _ hSW
      have y6 := hB_30 _ hSW
      have y7 := hB_33 _ hSW
      have y8 := hB_34 _ hSW
      have y9 := V_0 _ hSW
      have y10 := V_1 _ hSW
      have y11 := V_2 _ hSW
      have y12 := V_3 _ hSW
      have y13 := V_4 _ hSW
      have y14 := V_5 _ hSW
      have y15 := V_6 _ hSW
      have y16 := V_7 _ hSW
      have y17 := V_8 _ hSW
      go_simp
      try with_reducible rfl
    dsimp only [Act.put]
    refine wpAnyH_take (i := 12) (v := ?_) rfl (by kernel_rfl) (by kernel_rfl) (by kernel_rfl) (fun _ _ _ h => h) (Or.inl ⟨by kernel_rfl, ?_⟩) hS ?_
    rotate_left
    · intro W hSW
      have y0 := hB_0 _ hSW
      have y1 := hB_1 _ hSW
      have y2 := hB_2 _ hSW
      have y3 := hB_3 _ hSW
      have y4 := hB_4 _ hSW
      have y5 := hB_29 _ hSW
      have y6 := hB_30 _ hSW
      have y7 := hB_33 _ hSW
      have y8 := hB_34 _ hSW
      have y9 := V_0 _ hSW
      have y10 := V_1 _ hSW
      have y11 := V_2 _ hSW
      have y12 := V_3 _ hSW
      have y13 := V_4 _ hSW
      have y14 := V_5 _ hSW
      have y15 := V_6 _ hSW
      have y16 := V_7 _ hSW
      have y17 := V_8 _ hSW
      go_simp
      try with_reducible rfl
    dsimp only [Act.put]
    refine wpAnyH_take (i := 13) (v := ?_) rfl (by kernel_rfl) (by kernel_rfl) (by kernel_rfl) (fun _ _ _ h => h) (Or.inl ⟨by kernel_rfl, ?_⟩) hS ?_
    rotate_left
    · intro W hSW
      have y0 := hB_0 _ hSW
      have y1 := hB_1 _ hSW
      have y2 := hB_2 _ hSW
      have y3 := hB_3 _ hSW
      have y4 := hB_4 _ hSW
      have y5 := hB_29 _ hSW
      have y6 := hB_30 _ hSW
      have y7 := hB_33 _ hSW
      have y8 := hB_34 _ hSW
      have y9 := V_0 _ hSW
      have y10 := V_1 _ hSW
      have y11 := V_2 _ hSW
      have y12 := V_3 _ hSW
      have y13 := V_4 _ hSW
      have y14 := V_5 _ hSW
      have y15 := V_6 _ hSW
      have y16 := V_7 _ hSW
      have y17 := V_8 _ hSW
      go_simp
      try with_reducible rfl
    dsimp only [Act.put]
    refine wpAnyH_take (i := 14) (v := ?_) rfl (by kernel_rfl) (by kernel_rfl) (by kernel_rfl) (fun _ _ _ h => h) (Or.inl ⟨by kernel_rfl, ?_⟩) hS ?_
    rotate_left
    · intro W hSW
      have y0 := hB_0 _ hSW
      have y1 := hB_1 _ hSW
      have y2 := hB_2 _ hSW
      have y3 := hB_3 _ hSW
      have y4 := hB_4 _ hSW
      have y5 := hB_29 _ hSW
      have y6 := hB_30 _ hSW
      have y7 := hB_33 _ hSW
      have y8 := hB_34 _ hSW
      have y9 := V_0 _ hSW
      have y10 := V_1 _ hSW
      have y11 := V_2 _ hSW
      have y12 := V_3 _ hSW
      have y13 := V_4 _ hSW
      have y14 := V_5 _ hSW
      have y15 := V_6 _ hSW
      have y16 := V_7 _ hSW
      have y17 := V_8 _ hSW
      go_simp
      try with_reducible rfl
    dsimp only [Act.put]
    refine wpAnyH_take (i := 17) (v := ?_) rfl (by kernel_rfl) (by kernel_rfl) (by kernel_rfl) (fun _ _ _ h => h) (Or.inl ⟨by kernel_rfl, ?_⟩) hS ?_
    rotate_left
    · intro W hSW
      have y0 := hB_0 _ hSW
      have y1 := hB_1 _ hSW
      have y2 := hB_2 _ hSW
      have y3 := hB_3 _ hSW
      have y4 := hB_4 _ hSW
      have y5 := hB_29 _ hSW
      have y6 := hB_30 _ hSW
      have y7 := hB_33 _ hSW
      have y8 := hB_34 _ hSW
      have y9 := V_0 _ hSW
      have y10 := V_1 _ hSW
      have y11 := V_2 _ hSW
      have y12 := V_3 _ hSW
      have y13 := V_4 _ hSW
      have y14 := V_5 _ hSW
      have y15 := V_6 _ hSW
      have y16 := V_7 _ hSW
      have y17 := V_8 _ hSW
      go_simp
      try with_reducible rfl
    dsimp only [Act.put]
    refine wpAnyH_take (i := 18) (v := ?_) rfl (by kernel_rfl) (by kernel_rfl) (by kernel_rfl) (fun _ _ _ h => h) (Or.inl ⟨by kernel_rfl, ?_⟩) hS ?_
    rotate_left
    · intro W hSW
      have y0 := hB_0 _ hSW
      have y1 := hB_1 _ hSW
      have y2 := hB_2 _ hSW
      have y3 := hB_3 _ hSW
      have y4 := hB_4 _ hSW
      have y5 := hB_29 _ hSW
      have y6 := hB_30 _ hSW
      have y7 := hB_33 _ hSW
      have y8 := hB_34 _ hSW
      have y9 := V_0 _ hSW
      have y10 := V_1 _ hSW
      have y11 := V_2 _ hSW
      have y12 := V_3 _ hSW
      have y13 := V_4 _ hSW
      have y14 := V_5 _ hSW
      have y15 := V_6 _ hSW
      have y16 := V_7 _ hSW
      have y17 := V_8 _ hSW
      go_simp
      try with_reducible rfl
    dsimp only [Act.put]
    refine wpAnyH_take (i := 19) (v := ?_) rfl (by kernel_rfl) (by kernel_rfl) (by kernel_rfl) (fun _ _ _ h => h) (Or.inl ⟨by kernel_rfl, ?_⟩) hS ?_
    rotate_left
    · intro W hSW
      have y0 := hB_0 _ hSW
      have y1 := hB_1 _ hSW
      have y2 := hB_2 _ hSW
      have y3 := hB_3 _ hSW
      have y4 := hB_4 _ hSW
      have y5 := hB_29 _ hSW
      have y6 := hB_30 _ hSW
      have y7 := hB_33 _ hSW
      have y8 := hB_34 _ hSW
      have y9 := V_0 _ hSW
      have y10 := V_1 _ hSW
      have y11 := V_2 _ hSW
      have y12 := V_3 _ hSW
      have y13 := V_4 _ hSW
      have y14 := V_5 _ hSW
      have y15 := V_6 _ hSW
      have y16 := V_7 _ hSW
      have y17 := V_8 _ hSW
      go_simp
      try with_reducible rfl
    dsimp only [Act.put]
    refine wpAnyH_take (i := 20) (v := ?_) rfl (by kernel_rfl) (by kernel_rfl) (by kernel_rfl) (fun _ _ _ h => h) (Or.inl ⟨by kernel_rfl, ?_⟩) hS ?_
    rotate_left
    · intro W hSW
      have y0 := hB_0 _ hSW
      have y1 := hB_1 _ hSW
      have y2 := hB_2 _ hSW
      have y3 := hB_3 _ hSW
      have y4 := hB_4 _ hSW
      have y5 := hB_29 _ hSW
      have y6 := hB_30 _ hSW
      have y7 := hB_33 _ hSW
      have y8 := hB_34 _ hSW
      have y9 := V_0 _ hSW
      have y10 := V_1 _ hSW
      have y11 := V_2 _ hSW
      have y12 := V_3 _ hSW
      have y13 := V_4 _ hSW
      have y14 := V_5 _ hSW
      have y15 := V_6 _ hSW
      have y16 := V_7 _ hSW
      have y17 := V_8 _ hSW
      go_simp
      try with_reducible rfl
    dsimp only [Act.put]
    refine wpAnyH_take (i := 21) (v := ?_) rfl (by kernel_rfl) (by kernel_rfl) (by kernel_rfl) (fun _ _ _ h => h) (Or.inl ⟨by kernel_rfl, ?_⟩) hS ?_
    rotate_left
    · intro W hSW
      have y0 := hB_0 _ hSW
      have y1 := hB_1 _ hSW
      have y2 := hB_2 _ hSW
      have y3 := hB_3 _ hSW
      have y4 := hB_4 _ hSW
      have y5 := hB_29 _ hSW
      have y6 := hB_30 _ hSW
      have y7 := hB_33 _ hSW
      have y8 := hB_34 _ hSW
      have y9 := V_0 _ hSW
      have y10 := V_1 _ hSW
      have y11 := V_2 _ hSW
      have y12 := V_3 _ hSW
      have y13 := V_4 _ hSW
      have y14 := V_5 _ hSW
      have y15 := V_6 _ hSW
      have y16 := V_7 _ hSW
      have y17 := V_8 _ hSW
      go_simp
      try with_reducible rfl
    dsimp only [Act.put]
    refine wpAnyH_ready (rs := [15]) (by kernel_rfl) (by simp) ?_
    refine AllReadyH.cons rfl (fun K hK => ?_) AllReadyH.nil
    go_simp
    refine (cA _).mono ?_
    rintro e wb ⟨rfl, hBx, hbn⟩
    have hz2 := hb.size
    replace hb := hb.step hbn
    replace R := R.step hbn
    replace hB := hB.step hbn
    replace V := V.step hbn
    have hseq := cC _ _ hBx
    have hRb := R.lt
    refine hK.out _ _ (hS.step hbn) (fun hS => ?_)
    obtain ⟨bq, hbq⟩ : ∃ b, wq.heap.size = b := ⟨_, rfl⟩
    rw [hbq] at hseq ⊢
    have hz3 := hb.size
    clear hbq hBx hbn cA cC
    unfold SetF
    clear hK K
    refine wpAnyH_ready (rs := [16]) (by kernel_rfl) (by simp) ?_
    refine AllReadyH.cons rfl (fun K hK => ?_) AllReadyH.nil
    go_simp
    refine hseq.mono ?_
    rintro e wc ⟨⟨v, rfl, hR⟩, hbn⟩
    replace hb := hb.step hbn
    replace R := R.step hbn
    replace hB := hB.step hbn
    replace V := V.step hbn
    have hR2 : RowI wc w.heap.size v xs := row_low15 hR hz3
    have hRb := R.lt
    have hRn : ∀ k, v.ownBlock = some k → k ∉ [gR] := fun k hk hm => by
      have := (row_ge15 hR k hk).1
      simp at hm
      omega
    obtain ⟨av, cv, rfl⟩ := RowI.form hR
    obtain ⟨N, hN⟩ : ∃ N, xs.length = N := ⟨_, rfl⟩
    rw [hN] at hRn hR2 ⊢
    refine hK.out _ _ (hS.step hbn) (fun hS => ?_)
    clear hR hbn
    clear hK K
    refine wpAnyH_take (i := 22) (v := ?_) rfl (by kernel_rfl) (by kernel_rfl) (by kernel_rfl) (fun _ _ _ h => h) (Or.inl ⟨by kernel_rfl, ?_⟩) hS ?_
    rotate_left
    · intro W hSW
      go_simp
      try with_reducible rfl
    dsimp only [Act.put]
    have R_0 := R.cell (j := 0) rfl
    have R_1 := R.cell (j := 1) rfl
    have R_2 := R.cell (j := 2) rfl
    have R_3 := R.cell (j := 3) rfl
    have R_4 := R.cell (j := 4) rfl
    have R_5 := R.cell (j := 5) rfl
    have R_6 := R.cell (j := 6) rfl
    have R_7 := R.cell (j := 7) rfl
    have R_8 := R.cell (j := 8) rfl
    have R_9 := R.cell (j := 9) rfl
    have Rf0 := R.frozen 0
    have Rf1 := R.frozen 1
    have Rf2 := R.frozen 2
    have Rf3 := R.frozen 3
    have Rf4 := R.frozen 4
    have Rf5 := R.frozen 5
    have Rf6 := R.frozen 6
    have Rf7 := R.frozen 7
    have Rf8 := R.frozen 8
    have Rf9 := R.frozen 9
    refine wpAnyH_ready (rs := [23]) (by kernel_rfl) (by simp) ?_
    refine AllReadyH.cons rfl (fun K hK => ?_) AllReadyH.nil
    go_simp
    have hkn : Kx [gR] wc ((((((((((wc.setCell ⟨gR, 0, none⟩ (.int .i64 ph)).setCell ⟨gR, 1, none⟩ (.int .i64 r)).setCell ⟨gR, 2, none⟩ (.int .i64 p)).setCell ⟨gR, 3, none⟩ (.int .i64 k)).setCell ⟨gR, 4, none⟩ (.int .i64 m)).setCell ⟨gR, 5, none⟩ (.int .i64 n)).setCell ⟨gR, 6, none⟩ (.string s)).setCell ⟨gR, 7, none⟩ (.slice av N cv)).setCell ⟨gR, 8, none⟩ (.int .i64 ur)).setCell ⟨gR, 9, none⟩ (.int .i64 up)) := Kx.setCells [.int .i64 ph, .int .i64 r, .int .i64 p, .int .i64 k, .int .i64 m, .int .i64 n, .string s, .slice av N cv, .int .i64 ur, .int .i64 up] 0 _ (Kx.refl _ _) (.inl (by simp))
    replace R : Blk ((((((((((wc.setCell ⟨gR, 0, none⟩ (.int .i64 ph)).setCell ⟨gR, 1, none⟩ (.int .i64 r)).setCell ⟨gR, 2, none⟩ (.int .i64 p)).setCell ⟨gR, 3, none⟩ (.int .i64 k)).setCell ⟨gR, 4, none⟩ (.int .i64 m)).setCell ⟨gR, 5, none⟩ (.int .i64 n)).setCell ⟨gR, 6, none⟩ (.string s)).setCell ⟨gR, 7, none⟩ (.slice av N cv)).setCell ⟨gR, 8, none⟩ (.int .i64 ur)).setCell ⟨gR, 9, none⟩ (.int .i64 up)) gR 55 [.int .i64 ph, .int .i64 r, .int .i64 p, .int .i64 k, .int .i64 m, .int .i64 n, .string s, .slice av N cv, .int .i64 ur, .int .i64 up] := Blk.puts [.int .i64 ph, .int .i64 r, .int .i64 p, .int .i64 k, .int .i64 m, .int .i64 n, .string s, .slice av N cv, .int .i64 ur, .int .i64 up] R rfl
    replace hb := hb.kx hkn (by first | (simp; done) | (simp; omega))
    replace hS := hS.kx hkn (by first | (simp; done) | (simp; omega))
    generalize (((((((((wc.setCell ⟨gR, 0, none⟩ (.int .i64 ph)).setCell ⟨gR, 1, none⟩ (.int .i64 r)).setCell ⟨gR, 2, none⟩ (.int .i64 p)).setCell ⟨gR, 3, none⟩ (.int .i64 k)).setCell ⟨gR, 4, none⟩ (.int .i64 m)).setCell ⟨gR, 5, none⟩ (.int .i64 n)).setCell ⟨gR, 6, none⟩ (.string s)).setCell ⟨gR, 7, none⟩ (.slice av N cv)).setCell ⟨gR, 8, none⟩ (.int .i64 ur)).setCell ⟨gR, 9, none⟩ (.int .i64 up) = ws at *
    replace hR2 : RowI ws w.heap.size (.slice av N cv) xs := row_kx (n := xs.length) hR2 hkn hRn
    refine hK.out _ _ hS (fun hS => ?_)
    clear hK K
    refine wpAnyH_done (by kernel_rfl) ?_ _
    clear hS hB V hkn
    have R_0 := R.cell (j := 0) rfl
    have R_1 := R.cell (j := 1) rfl
    have R_2 := R.cell (j := 2) rfl
    have R_3 := R.cell (j := 3) rfl
    have R_4 := R.cell (j := 4) rfl
    have R_5 := R.cell (j := 5) rfl
    have R_6 := R.cell (j := 6) rfl
    have R_7 := R.cell (j := 7) rfl
    have R_8 := R.cell (j := 8) rfl
    have R_9 := R.cell (j := 9) rfl
    go_wp2_with fail
    (try simp only [Exit.inBlock, Exit.then])
    refine bodyPost_ret (v := .agg #[.int .i64 ph, .int .i64 r, .int .i64 p, .int .i64 k, .int .i64 m, .int .i64 n, .string s, .slice av N cv, .int .i64 ur, .int .i64 up]) ?_ rfl ⟨⟨_, rfl, hR2⟩, hb⟩
    rw [r_cell1 rfl]
    go_simp
end Go.Proofs.YtcahkcbenanfnaaGreatDoor
