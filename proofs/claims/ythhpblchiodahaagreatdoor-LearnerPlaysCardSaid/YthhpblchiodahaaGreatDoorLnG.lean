
/- Package learner: Hear. -/
import Derived.Test.YthhpblchiodahaaGreatDoorLnF
import Derived.Deep.CutRange
namespace Go.Proofs.YthhpblchiodahaaGreatDoor
set_option linter.unusedSimpArgs false
set_option linter.unusedVariables false
open Go.RowKit Go.Maps
def wonN (A : Lrn) (L : HMap) (pl r p k m n : Int) (s : ByteArray) : Bool := wonP A.c (newH L pl r p k m n s).vs
set_option maxRecDepth 100000 in
set_option maxHeartbeats 1000000 in
theorem hear_few (g b : Nat) (A : Lrn) (L : HMap) (pl r p k m n : Int) (s : ByteArray) (w : World) (h : LW w g b A L) (hG : GoodL A L) (hs : s.size ≤ 9223372036854775807) (hT : Tabs w) (hok : hearB A pl r p k m n s = true) (hc : clashH L r p k m n s = false) (hw : wonN A L pl r p k m n s = false) (hL : L.length < maxLen) :
    Calls Tryz.prog 15 #[.pointer (some ⟨g, 0, none⟩), .int .i64 pl, bV r p, kV k m n s] w
      fun e w' => (e = .returned (.tuple #[.bool false, .int .i64 0]) ∧ LW w' g b A (putG L (r, p) (newH L pl r p k m n s))) ∧ Kx [g, b] w w' := by
  obtain ⟨hp0, hp1, hM, hE, hkB, hc9⟩ := hearB_ok hok
  obtain ⟨j, rfl⟩ : ∃ j : Nat, pl = j := ⟨pl.toNat, by omega⟩
  have hj9 : j < 9 := by omega
  have d1 : decide ((j : Int) < 0) = false := decide_eq_false (by omega)
  have d2 : decide (A.c ≤ (j : Int)) = false := decide_eq_false (by omega)
  have hv9 := hG.at r p
  have lk0 := fun W (hW : MapH W b L) => lookH hW r p hkB
  unfold bV kV
  have hcb : (A.c == 0) = false := by simpa using hG.ne
  have cN := fun W hW => none16_at g A.c false W hcb hW
  have cE := fun W hT => ent_any k m n s W hs hT
  have cM := fun W => may_any A.c A.sl r p W
  have hb := From.refl w
  clear hcb hs
  have ltb0 := h.ltb
  go_enter Tryz.func15, Tryz.ntmps15
  go_upto_region 1 with fail
  obtain ⟨gP, hgP⟩ : ∃ g, (w).heap.size = g := ⟨_, rfl⟩
  have lt_h_P := h.lt
  rw [hgP] at lt_h_P
  have P := Blk.newV hgP 66 #[.int .i64 r, .int .i64 p]
  have hbn := (Below.refl (w).heap.size w).alloc (Nat.le_refl _) (.cells #[.int .i64 r, .int .i64 p] 66)
  replace hb := hb.step hbn
  replace h := h.step hbn
  clear hbn
  rw [hgP]
  have szP := alloc_size hgP (.cells #[.int .i64 r, .int .i64 p] 66)
  generalize (w).alloc (.cells #[.int .i64 r, .int .i64 p] 66) = w1 at *
  obtain ⟨gX, hgX⟩ : ∃ g, (w1).heap.size = g := ⟨_, rfl⟩
  have lt_h_X := h.lt
  rw [hgX] at lt_h_X
  have lt_P_X := P.lt
  rw [hgX] at lt_P_X
  have X := Blk.newV hgX 24 #[.int .i64 k, .int .i64 m, .int .i64 n, .string s]
  have hbn := (Below.refl (w1).heap.size w1).alloc (Nat.le_refl _) (.cells #[.int .i64 k, .int .i64 m, .int .i64 n, .string s] 24)
  replace hb := hb.step hbn
  replace h := h.step hbn
  replace P := P.step hbn
  clear hbn
  have egX : gP + 1 = gX := szP.symm.trans hgX
  rw [egX]
  clear szP
  generalize (w1).alloc (.cells #[.int .i64 k, .int .i64 m, .int .i64 n, .string s] 24) = w2 at *
  refine wp_scope_fwd 0 rfl ?_
  intro Q2 hR hGo
  go_upto_region 2 with fail
  have ltb := h.ltb
  obtain ⟨gH, hgH⟩ : ∃ g, (w2).heap.size = g := ⟨_, rfl⟩
  have lt_h_H := h.lt
  rw [hgH] at lt_h_H
  have lt_P_H := P.lt
  rw [hgH] at lt_P_H
  have lt_X_H := X.lt
  rw [hgH] at lt_X_H
  have H := Blk.newV hgH 121 #[.int .i64 0, .int .i64 0, .int .i64 0, .string ⟨#[]⟩, .bool false, .bool false, .bool false, .bool false, .bool false, .bool false, .bool false, .bool false, .bool false]
  have hbn := (Below.refl (w2).heap.size w2).alloc (Nat.le_refl _) (.cells #[.int .i64 0, .int .i64 0, .int .i64 0, .string ⟨#[]⟩, .bool false, .bool false, .bool false, .bool false, .bool false, .bool false, .bool false, .bool false, .bool false] 121)
  replace hb := hb.step hbn
  replace h := h.step hbn
  replace P := P.step hbn
  replace X := X.step hbn
  clear hbn
  rw [hgH]
  generalize (w2).alloc (.cells #[.int .i64 0, .int .i64 0, .int .i64 0, .string ⟨#[]⟩, .bool false, .bool false, .bool false, .bool false, .bool false, .bool false, .bool false, .bool false, .bool false] 121) = w3 at *
  rw [hgH] at ltb
  go_wp2_with fail
  refine (cN _ (h.1.cell (j := 5) rfl)).mono ?_
  rintro e w4 ⟨rfl, rfl⟩
  go_upto_region 6 with fail
  rw [hM] at cM
  rw [hE] at cE
  clear hok hM hE hp0 hp1 hc9
  have hT4 := hT.step hb
  have c5 := extA_cell (h.1.cell (j := 5) rfl)
  have c6 := extA_cell (h.1.cell (j := 6) rfl)
  have P_0 := extA_cell (P.cell (j := 0) rfl)
  have P_1 := extA_cell (P.cell (j := 1) rfl)
  have X_0 := extA_cell (X.cell (j := 0) rfl)
  have X_1 := extA_cell (X.cell (j := 1) rfl)
  have X_2 := extA_cell (X.cell (j := 2) rfl)
  have X_3 := extA_cell (X.cell (j := 3) rfl)
  refine wp_region_extB (by kernel_rfl) (by kernel_rfl) ?_
  repeat
    (first
      | go_big_quiet_skip
      | (go_big_quiet_want
         go_big_quiet_op
         first
           | go_big_quiet_on
           | (apply Exists.intro
              refine ⟨fun w' hC9 => ?_, ?_⟩
              · (first
                  | with_reducible rfl
                  | (go_at_call 41; refine (cM _).mono ?_; rintro e w2 ⟨rfl, hb9⟩; exact ⟨rfl, extA_then hC9 hb9⟩) | (go_at_call 28; refine (cE _ (hT4.step hC9)).mono ?_; rintro e w2 ⟨rfl, hb9⟩; exact ⟨rfl, extA_then hC9 hb9⟩)
                  | (go_simp; done)
                  | (go_simp; with_reducible rfl))
              go_big_quiet_on)))
  refine wpQuiet_nil ?_
  intro w4 hq
  replace hb := hb.step hq
  replace h := h.step hq
  replace H := H.step hq
  replace P := P.step hq
  replace X := X.step hq
  clear hq c5 c6 P_0 P_1 X_0 X_1 X_2 X_3 cN cE cM hT4
  clear d1 d2
  go_upto_region 7 with fail
  unfold evH at lk0
  obtain ⟨⟨k1, m1, n1, s1, vs1⟩, hhd⟩ : ∃ hd, atH L r p = hd := ⟨_, rfl⟩
  rw [hhd] at lk0 hv9
  simp only at lk0 hv9
  obtain ⟨D0, D1, D2, D3, D4, D5, D6, D7, D8, rfl⟩ := nine hv9
  simp only [List.map_cons, List.map_nil, List.append_toArray, List.cons_append, List.nil_append] at lk0
  have hgH2 : g ∉ [gH] := by simp; omega
  have hbH2 : b ∉ [gH] := by simp; omega
  have hPH2 : gP ∉ [gH] := by simp; omega
  have lk := fun W (hW : Kx [gH] w4 W) => lk0 W (MapG.kx h.2 hW hbH2)
  have c7 := kx_all (h.1.cell (j := 7) rfl) hgH2
  have P_0 := kx_all (P.cell (j := 0) rfl) hPH2
  have P_1 := kx_all (P.cell (j := 1) rfl) hPH2
  clear lk0 hv9
  refine wp_nopanic ?_
  refine wp_region_held (S := Kx [gH] w4) (by kernel_rfl) ?_
  have hst : Below (w4).heap.size w4 { w4 with drawn := (w4).drawn + 1 } := ⟨rfl, rfl, rfl, Nat.le_refl _, fun _ _ => rfl⟩
  have hS : (Kx [gH] w4) { w4 with drawn := (w4).drawn + 1 } := by first | exact ⟨rfl, rfl, rfl, Nat.le_refl _, fun _ _ _ => rfl⟩ | exact ⟨rfl, rfl, rfl, Nat.le_refl _, fun _ _ => rfl⟩ | exact hS0
  replace hb := hb.step hst
  replace h := h.step hst
  replace H := H.step hst
  replace P := P.step hst
  replace X := X.step hst
  clear hst
  generalize ({ w4 with drawn := (w4).drawn + 1 } : World) = wq at *
  refine wpAnyH_take (i := 0) (v := ?_) rfl (by kernel_rfl) (by kernel_rfl) (by kernel_rfl) (fun _ _ _ h => h) (Or.inl ⟨by kernel_rfl, ?_⟩) hS ?_
  rotate_left
  · intro W hSW
    have y0 := c7 _ hSW
    have y1 := P_0 _ hSW
    have y2 := P_1 _ hSW
    have y3 := lk _ hSW
    go_simp
    try with_reducible rfl
  dsimp only [Act.put]
  refine wpAnyH_take (i := 1) (v := ?_) rfl (by kernel_rfl) (by kernel_rfl) (by kernel_rfl) (fun _ _ _ h => h) (Or.inl ⟨by kernel_rfl, ?_⟩) hS ?_
  rotate_left
  · intro W hSW
    have y0 := c7 _ hSW
    have y1 := P_0 _ hSW
    have y2 := P_1 _ hSW
    have y3 := lk _ hSW
    go_simp
    try with_reducible rfl
  dsimp only [Act.put]
  refine wpAnyH_take (i := 2) (v := ?_) rfl (by kernel_rfl) (by kernel_rfl) (by kernel_rfl) (fun _ _ _ h => h) (Or.inl ⟨by kernel_rfl, ?_⟩) hS ?_
  rotate_left
  · intro W hSW
    have y0 := c7 _ hSW
    have y1 := P_0 _ hSW
    have y2 := P_1 _ hSW
    have y3 := lk _ hSW
    go_simp
    try with_reducible rfl
  dsimp only [Act.put]
  refine wpAnyH_take (i := 3) (v := ?_) rfl (by kernel_rfl) (by kernel_rfl) (by kernel_rfl) (fun _ _ _ h => h) (Or.inl ⟨by kernel_rfl, ?_⟩) hS ?_
  rotate_left
  · intro W hSW
    have y0 := c7 _ hSW
    have y1 := P_0 _ hSW
    have y2 := P_1 _ hSW
    have y3 := lk _ hSW
    go_simp
    try with_reducible rfl
  dsimp only [Act.put]
  refine wpAnyH_take (i := 4) (v := ?_) rfl (by kernel_rfl) (by kernel_rfl) (by kernel_rfl) (fun _ _ _ h => h) (Or.inl ⟨by kernel_rfl, ?_⟩) hS ?_
  rotate_left
  · intro W hSW
    have y0 := c7 _ hSW
    have y1 := P_0 _ hSW
    have y2 := P_1 _ hSW
    have y3 := lk _ hSW
    go_simp
    try with_reducible rfl
  dsimp only [Act.put]
  refine wpAnyH_take (i := 5) (v := ?_) rfl (by kernel_rfl) (by kernel_rfl) (by kernel_rfl) (fun _ _ _ h => h) (Or.inl ⟨by kernel_rfl, ?_⟩) hS ?_
  rotate_left
  · intro W hSW
    have y0 := c7 _ hSW
    have y1 := P_0 _ hSW
    have y2 := P_1 _ hSW
    have y3 := lk _ hSW
    go_simp
    try with_reducible rfl
  dsimp only [Act.put]
  refine wpAnyH_take (i := 6) (v := ?_) rfl (by kernel_rfl) (by kernel_rfl) (by kernel_rfl) (fun _ _ _ h => h) (Or.inl ⟨by kernel_rfl, ?_⟩) hS ?_
  rotate_left
  · intro W hSW
    have y0 := c7 _ hSW
    have y1 := P_0 _ hSW
    have y2 := P_1 _ hSW
    have y3 := lk _ hSW
    go_simp
    try with_reducible rfl
  dsimp only [Act.put]
  refine wpAnyH_take (i := 7) (v := ?_) rfl (by kernel_rfl) (by kernel_rfl) (by kernel_rfl) (fun _ _ _ h => h) (Or.inl ⟨by kernel_rfl, ?_⟩) hS ?_
  rotate_left
  · intro W hSW
    have y0 := c7 _ hSW
    have y1 := P_0 _ hSW
    have y2 := P_1 _ hSW
    have y3 := lk _ hSW
    go_simp
    try with_reducible rfl
  dsimp only [Act.put]
  refine wpAnyH_take (i := 8) (v := ?_) rfl (by kernel_rfl) (by kernel_rfl) (by kernel_rfl) (fun _ _ _ h => h) (Or.inl ⟨by kernel_rfl, ?_⟩) hS ?_
  rotate_left
  · intro W hSW
    have y0 := c7 _ hSW
    have y1 := P_0 _ hSW
    have y2 := P_1 _ hSW
    have y3 := lk _ hSW
    go_simp
    try with_reducible rfl
  dsimp only [Act.put]
  have H_0 := H.cell (j := 0) rfl
  have H_1 := H.cell (j := 1) rfl
  have H_2 := H.cell (j := 2) rfl
  have H_3 := H.cell (j := 3) rfl
  have H_4 := H.cell (j := 4) rfl
  have H_5 := H.cell (j := 5) rfl
  have H_6 := H.cell (j := 6) rfl
  have H_7 := H.cell (j := 7) rfl
  have H_8 := H.cell (j := 8) rfl
  have H_9 := H.cell (j := 9) rfl
  have H_10 := H.cell (j := 10) rfl
  have H_11 := H.cell (j := 11) rfl
  have H_12 := H.cell (j := 12) rfl
  have Hf0 := H.frozen 0
  have Hf1 := H.frozen 1
  have Hf2 := H.frozen 2
  have Hf3 := H.frozen 3
  have Hf4 := H.frozen 4
  have Hf5 := H.frozen 5
  have Hf6 := H.frozen 6
  have Hf7 := H.frozen 7
  have Hf8 := H.frozen 8
  have Hf9 := H.frozen 9
  have Hf10 := H.frozen 10
  have Hf11 := H.frozen 11
  have Hf12 := H.frozen 12
  refine wpAnyH_ready (rs := [9]) (by kernel_rfl) (by simp) ?_
  refine AllReadyH.cons rfl (fun K hK => ?_) AllReadyH.nil
  go_simp
  have hkn : Kx [gH] wq (((((((((((((wq.setCell ⟨gH, 0, none⟩ (.int .i64 k1)).setCell ⟨gH, 1, none⟩ (.int .i64 m1)).setCell ⟨gH, 2, none⟩ (.int .i64 n1)).setCell ⟨gH, 3, none⟩ (.string s1)).setCell ⟨gH, 4, none⟩ (.bool D0)).setCell ⟨gH, 5, none⟩ (.bool D1)).setCell ⟨gH, 6, none⟩ (.bool D2)).setCell ⟨gH, 7, none⟩ (.bool D3)).setCell ⟨gH, 8, none⟩ (.bool D4)).setCell ⟨gH, 9, none⟩ (.bool D5)).setCell ⟨gH, 10, none⟩ (.bool D6)).setCell ⟨gH, 11, none⟩ (.bool D7)).setCell ⟨gH, 12, none⟩ (.bool D8)) := Kx.setCells [.int .i64 k1, .int .i64 m1, .int .i64 n1, .string s1, .bool D0, .bool D1, .bool D2, .bool D3, .bool D4, .bool D5, .bool D6, .bool D7, .bool D8] 0 _ (Kx.refl _ _) (.inl (by simp))
  replace H : Blk (((((((((((((wq.setCell ⟨gH, 0, none⟩ (.int .i64 k1)).setCell ⟨gH, 1, none⟩ (.int .i64 m1)).setCell ⟨gH, 2, none⟩ (.int .i64 n1)).setCell ⟨gH, 3, none⟩ (.string s1)).setCell ⟨gH, 4, none⟩ (.bool D0)).setCell ⟨gH, 5, none⟩ (.bool D1)).setCell ⟨gH, 6, none⟩ (.bool D2)).setCell ⟨gH, 7, none⟩ (.bool D3)).setCell ⟨gH, 8, none⟩ (.bool D4)).setCell ⟨gH, 9, none⟩ (.bool D5)).setCell ⟨gH, 10, none⟩ (.bool D6)).setCell ⟨gH, 11, none⟩ (.bool D7)).setCell ⟨gH, 12, none⟩ (.bool D8)) gH 121 [.int .i64 k1, .int .i64 m1, .int .i64 n1, .string s1, .bool D0, .bool D1, .bool D2, .bool D3, .bool D4, .bool D5, .bool D6, .bool D7, .bool D8] := Blk.puts [.int .i64 k1, .int .i64 m1, .int .i64 n1, .string s1, .bool D0, .bool D1, .bool D2, .bool D3, .bool D4, .bool D5, .bool D6, .bool D7, .bool D8] H rfl
  replace hb := hb.kx hkn (by first | (simp; done) | (simp; omega))
  replace h := h.kx hkn (by first | (simp; done) | (simp; omega))
  replace P := P.kx hkn (by first | (simp; done) | (simp; omega))
  replace X := X.kx hkn (by first | (simp; done) | (simp; omega))
  replace hS := hS.kx hkn (by first | (simp; done) | (simp; omega))
  clear hkn
  generalize ((((((((((((wq.setCell ⟨gH, 0, none⟩ (.int .i64 k1)).setCell ⟨gH, 1, none⟩ (.int .i64 m1)).setCell ⟨gH, 2, none⟩ (.int .i64 n1)).setCell ⟨gH, 3, none⟩ (.string s1)).setCell ⟨gH, 4, none⟩ (.bool D0)).setCell ⟨gH, 5, none⟩ (.bool D1)).setCell ⟨gH, 6, none⟩ (.bool D2)).setCell ⟨gH, 7, none⟩ (.bool D3)).setCell ⟨gH, 8, none⟩ (.bool D4)).setCell ⟨gH, 9, none⟩ (.bool D5)).setCell ⟨gH, 10, none⟩ (.bool D6)).setCell ⟨gH, 11, none⟩ (.bool D7)).setCell ⟨gH, 12, none⟩ (.bool D8) = w5 at *
  refine hK.out _ _ hS (fun hS => ?_)
  clear H_0 H_1 H_2 H_3 H_4 H_5 H_6 H_7 H_8 H_9 H_10 H_11 H_12
  clear Hf0 Hf1 Hf2 Hf3 Hf4 Hf5 Hf6 Hf7 Hf8 Hf9 Hf10 Hf11 Hf12
  clear hK K
  refine wpAnyH_ready (rs := [10]) (by kernel_rfl) (by simp) ?_
  refine AllReadyH.cons rfl (fun K hK => ?_) AllReadyH.nil
  go_simp
  refine hK.out _ _ (hS) (fun hS => ?_)
  clear hK K
  refine wpAnyH_done (by kernel_rfl) ?_ _
  clear hS
  clear lk c7 P_0 P_1
  have H_0 := H.cell (j := 0) rfl
  have H_1 := H.cell (j := 1) rfl
  have H_2 := H.cell (j := 2) rfl
  have H_3 := H.cell (j := 3) rfl
  have X_0 := X.cell (j := 0) rfl
  have X_1 := X.cell (j := 1) rfl
  have X_2 := X.cell (j := 2) rfl
  have X_3 := X.cell (j := 3) rfl
  unfold clashH at hc
  unfold wonN newH at hw
  rw [hhd] at hw
  rw [hhd] at hc
  simp only at hw hc
  have hrc : rightB A.c = true := by
    have h1 := hG.c
    unfold opErr at h1
    cases hr : rightB A.c
    · rw [hr] at h1; simp at h1
    · rfl
  have hvs2 : ([D0, D1, D2, D3, D4, D5, D6, D7, D8].set j true).length = 9 := by simp
  have cMj := fun W hW => maj_any g A.c ([D0, D1, D2, D3, D4, D5, D6, D7, D8].set j true) hvs2 W hW hrc
  have hj0 : (0 : Int) ≤ (j : Int) := by omega
  have hj1 : (j : Int) < 9 := by omega
  rw [Int.toNat_natCast] at hw
  rw [hw] at cMj
  obtain ⟨HS, hHS⟩ : ∃ HS, hasH L r p = HS := ⟨_, rfl⟩
  rw [hHS] at hc ⊢
  have he := fun W => ne_entry k1 m1 n1 s1 k m n s W
  obtain ⟨Q, hQ⟩ : ∃ Q, eq4 k1 m1 n1 s1 k m n s = Q := ⟨_, rfl⟩
  simp only [hQ] at hc he
  go_upto_region 9 with fail
  go_cut [58] from 52 (fun v wx => v = .bool false ∧ wx = w5)
  case first =>
    cases HS
    · go_wp2_with fail
      go_meet
      case rel => exact ⟨rfl, rfl⟩
    · cases Q
      · simp at hc
      · go_wp2_with fail
        go_meet
        case rel => exact ⟨rfl, rfl⟩
  case' rest =>
    obtain ⟨rfl, rfl⟩ := hcut
    clear hc he hQ hHS
  have Hf0 := H.frozen 0
  have Hf1 := H.frozen 1
  have Hf2 := H.frozen 2
  have Hf3 := H.frozen 3
  have Hf4 := H.frozen 4
  have Hf5 := H.frozen 5
  have Hf6 := H.frozen 6
  have Hf7 := H.frozen 7
  have Hf8 := H.frozen 8
  have Hf9 := H.frozen 9
  have Hf10 := H.frozen 10
  have Hf11 := H.frozen 11
  have Hf12 := H.frozen 12
  have H4 : Blk ((((wc.setCell ⟨gH, 0, none⟩ (.int .i64 k)).setCell ⟨gH, 1, none⟩ (.int .i64 m)).setCell ⟨gH, 2, none⟩ (.int .i64 n)).setCell ⟨gH, 3, none⟩ (.string s)) gH 121 ([.int .i64 k, .int .i64 m, .int .i64 n, .string s] ++ [D0, D1, D2, D3, D4, D5, D6, D7, D8].map Value.bool) := Blk.setCells' [.int .i64 k, .int .i64 m, .int .i64 n, .string s] 0 wc _ H (by simp)
  have hk4 : Kx [gH] wc ((((wc.setCell ⟨gH, 0, none⟩ (.int .i64 k)).setCell ⟨gH, 1, none⟩ (.int .i64 m)).setCell ⟨gH, 2, none⟩ (.int .i64 n)).setCell ⟨gH, 3, none⟩ (.string s)) := Kx.setCells [.int .i64 k, .int .i64 m, .int .i64 n, .string s] 0 wc (Kx.refl _ _) (.inl (by simp))
  have f4 := H4.frozen (4 + j)
  have c4 := H4.cell (j := 4 + j) (v := .bool ([D0, D1, D2, D3, D4, D5, D6, D7, D8].getD j false)) (by
    rw [List.getElem?_append_right (by simp)]
    have hjl : j < [D0, D1, D2, D3, D4, D5, D6, D7, D8].length := by simp; omega
    rw [List.getElem?_map, show 4 + j - [Value.int .i64 k, .int .i64 m, .int .i64 n, .string s].length = j by simp, List.getElem?_eq_getElem hjl, List.getD_eq_getElem?_getD, List.getElem?_eq_getElem hjl]
    rfl)
  have H5 : Blk (((((wc.setCell ⟨gH, 0, none⟩ (.int .i64 k)).setCell ⟨gH, 1, none⟩ (.int .i64 m)).setCell ⟨gH, 2, none⟩ (.int .i64 n)).setCell ⟨gH, 3, none⟩ (.string s)).setCell ⟨gH, 4 + j, none⟩ (.bool true)) gH 121 ([.int .i64 k, .int .i64 m, .int .i64 n, .string s] ++ ([D0, D1, D2, D3, D4, D5, D6, D7, D8].set j true).map Value.bool) := by
    have := H4.set (4 + j) (.bool true)
    rw [List.set_append_right _ _ (by simp), ← List.map_set] at this
    simpa using this
  have hk5 := hk4.setCell (p := ⟨gH, 4 + j, none⟩) (.inl (by simp)) (.bool true)
  clear H4 hk4
  go_upto_region 11 with fail
  clear f4 c4
  clear H_0 H_1 H_2 H_3
  clear Hf0 Hf1 Hf2 Hf3 Hf4 Hf5 Hf6 Hf7 Hf8 Hf9 Hf10 Hf11 Hf12
  clear X_0 X_1 X_2 X_3
  replace hb := hb.kx hk5 (by first | (simp; done) | (simp; omega))
  replace h := h.kx hk5 (by first | (simp; done) | (simp; omega))
  replace P := P.kx hk5 (by first | (simp; done) | (simp; omega))
  replace X := X.kx hk5 (by first | (simp; done) | (simp; omega))
  clear H hk5
  generalize ((((wc.setCell ⟨gH, 0, none⟩ (.int .i64 k)).setCell ⟨gH, 1, none⟩ (.int .i64 m)).setCell ⟨gH, 2, none⟩ (.int .i64 n)).setCell ⟨gH, 3, none⟩ (.string s)).setCell ⟨gH, 4 + j, none⟩ (.bool true) = w6 at *
  obtain ⟨VS, hVS⟩ : ∃ VS, [D0, D1, D2, D3, D4, D5, D6, D7, D8].set j true = VS := ⟨_, rfl⟩
  rw [hVS] at H5 cMj hvs2 hw
  obtain ⟨E0, E1, E2, E3, E4, E5, E6, E7, E8, rfl⟩ := nine hvs2
  unfold votV at cMj
  simp only [List.map_cons, List.map_nil, List.cons_append, List.nil_append] at H5 cMj
  have H5_0 := H5.cell (j := 0) rfl
  have H5_1 := H5.cell (j := 1) rfl
  have H5_2 := H5.cell (j := 2) rfl
  have H5_3 := H5.cell (j := 3) rfl
  have H5_4 := H5.cell (j := 4) rfl
  have H5_5 := H5.cell (j := 5) rfl
  have H5_6 := H5.cell (j := 6) rfl
  have H5_7 := H5.cell (j := 7) rfl
  have H5_8 := H5.cell (j := 8) rfl
  have H5_9 := H5.cell (j := 9) rfl
  have H5_10 := H5.cell (j := 10) rfl
  have H5_11 := H5.cell (j := 11) rfl
  have H5_12 := H5.cell (j := 12) rfl
  go_wp2_with fail
  refine (cMj _ (h.1.cell (j := 5) rfl)).mono ?_
  rintro e w7 ⟨rfl, hbn⟩
  replace hb := hb.step hbn
  replace h := h.step hbn
  replace P := P.step hbn
  replace X := X.step hbn
  replace H5 := H5.step hbn
  clear hbn
  clear H5_0 H5_1 H5_2 H5_3 H5_4 H5_5 H5_6 H5_7 H5_8 H5_9 H5_10 H5_11 H5_12
  clear cMj
  go_upto_region 12 with fail
  have c0 := extA_cell (h.1.cell (j := 0) rfl)
  have c1 := extA_cell (h.1.cell (j := 1) rfl)
  have c2 := extA_cell (h.1.cell (j := 2) rfl)
  have c3 := extA_cell (h.1.cell (j := 3) rfl)
  have c4 := extA_cell (h.1.cell (j := 4) rfl)
  skip
  have X_0 := extA_cell (X.cell (j := 0) rfl)
  have X_1 := extA_cell (X.cell (j := 1) rfl)
  have X_2 := extA_cell (X.cell (j := 2) rfl)
  have X_3 := extA_cell (X.cell (j := 3) rfl)
  refine wp_region_extB (by kernel_rfl) (by kernel_rfl) ?_
  repeat
    (first
      | go_big_quiet_skip
      | (go_big_quiet_want
         go_big_quiet_op
         first
           | go_big_quiet_on
           | (apply Exists.intro
              refine ⟨fun w' hC9 => ?_, ?_⟩
              · (first
                  | with_reducible rfl
                  | fail
                  | (go_simp; done)
                  | (go_simp; with_reducible rfl))
              go_big_quiet_on)))
  refine wpQuiet_nil ?_
  intro w8 hq
  replace hb := hb.step hq
  replace h := h.step hq
  replace P := P.step hq
  replace X := X.step hq
  replace H5 := H5.step hq
  clear hq c0 c1 c2 c3 c4 X_0 X_1 X_2 X_3
  have hNH : newH L j r p k m n s = ⟨k, m, n, s, [E0, E1, E2, E3, E4, E5, E6, E7, E8]⟩ := by
    unfold newH
    rw [hhd, Int.toNat_natCast]
    simp only [hVS]
  clear hhd hVS
  go_upto_region 13 with fail
  have c7 := extA_cell (h.1.cell (j := 7) rfl)
  have P_0 := extA_cell (P.cell (j := 0) rfl)
  have P_1 := extA_cell (P.cell (j := 1) rfl)
  have H5_0 := extA_cell (H5.cell (j := 0) rfl)
  have H5_1 := extA_cell (H5.cell (j := 1) rfl)
  have H5_2 := extA_cell (H5.cell (j := 2) rfl)
  have H5_3 := extA_cell (H5.cell (j := 3) rfl)
  have H5_4 := extA_cell (H5.cell (j := 4) rfl)
  have H5_5 := extA_cell (H5.cell (j := 5) rfl)
  have H5_6 := extA_cell (H5.cell (j := 6) rfl)
  have H5_7 := extA_cell (H5.cell (j := 7) rfl)
  have H5_8 := extA_cell (H5.cell (j := 8) rfl)
  have H5_9 := extA_cell (H5.cell (j := 9) rfl)
  have H5_10 := extA_cell (H5.cell (j := 10) rfl)
  have H5_11 := extA_cell (H5.cell (j := 11) rfl)
  have H5_12 := extA_cell (H5.cell (j := 12) rfl)
  refine wp_nopanic ?_
  refine wp_region_head (C := ExtA w8) 6 (by kernel_rfl) (by decide) (by kernel_rfl) ⟨rfl, rfl, rfl, Nat.le_refl _, fun _ _ => rfl⟩ ?_
  simp only [List.take_succ_cons, List.take_zero]
  repeat
    (first
      | go_big_quiet_skip
      | (go_big_quiet_want
         go_big_quiet_op
         first
           | go_big_quiet_on
           | (apply Exists.intro
              refine ⟨fun w' hC9 => ?_, ?_⟩
              · (first
                  | with_reducible rfl
                  | fail
                  | (go_simp; done)
                  | (go_simp; with_reducible rfl))
              go_big_quiet_on)))
  refine wpQuiet_nil ?_
  intro wq hq
  replace hb := hb.step hq
  replace h := h.step hq
  replace P := P.step hq
  replace X := X.step hq
  replace H5 := H5.step hq
  change wpAny _ _ _ _ (0 + 1) _ _ _
  obtain ⟨w9, r8, m8, hk8, hz8⟩ := MapG.put h.2 keyB Tryz.underlying60 (r, p) (⟨k, m, n, s, [E0, E1, E2, E3, E4, E5, E6, E7, E8]⟩ : Hd) hkB hL
  unfold ekB evH at r8
  simp only [List.map_cons, List.map_nil, List.append_toArray, List.cons_append, List.nil_append] at r8
  refine wpAny_ready (rs := [6]) (by kernel_rfl) (by simp) ?_
  refine AllReady.cons rfl (fun K hK => ?_) AllReady.nil
  go_simp
  refine hK _ _ ?_
  clear hK K
  refine wpAny_done (by kernel_rfl) ?_ _
  clear r8 c7 P_0 P_1 H5_0 H5_1 H5_2 H5_3 H5_4 H5_5 H5_6 H5_7 H5_8 H5_9 H5_10 H5_11 H5_12
  go_wp2_with fail
  refine hR.out _ _ ?_
  go_ret2
  rw [hNH]
  exact ⟨⟨rfl, h.1.kx hk8 (by simp; exact h.ne), m8⟩, (FromX.kx (ws := [g, b]) (Kx.of_below _ hb.out (Nat.le_refl _)) hk8 (by simp))⟩
set_option maxRecDepth 100000 in
set_option maxHeartbeats 1000000 in
theorem hear_taken (g b : Nat) (A : Lrn) (L : HMap) (pl r p k m n : Int) (s : ByteArray) (w : World) (h : LW w g b A L) (hG : GoodL A L) (hs : s.size ≤ 9223372036854775807) (hT : Tabs w) (hok : hearB A pl r p k m n s = true) (hc : clashH L r p k m n s = false) (hw : wonN A L pl r p k m n s = true) (hi : A.is = true) (hq : eqE A k m n s = false) :
    Calls Tryz.prog 15 #[.pointer (some ⟨g, 0, none⟩), .int .i64 pl, bV r p, kV k m n s] w
      fun e w' => e = .returned (.tuple #[.bool false, .int .i64 260]) ∧ Below w.heap.size w w' := by
  obtain ⟨hp0, hp1, hM, hE, hkB, hc9⟩ := hearB_ok hok
  obtain ⟨j, rfl⟩ : ∃ j : Nat, pl = j := ⟨pl.toNat, by omega⟩
  have hj9 : j < 9 := by omega
  have d1 : decide ((j : Int) < 0) = false := decide_eq_false (by omega)
  have d2 : decide (A.c ≤ (j : Int)) = false := decide_eq_false (by omega)
  have hv9 := hG.at r p
  have lk0 := fun W (hW : MapH W b L) => lookH hW r p hkB
  unfold bV kV
  have hcb : (A.c == 0) = false := by simpa using hG.ne
  have cN := fun W hW => none16_at g A.c false W hcb hW
  have cE := fun W hT => ent_any k m n s W hs hT
  have cM := fun W => may_any A.c A.sl r p W
  have hb := From.refl w
  clear hcb hs
  have ltb0 := h.ltb
  go_enter Tryz.func15, Tryz.ntmps15
  go_upto_region 1 with fail
  obtain ⟨gP, hgP⟩ : ∃ g, (w).heap.size = g := ⟨_, rfl⟩
  have lt_h_P := h.lt
  rw [hgP] at lt_h_P
  have P := Blk.newV hgP 66 #[.int .i64 r, .int .i64 p]
  have hbn := (Below.refl (w).heap.size w).alloc (Nat.le_refl _) (.cells #[.int .i64 r, .int .i64 p] 66)
  replace hb := hb.step hbn
  replace h := h.step hbn
  clear hbn
  rw [hgP]
  have szP := alloc_size hgP (.cells #[.int .i64 r, .int .i64 p] 66)
  generalize (w).alloc (.cells #[.int .i64 r, .int .i64 p] 66) = w1 at *
  obtain ⟨gX, hgX⟩ : ∃ g, (w1).heap.size = g := ⟨_, rfl⟩
  have lt_h_X := h.lt
  rw [hgX] at lt_h_X
  have lt_P_X := P.lt
  rw [hgX] at lt_P_X
  have X := Blk.newV hgX 24 #[.int .i64 k, .int .i64 m, .int .i64 n, .string s]
  have hbn := (Below.refl (w1).heap.size w1).alloc (Nat.le_refl _) (.cells #[.int .i64 k, .int .i64 m, .int .i64 n, .string s] 24)
  replace hb := hb.step hbn
  replace h := h.step hbn
  replace P := P.step hbn
  clear hbn
  have egX : gP + 1 = gX := szP.symm.trans hgX
  rw [egX]
  clear szP
  generalize (w1).alloc (.cells #[.int .i64 k, .int .i64 m, .int .i64 n, .string s] 24) = w2 at *
  refine wp_scope_fwd 0 rfl ?_
  intro Q2 hR hGo
  go_upto_region 2 with fail
  have ltb := h.ltb
  obtain ⟨gH, hgH⟩ : ∃ g, (w2).heap.size = g := ⟨_, rfl⟩
  have lt_h_H := h.lt
  rw [hgH] at lt_h_H
  have lt_P_H := P.lt
  rw [hgH] at lt_P_H
  have lt_X_H := X.lt
  rw [hgH] at lt_X_H
  have H := Blk.newV hgH 121 #[.int .i64 0, .int .i64 0, .int .i64 0, .string ⟨#[]⟩, .bool false, .bool false, .bool false, .bool false, .bool false, .bool false, .bool false, .bool false, .bool false]
  have hbn := (Below.refl (w2).heap.size w2).alloc (Nat.le_refl _) (.cells #[.int .i64 0, .int .i64 0, .int .i64 0, .string ⟨#[]⟩, .bool false, .bool false, .bool false, .bool false, .bool false, .bool false, .bool false, .bool false, .bool false] 121)
  replace hb := hb.step hbn
  replace h := h.step hbn
  replace P := P.step hbn
  replace X := X.step hbn
  clear hbn
  rw [hgH]
  generalize (w2).alloc (.cells #[.int .i64 0, .int .i64 0, .int .i64 0, .string ⟨#[]⟩, .bool false, .bool false, .bool false, .bool false, .bool false, .bool false, .bool false, .bool false, .bool false] 121) = w3 at *
  rw [hgH] at ltb
  go_wp2_with fail
  refine (cN _ (h.1.cell (j := 5) rfl)).mono ?_
  rintro e w4 ⟨rfl, rfl⟩
  go_upto_region 6 with fail
  rw [hM] at cM
  rw [hE] at cE
  clear hok hM hE hp0 hp1 hc9
  have hT4 := hT.step hb
  have c5 := extA_cell (h.1.cell (j := 5) rfl)
  have c6 := extA_cell (h.1.cell (j := 6) rfl)
  have P_0 := extA_cell (P.cell (j := 0) rfl)
  have P_1 := extA_cell (P.cell (j := 1) rfl)
  have X_0 := extA_cell (X.cell (j := 0) rfl)
  have X_1 := extA_cell (X.cell (j := 1) rfl)
  have X_2 := extA_cell (X.cell (j := 2) rfl)
  have X_3 := extA_cell (X.cell (j := 3) rfl)
  refine wp_region_extB (by kernel_rfl) (by kernel_rfl) ?_
  repeat
    (first
      | go_big_quiet_skip
      | (go_big_quiet_want
         go_big_quiet_op
         first
           | go_big_quiet_on
           | (apply Exists.intro
              refine ⟨fun w' hC9 => ?_, ?_⟩
              · (first
                  | with_reducible rfl
                  | (go_at_call 41; refine (cM _).mono ?_; rintro e w2 ⟨rfl, hb9⟩; exact ⟨rfl, extA_then hC9 hb9⟩) | (go_at_call 28; refine (cE _ (hT4.step hC9)).mono ?_; rintro e w2 ⟨rfl, hb9⟩; exact ⟨rfl, extA_then hC9 hb9⟩)
                  | (go_simp; done)
                  | (go_simp; with_reducible rfl))
              go_big_quiet_on)))
  refine wpQuiet_nil ?_
  intro w4 hq
  replace hb := hb.step hq
  replace h := h.step hq
  replace H := H.step hq
  replace P := P.step hq
  replace X := X.step hq
  clear hq c5 c6 P_0 P_1 X_0 X_1 X_2 X_3 cN cE cM hT4
  clear d1 d2
  go_upto_region 7 with fail
  unfold evH at lk0
  obtain ⟨⟨k1, m1, n1, s1, vs1⟩, hhd⟩ : ∃ hd, atH L r p = hd := ⟨_, rfl⟩
  rw [hhd] at lk0 hv9
  simp only at lk0 hv9
  obtain ⟨D0, D1, D2, D3, D4, D5, D6, D7, D8, rfl⟩ := nine hv9
  simp only [List.map_cons, List.map_nil, List.append_toArray, List.cons_append, List.nil_append] at lk0
  have hgH2 : g ∉ [gH] := by simp; omega
  have hbH2 : b ∉ [gH] := by simp; omega
  have hPH2 : gP ∉ [gH] := by simp; omega
  have lk := fun W (hW : Kx [gH] w4 W) => lk0 W (MapG.kx h.2 hW hbH2)
  have c7 := kx_all (h.1.cell (j := 7) rfl) hgH2
  have P_0 := kx_all (P.cell (j := 0) rfl) hPH2
  have P_1 := kx_all (P.cell (j := 1) rfl) hPH2
  clear lk0 hv9
  refine wp_nopanic ?_
  refine wp_region_held (S := Kx [gH] w4) (by kernel_rfl) ?_
  have hst : Below (w4).heap.size w4 { w4 with drawn := (w4).drawn + 1 } := ⟨rfl, rfl, rfl, Nat.le_refl _, fun _ _ => rfl⟩
  have hS : (Kx [gH] w4) { w4 with drawn := (w4).drawn + 1 } := by first | exact ⟨rfl, rfl, rfl, Nat.le_refl _, fun _ _ _ => rfl⟩ | exact ⟨rfl, rfl, rfl, Nat.le_refl _, fun _ _ => rfl⟩ | exact hS0
  replace hb := hb.step hst
  replace h := h.step hst
  replace H := H.step hst
  replace P := P.step hst
  replace X := X.step hst
  clear hst
  generalize ({ w4 with drawn := (w4).drawn + 1 } : World) = wq at *
  refine wpAnyH_take (i := 0) (v := ?_) rfl (by kernel_rfl) (by kernel_rfl) (by kernel_rfl) (fun _ _ _ h => h) (Or.inl ⟨by kernel_rfl, ?_⟩) hS ?_
  rotate_left
  · intro W hSW
    have y0 := c7 _ hSW
    have y1 := P_0 _ hSW
    have y2 := P_1 _ hSW
    have y3 := lk _ hSW
    go_simp
    try with_reducible rfl
  dsimp only [Act.put]
  refine wpAnyH_take (i := 1) (v := ?_) rfl (by kernel_rfl) (by kernel_rfl) (by kernel_rfl) (fun _ _ _ h => h) (Or.inl ⟨by kernel_rfl, ?_⟩) hS ?_
  rotate_left
  · intro W hSW
    have y0 := c7 _ hSW
    have y1 := P_0 _ hSW
    have y2 := P_1 _ hSW
    have y3 := lk _ hSW
    go_simp
    try with_reducible rfl
  dsimp only [Act.put]
  refine wpAnyH_take (i := 2) (v := ?_) rfl (by kernel_rfl) (by kernel_rfl) (by kernel_rfl) (fun _ _ _ h => h) (Or.inl ⟨by kernel_rfl, ?_⟩) hS ?_
  rotate_left
  · intro W hSW
    have y0 := c7 _ hSW
    have y1 := P_0 _ hSW
    have y2 := P_1 _ hSW
    have y3 := lk _ hSW
    go_simp
    try with_reducible rfl
  dsimp only [Act.put]
  refine wpAnyH_take (i := 3) (v := ?_) rfl (by kernel_rfl) (by kernel_rfl) (by kernel_rfl) (fun _ _ _ h => h) (Or.inl ⟨by kernel_rfl, ?_⟩) hS ?_
  rotate_left
  · intro W hSW
    have y0 := c7 _ hSW
    have y1 := P_0 _ hSW
    have y2 := P_1 _ hSW
    have y3 := lk _ hSW
    go_simp
    try with_reducible rfl
  dsimp only [Act.put]
  refine wpAnyH_take (i := 4) (v := ?_) rfl (by kernel_rfl) (by kernel_rfl) (by kernel_rfl) (fun _ _ _ h => h) (Or.inl ⟨by kernel_rfl, ?_⟩) hS ?_
  rotate_left
  · intro W hSW
    have y0 := c7 _ hSW
    have y1 := P_0 _ hSW
    have y2 := P_1 _ hSW
    have y3 := lk _ hSW
    go_simp
    try with_reducible rfl
  dsimp only [Act.put]
  refine wpAnyH_take (i := 5) (v := ?_) rfl (by kernel_rfl) (by kernel_rfl) (by kernel_rfl) (fun _ _ _ h => h) (Or.inl ⟨by kernel_rfl, ?_⟩) hS ?_
  rotate_left
  · intro W hSW
    have y0 := c7 _ hSW
    have y1 := P_0 _ hSW
    have y2 := P_1 _ hSW
    have y3 := lk _ hSW
    go_simp
    try with_reducible rfl
  dsimp only [Act.put]
  refine wpAnyH_take (i := 6) (v := ?_) rfl (by kernel_rfl) (by kernel_rfl) (by kernel_rfl) (fun _ _ _ h => h) (Or.inl ⟨by kernel_rfl, ?_⟩) hS ?_
  rotate_left
  · intro W hSW
    have y0 := c7 _ hSW
    have y1 := P_0 _ hSW
    have y2 := P_1 _ hSW
    have y3 := lk _ hSW
    go_simp
    try with_reducible rfl
  dsimp only [Act.put]
  refine wpAnyH_take (i := 7) (v := ?_) rfl (by kernel_rfl) (by kernel_rfl) (by kernel_rfl) (fun _ _ _ h => h) (Or.inl ⟨by kernel_rfl, ?_⟩) hS ?_
  rotate_left
  · intro W hSW
    have y0 := c7 _ hSW
    have y1 := P_0 _ hSW
    have y2 := P_1 _ hSW
    have y3 := lk _ hSW
    go_simp
    try with_reducible rfl
  dsimp only [Act.put]
  refine wpAnyH_take (i := 8) (v := ?_) rfl (by kernel_rfl) (by kernel_rfl) (by kernel_rfl) (fun _ _ _ h => h) (Or.inl ⟨by kernel_rfl, ?_⟩) hS ?_
  rotate_left
  · intro W hSW
    have y0 := c7 _ hSW
    have y1 := P_0 _ hSW
    have y2 := P_1 _ hSW
    have y3 := lk _ hSW
    go_simp
    try with_reducible rfl
  dsimp only [Act.put]
  have H_0 := H.cell (j := 0) rfl
  have H_1 := H.cell (j := 1) rfl
  have H_2 := H.cell (j := 2) rfl
  have H_3 := H.cell (j := 3) rfl
  have H_4 := H.cell (j := 4) rfl
  have H_5 := H.cell (j := 5) rfl
  have H_6 := H.cell (j := 6) rfl
  have H_7 := H.cell (j := 7) rfl
  have H_8 := H.cell (j := 8) rfl
  have H_9 := H.cell (j := 9) rfl
  have H_10 := H.cell (j := 10) rfl
  have H_11 := H.cell (j := 11) rfl
  have H_12 := H.cell (j := 12) rfl
  have Hf0 := H.frozen 0
  have Hf1 := H.frozen 1
  have Hf2 := H.frozen 2
  have Hf3 := H.frozen 3
  have Hf4 := H.frozen 4
  have Hf5 := H.frozen 5
  have Hf6 := H.frozen 6
  have Hf7 := H.frozen 7
  have Hf8 := H.frozen 8
  have Hf9 := H.frozen 9
  have Hf10 := H.frozen 10
  have Hf11 := H.frozen 11
  have Hf12 := H.frozen 12
  refine wpAnyH_ready (rs := [9]) (by kernel_rfl) (by simp) ?_
  refine AllReadyH.cons rfl (fun K hK => ?_) AllReadyH.nil
  go_simp
  have hkn : Kx [gH] wq (((((((((((((wq.setCell ⟨gH, 0, none⟩ (.int .i64 k1)).setCell ⟨gH, 1, none⟩ (.int .i64 m1)).setCell ⟨gH, 2, none⟩ (.int .i64 n1)).setCell ⟨gH, 3, none⟩ (.string s1)).setCell ⟨gH, 4, none⟩ (.bool D0)).setCell ⟨gH, 5, none⟩ (.bool D1)).setCell ⟨gH, 6, none⟩ (.bool D2)).setCell ⟨gH, 7, none⟩ (.bool D3)).setCell ⟨gH, 8, none⟩ (.bool D4)).setCell ⟨gH, 9, none⟩ (.bool D5)).setCell ⟨gH, 10, none⟩ (.bool D6)).setCell ⟨gH, 11, none⟩ (.bool D7)).setCell ⟨gH, 12, none⟩ (.bool D8)) := Kx.setCells [.int .i64 k1, .int .i64 m1, .int .i64 n1, .string s1, .bool D0, .bool D1, .bool D2, .bool D3, .bool D4, .bool D5, .bool D6, .bool D7, .bool D8] 0 _ (Kx.refl _ _) (.inl (by simp))
  replace H : Blk (((((((((((((wq.setCell ⟨gH, 0, none⟩ (.int .i64 k1)).setCell ⟨gH, 1, none⟩ (.int .i64 m1)).setCell ⟨gH, 2, none⟩ (.int .i64 n1)).setCell ⟨gH, 3, none⟩ (.string s1)).setCell ⟨gH, 4, none⟩ (.bool D0)).setCell ⟨gH, 5, none⟩ (.bool D1)).setCell ⟨gH, 6, none⟩ (.bool D2)).setCell ⟨gH, 7, none⟩ (.bool D3)).setCell ⟨gH, 8, none⟩ (.bool D4)).setCell ⟨gH, 9, none⟩ (.bool D5)).setCell ⟨gH, 10, none⟩ (.bool D6)).setCell ⟨gH, 11, none⟩ (.bool D7)).setCell ⟨gH, 12, none⟩ (.bool D8)) gH 121 [.int .i64 k1, .int .i64 m1, .int .i64 n1, .string s1, .bool D0, .bool D1, .bool D2, .bool D3, .bool D4, .bool D5, .bool D6, .bool D7, .bool D8] := Blk.puts [.int .i64 k1, .int .i64 m1, .int .i64 n1, .string s1, .bool D0, .bool D1, .bool D2, .bool D3, .bool D4, .bool D5, .bool D6, .bool D7, .bool D8] H rfl
  replace hb := hb.kx hkn (by first | (simp; done) | (simp; omega))
  replace h := h.kx hkn (by first | (simp; done) | (simp; omega))
  replace P := P.kx hkn (by first | (simp; done) | (simp; omega))
  replace X := X.kx hkn (by first | (simp; done) | (simp; omega))
  replace hS := hS.kx hkn (by first | (simp; done) | (simp; omega))
  clear hkn
  generalize ((((((((((((wq.setCell ⟨gH, 0, none⟩ (.int .i64 k1)).setCell ⟨gH, 1, none⟩ (.int .i64 m1)).setCell ⟨gH, 2, none⟩ (.int .i64 n1)).setCell ⟨gH, 3, none⟩ (.string s1)).setCell ⟨gH, 4, none⟩ (.bool D0)).setCell ⟨gH, 5, none⟩ (.bool D1)).setCell ⟨gH, 6, none⟩ (.bool D2)).setCell ⟨gH, 7, none⟩ (.bool D3)).setCell ⟨gH, 8, none⟩ (.bool D4)).setCell ⟨gH, 9, none⟩ (.bool D5)).setCell ⟨gH, 10, none⟩ (.bool D6)).setCell ⟨gH, 11, none⟩ (.bool D7)).setCell ⟨gH, 12, none⟩ (.bool D8) = w5 at *
  refine hK.out _ _ hS (fun hS => ?_)
  clear H_0 H_1 H_2 H_3 H_4 H_5 H_6 H_7 H_8 H_9 H_10 H_11 H_12
  clear Hf0 Hf1 Hf2 Hf3 Hf4 Hf5 Hf6 Hf7 Hf8 Hf9 Hf10 Hf11 Hf12
  clear hK K
  refine wpAnyH_ready (rs := [10]) (by kernel_rfl) (by simp) ?_
  refine AllReadyH.cons rfl (fun K hK => ?_) AllReadyH.nil
  go_simp
  refine hK.out _ _ (hS) (fun hS => ?_)
  clear hK K
  refine wpAnyH_done (by kernel_rfl) ?_ _
  clear hS
  clear lk c7 P_0 P_1
  have H_0 := H.cell (j := 0) rfl
  have H_1 := H.cell (j := 1) rfl
  have H_2 := H.cell (j := 2) rfl
  have H_3 := H.cell (j := 3) rfl
  have X_0 := X.cell (j := 0) rfl
  have X_1 := X.cell (j := 1) rfl
  have X_2 := X.cell (j := 2) rfl
  have X_3 := X.cell (j := 3) rfl
  unfold clashH at hc
  unfold wonN newH at hw
  rw [hhd] at hw
  rw [hhd] at hc
  simp only at hw hc
  have hrc : rightB A.c = true := by
    have h1 := hG.c
    unfold opErr at h1
    cases hr : rightB A.c
    · rw [hr] at h1; simp at h1
    · rfl
  have hvs2 : ([D0, D1, D2, D3, D4, D5, D6, D7, D8].set j true).length = 9 := by simp
  have cMj := fun W hW => maj_any g A.c ([D0, D1, D2, D3, D4, D5, D6, D7, D8].set j true) hvs2 W hW hrc
  have hj0 : (0 : Int) ≤ (j : Int) := by omega
  have hj1 : (j : Int) < 9 := by omega
  rw [Int.toNat_natCast] at hw
  rw [hw] at cMj
  obtain ⟨HS, hHS⟩ : ∃ HS, hasH L r p = HS := ⟨_, rfl⟩
  rw [hHS] at hc ⊢
  have he := fun W => ne_entry k1 m1 n1 s1 k m n s W
  obtain ⟨Q, hQ⟩ : ∃ Q, eq4 k1 m1 n1 s1 k m n s = Q := ⟨_, rfl⟩
  simp only [hQ] at hc he
  go_upto_region 9 with fail
  go_cut [58] from 52 (fun v wx => v = .bool false ∧ wx = w5)
  case first =>
    cases HS
    · go_wp2_with fail
      go_meet
      case rel => exact ⟨rfl, rfl⟩
    · cases Q
      · simp at hc
      · go_wp2_with fail
        go_meet
        case rel => exact ⟨rfl, rfl⟩
  case' rest =>
    obtain ⟨rfl, rfl⟩ := hcut
    clear hc he hQ hHS
  have Hf0 := H.frozen 0
  have Hf1 := H.frozen 1
  have Hf2 := H.frozen 2
  have Hf3 := H.frozen 3
  have Hf4 := H.frozen 4
  have Hf5 := H.frozen 5
  have Hf6 := H.frozen 6
  have Hf7 := H.frozen 7
  have Hf8 := H.frozen 8
  have Hf9 := H.frozen 9
  have Hf10 := H.frozen 10
  have Hf11 := H.frozen 11
  have Hf12 := H.frozen 12
  have H4 : Blk ((((wc.setCell ⟨gH, 0, none⟩ (.int .i64 k)).setCell ⟨gH, 1, none⟩ (.int .i64 m)).setCell ⟨gH, 2, none⟩ (.int .i64 n)).setCell ⟨gH, 3, none⟩ (.string s)) gH 121 ([.int .i64 k, .int .i64 m, .int .i64 n, .string s] ++ [D0, D1, D2, D3, D4, D5, D6, D7, D8].map Value.bool) := Blk.setCells' [.int .i64 k, .int .i64 m, .int .i64 n, .string s] 0 wc _ H (by simp)
  have hk4 : Kx [gH] wc ((((wc.setCell ⟨gH, 0, none⟩ (.int .i64 k)).setCell ⟨gH, 1, none⟩ (.int .i64 m)).setCell ⟨gH, 2, none⟩ (.int .i64 n)).setCell ⟨gH, 3, none⟩ (.string s)) := Kx.setCells [.int .i64 k, .int .i64 m, .int .i64 n, .string s] 0 wc (Kx.refl _ _) (.inl (by simp))
  have f4 := H4.frozen (4 + j)
  have c4 := H4.cell (j := 4 + j) (v := .bool ([D0, D1, D2, D3, D4, D5, D6, D7, D8].getD j false)) (by
    rw [List.getElem?_append_right (by simp)]
    have hjl : j < [D0, D1, D2, D3, D4, D5, D6, D7, D8].length := by simp; omega
    rw [List.getElem?_map, show 4 + j - [Value.int .i64 k, .int .i64 m, .int .i64 n, .string s].length = j by simp, List.getElem?_eq_getElem hjl, List.getD_eq_getElem?_getD, List.getElem?_eq_getElem hjl]
    rfl)
  have H5 : Blk (((((wc.setCell ⟨gH, 0, none⟩ (.int .i64 k)).setCell ⟨gH, 1, none⟩ (.int .i64 m)).setCell ⟨gH, 2, none⟩ (.int .i64 n)).setCell ⟨gH, 3, none⟩ (.string s)).setCell ⟨gH, 4 + j, none⟩ (.bool true)) gH 121 ([.int .i64 k, .int .i64 m, .int .i64 n, .string s] ++ ([D0, D1, D2, D3, D4, D5, D6, D7, D8].set j true).map Value.bool) := by
    have := H4.set (4 + j) (.bool true)
    rw [List.set_append_right _ _ (by simp), ← List.map_set] at this
    simpa using this
  have hk5 := hk4.setCell (p := ⟨gH, 4 + j, none⟩) (.inl (by simp)) (.bool true)
  clear H4 hk4
  go_upto_region 11 with fail
  clear f4 c4
  clear H_0 H_1 H_2 H_3
  clear Hf0 Hf1 Hf2 Hf3 Hf4 Hf5 Hf6 Hf7 Hf8 Hf9 Hf10 Hf11 Hf12
  clear X_0 X_1 X_2 X_3
  replace hb := hb.kx hk5 (by first | (simp; done) | (simp; omega))
  replace h := h.kx hk5 (by first | (simp; done) | (simp; omega))
  replace P := P.kx hk5 (by first | (simp; done) | (simp; omega))
  replace X := X.kx hk5 (by first | (simp; done) | (simp; omega))
  clear H hk5
  generalize ((((wc.setCell ⟨gH, 0, none⟩ (.int .i64 k)).setCell ⟨gH, 1, none⟩ (.int .i64 m)).setCell ⟨gH, 2, none⟩ (.int .i64 n)).setCell ⟨gH, 3, none⟩ (.string s)).setCell ⟨gH, 4 + j, none⟩ (.bool true) = w6 at *
  obtain ⟨VS, hVS⟩ : ∃ VS, [D0, D1, D2, D3, D4, D5, D6, D7, D8].set j true = VS := ⟨_, rfl⟩
  rw [hVS] at H5 cMj hvs2 hw
  obtain ⟨E0, E1, E2, E3, E4, E5, E6, E7, E8, rfl⟩ := nine hvs2
  unfold votV at cMj
  simp only [List.map_cons, List.map_nil, List.cons_append, List.nil_append] at H5 cMj
  have he2 := fun W => ne_entry A.k A.m A.n A.s k m n s W
  unfold eqE at hq
  simp only [hq] at he2
  clear hq
  have H5_0 := H5.cell (j := 0) rfl
  have H5_1 := H5.cell (j := 1) rfl
  have H5_2 := H5.cell (j := 2) rfl
  have H5_3 := H5.cell (j := 3) rfl
  have H5_4 := H5.cell (j := 4) rfl
  have H5_5 := H5.cell (j := 5) rfl
  have H5_6 := H5.cell (j := 6) rfl
  have H5_7 := H5.cell (j := 7) rfl
  have H5_8 := H5.cell (j := 8) rfl
  have H5_9 := H5.cell (j := 9) rfl
  have H5_10 := H5.cell (j := 10) rfl
  have H5_11 := H5.cell (j := 11) rfl
  have H5_12 := H5.cell (j := 12) rfl
  go_wp2_with fail
  refine (cMj _ (h.1.cell (j := 5) rfl)).mono ?_
  rintro e w7 ⟨rfl, hbn⟩
  replace hb := hb.step hbn
  replace h := h.step hbn
  replace P := P.step hbn
  replace X := X.step hbn
  replace H5 := H5.step hbn
  clear hbn
  clear H5_0 H5_1 H5_2 H5_3 H5_4 H5_5 H5_6 H5_7 H5_8 H5_9 H5_10 H5_11 H5_12
  clear cMj
  go_upto_region 12 with fail
  have c0 := extA_cell (h.1.cell (j := 0) rfl)
  have c1 := extA_cell (h.1.cell (j := 1) rfl)
  have c2 := extA_cell (h.1.cell (j := 2) rfl)
  have c3 := extA_cell (h.1.cell (j := 3) rfl)
  have c4 := extA_cell (h.1.cell (j := 4) rfl)
  simp only [hi] at c4
  have X_0 := extA_cell (X.cell (j := 0) rfl)
  have X_1 := extA_cell (X.cell (j := 1) rfl)
  have X_2 := extA_cell (X.cell (j := 2) rfl)
  have X_3 := extA_cell (X.cell (j := 3) rfl)
  refine wp_region_extB (by kernel_rfl) (by kernel_rfl) ?_
  repeat
    (first
      | go_big_quiet_skip
      | (go_big_quiet_want
         go_big_quiet_op
         first
           | go_big_quiet_on
           | (apply Exists.intro
              refine ⟨fun w' hC9 => ?_, ?_⟩
              · (first
                  | with_reducible rfl
                  | fail
                  | (go_simp; done)
                  | (go_simp; with_reducible rfl))
              go_big_quiet_on)))
  refine wpQuiet_nil ?_
  intro w8 hq
  replace hb := hb.step hq
  replace h := h.step hq
  replace P := P.step hq
  replace X := X.step hq
  replace H5 := H5.step hq
  clear hq c0 c1 c2 c3 c4 X_0 X_1 X_2 X_3
  have hNH : newH L j r p k m n s = ⟨k, m, n, s, [E0, E1, E2, E3, E4, E5, E6, E7, E8]⟩ := by
    unfold newH
    rw [hhd, Int.toNat_natCast]
    simp only [hVS]
  clear hhd hVS
  go_wp2_with fail
  apply wp_goto
  (try simp only [Exit.then])
  refine hGo.out _ _ ?_
  go_wp2_with fail
  rw [Exit.noGoto_ret]
  go_ret2
  exact ⟨rfl, hb⟩
set_option maxRecDepth 100000 in
set_option maxHeartbeats 1000000 in
theorem hear_won0 (g b : Nat) (A : Lrn) (L : HMap) (pl r p k m n : Int) (s : ByteArray) (w : World) (h : LW w g b A L) (hG : GoodL A L) (hs : s.size ≤ 9223372036854775807) (hT : Tabs w) (hok : hearB A pl r p k m n s = true) (hc : clashH L r p k m n s = false) (hw : wonN A L pl r p k m n s = true) (hL : L.length < maxLen) (hi : A.is = false) :
    Calls Tryz.prog 15 #[.pointer (some ⟨g, 0, none⟩), .int .i64 pl, bV r p, kV k m n s] w
      fun e w' => (e = .returned (.tuple #[.bool true, .int .i64 0]) ∧ LW w' g b (knowA A k m n s) (putG L (r, p) (newH L pl r p k m n s))) ∧ Kx [g, b] w w' := by
  have hV : knV A = true := by simp [knV, hi]
  have hEE : knE A k m n s = 0 := by simp [knE, hi]
  obtain ⟨hp0, hp1, hM, hE, hkB, hc9⟩ := hearB_ok hok
  obtain ⟨j, rfl⟩ : ∃ j : Nat, pl = j := ⟨pl.toNat, by omega⟩
  have hj9 : j < 9 := by omega
  have d1 : decide ((j : Int) < 0) = false := decide_eq_false (by omega)
  have d2 : decide (A.c ≤ (j : Int)) = false := decide_eq_false (by omega)
  have hv9 := hG.at r p
  have lk0 := fun W (hW : MapH W b L) => lookH hW r p hkB
  unfold bV kV
  have hcb : (A.c == 0) = false := by simpa using hG.ne
  have cN := fun W hW => none16_at g A.c false W hcb hW
  have cE := fun W hT => ent_any k m n s W hs hT
  have cM := fun W => may_any A.c A.sl r p W
  have hb := From.refl w
  clear hcb hs
  have ltb0 := h.ltb
  go_enter Tryz.func15, Tryz.ntmps15
  go_upto_region 1 with fail
  obtain ⟨gP, hgP⟩ : ∃ g, (w).heap.size = g := ⟨_, rfl⟩
  have lt_h_P := h.lt
  rw [hgP] at lt_h_P
  have P := Blk.newV hgP 66 #[.int .i64 r, .int .i64 p]
  have hbn := (Below.refl (w).heap.size w).alloc (Nat.le_refl _) (.cells #[.int .i64 r, .int .i64 p] 66)
  replace hb := hb.step hbn
  replace h := h.step hbn
  clear hbn
  rw [hgP]
  have szP := alloc_size hgP (.cells #[.int .i64 r, .int .i64 p] 66)
  generalize (w).alloc (.cells #[.int .i64 r, .int .i64 p] 66) = w1 at *
  obtain ⟨gX, hgX⟩ : ∃ g, (w1).heap.size = g := ⟨_, rfl⟩
  have lt_h_X := h.lt
  rw [hgX] at lt_h_X
  have lt_P_X := P.lt
  rw [hgX] at lt_P_X
  have X := Blk.newV hgX 24 #[.int .i64 k, .int .i64 m, .int .i64 n, .string s]
  have hbn := (Below.refl (w1).heap.size w1).alloc (Nat.le_refl _) (.cells #[.int .i64 k, .int .i64 m, .int .i64 n, .string s] 24)
  replace hb := hb.step hbn
  replace h := h.step hbn
  replace P := P.step hbn
  clear hbn
  have egX : gP + 1 = gX := szP.symm.trans hgX
  rw [egX]
  clear szP
  generalize (w1).alloc (.cells #[.int .i64 k, .int .i64 m, .int .i64 n, .string s] 24) = w2 at *
  refine wp_scope_fwd 0 rfl ?_
  intro Q2 hR hGo
  go_upto_region 2 with fail
  have ltb := h.ltb
  obtain ⟨gH, hgH⟩ : ∃ g, (w2).heap.size = g := ⟨_, rfl⟩
  have lt_h_H := h.lt
  rw [hgH] at lt_h_H
  have lt_P_H := P.lt
  rw [hgH] at lt_P_H
  have lt_X_H := X.lt
  rw [hgH] at lt_X_H
  have H := Blk.newV hgH 121 #[.int .i64 0, .int .i64 0, .int .i64 0, .string ⟨#[]⟩, .bool false, .bool false, .bool false, .bool false, .bool false, .bool false, .bool false, .bool false, .bool false]
  have hbn := (Below.refl (w2).heap.size w2).alloc (Nat.le_refl _) (.cells #[.int .i64 0, .int .i64 0, .int .i64 0, .string ⟨#[]⟩, .bool false, .bool false, .bool false, .bool false, .bool false, .bool false, .bool false, .bool false, .bool false] 121)
  replace hb := hb.step hbn
  replace h := h.step hbn
  replace P := P.step hbn
  replace X := X.step hbn
  clear hbn
  rw [hgH]
  generalize (w2).alloc (.cells #[.int .i64 0, .int .i64 0, .int .i64 0, .string ⟨#[]⟩, .bool false, .bool false, .bool false, .bool false, .bool false, .bool false, .bool false, .bool false, .bool false] 121) = w3 at *
  rw [hgH] at ltb
  go_wp2_with fail
  refine (cN _ (h.1.cell (j := 5) rfl)).mono ?_
  rintro e w4 ⟨rfl, rfl⟩
  go_upto_region 6 with fail
  rw [hM] at cM
  rw [hE] at cE
  clear hok hM hE hp0 hp1 hc9
  have hT4 := hT.step hb
  have c5 := extA_cell (h.1.cell (j := 5) rfl)
  have c6 := extA_cell (h.1.cell (j := 6) rfl)
  have P_0 := extA_cell (P.cell (j := 0) rfl)
  have P_1 := extA_cell (P.cell (j := 1) rfl)
  have X_0 := extA_cell (X.cell (j := 0) rfl)
  have X_1 := extA_cell (X.cell (j := 1) rfl)
  have X_2 := extA_cell (X.cell (j := 2) rfl)
  have X_3 := extA_cell (X.cell (j := 3) rfl)
  refine wp_region_extB (by kernel_rfl) (by kernel_rfl) ?_
  repeat
    (first
      | go_big_quiet_skip
      | (go_big_quiet_want
         go_big_quiet_op
         first
           | go_big_quiet_on
           | (apply Exists.intro
              refine ⟨fun w' hC9 => ?_, ?_⟩
              · (first
                  | with_reducible rfl
                  | (go_at_call 41; refine (cM _).mono ?_; rintro e w2 ⟨rfl, hb9⟩; exact ⟨rfl, extA_then hC9 hb9⟩) | (go_at_call 28; refine (cE _ (hT4.step hC9)).mono ?_; rintro e w2 ⟨rfl, hb9⟩; exact ⟨rfl, extA_then hC9 hb9⟩)
                  | (go_simp; done)
                  | (go_simp; with_reducible rfl))
              go_big_quiet_on)))
  refine wpQuiet_nil ?_
  intro w4 hq
  replace hb := hb.step hq
  replace h := h.step hq
  replace H := H.step hq
  replace P := P.step hq
  replace X := X.step hq
  clear hq c5 c6 P_0 P_1 X_0 X_1 X_2 X_3 cN cE cM hT4
  clear d1 d2
  go_upto_region 7 with fail
  unfold evH at lk0
  obtain ⟨⟨k1, m1, n1, s1, vs1⟩, hhd⟩ : ∃ hd, atH L r p = hd := ⟨_, rfl⟩
  rw [hhd] at lk0 hv9
  simp only at lk0 hv9
  obtain ⟨D0, D1, D2, D3, D4, D5, D6, D7, D8, rfl⟩ := nine hv9
  simp only [List.map_cons, List.map_nil, List.append_toArray, List.cons_append, List.nil_append] at lk0
  have hgH2 : g ∉ [gH] := by simp; omega
  have hbH2 : b ∉ [gH] := by simp; omega
  have hPH2 : gP ∉ [gH] := by simp; omega
  have lk := fun W (hW : Kx [gH] w4 W) => lk0 W (MapG.kx h.2 hW hbH2)
  have c7 := kx_all (h.1.cell (j := 7) rfl) hgH2
  have P_0 := kx_all (P.cell (j := 0) rfl) hPH2
  have P_1 := kx_all (P.cell (j := 1) rfl) hPH2
  clear lk0 hv9
  refine wp_nopanic ?_
  refine wp_region_held (S := Kx [gH] w4) (by kernel_rfl) ?_
  have hst : Below (w4).heap.size w4 { w4 with drawn := (w4).drawn + 1 } := ⟨rfl, rfl, rfl, Nat.le_refl _, fun _ _ => rfl⟩
  have hS : (Kx [gH] w4) { w4 with drawn := (w4).drawn + 1 } := by first | exact ⟨rfl, rfl, rfl, Nat.le_refl _, fun _ _ _ => rfl⟩ | exact ⟨rfl, rfl, rfl, Nat.le_refl _, fun _ _ => rfl⟩ | exact hS0
  replace hb := hb.step hst
  replace h := h.step hst
  replace H := H.step hst
  replace P := P.step hst
  replace X := X.step hst
  clear hst
  generalize ({ w4 with drawn := (w4).drawn + 1 } : World) = wq at *
  refine wpAnyH_take (i := 0) (v := ?_) rfl (by kernel_rfl) (by kernel_rfl) (by kernel_rfl) (fun _ _ _ h => h) (Or.inl ⟨by kernel_rfl, ?_⟩) hS ?_
  rotate_left
  · intro W hSW
    have y0 := c7 _ hSW
    have y1 := P_0 _ hSW
    have y2 := P_1 _ hSW
    have y3 := lk _ hSW
    go_simp
    try with_reducible rfl
  dsimp only [Act.put]
  refine wpAnyH_take (i := 1) (v := ?_) rfl (by kernel_rfl) (by kernel_rfl) (by kernel_rfl) (fun _ _ _ h => h) (Or.inl ⟨by kernel_rfl, ?_⟩) hS ?_
  rotate_left
  · intro W hSW
    have y0 := c7 _ hSW
    have y1 := P_0 _ hSW
    have y2 := P_1 _ hSW
    have y3 := lk _ hSW
    go_simp
    try with_reducible rfl
  dsimp only [Act.put]
  refine wpAnyH_take (i := 2) (v := ?_) rfl (by kernel_rfl) (by kernel_rfl) (by kernel_rfl) (fun _ _ _ h => h) (Or.inl ⟨by kernel_rfl, ?_⟩) hS ?_
  rotate_left
  · intro W hSW
    have y0 := c7 _ hSW
    have y1 := P_0 _ hSW
    have y2 := P_1 _ hSW
    have y3 := lk _ hSW
    go_simp
    try with_reducible rfl
  dsimp only [Act.put]
  refine wpAnyH_take (i := 3) (v := ?_) rfl (by kernel_rfl) (by kernel_rfl) (by kernel_rfl) (fun _ _ _ h => h) (Or.inl ⟨by kernel_rfl, ?_⟩) hS ?_
  rotate_left
  · intro W hSW
    have y0 := c7 _ hSW
    have y1 := P_0 _ hSW
    have y2 := P_1 _ hSW
    have y3 := lk _ hSW
    go_simp
    try with_reducible rfl
  dsimp only [Act.put]
  refine wpAnyH_take (i := 4) (v := ?_) rfl (by kernel_rfl) (by kernel_rfl) (by kernel_rfl) (fun _ _ _ h => h) (Or.inl ⟨by kernel_rfl, ?_⟩) hS ?_
  rotate_left
  · intro W hSW
    have y0 := c7 _ hSW
    have y1 := P_0 _ hSW
    have y2 := P_1 _ hSW
    have y3 := lk _ hSW
    go_simp
    try with_reducible rfl
  dsimp only [Act.put]
  refine wpAnyH_take (i := 5) (v := ?_) rfl (by kernel_rfl) (by kernel_rfl) (by kernel_rfl) (fun _ _ _ h => h) (Or.inl ⟨by kernel_rfl, ?_⟩) hS ?_
  rotate_left
  · intro W hSW
    have y0 := c7 _ hSW
    have y1 := P_0 _ hSW
    have y2 := P_1 _ hSW
    have y3 := lk _ hSW
    go_simp
    try with_reducible rfl
  dsimp only [Act.put]
  refine wpAnyH_take (i := 6) (v := ?_) rfl (by kernel_rfl) (by kernel_rfl) (by kernel_rfl) (fun _ _ _ h => h) (Or.inl ⟨by kernel_rfl, ?_⟩) hS ?_
  rotate_left
  · intro W hSW
    have y0 := c7 _ hSW
    have y1 := P_0 _ hSW
    have y2 := P_1 _ hSW
    have y3 := lk _ hSW
    go_simp
    try with_reducible rfl
  dsimp only [Act.put]
  refine wpAnyH_take (i := 7) (v := ?_) rfl (by kernel_rfl) (by kernel_rfl) (by kernel_rfl) (fun _ _ _ h => h) (Or.inl ⟨by kernel_rfl, ?_⟩) hS ?_
  rotate_left
  · intro W hSW
    have y0 := c7 _ hSW
    have y1 := P_0 _ hSW
    have y2 := P_1 _ hSW
    have y3 := lk _ hSW
    go_simp
    try with_reducible rfl
  dsimp only [Act.put]
  refine wpAnyH_take (i := 8) (v := ?_) rfl (by kernel_rfl) (by kernel_rfl) (by kernel_rfl) (fun _ _ _ h => h) (Or.inl ⟨by kernel_rfl, ?_⟩) hS ?_
  rotate_left
  · intro W hSW
    have y0 := c7 _ hSW
    have y1 := P_0 _ hSW
    have y2 := P_1 _ hSW
    have y3 := lk _ hSW
    go_simp
    try with_reducible rfl
  dsimp only [Act.put]
  have H_0 := H.cell (j := 0) rfl
  have H_1 := H.cell (j := 1) rfl
  have H_2 := H.cell (j := 2) rfl
  have H_3 := H.cell (j := 3) rfl
  have H_4 := H.cell (j := 4) rfl
  have H_5 := H.cell (j := 5) rfl
  have H_6 := H.cell (j := 6) rfl
  have H_7 := H.cell (j := 7) rfl
  have H_8 := H.cell (j := 8) rfl
  have H_9 := H.cell (j := 9) rfl
  have H_10 := H.cell (j := 10) rfl
  have H_11 := H.cell (j := 11) rfl
  have H_12 := H.cell (j := 12) rfl
  have Hf0 := H.frozen 0
  have Hf1 := H.frozen 1
  have Hf2 := H.frozen 2
  have Hf3 := H.frozen 3
  have Hf4 := H.frozen 4
  have Hf5 := H.frozen 5
  have Hf6 := H.frozen 6
  have Hf7 := H.frozen 7
  have Hf8 := H.frozen 8
  have Hf9 := H.frozen 9
  have Hf10 := H.frozen 10
  have Hf11 := H.frozen 11
  have Hf12 := H.frozen 12
  refine wpAnyH_ready (rs := [9]) (by kernel_rfl) (by simp) ?_
  refine AllReadyH.cons rfl (fun K hK => ?_) AllReadyH.nil
  go_simp
  have hkn : Kx [gH] wq (((((((((((((wq.setCell ⟨gH, 0, none⟩ (.int .i64 k1)).setCell ⟨gH, 1, none⟩ (.int .i64 m1)).setCell ⟨gH, 2, none⟩ (.int .i64 n1)).setCell ⟨gH, 3, none⟩ (.string s1)).setCell ⟨gH, 4, none⟩ (.bool D0)).setCell ⟨gH, 5, none⟩ (.bool D1)).setCell ⟨gH, 6, none⟩ (.bool D2)).setCell ⟨gH, 7, none⟩ (.bool D3)).setCell ⟨gH, 8, none⟩ (.bool D4)).setCell ⟨gH, 9, none⟩ (.bool D5)).setCell ⟨gH, 10, none⟩ (.bool D6)).setCell ⟨gH, 11, none⟩ (.bool D7)).setCell ⟨gH, 12, none⟩ (.bool D8)) := Kx.setCells [.int .i64 k1, .int .i64 m1, .int .i64 n1, .string s1, .bool D0, .bool D1, .bool D2, .bool D3, .bool D4, .bool D5, .bool D6, .bool D7, .bool D8] 0 _ (Kx.refl _ _) (.inl (by simp))
  replace H : Blk (((((((((((((wq.setCell ⟨gH, 0, none⟩ (.int .i64 k1)).setCell ⟨gH, 1, none⟩ (.int .i64 m1)).setCell ⟨gH, 2, none⟩ (.int .i64 n1)).setCell ⟨gH, 3, none⟩ (.string s1)).setCell ⟨gH, 4, none⟩ (.bool D0)).setCell ⟨gH, 5, none⟩ (.bool D1)).setCell ⟨gH, 6, none⟩ (.bool D2)).setCell ⟨gH, 7, none⟩ (.bool D3)).setCell ⟨gH, 8, none⟩ (.bool D4)).setCell ⟨gH, 9, none⟩ (.bool D5)).setCell ⟨gH, 10, none⟩ (.bool D6)).setCell ⟨gH, 11, none⟩ (.bool D7)).setCell ⟨gH, 12, none⟩ (.bool D8)) gH 121 [.int .i64 k1, .int .i64 m1, .int .i64 n1, .string s1, .bool D0, .bool D1, .bool D2, .bool D3, .bool D4, .bool D5, .bool D6, .bool D7, .bool D8] := Blk.puts [.int .i64 k1, .int .i64 m1, .int .i64 n1, .string s1, .bool D0, .bool D1, .bool D2, .bool D3, .bool D4, .bool D5, .bool D6, .bool D7, .bool D8] H rfl
  replace hb := hb.kx hkn (by first | (simp; done) | (simp; omega))
  replace h := h.kx hkn (by first | (simp; done) | (simp; omega))
  replace P := P.kx hkn (by first | (simp; done) | (simp; omega))
  replace X := X.kx hkn (by first | (simp; done) | (simp; omega))
  replace hS := hS.kx hkn (by first | (simp; done) | (simp; omega))
  clear hkn
  generalize ((((((((((((wq.setCell ⟨gH, 0, none⟩ (.int .i64 k1)).setCell ⟨gH, 1, none⟩ (.int .i64 m1)).setCell ⟨gH, 2, none⟩ (.int .i64 n1)).setCell ⟨gH, 3, none⟩ (.string s1)).setCell ⟨gH, 4, none⟩ (.bool D0)).setCell ⟨gH, 5, none⟩ (.bool D1)).setCell ⟨gH, 6, none⟩ (.bool D2)).setCell ⟨gH, 7, none⟩ (.bool D3)).setCell ⟨gH, 8, none⟩ (.bool D4)).setCell ⟨gH, 9, none⟩ (.bool D5)).setCell ⟨gH, 10, none⟩ (.bool D6)).setCell ⟨gH, 11, none⟩ (.bool D7)).setCell ⟨gH, 12, none⟩ (.bool D8) = w5 at *
  refine hK.out _ _ hS (fun hS => ?_)
  clear H_0 H_1 H_2 H_3 H_4 H_5 H_6 H_7 H_8 H_9 H_10 H_11 H_12
  clear Hf0 Hf1 Hf2 Hf3 Hf4 Hf5 Hf6 Hf7 Hf8 Hf9 Hf10 Hf11 Hf12
  clear hK K
  refine wpAnyH_ready (rs := [10]) (by kernel_rfl) (by simp) ?_
  refine AllReadyH.cons rfl (fun K hK => ?_) AllReadyH.nil
  go_simp
  refine hK.out _ _ (hS) (fun hS => ?_)
  clear hK K
  refine wpAnyH_done (by kernel_rfl) ?_ _
  clear hS
  clear lk c7 P_0 P_1
  have H_0 := H.cell (j := 0) rfl
  have H_1 := H.cell (j := 1) rfl
  have H_2 := H.cell (j := 2) rfl
  have H_3 := H.cell (j := 3) rfl
  have X_0 := X.cell (j := 0) rfl
  have X_1 := X.cell (j := 1) rfl
  have X_2 := X.cell (j := 2) rfl
  have X_3 := X.cell (j := 3) rfl
  unfold clashH at hc
  unfold wonN newH at hw
  rw [hhd] at hw
  rw [hhd] at hc
  simp only at hw hc
  have hrc : rightB A.c = true := by
    have h1 := hG.c
    unfold opErr at h1
    cases hr : rightB A.c
    · rw [hr] at h1; simp at h1
    · rfl
  have hvs2 : ([D0, D1, D2, D3, D4, D5, D6, D7, D8].set j true).length = 9 := by simp
  have cMj := fun W hW => maj_any g A.c ([D0, D1, D2, D3, D4, D5, D6, D7, D8].set j true) hvs2 W hW hrc
  have hj0 : (0 : Int) ≤ (j : Int) := by omega
  have hj1 : (j : Int) < 9 := by omega
  rw [Int.toNat_natCast] at hw
  rw [hw] at cMj
  obtain ⟨HS, hHS⟩ : ∃ HS, hasH L r p = HS := ⟨_, rfl⟩
  rw [hHS] at hc ⊢
  have he := fun W => ne_entry k1 m1 n1 s1 k m n s W
  obtain ⟨Q, hQ⟩ : ∃ Q, eq4 k1 m1 n1 s1 k m n s = Q := ⟨_, rfl⟩
  simp only [hQ] at hc he
  go_upto_region 9 with fail
  go_cut [58] from 52 (fun v wx => v = .bool false ∧ wx = w5)
  case first =>
    cases HS
    · go_wp2_with fail
      go_meet
      case rel => exact ⟨rfl, rfl⟩
    · cases Q
      · simp at hc
      · go_wp2_with fail
        go_meet
        case rel => exact ⟨rfl, rfl⟩
  case' rest =>
    obtain ⟨rfl, rfl⟩ := hcut
    clear hc he hQ hHS
  have Hf0 := H.frozen 0
  have Hf1 := H.frozen 1
  have Hf2 := H.frozen 2
  have Hf3 := H.frozen 3
  have Hf4 := H.frozen 4
  have Hf5 := H.frozen 5
  have Hf6 := H.frozen 6
  have Hf7 := H.frozen 7
  have Hf8 := H.frozen 8
  have Hf9 := H.frozen 9
  have Hf10 := H.frozen 10
  have Hf11 := H.frozen 11
  have Hf12 := H.frozen 12
  have H4 : Blk ((((wc.setCell ⟨gH, 0, none⟩ (.int .i64 k)).setCell ⟨gH, 1, none⟩ (.int .i64 m)).setCell ⟨gH, 2, none⟩ (.int .i64 n)).setCell ⟨gH, 3, none⟩ (.string s)) gH 121 ([.int .i64 k, .int .i64 m, .int .i64 n, .string s] ++ [D0, D1, D2, D3, D4, D5, D6, D7, D8].map Value.bool) := Blk.setCells' [.int .i64 k, .int .i64 m, .int .i64 n, .string s] 0 wc _ H (by simp)
  have hk4 : Kx [gH] wc ((((wc.setCell ⟨gH, 0, none⟩ (.int .i64 k)).setCell ⟨gH, 1, none⟩ (.int .i64 m)).setCell ⟨gH, 2, none⟩ (.int .i64 n)).setCell ⟨gH, 3, none⟩ (.string s)) := Kx.setCells [.int .i64 k, .int .i64 m, .int .i64 n, .string s] 0 wc (Kx.refl _ _) (.inl (by simp))
  have f4 := H4.frozen (4 + j)
  have c4 := H4.cell (j := 4 + j) (v := .bool ([D0, D1, D2, D3, D4, D5, D6, D7, D8].getD j false)) (by
    rw [List.getElem?_append_right (by simp)]
    have hjl : j < [D0, D1, D2, D3, D4, D5, D6, D7, D8].length := by simp; omega
    rw [List.getElem?_map, show 4 + j - [Value.int .i64 k, .int .i64 m, .int .i64 n, .string s].length = j by simp, List.getElem?_eq_getElem hjl, List.getD_eq_getElem?_getD, List.getElem?_eq_getElem hjl]
    rfl)
  have H5 : Blk (((((wc.setCell ⟨gH, 0, none⟩ (.int .i64 k)).setCell ⟨gH, 1, none⟩ (.int .i64 m)).setCell ⟨gH, 2, none⟩ (.int .i64 n)).setCell ⟨gH, 3, none⟩ (.string s)).setCell ⟨gH, 4 + j, none⟩ (.bool true)) gH 121 ([.int .i64 k, .int .i64 m, .int .i64 n, .string s] ++ ([D0, D1, D2, D3, D4, D5, D6, D7, D8].set j true).map Value.bool) := by
    have := H4.set (4 + j) (.bool true)
    rw [List.set_append_right _ _ (by simp), ← List.map_set] at this
    simpa using this
  have hk5 := hk4.setCell (p := ⟨gH, 4 + j, none⟩) (.inl (by simp)) (.bool true)
  clear H4 hk4
  go_upto_region 11 with fail
  clear f4 c4
  clear H_0 H_1 H_2 H_3
  clear Hf0 Hf1 Hf2 Hf3 Hf4 Hf5 Hf6 Hf7 Hf8 Hf9 Hf10 Hf11 Hf12
  clear X_0 X_1 X_2 X_3
  replace hb := hb.kx hk5 (by first | (simp; done) | (simp; omega))
  replace h := h.kx hk5 (by first | (simp; done) | (simp; omega))
  replace P := P.kx hk5 (by first | (simp; done) | (simp; omega))
  replace X := X.kx hk5 (by first | (simp; done) | (simp; omega))
  clear H hk5
  generalize ((((wc.setCell ⟨gH, 0, none⟩ (.int .i64 k)).setCell ⟨gH, 1, none⟩ (.int .i64 m)).setCell ⟨gH, 2, none⟩ (.int .i64 n)).setCell ⟨gH, 3, none⟩ (.string s)).setCell ⟨gH, 4 + j, none⟩ (.bool true) = w6 at *
  obtain ⟨VS, hVS⟩ : ∃ VS, [D0, D1, D2, D3, D4, D5, D6, D7, D8].set j true = VS := ⟨_, rfl⟩
  rw [hVS] at H5 cMj hvs2 hw
  obtain ⟨E0, E1, E2, E3, E4, E5, E6, E7, E8, rfl⟩ := nine hvs2
  unfold votV at cMj
  simp only [List.map_cons, List.map_nil, List.cons_append, List.nil_append] at H5 cMj
  skip
  have H5_0 := H5.cell (j := 0) rfl
  have H5_1 := H5.cell (j := 1) rfl
  have H5_2 := H5.cell (j := 2) rfl
  have H5_3 := H5.cell (j := 3) rfl
  have H5_4 := H5.cell (j := 4) rfl
  have H5_5 := H5.cell (j := 5) rfl
  have H5_6 := H5.cell (j := 6) rfl
  have H5_7 := H5.cell (j := 7) rfl
  have H5_8 := H5.cell (j := 8) rfl
  have H5_9 := H5.cell (j := 9) rfl
  have H5_10 := H5.cell (j := 10) rfl
  have H5_11 := H5.cell (j := 11) rfl
  have H5_12 := H5.cell (j := 12) rfl
  go_wp2_with fail
  refine (cMj _ (h.1.cell (j := 5) rfl)).mono ?_
  rintro e w7 ⟨rfl, hbn⟩
  replace hb := hb.step hbn
  replace h := h.step hbn
  replace P := P.step hbn
  replace X := X.step hbn
  replace H5 := H5.step hbn
  clear hbn
  clear H5_0 H5_1 H5_2 H5_3 H5_4 H5_5 H5_6 H5_7 H5_8 H5_9 H5_10 H5_11 H5_12
  clear cMj
  go_upto_region 12 with fail
  have c0 := extA_cell (h.1.cell (j := 0) rfl)
  have c1 := extA_cell (h.1.cell (j := 1) rfl)
  have c2 := extA_cell (h.1.cell (j := 2) rfl)
  have c3 := extA_cell (h.1.cell (j := 3) rfl)
  have c4 := extA_cell (h.1.cell (j := 4) rfl)
  simp only [hi] at c4
  have X_0 := extA_cell (X.cell (j := 0) rfl)
  have X_1 := extA_cell (X.cell (j := 1) rfl)
  have X_2 := extA_cell (X.cell (j := 2) rfl)
  have X_3 := extA_cell (X.cell (j := 3) rfl)
  refine wp_region_extB (by kernel_rfl) (by kernel_rfl) ?_
  repeat
    (first
      | go_big_quiet_skip
      | (go_big_quiet_want
         go_big_quiet_op
         first
           | go_big_quiet_on
           | (apply Exists.intro
              refine ⟨fun w' hC9 => ?_, ?_⟩
              · (first
                  | with_reducible rfl
                  | fail
                  | (go_simp; done)
                  | (go_simp; with_reducible rfl))
              go_big_quiet_on)))
  refine wpQuiet_nil ?_
  intro w8 hq
  replace hb := hb.step hq
  replace h := h.step hq
  replace P := P.step hq
  replace X := X.step hq
  replace H5 := H5.step hq
  clear hq c0 c1 c2 c3 c4 X_0 X_1 X_2 X_3
  have hNH : newH L j r p k m n s = ⟨k, m, n, s, [E0, E1, E2, E3, E4, E5, E6, E7, E8]⟩ := by
    unfold newH
    rw [hhd, Int.toNat_natCast]
    simp only [hVS]
  clear hhd hVS
  go_upto_region 13 with fail
  have c7 := extA_cell (h.1.cell (j := 7) rfl)
  have P_0 := extA_cell (P.cell (j := 0) rfl)
  have P_1 := extA_cell (P.cell (j := 1) rfl)
  have H5_0 := extA_cell (H5.cell (j := 0) rfl)
  have H5_1 := extA_cell (H5.cell (j := 1) rfl)
  have H5_2 := extA_cell (H5.cell (j := 2) rfl)
  have H5_3 := extA_cell (H5.cell (j := 3) rfl)
  have H5_4 := extA_cell (H5.cell (j := 4) rfl)
  have H5_5 := extA_cell (H5.cell (j := 5) rfl)
  have H5_6 := extA_cell (H5.cell (j := 6) rfl)
  have H5_7 := extA_cell (H5.cell (j := 7) rfl)
  have H5_8 := extA_cell (H5.cell (j := 8) rfl)
  have H5_9 := extA_cell (H5.cell (j := 9) rfl)
  have H5_10 := extA_cell (H5.cell (j := 10) rfl)
  have H5_11 := extA_cell (H5.cell (j := 11) rfl)
  have H5_12 := extA_cell (H5.cell (j := 12) rfl)
  refine wp_nopanic ?_
  refine wp_region_head (C := ExtA w8) 6 (by kernel_rfl) (by decide) (by kernel_rfl) ⟨rfl, rfl, rfl, Nat.le_refl _, fun _ _ => rfl⟩ ?_
  simp only [List.take_succ_cons, List.take_zero]
  repeat
    (first
      | go_big_quiet_skip
      | (go_big_quiet_want
         go_big_quiet_op
         first
           | go_big_quiet_on
           | (apply Exists.intro
              refine ⟨fun w' hC9 => ?_, ?_⟩
              · (first
                  | with_reducible rfl
                  | fail
                  | (go_simp; done)
                  | (go_simp; with_reducible rfl))
              go_big_quiet_on)))
  refine wpQuiet_nil ?_
  intro wq hq
  replace hb := hb.step hq
  replace h := h.step hq
  replace P := P.step hq
  replace X := X.step hq
  replace H5 := H5.step hq
  change wpAny _ _ _ _ (0 + 1) _ _ _
  obtain ⟨w9, r8, m8, hk8, hz8⟩ := MapG.put h.2 keyB Tryz.underlying60 (r, p) (⟨k, m, n, s, [E0, E1, E2, E3, E4, E5, E6, E7, E8]⟩ : Hd) hkB hL
  unfold ekB evH at r8
  simp only [List.map_cons, List.map_nil, List.append_toArray, List.cons_append, List.nil_append] at r8
  refine wpAny_ready (rs := [6]) (by kernel_rfl) (by simp) ?_
  refine AllReady.cons rfl (fun K hK => ?_) AllReady.nil
  go_simp
  refine hK _ _ ?_
  clear hK K
  refine wpAny_done (by kernel_rfl) ?_ _
  clear r8 c7 P_0 P_1 H5_0 H5_1 H5_2 H5_3 H5_4 H5_5 H5_6 H5_7 H5_8 H5_9 H5_10 H5_11 H5_12
  have h9 : LW w9 g b A (putG L (r, p) (newH L j r p k m n s)) := by
    rw [hNH]
    exact ⟨h.1.kx hk8 (by simp; exact h.ne), m8⟩
  have hx : FromX [g, b] w w9 := FromX.kx (ws := [g, b]) (Kx.of_below _ hb.out (Nat.le_refl _)) hk8 (by simp)
  replace X := X.kx hk8 (by simp; omega)
  have cK := fun bp W hA hP => kn1_any bp g b A (putG L (r, p) (newH L j r p k m n s)) k m n s W hA hP
  unfold kV at cK
  rw [hV, hEE] at cK
  clear h m8 hk8 hNH hz8 hb P H5
  go_upto_region 15 with fail
  have hXg : gX ∉ [g] := by simp; omega
  have X_0 := kx_all (X.cell (j := 0) rfl) hXg
  have X_1 := kx_all (X.cell (j := 1) rfl) hXg
  have X_2 := kx_all (X.cell (j := 2) rfl) hXg
  have X_3 := kx_all (X.cell (j := 3) rfl) hXg
  clear X
  refine wp_nopanic ?_
  refine wp_region_held (S := Kx [g] w9) (by kernel_rfl) ?_
  have hst : Below (w9).heap.size w9 { w9 with drawn := (w9).drawn + 1 } := ⟨rfl, rfl, rfl, Nat.le_refl _, fun _ _ => rfl⟩
  have hS : (Kx [g] w9) { w9 with drawn := (w9).drawn + 1 } := by first | exact ⟨rfl, rfl, rfl, Nat.le_refl _, fun _ _ _ => rfl⟩ | exact ⟨rfl, rfl, rfl, Nat.le_refl _, fun _ _ => rfl⟩ | exact hS0
  replace hx := hx.step hst
  replace h9 := h9.step hst
  clear hst
  generalize ({ w9 with drawn := (w9).drawn + 1 } : World) = wq at *
  refine wpAnyH_take (i := 0) (v := ?_) rfl (by kernel_rfl) (by kernel_rfl) (by kernel_rfl) (fun _ _ _ h => h) (Or.inl ⟨by kernel_rfl, ?_⟩) hS ?_
  rotate_left
  · intro W hSW
    have y0 := X_0 _ hSW
    have y1 := X_1 _ hSW
    have y2 := X_2 _ hSW
    have y3 := X_3 _ hSW
    go_simp
    try with_reducible rfl
  dsimp only [Act.put]
  refine wpAnyH_take (i := 2) (v := ?_) rfl (by kernel_rfl) (by kernel_rfl) (by kernel_rfl) (fun _ _ _ h => h) (Or.inl ⟨by kernel_rfl, ?_⟩) hS ?_
  rotate_left
  · intro W hSW
    have y0 := X_0 _ hSW
    have y1 := X_1 _ hSW
    have y2 := X_2 _ hSW
    have y3 := X_3 _ hSW
    go_simp
    try with_reducible rfl
  dsimp only [Act.put]
  refine wpAnyH_ready (rs := [1]) (by kernel_rfl) (by simp) ?_
  refine AllReadyH.cons rfl (fun K hK => ?_) AllReadyH.nil
  go_simp
  refine (knows_any g _).mono ?_
  rintro e w10 ⟨⟨bp, rfl, hp, hbp⟩, hbn⟩
  replace hx := hx.step hbn
  replace h9 := h9.step hbn
  refine hK.out _ _ (hS.step hbn) (fun hS => ?_)
  clear hbn hbp
  clear hK K
  refine wpAnyH_ready (rs := [3]) (by kernel_rfl) (by simp) ?_
  refine AllReadyH.cons rfl (fun K hK => ?_) AllReadyH.nil
  go_simp
  refine (cK bp _ h9 hp).mono ?_
  rintro e w11 ⟨⟨rfl, h11⟩, hkn⟩
  replace hx := hx.kx hkn (by simp)
  refine hK.out _ _ (hS.kx hkn (by simp)) (fun hS => ?_)
  clear h9 hp hkn cK
  clear hK K
  refine wpAnyH_take (i := 4) (v := ?_) rfl (by kernel_rfl) (by kernel_rfl) (by kernel_rfl) (fun _ _ _ h => h) (Or.inl ⟨by kernel_rfl, ?_⟩) hS ?_
  rotate_left
  · intro W hSW
    go_simp
    try with_reducible rfl
  dsimp only [Act.put]
  refine wpAnyH_take (i := 5) (v := ?_) rfl (by kernel_rfl) (by kernel_rfl) (by kernel_rfl) (fun _ _ _ h => h) (Or.inl ⟨by kernel_rfl, ?_⟩) hS ?_
  rotate_left
  · intro W hSW
    go_simp
    try with_reducible rfl
  dsimp only [Act.put]
  refine wpAnyH_ready (rs := [6]) (by kernel_rfl) (by simp) ?_
  refine AllReadyH.cons rfl (fun K hK => ?_) AllReadyH.nil
  go_simp
  refine hK.out _ _ (hS) (fun hS => ?_)
  clear hK K
  refine wpAnyH_ready (rs := [7]) (by kernel_rfl) (by simp) ?_
  refine AllReadyH.cons rfl (fun K hK => ?_) AllReadyH.nil
  go_simp
  refine hK.out _ _ (hS) (fun hS => ?_)
  clear hK K
  refine wpAnyH_done (by kernel_rfl) ?_ _
  clear hS X_0 X_1 X_2 X_3
  go_wp2_with fail
  refine hR.out _ _ ?_
  go_ret2
  exact ⟨⟨rfl, h11⟩, hx⟩
set_option maxRecDepth 100000 in
set_option maxHeartbeats 1000000 in
theorem hear_won1 (g b : Nat) (A : Lrn) (L : HMap) (pl r p k m n : Int) (s : ByteArray) (w : World) (h : LW w g b A L) (hG : GoodL A L) (hs : s.size ≤ 9223372036854775807) (hT : Tabs w) (hok : hearB A pl r p k m n s = true) (hc : clashH L r p k m n s = false) (hw : wonN A L pl r p k m n s = true) (hL : L.length < maxLen) (hi : A.is = true) (hq : eqE A k m n s = true) :
    Calls Tryz.prog 15 #[.pointer (some ⟨g, 0, none⟩), .int .i64 pl, bV r p, kV k m n s] w
      fun e w' => (e = .returned (.tuple #[.bool false, .int .i64 0]) ∧ LW w' g b (knowA A k m n s) (putG L (r, p) (newH L pl r p k m n s))) ∧ Kx [g, b] w w' := by
  have hV : knV A = false := by simp [knV, hi]
  have hEE : knE A k m n s = 0 := by simp [knE, hi, hq]
  obtain ⟨hp0, hp1, hM, hE, hkB, hc9⟩ := hearB_ok hok
  obtain ⟨j, rfl⟩ : ∃ j : Nat, pl = j := ⟨pl.toNat, by omega⟩
  have hj9 : j < 9 := by omega
  have d1 : decide ((j : Int) < 0) = false := decide_eq_false (by omega)
  have d2 : decide (A.c ≤ (j : Int)) = false := decide_eq_false (by omega)
  have hv9 := hG.at r p
  have lk0 := fun W (hW : MapH W b L) => lookH hW r p hkB
  unfold bV kV
  have hcb : (A.c == 0) = false := by simpa using hG.ne
  have cN := fun W hW => none16_at g A.c false W hcb hW
  have cE := fun W hT => ent_any k m n s W hs hT
  have cM := fun W => may_any A.c A.sl r p W
  have hb := From.refl w
  clear hcb hs
  have ltb0 := h.ltb
  go_enter Tryz.func15, Tryz.ntmps15
  go_upto_region 1 with fail
  obtain ⟨gP, hgP⟩ : ∃ g, (w).heap.size = g := ⟨_, rfl⟩
  have lt_h_P := h.lt
  rw [hgP] at lt_h_P
  have P := Blk.newV hgP 66 #[.int .i64 r, .int .i64 p]
  have hbn := (Below.refl (w).heap.size w).alloc (Nat.le_refl _) (.cells #[.int .i64 r, .int .i64 p] 66)
  replace hb := hb.step hbn
  replace h := h.step hbn
  clear hbn
  rw [hgP]
  have szP := alloc_size hgP (.cells #[.int .i64 r, .int .i64 p] 66)
  generalize (w).alloc (.cells #[.int .i64 r, .int .i64 p] 66) = w1 at *
  obtain ⟨gX, hgX⟩ : ∃ g, (w1).heap.size = g := ⟨_, rfl⟩
  have lt_h_X := h.lt
  rw [hgX] at lt_h_X
  have lt_P_X := P.lt
  rw [hgX] at lt_P_X
  have X := Blk.newV hgX 24 #[.int .i64 k, .int .i64 m, .int .i64 n, .string s]
  have hbn := (Below.refl (w1).heap.size w1).alloc (Nat.le_refl _) (.cells #[.int .i64 k, .int .i64 m, .int .i64 n, .string s] 24)
  replace hb := hb.step hbn
  replace h := h.step hbn
  replace P := P.step hbn
  clear hbn
  have egX : gP + 1 = gX := szP.symm.trans hgX
  rw [egX]
  clear szP
  generalize (w1).alloc (.cells #[.int .i64 k, .int .i64 m, .int .i64 n, .string s] 24) = w2 at *
  refine wp_scope_fwd 0 rfl ?_
  intro Q2 hR hGo
  go_upto_region 2 with fail
  have ltb := h.ltb
  obtain ⟨gH, hgH⟩ : ∃ g, (w2).heap.size = g := ⟨_, rfl⟩
  have lt_h_H := h.lt
  rw [hgH] at lt_h_H
  have lt_P_H := P.lt
  rw [hgH] at lt_P_H
  have lt_X_H := X.lt
  rw [hgH] at lt_X_H
  have H := Blk.newV hgH 121 #[.int .i64 0, .int .i64 0, .int .i64 0, .string ⟨#[]⟩, .bool false, .bool false, .bool false, .bool false, .bool false, .bool false, .bool false, .bool false, .bool false]
  have hbn := (Below.refl (w2).heap.size w2).alloc (Nat.le_refl _) (.cells #[.int .i64 0, .int .i64 0, .int .i64 0, .string ⟨#[]⟩, .bool false, .bool false, .bool false, .bool false, .bool false, .bool false, .bool false, .bool false, .bool false] 121)
  replace hb := hb.step hbn
  replace h := h.step hbn
  replace P := P.step hbn
  replace X := X.step hbn
  clear hbn
  rw [hgH]
  generalize (w2).alloc (.cells #[.int .i64 0, .int .i64 0, .int .i64 0, .string ⟨#[]⟩, .bool false, .bool false, .bool false, .bool false, .bool false, .bool false, .bool false, .bool false, .bool false] 121) = w3 at *
  rw [hgH] at ltb
  go_wp2_with fail
  refine (cN _ (h.1.cell (j := 5) rfl)).mono ?_
  rintro e w4 ⟨rfl, rfl⟩
  go_upto_region 6 with fail
  rw [hM] at cM
  rw [hE] at cE
  clear hok hM hE hp0 hp1 hc9
  have hT4 := hT.step hb
  have c5 := extA_cell (h.1.cell (j := 5) rfl)
  have c6 := extA_cell (h.1.cell (j := 6) rfl)
  have P_0 := extA_cell (P.cell (j := 0) rfl)
  have P_1 := extA_cell (P.cell (j := 1) rfl)
  have X_0 := extA_cell (X.cell (j := 0) rfl)
  have X_1 := extA_cell (X.cell (j := 1) rfl)
  have X_2 := extA_cell (X.cell (j := 2) rfl)
  have X_3 := extA_cell (X.cell (j := 3) rfl)
  refine wp_region_extB (by kernel_rfl) (by kernel_rfl) ?_
  repeat
    (first
      | go_big_quiet_skip
      | (go_big_quiet_want
         go_big_quiet_op
         first
           | go_big_quiet_on
           | (apply Exists.intro
              refine ⟨fun w' hC9 => ?_, ?_⟩
              · (first
                  | with_reducible rfl
                  | (go_at_call 41; refine (cM _).mono ?_; rintro e w2 ⟨rfl, hb9⟩; exact ⟨rfl, extA_then hC9 hb9⟩) | (go_at_call 28; refine (cE _ (hT4.step hC9)).mono ?_; rintro e w2 ⟨rfl, hb9⟩; exact ⟨rfl, extA_then hC9 hb9⟩)
                  | (go_simp; done)
                  | (go_simp; with_reducible rfl))
              go_big_quiet_on)))
  refine wpQuiet_nil ?_
  intro w4 hq
  replace hb := hb.step hq
  replace h := h.step hq
  replace H := H.step hq
  replace P := P.step hq
  replace X := X.step hq
  clear hq c5 c6 P_0 P_1 X_0 X_1 X_2 X_3 cN cE cM hT4
  clear d1 d2
  go_upto_region 7 with fail
  unfold evH at lk0
  obtain ⟨⟨k1, m1, n1, s1, vs1⟩, hhd⟩ : ∃ hd, atH L r p = hd := ⟨_, rfl⟩
  rw [hhd] at lk0 hv9
  simp only at lk0 hv9
  obtain ⟨D0, D1, D2, D3, D4, D5, D6, D7, D8, rfl⟩ := nine hv9
  simp only [List.map_cons, List.map_nil, List.append_toArray, List.cons_append, List.nil_append] at lk0
  have hgH2 : g ∉ [gH] := by simp; omega
  have hbH2 : b ∉ [gH] := by simp; omega
  have hPH2 : gP ∉ [gH] := by simp; omega
  have lk := fun W (hW : Kx [gH] w4 W) => lk0 W (MapG.kx h.2 hW hbH2)
  have c7 := kx_all (h.1.cell (j := 7) rfl) hgH2
  have P_0 := kx_all (P.cell (j := 0) rfl) hPH2
  have P_1 := kx_all (P.cell (j := 1) rfl) hPH2
  clear lk0 hv9
  refine wp_nopanic ?_
  refine wp_region_held (S := Kx [gH] w4) (by kernel_rfl) ?_
  have hst : Below (w4).heap.size w4 { w4 with drawn := (w4).drawn + 1 } := ⟨rfl, rfl, rfl, Nat.le_refl _, fun _ _ => rfl⟩
  have hS : (Kx [gH] w4) { w4 with drawn := (w4).drawn + 1 } := by first | exact ⟨rfl, rfl, rfl, Nat.le_refl _, fun _ _ _ => rfl⟩ | exact ⟨rfl, rfl, rfl, Nat.le_refl _, fun _ _ => rfl⟩ | exact hS0
  replace hb := hb.step hst
  replace h := h.step hst
  replace H := H.step hst
  replace P := P.step hst
  replace X := X.step hst
  clear hst
  generalize ({ w4 with drawn := (w4).drawn + 1 } : World) = wq at *
  refine wpAnyH_take (i := 0) (v := ?_) rfl (by kernel_rfl) (by kernel_rfl) (by kernel_rfl) (fun _ _ _ h => h) (Or.inl ⟨by kernel_rfl, ?_⟩) hS ?_
  rotate_left
  · intro W hSW
    have y0 := c7 _ hSW
    have y1 := P_0 _ hSW
    have y2 := P_1 _ hSW
    have y3 := lk _ hSW
    go_simp
    try with_reducible rfl
  dsimp only [Act.put]
  refine wpAnyH_take (i := 1) (v := ?_) rfl (by kernel_rfl) (by kernel_rfl) (by kernel_rfl) (fun _ _ _ h => h) (Or.inl ⟨by kernel_rfl, ?_⟩) hS ?_
  rotate_left
  · intro W hSW
    have y0 := c7 _ hSW
    have y1 := P_0 _ hSW
    have y2 := P_1 _ hSW
    have y3 := lk _ hSW
    go_simp
    try with_reducible rfl
  dsimp only [Act.put]
  refine wpAnyH_take (i := 2) (v := ?_) rfl (by kernel_rfl) (by kernel_rfl) (by kernel_rfl) (fun _ _ _ h => h) (Or.inl ⟨by kernel_rfl, ?_⟩) hS ?_
  rotate_left
  · intro W hSW
    have y0 := c7 _ hSW
    have y1 := P_0 _ hSW
    have y2 := P_1 _ hSW
    have y3 := lk _ hSW
    go_simp
    try with_reducible rfl
  dsimp only [Act.put]
  refine wpAnyH_take (i := 3) (v := ?_) rfl (by kernel_rfl) (by kernel_rfl) (by kernel_rfl) (fun _ _ _ h => h) (Or.inl ⟨by kernel_rfl, ?_⟩) hS ?_
  rotate_left
  · intro W hSW
    have y0 := c7 _ hSW
    have y1 := P_0 _ hSW
    have y2 := P_1 _ hSW
    have y3 := lk _ hSW
    go_simp
    try with_reducible rfl
  dsimp only [Act.put]
  refine wpAnyH_take (i := 4) (v := ?_) rfl (by kernel_rfl) (by kernel_rfl) (by kernel_rfl) (fun _ _ _ h => h) (Or.inl ⟨by kernel_rfl, ?_⟩) hS ?_
  rotate_left
  · intro W hSW
    have y0 := c7 _ hSW
    have y1 := P_0 _ hSW
    have y2 := P_1 _ hSW
    have y3 := lk _ hSW
    go_simp
    try with_reducible rfl
  dsimp only [Act.put]
  refine wpAnyH_take (i := 5) (v := ?_) rfl (by kernel_rfl) (by kernel_rfl) (by kernel_rfl) (fun _ _ _ h => h) (Or.inl ⟨by kernel_rfl, ?_⟩) hS ?_
  rotate_left
  · intro W hSW
    have y0 := c7 _ hSW
    have y1 := P_0 _ hSW
    have y2 := P_1 _ hSW
    have y3 := lk _ hSW
    go_simp
    try with_reducible rfl
  dsimp only [Act.put]
  refine wpAnyH_take (i := 6) (v := ?_) rfl (by kernel_rfl) (by kernel_rfl) (by kernel_rfl) (fun _ _ _ h => h) (Or.inl ⟨by kernel_rfl, ?_⟩) hS ?_
  rotate_left
  · intro W hSW
    have y0 := c7 _ hSW
    have y1 := P_0 _ hSW
    have y2 := P_1 _ hSW
    have y3 := lk _ hSW
    go_simp
    try with_reducible rfl
  dsimp only [Act.put]
  refine wpAnyH_take (i := 7) (v := ?_) rfl (by kernel_rfl) (by kernel_rfl) (by kernel_rfl) (fun _ _ _ h => h) (Or.inl ⟨by kernel_rfl, ?_⟩) hS ?_
  rotate_left
  · intro W hSW
    have y0 := c7 _ hSW
    have y1 := P_0 _ hSW
    have y2 := P_1 _ hSW
    have y3 := lk _ hSW
    go_simp
    try with_reducible rfl
  dsimp only [Act.put]
  refine wpAnyH_take (i := 8) (v := ?_) rfl (by kernel_rfl) (by kernel_rfl) (by kernel_rfl) (fun _ _ _ h => h) (Or.inl ⟨by kernel_rfl, ?_⟩) hS ?_
  rotate_left
  · intro W hSW
    have y0 := c7 _ hSW
    have y1 := P_0 _ hSW
    have y2 := P_1 _ hSW
    have y3 := lk _ hSW
    go_simp
    try with_reducible rfl
  dsimp only [Act.put]
  have H_0 := H.cell (j := 0) rfl
  have H_1 := H.cell (j := 1) rfl
  have H_2 := H.cell (j := 2) rfl
  have H_3 := H.cell (j := 3) rfl
  have H_4 := H.cell (j := 4) rfl
  have H_5 := H.cell (j := 5) rfl
  have H_6 := H.cell (j := 6) rfl
  have H_7 := H.cell (j := 7) rfl
  have H_8 := H.cell (j := 8) rfl
  have H_9 := H.cell (j := 9) rfl
  have H_10 := H.cell (j := 10) rfl
  have H_11 := H.cell (j := 11) rfl
  have H_12 := H.cell (j := 12) rfl
  have Hf0 := H.frozen 0
  have Hf1 := H.frozen 1
  have Hf2 := H.frozen 2
  have Hf3 := H.frozen 3
  have Hf4 := H.frozen 4
  have Hf5 := H.frozen 5
  have Hf6 := H.frozen 6
  have Hf7 := H.frozen 7
  have Hf8 := H.frozen 8
  have Hf9 := H.frozen 9
  have Hf10 := H.frozen 10
  have Hf11 := H.frozen 11
  have Hf12 := H.frozen 12
  refine wpAnyH_ready (rs := [9]) (by kernel_rfl) (by simp) ?_
  refine AllReadyH.cons rfl (fun K hK => ?_) AllReadyH.nil
  go_simp
  have hkn : Kx [gH] wq (((((((((((((wq.setCell ⟨gH, 0, none⟩ (.int .i64 k1)).setCell ⟨gH, 1, none⟩ (.int .i64 m1)).setCell ⟨gH, 2, none⟩ (.int .i64 n1)).setCell ⟨gH, 3, none⟩ (.string s1)).setCell ⟨gH, 4, none⟩ (.bool D0)).setCell ⟨gH, 5, none⟩ (.bool D1)).setCell ⟨gH, 6, none⟩ (.bool D2)).setCell ⟨gH, 7, none⟩ (.bool D3)).setCell ⟨gH, 8, none⟩ (.bool D4)).setCell ⟨gH, 9, none⟩ (.bool D5)).setCell ⟨gH, 10, none⟩ (.bool D6)).setCell ⟨gH, 11, none⟩ (.bool D7)).setCell ⟨gH, 12, none⟩ (.bool D8)) := Kx.setCells [.int .i64 k1, .int .i64 m1, .int .i64 n1, .string s1, .bool D0, .bool D1, .bool D2, .bool D3, .bool D4, .bool D5, .bool D6, .bool D7, .bool D8] 0 _ (Kx.refl _ _) (.inl (by simp))
  replace H : Blk (((((((((((((wq.setCell ⟨gH, 0, none⟩ (.int .i64 k1)).setCell ⟨gH, 1, none⟩ (.int .i64 m1)).setCell ⟨gH, 2, none⟩ (.int .i64 n1)).setCell ⟨gH, 3, none⟩ (.string s1)).setCell ⟨gH, 4, none⟩ (.bool D0)).setCell ⟨gH, 5, none⟩ (.bool D1)).setCell ⟨gH, 6, none⟩ (.bool D2)).setCell ⟨gH, 7, none⟩ (.bool D3)).setCell ⟨gH, 8, none⟩ (.bool D4)).setCell ⟨gH, 9, none⟩ (.bool D5)).setCell ⟨gH, 10, none⟩ (.bool D6)).setCell ⟨gH, 11, none⟩ (.bool D7)).setCell ⟨gH, 12, none⟩ (.bool D8)) gH 121 [.int .i64 k1, .int .i64 m1, .int .i64 n1, .string s1, .bool D0, .bool D1, .bool D2, .bool D3, .bool D4, .bool D5, .bool D6, .bool D7, .bool D8] := Blk.puts [.int .i64 k1, .int .i64 m1, .int .i64 n1, .string s1, .bool D0, .bool D1, .bool D2, .bool D3, .bool D4, .bool D5, .bool D6, .bool D7, .bool D8] H rfl
  replace hb := hb.kx hkn (by first | (simp; done) | (simp; omega))
  replace h := h.kx hkn (by first | (simp; done) | (simp; omega))
  replace P := P.kx hkn (by first | (simp; done) | (simp; omega))
  replace X := X.kx hkn (by first | (simp; done) | (simp; omega))
  replace hS := hS.kx hkn (by first | (simp; done) | (simp; omega))
  clear hkn
  generalize ((((((((((((wq.setCell ⟨gH, 0, none⟩ (.int .i64 k1)).setCell ⟨gH, 1, none⟩ (.int .i64 m1)).setCell ⟨gH, 2, none⟩ (.int .i64 n1)).setCell ⟨gH, 3, none⟩ (.string s1)).setCell ⟨gH, 4, none⟩ (.bool D0)).setCell ⟨gH, 5, none⟩ (.bool D1)).setCell ⟨gH, 6, none⟩ (.bool D2)).setCell ⟨gH, 7, none⟩ (.bool D3)).setCell ⟨gH, 8, none⟩ (.bool D4)).setCell ⟨gH, 9, none⟩ (.bool D5)).setCell ⟨gH, 10, none⟩ (.bool D6)).setCell ⟨gH, 11, none⟩ (.bool D7)).setCell ⟨gH, 12, none⟩ (.bool D8) = w5 at *
  refine hK.out _ _ hS (fun hS => ?_)
  clear H_0 H_1 H_2 H_3 H_4 H_5 H_6 H_7 H_8 H_9 H_10 H_11 H_12
  clear Hf0 Hf1 Hf2 Hf3 Hf4 Hf5 Hf6 Hf7 Hf8 Hf9 Hf10 Hf11 Hf12
  clear hK K
  refine wpAnyH_ready (rs := [10]) (by kernel_rfl) (by simp) ?_
  refine AllReadyH.cons rfl (fun K hK => ?_) AllReadyH.nil
  go_simp
  refine hK.out _ _ (hS) (fun hS => ?_)
  clear hK K
  refine wpAnyH_done (by kernel_rfl) ?_ _
  clear hS
  clear lk c7 P_0 P_1
  have H_0 := H.cell (j := 0) rfl
  have H_1 := H.cell (j := 1) rfl
  have H_2 := H.cell (j := 2) rfl
  have H_3 := H.cell (j := 3) rfl
  have X_0 := X.cell (j := 0) rfl
  have X_1 := X.cell (j := 1) rfl
  have X_2 := X.cell (j := 2) rfl
  have X_3 := X.cell (j := 3) rfl
  unfold clashH at hc
  unfold wonN newH at hw
  rw [hhd] at hw
  rw [hhd] at hc
  simp only at hw hc
  have hrc : rightB A.c = true := by
    have h1 := hG.c
    unfold opErr at h1
    cases hr : rightB A.c
    · rw [hr] at h1; simp at h1
    · rfl
  have hvs2 : ([D0, D1, D2, D3, D4, D5, D6, D7, D8].set j true).length = 9 := by simp
  have cMj := fun W hW => maj_any g A.c ([D0, D1, D2, D3, D4, D5, D6, D7, D8].set j true) hvs2 W hW hrc
  have hj0 : (0 : Int) ≤ (j : Int) := by omega
  have hj1 : (j : Int) < 9 := by omega
  rw [Int.toNat_natCast] at hw
  rw [hw] at cMj
  obtain ⟨HS, hHS⟩ : ∃ HS, hasH L r p = HS := ⟨_, rfl⟩
  rw [hHS] at hc ⊢
  have he := fun W => ne_entry k1 m1 n1 s1 k m n s W
  obtain ⟨Q, hQ⟩ : ∃ Q, eq4 k1 m1 n1 s1 k m n s = Q := ⟨_, rfl⟩
  simp only [hQ] at hc he
  go_upto_region 9 with fail
  go_cut [58] from 52 (fun v wx => v = .bool false ∧ wx = w5)
  case first =>
    cases HS
    · go_wp2_with fail
      go_meet
      case rel => exact ⟨rfl, rfl⟩
    · cases Q
      · simp at hc
      · go_wp2_with fail
        go_meet
        case rel => exact ⟨rfl, rfl⟩
  case' rest =>
    obtain ⟨rfl, rfl⟩ := hcut
    clear hc he hQ hHS
  have Hf0 := H.frozen 0
  have Hf1 := H.frozen 1
  have Hf2 := H.frozen 2
  have Hf3 := H.frozen 3
  have Hf4 := H.frozen 4
  have Hf5 := H.frozen 5
  have Hf6 := H.frozen 6
  have Hf7 := H.frozen 7
  have Hf8 := H.frozen 8
  have Hf9 := H.frozen 9
  have Hf10 := H.frozen 10
  have Hf11 := H.frozen 11
  have Hf12 := H.frozen 12
  have H4 : Blk ((((wc.setCell ⟨gH, 0, none⟩ (.int .i64 k)).setCell ⟨gH, 1, none⟩ (.int .i64 m)).setCell ⟨gH, 2, none⟩ (.int .i64 n)).setCell ⟨gH, 3, none⟩ (.string s)) gH 121 ([.int .i64 k, .int .i64 m, .int .i64 n, .string s] ++ [D0, D1, D2, D3, D4, D5, D6, D7, D8].map Value.bool) := Blk.setCells' [.int .i64 k, .int .i64 m, .int .i64 n, .string s] 0 wc _ H (by simp)
  have hk4 : Kx [gH] wc ((((wc.setCell ⟨gH, 0, none⟩ (.int .i64 k)).setCell ⟨gH, 1, none⟩ (.int .i64 m)).setCell ⟨gH, 2, none⟩ (.int .i64 n)).setCell ⟨gH, 3, none⟩ (.string s)) := Kx.setCells [.int .i64 k, .int .i64 m, .int .i64 n, .string s] 0 wc (Kx.refl _ _) (.inl (by simp))
  have f4 := H4.frozen (4 + j)
  have c4 := H4.cell (j := 4 + j) (v := .bool ([D0, D1, D2, D3, D4, D5, D6, D7, D8].getD j false)) (by
    rw [List.getElem?_append_right (by simp)]
    have hjl : j < [D0, D1, D2, D3, D4, D5, D6, D7, D8].length := by simp; omega
    rw [List.getElem?_map, show 4 + j - [Value.int .i64 k, .int .i64 m, .int .i64 n, .string s].length = j by simp, List.getElem?_eq_getElem hjl, List.getD_eq_getElem?_getD, List.getElem?_eq_getElem hjl]
    rfl)
  have H5 : Blk (((((wc.setCell ⟨gH, 0, none⟩ (.int .i64 k)).setCell ⟨gH, 1, none⟩ (.int .i64 m)).setCell ⟨gH, 2, none⟩ (.int .i64 n)).setCell ⟨gH, 3, none⟩ (.string s)).setCell ⟨gH, 4 + j, none⟩ (.bool true)) gH 121 ([.int .i64 k, .int .i64 m, .int .i64 n, .string s] ++ ([D0, D1, D2, D3, D4, D5, D6, D7, D8].set j true).map Value.bool) := by
    have := H4.set (4 + j) (.bool true)
    rw [List.set_append_right _ _ (by simp), ← List.map_set] at this
    simpa using this
  have hk5 := hk4.setCell (p := ⟨gH, 4 + j, none⟩) (.inl (by simp)) (.bool true)
  clear H4 hk4
  go_upto_region 11 with fail
  clear f4 c4
  clear H_0 H_1 H_2 H_3
  clear Hf0 Hf1 Hf2 Hf3 Hf4 Hf5 Hf6 Hf7 Hf8 Hf9 Hf10 Hf11 Hf12
  clear X_0 X_1 X_2 X_3
  replace hb := hb.kx hk5 (by first | (simp; done) | (simp; omega))
  replace h := h.kx hk5 (by first | (simp; done) | (simp; omega))
  replace P := P.kx hk5 (by first | (simp; done) | (simp; omega))
  replace X := X.kx hk5 (by first | (simp; done) | (simp; omega))
  clear H hk5
  generalize ((((wc.setCell ⟨gH, 0, none⟩ (.int .i64 k)).setCell ⟨gH, 1, none⟩ (.int .i64 m)).setCell ⟨gH, 2, none⟩ (.int .i64 n)).setCell ⟨gH, 3, none⟩ (.string s)).setCell ⟨gH, 4 + j, none⟩ (.bool true) = w6 at *
  obtain ⟨VS, hVS⟩ : ∃ VS, [D0, D1, D2, D3, D4, D5, D6, D7, D8].set j true = VS := ⟨_, rfl⟩
  rw [hVS] at H5 cMj hvs2 hw
  obtain ⟨E0, E1, E2, E3, E4, E5, E6, E7, E8, rfl⟩ := nine hvs2
  unfold votV at cMj
  simp only [List.map_cons, List.map_nil, List.cons_append, List.nil_append] at H5 cMj
  have he2 := fun W => ne_entry A.k A.m A.n A.s k m n s W
  unfold eqE at hq
  simp only [hq] at he2
  have H5_0 := H5.cell (j := 0) rfl
  have H5_1 := H5.cell (j := 1) rfl
  have H5_2 := H5.cell (j := 2) rfl
  have H5_3 := H5.cell (j := 3) rfl
  have H5_4 := H5.cell (j := 4) rfl
  have H5_5 := H5.cell (j := 5) rfl
  have H5_6 := H5.cell (j := 6) rfl
  have H5_7 := H5.cell (j := 7) rfl
  have H5_8 := H5.cell (j := 8) rfl
  have H5_9 := H5.cell (j := 9) rfl
  have H5_10 := H5.cell (j := 10) rfl
  have H5_11 := H5.cell (j := 11) rfl
  have H5_12 := H5.cell (j := 12) rfl
  go_wp2_with fail
  refine (cMj _ (h.1.cell (j := 5) rfl)).mono ?_
  rintro e w7 ⟨rfl, hbn⟩
  replace hb := hb.step hbn
  replace h := h.step hbn
  replace P := P.step hbn
  replace X := X.step hbn
  replace H5 := H5.step hbn
  clear hbn
  clear H5_0 H5_1 H5_2 H5_3 H5_4 H5_5 H5_6 H5_7 H5_8 H5_9 H5_10 H5_11 H5_12
  clear cMj
  go_upto_region 12 with fail
  have c0 := extA_cell (h.1.cell (j := 0) rfl)
  have c1 := extA_cell (h.1.cell (j := 1) rfl)
  have c2 := extA_cell (h.1.cell (j := 2) rfl)
  have c3 := extA_cell (h.1.cell (j := 3) rfl)
  have c4 := extA_cell (h.1.cell (j := 4) rfl)
  simp only [hi] at c4
  have X_0 := extA_cell (X.cell (j := 0) rfl)
  have X_1 := extA_cell (X.cell (j := 1) rfl)
  have X_2 := extA_cell (X.cell (j := 2) rfl)
  have X_3 := extA_cell (X.cell (j := 3) rfl)
  refine wp_region_extB (by kernel_rfl) (by kernel_rfl) ?_
  repeat
    (first
      | go_big_quiet_skip
      | (go_big_quiet_want
         go_big_quiet_op
         first
           | go_big_quiet_on
           | (apply Exists.intro
              refine ⟨fun w' hC9 => ?_, ?_⟩
              · (first
                  | with_reducible rfl
                  | fail
                  | (go_simp; done)
                  | (go_simp; with_reducible rfl))
              go_big_quiet_on)))
  refine wpQuiet_nil ?_
  intro w8 hq
  replace hb := hb.step hq
  replace h := h.step hq
  replace P := P.step hq
  replace X := X.step hq
  replace H5 := H5.step hq
  clear hq c0 c1 c2 c3 c4 X_0 X_1 X_2 X_3
  have hNH : newH L j r p k m n s = ⟨k, m, n, s, [E0, E1, E2, E3, E4, E5, E6, E7, E8]⟩ := by
    unfold newH
    rw [hhd, Int.toNat_natCast]
    simp only [hVS]
  clear hhd hVS
  go_upto_region 13 with fail
  have c7 := extA_cell (h.1.cell (j := 7) rfl)
  have P_0 := extA_cell (P.cell (j := 0) rfl)
  have P_1 := extA_cell (P.cell (j := 1) rfl)
  have H5_0 := extA_cell (H5.cell (j := 0) rfl)
  have H5_1 := extA_cell (H5.cell (j := 1) rfl)
  have H5_2 := extA_cell (H5.cell (j := 2) rfl)
  have H5_3 := extA_cell (H5.cell (j := 3) rfl)
  have H5_4 := extA_cell (H5.cell (j := 4) rfl)
  have H5_5 := extA_cell (H5.cell (j := 5) rfl)
  have H5_6 := extA_cell (H5.cell (j := 6) rfl)
  have H5_7 := extA_cell (H5.cell (j := 7) rfl)
  have H5_8 := extA_cell (H5.cell (j := 8) rfl)
  have H5_9 := extA_cell (H5.cell (j := 9) rfl)
  have H5_10 := extA_cell (H5.cell (j := 10) rfl)
  have H5_11 := extA_cell (H5.cell (j := 11) rfl)
  have H5_12 := extA_cell (H5.cell (j := 12) rfl)
  refine wp_nopanic ?_
  refine wp_region_head (C := ExtA w8) 6 (by kernel_rfl) (by decide) (by kernel_rfl) ⟨rfl, rfl, rfl, Nat.le_refl _, fun _ _ => rfl⟩ ?_
  simp only [List.take_succ_cons, List.take_zero]
  repeat
    (first
      | go_big_quiet_skip
      | (go_big_quiet_want
         go_big_quiet_op
         first
           | go_big_quiet_on
           | (apply Exists.intro
              refine ⟨fun w' hC9 => ?_, ?_⟩
              · (first
                  | with_reducible rfl
                  | fail
                  | (go_simp; done)
                  | (go_simp; with_reducible rfl))
              go_big_quiet_on)))
  refine wpQuiet_nil ?_
  intro wq hq
  replace hb := hb.step hq
  replace h := h.step hq
  replace P := P.step hq
  replace X := X.step hq
  replace H5 := H5.step hq
  change wpAny _ _ _ _ (0 + 1) _ _ _
  obtain ⟨w9, r8, m8, hk8, hz8⟩ := MapG.put h.2 keyB Tryz.underlying60 (r, p) (⟨k, m, n, s, [E0, E1, E2, E3, E4, E5, E6, E7, E8]⟩ : Hd) hkB hL
  unfold ekB evH at r8
  simp only [List.map_cons, List.map_nil, List.append_toArray, List.cons_append, List.nil_append] at r8
  refine wpAny_ready (rs := [6]) (by kernel_rfl) (by simp) ?_
  refine AllReady.cons rfl (fun K hK => ?_) AllReady.nil
  go_simp
  refine hK _ _ ?_
  clear hK K
  refine wpAny_done (by kernel_rfl) ?_ _
  clear r8 c7 P_0 P_1 H5_0 H5_1 H5_2 H5_3 H5_4 H5_5 H5_6 H5_7 H5_8 H5_9 H5_10 H5_11 H5_12
  have h9 : LW w9 g b A (putG L (r, p) (newH L j r p k m n s)) := by
    rw [hNH]
    exact ⟨h.1.kx hk8 (by simp; exact h.ne), m8⟩
  have hx : FromX [g, b] w w9 := FromX.kx (ws := [g, b]) (Kx.of_below _ hb.out (Nat.le_refl _)) hk8 (by simp)
  replace X := X.kx hk8 (by simp; omega)
  have cK := fun bp W hA hP => kn1_any bp g b A (putG L (r, p) (newH L j r p k m n s)) k m n s W hA hP
  unfold kV at cK
  rw [hV, hEE] at cK
  clear h m8 hk8 hNH hz8 hb P H5
  go_upto_region 15 with fail
  have hXg : gX ∉ [g] := by simp; omega
  have X_0 := kx_all (X.cell (j := 0) rfl) hXg
  have X_1 := kx_all (X.cell (j := 1) rfl) hXg
  have X_2 := kx_all (X.cell (j := 2) rfl) hXg
  have X_3 := kx_all (X.cell (j := 3) rfl) hXg
  clear X
  refine wp_nopanic ?_
  refine wp_region_held (S := Kx [g] w9) (by kernel_rfl) ?_
  have hst : Below (w9).heap.size w9 { w9 with drawn := (w9).drawn + 1 } := ⟨rfl, rfl, rfl, Nat.le_refl _, fun _ _ => rfl⟩
  have hS : (Kx [g] w9) { w9 with drawn := (w9).drawn + 1 } := by first | exact ⟨rfl, rfl, rfl, Nat.le_refl _, fun _ _ _ => rfl⟩ | exact ⟨rfl, rfl, rfl, Nat.le_refl _, fun _ _ => rfl⟩ | exact hS0
  replace hx := hx.step hst
  replace h9 := h9.step hst
  clear hst
  generalize ({ w9 with drawn := (w9).drawn + 1 } : World) = wq at *
  refine wpAnyH_take (i := 0) (v := ?_) rfl (by kernel_rfl) (by kernel_rfl) (by kernel_rfl) (fun _ _ _ h => h) (Or.inl ⟨by kernel_rfl, ?_⟩) hS ?_
  rotate_left
  · intro W hSW
    have y0 := X_0 _ hSW
    have y1 := X_1 _ hSW
    have y2 := X_2 _ hSW
    have y3 := X_3 _ hSW
    go_simp
    try with_reducible rfl
  dsimp only [Act.put]
  refine wpAnyH_take (i := 2) (v := ?_) rfl (by kernel_rfl) (by kernel_rfl) (by kernel_rfl) (fun _ _ _ h => h) (Or.inl ⟨by kernel_rfl, ?_⟩) hS ?_
  rotate_left
  · intro W hSW
    have y0 := X_0 _ hSW
    have y1 := X_1 _ hSW
    have y2 := X_2 _ hSW
    have y3 := X_3 _ hSW
    go_simp
    try with_reducible rfl
  dsimp only [Act.put]
  refine wpAnyH_ready (rs := [1]) (by kernel_rfl) (by simp) ?_
  refine AllReadyH.cons rfl (fun K hK => ?_) AllReadyH.nil
  go_simp
  refine (knows_any g _).mono ?_
  rintro e w10 ⟨⟨bp, rfl, hp, hbp⟩, hbn⟩
  replace hx := hx.step hbn
  replace h9 := h9.step hbn
  refine hK.out _ _ (hS.step hbn) (fun hS => ?_)
  clear hbn hbp
  clear hK K
  refine wpAnyH_ready (rs := [3]) (by kernel_rfl) (by simp) ?_
  refine AllReadyH.cons rfl (fun K hK => ?_) AllReadyH.nil
  go_simp
  refine (cK bp _ h9 hp).mono ?_
  rintro e w11 ⟨⟨rfl, h11⟩, hkn⟩
  replace hx := hx.kx hkn (by simp)
  refine hK.out _ _ (hS.kx hkn (by simp)) (fun hS => ?_)
  clear h9 hp hkn cK
  clear hK K
  refine wpAnyH_take (i := 4) (v := ?_) rfl (by kernel_rfl) (by kernel_rfl) (by kernel_rfl) (fun _ _ _ h => h) (Or.inl ⟨by kernel_rfl, ?_⟩) hS ?_
  rotate_left
  · intro W hSW
    go_simp
    try with_reducible rfl
  dsimp only [Act.put]
  refine wpAnyH_take (i := 5) (v := ?_) rfl (by kernel_rfl) (by kernel_rfl) (by kernel_rfl) (fun _ _ _ h => h) (Or.inl ⟨by kernel_rfl, ?_⟩) hS ?_
  rotate_left
  · intro W hSW
    go_simp
    try with_reducible rfl
  dsimp only [Act.put]
  refine wpAnyH_ready (rs := [6]) (by kernel_rfl) (by simp) ?_
  refine AllReadyH.cons rfl (fun K hK => ?_) AllReadyH.nil
  go_simp
  refine hK.out _ _ (hS) (fun hS => ?_)
  clear hK K
  refine wpAnyH_ready (rs := [7]) (by kernel_rfl) (by simp) ?_
  refine AllReadyH.cons rfl (fun K hK => ?_) AllReadyH.nil
  go_simp
  refine hK.out _ _ (hS) (fun hS => ?_)
  clear hK K
  refine wpAnyH_done (by kernel_rfl) ?_ _
  clear hS X_0 X_1 X_2 X_3
  go_wp2_with fail
  refine hR.out _ _ ?_
  go_ret2
  exact ⟨⟨rfl, h11⟩, hx⟩
theorem hear_any (g b : Nat) (A : Lrn) (L : HMap) (pl r p k m n : Int) (s : ByteArray) (w : World) (h : LW w g b A L) (hG : GoodL A L) (hs : s.size ≤ 9223372036854775807) (hT : Tabs w) (hL : L.length < maxLen) :
    Calls Tryz.prog 15 #[.pointer (some ⟨g, 0, none⟩), .int .i64 pl, bV r p, kV k m n s] w fun e w' => (e = .returned (.tuple #[.bool (heV A L pl r p k m n s), .int .i64 (heE A L pl r p k m n s)]) ∧ LW w' g b (heA A L pl r p k m n s) (heL A L pl r p k m n s)) ∧ Kx [g, b] w w' := by
  have same : ∀ (w' : World), Below w.heap.size w w' → LW w' g b A L ∧ Kx [g, b] w w' := fun w' hb => ⟨h.step hb, (Kx.refl _ w).step hb⟩
  cases hok : hearB A pl r p k m n s
  · have e1 : heE A L pl r p k m n s = 2 := by simp [heE, hok]
    have e2 : heV A L pl r p k m n s = false := by simp [heV, heW, e1]
    have e3 : heA A L pl r p k m n s = A := by simp [heA, heW, e1]
    have e4 : heL A L pl r p k m n s = L := by simp [heL, e1]
    rw [e1, e2, e3, e4]
    refine (hear_arg g b A L pl r p k m n s w h hG hs hT hok).mono ?_
    rintro e w' ⟨rfl, hb⟩
    exact ⟨⟨rfl, (same w' hb).1⟩, (same w' hb).2⟩
  · cases hc : clashH L r p k m n s
    · cases hw : wonN A L pl r p k m n s
      · have hw2 : wonP A.c (newH L pl r p k m n s).vs = false := hw
        have e1 : heE A L pl r p k m n s = 0 := by simp [heE, hok, hc, hw2]
        have e2 : heV A L pl r p k m n s = false := by simp [heV, heW, hw2]
        have e3 : heA A L pl r p k m n s = A := by simp [heA, heW, hw2]
        have e4 : heL A L pl r p k m n s = putG L (r, p) (newH L pl r p k m n s) := by simp [heL, e1]
        rw [e1, e2, e3, e4]
        exact hear_few g b A L pl r p k m n s w h hG hs hT hok hc hw hL
      · have hw2 : wonP A.c (newH L pl r p k m n s).vs = true := hw
        cases hi : A.is
        · have e1 : heE A L pl r p k m n s = 0 := by simp [heE, hok, hc, hw2, hi]
          have e2 : heV A L pl r p k m n s = true := by simp [heV, heW, hw2, e1, hi]
          have e3 : heA A L pl r p k m n s = knowA A k m n s := by simp [heA, heW, hw2, e1]
          have e4 : heL A L pl r p k m n s = putG L (r, p) (newH L pl r p k m n s) := by simp [heL, e1]
          rw [e1, e2, e3, e4]
          exact hear_won0 g b A L pl r p k m n s w h hG hs hT hok hc hw hL hi
        · cases hq : eqE A k m n s
          · have e1 : heE A L pl r p k m n s = 260 := by simp [heE, hok, hc, hw2, hi, hq]
            have e2 : heV A L pl r p k m n s = false := by simp [heV, heW, e1]
            have e3 : heA A L pl r p k m n s = A := by simp [heA, heW, e1]
            have e4 : heL A L pl r p k m n s = L := by simp [heL, e1]
            rw [e1, e2, e3, e4]
            refine (hear_taken g b A L pl r p k m n s w h hG hs hT hok hc hw hi hq).mono ?_
            rintro e w' ⟨rfl, hb⟩
            exact ⟨⟨rfl, (same w' hb).1⟩, (same w' hb).2⟩
          · have e1 : heE A L pl r p k m n s = 0 := by simp [heE, hok, hc, hw2, hi, hq]
            have e2 : heV A L pl r p k m n s = false := by simp [heV, heW, hw2, e1, hi]
            have e3 : heA A L pl r p k m n s = knowA A k m n s := by simp [heA, heW, hw2, e1]
            have e4 : heL A L pl r p k m n s = putG L (r, p) (newH L pl r p k m n s) := by simp [heL, e1]
            rw [e1, e2, e3, e4]
            exact hear_won1 g b A L pl r p k m n s w h hG hs hT hok hc hw hL hi hq
    · have e1 : heE A L pl r p k m n s = 260 := by simp [heE, hok, hc]
      have e2 : heV A L pl r p k m n s = false := by simp [heV, heW, e1]
      have e3 : heA A L pl r p k m n s = A := by simp [heA, heW, e1]
      have e4 : heL A L pl r p k m n s = L := by simp [heL, e1]
      rw [e1, e2, e3, e4]
      refine (hear_clash g b A L pl r p k m n s w h hG hs hT hok hc).mono ?_
      rintro e w' ⟨rfl, hb⟩
      exact ⟨⟨rfl, (same w' hb).1⟩, (same w' hb).2⟩
end Go.Proofs.YthhpblchiodahaaGreatDoor
