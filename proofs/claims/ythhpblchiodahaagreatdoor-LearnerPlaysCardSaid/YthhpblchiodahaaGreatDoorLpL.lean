
/- Law 16: act, a call by both: Hear. -/
import Derived.Test.YthhpblchiodahaaGreatDoorLpK
namespace Go.Proofs.YthhpblchiodahaaGreatDoor
set_option linter.unusedSimpArgs false
set_option linter.unusedVariables false
open Go.RowKit Go.Maps
theorem HdR.kxL {W W' : World} {base : Nat} {v : Value} {L : HMap} (h : HdR W base v L) {g : Nat} {t : TypeId} {cs : List Value} (O : Blk W g t cs) (h1 : t ≠ 81) (h2 : t ≠ 3) (hk : Kx [g] W W') : HdR W' base v L := by
  refine h.kxH hk (fun k hm e => ?_) (fun k hm => ?_)
  · simp at hm
    subst hm
    obtain ⟨c2, fz, h3⟩ := h.cellsT _ e
    rw [show W.heap[k]? = _ from O] at h3
    injection h3 with h3
    injection h3 with _ h3 _
    exact h1 h3
  · simp at hm
    subst hm
    exact ⟨_, _, _, O, h2⟩
/-- Both stand alike behind a call. -/
def Both (base g b : Nat) (A' : Lrn) (L' : HMap) (w : World) (e : Ending) (w' : World) : Prop :=
  (∃ v', e = .returned (.tuple #[rV A' v', .bool true]) ∧ HdR w' base v' (srtB L') ∧ LW w' g b A' L') ∧ FromX [g, b] w w'
set_option maxRecDepth 100000 in
set_option maxHeartbeats 4000000 in
theorem act16_hear (base g b : Nat) (A : Lrn) (L : HMap) (a : Option Addr) (N cp : Nat) (pl r p k m n : Int) (s : ByteArray) (w : World) (hL : LW w g b A L) (hG : GoodL A L) (hR : HdR w base (.slice a N cp) (srtB L)) (hbw : base ≤ w.heap.size) (hgb : g < base ∧ b < base) (hnd : (L.map (·.1)).Nodup) (hn : L.length ≤ 1000) (hs : s.size ≤ 9223372036854775807) (hT : Tabs w) :
    Calls Tryz.prog 22 #[.pointer (some ⟨g, 0, none⟩), rV A (.slice a N cp), .agg #[.int .i64 0, .int .i64 pl, .int .i64 r, .int .i64 p, .int .i64 k, .int .i64 m, .int .i64 n, .string s]] w
      (Both base g b (heA A L pl r p k m n s) (heL A L pl r p k m n s) w) := by
  have hrt : rightB A.c = true := by
    have := hG.c
    unfold opErr at this
    cases hh : rightB A.c
    · simp [hh] at this
    · rfl
  have cR := fun W h hw => rhear_any base A L a N cp pl r p k m n s W h hw hnd hG.vs hn hrt hs
  have cP := fun W hW (hT : Tabs W) => hear_any g b A L pl r p k m n s W hW hG hs hT (by unfold maxLen; omega)
  have hgw : g < w.heap.size ∧ b < w.heap.size := by omega
  unfold RHear at cR
  obtain ⟨⟨V1, V2, V3, V4, V5, V6, V7⟩, hV⟩ : ∃ B, heA A L pl r p k m n s = B := ⟨_, rfl⟩
  obtain ⟨L2, hL2⟩ : ∃ B, heL A L pl r p k m n s = B := ⟨_, rfl⟩
  obtain ⟨V, hV8⟩ : ∃ B, heV A L pl r p k m n s = B := ⟨_, rfl⟩
  obtain ⟨E, hE⟩ : ∃ B, heE A L pl r p k m n s = B := ⟨_, rfl⟩
  simp only [hV, hL2, hV8, hE] at cR cP ⊢
  clear hV hL2 hV8 hE hG hs hn hnd hrt
  obtain ⟨k0, m0, n0, s0, is, c, sl⟩ := A
  obtain ⟨Q, hQ⟩ : ∃ Q : Ending → World → Prop, Both base g b ⟨V1, V2, V3, V4, V5, V6, V7⟩ L2 w = Q := ⟨_, rfl⟩
  rw [hQ]
  have HQ := Lib.hid hQ
  clear hQ
  unfold rV kV at cR
  unfold bV kV at cP
  unfold rV
  simp only at cR cP ⊢
  have hb := From.refl w
  have hx := FromX.refl [g, b] w
  go_enter Tryz.func22, Tryz.ntmps22
  go_upto_region 1 with fail
  obtain ⟨gP, hgP⟩ : ∃ g, (w).heap.size = g := ⟨_, rfl⟩
  have lt_hL_P := hL.lt
  rw [hgP] at lt_hL_P
  have P := Blk.newV hgP 55 #[.int .i64 c, .int .i64 sl, .slice a N cp, .bool is, .int .i64 k0, .int .i64 m0, .int .i64 n0, .string s0]
  have hbn := (Below.refl (w).heap.size w).alloc (Nat.le_refl _) (.cells #[.int .i64 c, .int .i64 sl, .slice a N cp, .bool is, .int .i64 k0, .int .i64 m0, .int .i64 n0, .string s0] 55)
  replace hb := hb.step hbn
  replace hx := hx.step hbn
  replace hL := hL.step hbn
  replace hR := hR.step hbn
  clear hbn
  rw [hgP]
  have szP := alloc_size hgP (.cells #[.int .i64 c, .int .i64 sl, .slice a N cp, .bool is, .int .i64 k0, .int .i64 m0, .int .i64 n0, .string s0] 55)
  generalize (w).alloc (.cells #[.int .i64 c, .int .i64 sl, .slice a N cp, .bool is, .int .i64 k0, .int .i64 m0, .int .i64 n0, .string s0] 55) = w1 at *
  obtain ⟨gX, hgX⟩ : ∃ g, (w1).heap.size = g := ⟨_, rfl⟩
  have lt_hL_X := hL.lt
  rw [hgX] at lt_hL_X
  have lt_P_X := P.lt
  rw [hgX] at lt_P_X
  have X := Blk.newV hgX 77 #[.int .i64 0, .int .i64 pl, .int .i64 r, .int .i64 p, .int .i64 k, .int .i64 m, .int .i64 n, .string s]
  have hbn := (Below.refl (w1).heap.size w1).alloc (Nat.le_refl _) (.cells #[.int .i64 0, .int .i64 pl, .int .i64 r, .int .i64 p, .int .i64 k, .int .i64 m, .int .i64 n, .string s] 77)
  replace hb := hb.step hbn
  replace hx := hx.step hbn
  replace hL := hL.step hbn
  replace hR := hR.step hbn
  replace P := P.step hbn
  clear hbn
  have egX : gP + 1 = gX := szP.symm.trans hgX
  rw [egX]
  clear szP
  have szX := alloc_size hgX (.cells #[.int .i64 0, .int .i64 pl, .int .i64 r, .int .i64 p, .int .i64 k, .int .i64 m, .int .i64 n, .string s] 77)
  generalize (w1).alloc (.cells #[.int .i64 0, .int .i64 pl, .int .i64 r, .int .i64 p, .int .i64 k, .int .i64 m, .int .i64 n, .string s] 77) = w2 at *
  obtain ⟨gR, hgR⟩ : ∃ g, (w2).heap.size = g := ⟨_, rfl⟩
  have lt_hL_R := hL.lt
  rw [hgR] at lt_hL_R
  have lt_P_R := P.lt
  rw [hgR] at lt_P_R
  have lt_X_R := X.lt
  rw [hgR] at lt_X_R
  have R := Blk.newV hgR 55 #[.int .i64 0, .int .i64 0, .slice none 0 0, .bool false, .int .i64 0, .int .i64 0, .int .i64 0, .string ⟨#[]⟩]
  have hbn := (Below.refl (w2).heap.size w2).alloc (Nat.le_refl _) (.cells #[.int .i64 0, .int .i64 0, .slice none 0 0, .bool false, .int .i64 0, .int .i64 0, .int .i64 0, .string ⟨#[]⟩] 55)
  replace hb := hb.step hbn
  replace hx := hx.step hbn
  replace hL := hL.step hbn
  replace hR := hR.step hbn
  replace P := P.step hbn
  replace X := X.step hbn
  clear hbn
  have egR : gX + 1 = gR := szX.symm.trans hgR
  rw [egR]
  clear szX
  generalize (w2).alloc (.cells #[.int .i64 0, .int .i64 0, .slice none 0 0, .bool false, .int .i64 0, .int .i64 0, .int .i64 0, .string ⟨#[]⟩] 55) = w3 at *
  have hPX : gP < gX := by omega
  have hXR : gX < gR := by omega
  have hwP : w.heap.size ≤ gP := by omega
  clear hgP hgX hgR egR egX
  go_upto_region 2 with fail
  obtain ⟨gO, hgO⟩ : ∃ g, (w3).heap.size = g := ⟨_, rfl⟩
  have lt_hL_O := hL.lt
  rw [hgO] at lt_hL_O
  have lt_P_O := P.lt
  rw [hgO] at lt_P_O
  have lt_R_O := R.lt
  rw [hgO] at lt_R_O
  have lt_X_O := X.lt
  rw [hgO] at lt_X_O
  have O := Blk.newV hgO 55 #[.int .i64 0, .int .i64 0, .slice none 0 0, .bool false, .int .i64 0, .int .i64 0, .int .i64 0, .string ⟨#[]⟩]
  have hbn := (Below.refl (w3).heap.size w3).alloc (Nat.le_refl _) (.cells #[.int .i64 0, .int .i64 0, .slice none 0 0, .bool false, .int .i64 0, .int .i64 0, .int .i64 0, .string ⟨#[]⟩] 55)
  replace hb := hb.step hbn
  replace hx := hx.step hbn
  replace hL := hL.step hbn
  replace hR := hR.step hbn
  replace P := P.step hbn
  replace R := R.step hbn
  replace X := X.step hbn
  clear hbn
  rw [hgO]
  generalize (w3).alloc (.cells #[.int .i64 0, .int .i64 0, .slice none 0 0, .bool false, .int .i64 0, .int .i64 0, .int .i64 0, .string ⟨#[]⟩] 55) = w4 at *
  have hRO : gR < gO := by omega
  have X_0 := X.cell (j := 0) rfl
  have X_1 := X.cell (j := 1) rfl
  have X_2 := X.cell (j := 2) rfl
  have X_3 := X.cell (j := 3) rfl
  have X_4 := X.cell (j := 4) rfl
  have X_5 := X.cell (j := 5) rfl
  have X_6 := X.cell (j := 6) rfl
  have X_7 := X.cell (j := 7) rfl
  go_upto_region 9 with fail
  have O0 := O
  apply wp_region_lit
  refine wpList_load_row rfl 55 (.tmp 4) rfl gP (by kernel_rfl) _ _ (0, 0) _ P Tryz.underlying55 rfl (by kernel_rfl) ?_
  dsimp only [Act.put]
  refine wpList_pure (v := ?_) rfl ?_ ?_
  rotate_left
  · go_simp
    try with_reducible rfl
  dsimp only [Act.put]
  refine wpList_pure (v := ?_) rfl ?_ ?_
  rotate_left
  · go_simp
    try with_reducible rfl
  dsimp only [Act.put]
  refine wpList_pure (v := ?_) rfl ?_ ?_
  rotate_left
  · go_simp
    try with_reducible rfl
  dsimp only [Act.put]
  refine wpList_pure (v := ?_) rfl ?_ ?_
  rotate_left
  · go_simp
    try with_reducible rfl
  dsimp only [Act.put]
  refine wpList_pure (v := ?_) rfl ?_ ?_
  rotate_left
  · go_simp
    try with_reducible rfl
  dsimp only [Act.put]
  refine wpList_pure (v := ?_) rfl ?_ ?_
  rotate_left
  · go_simp
    try with_reducible rfl
  dsimp only [Act.put]
  refine wpList_plain rfl fun K hK => ?_
  go_simp
  refine (cR _ hR (Nat.le_trans hbw hb.size)).mono ?_
  rintro e w5 ⟨⟨v2, rfl, hR2⟩, hbn⟩
  obtain ⟨a2, c2, rfl, -⟩ := hR2.form
  obtain ⟨N2, hN2⟩ : ∃ n, (srtB L2).length = n := ⟨_, rfl⟩
  rw [hN2] at hR2 ⊢
  clear hN2 hR
  replace hb := hb.step hbn
  replace hx := hx.step hbn
  replace hL := hL.step hbn
  replace P := P.step hbn
  replace R := R.step hbn
  replace X := X.step hbn
  replace O := O.step hbn
  replace O0 := O0.step hbn
  clear hbn
  refine hK _ _ ?_
  clear hK K cR X_0 X_1 X_2 X_3 X_4 X_5 X_6 X_7
  refine wpList_pure (v := ?_) rfl ?_ ?_
  rotate_left
  · go_simp
    try with_reducible rfl
  dsimp only [Act.put]
  refine wpList_pure (v := ?_) rfl ?_ ?_
  rotate_left
  · go_simp
    try with_reducible rfl
  dsimp only [Act.put]
  refine wpList_pure (v := ?_) rfl ?_ ?_
  rotate_left
  · go_simp
    try with_reducible rfl
  dsimp only [Act.put]
  refine wpList_pure (v := ?_) rfl ?_ ?_
  rotate_left
  · go_simp
    try with_reducible rfl
  dsimp only [Act.put]
  refine wpList_store_rowTo rfl 55 (.tmp 8) (.tmp 37) rfl rfl gO #[.int .i64 V6, .int .i64 V7, .slice a2 N2 c2, .bool V5, .int .i64 V1, .int .i64 V2, .int .i64 V3, .string V4] (by kernel_rfl) (by kernel_rfl) _ _ O (by kernel_rfl) (by kernel_rfl) (by kernel_rfl) ?_
  have hkn := kx_row w5 gO #[.int .i64 V6, .int .i64 V7, .slice a2 N2 c2, .bool V5, .int .i64 V1, .int .i64 V2, .int .i64 V3, .string V4]
  replace O := O.row [.int .i64 V6, .int .i64 V7, .slice a2 N2 c2, .bool V5, .int .i64 V1, .int .i64 V2, .int .i64 V3, .string V4]
  generalize w5.setRow gO #[.int .i64 V6, .int .i64 V7, .slice a2 N2 c2, .bool V5, .int .i64 V1, .int .i64 V2, .int .i64 V3, .string V4] = w6 at *
  refine wpList_pure (v := ?_) rfl ?_ ?_
  rotate_left
  · go_simp
    try with_reducible rfl
  dsimp only [Act.put]
  refine wpList_pure (v := ?_) rfl ?_ ?_
  rotate_left
  · go_simp
    try with_reducible rfl
  dsimp only [Act.put]
  refine wpList_nil ?_
  have hwO : w.heap.size ≤ gO := by omega
  have ltbw := hL.ltb
  replace hR2 := hR2.kxL O0 (by decide) (by decide) hkn
  replace R := R.kx hkn (by simp; omega)
  replace X := X.kx hkn (by simp; omega)
  replace hL := hL.kx hkn (by simp; omega)
  replace hb := hb.kx hkn (by simp; omega)
  replace hx := FromX.kx hx hkn (by simp; omega)
  clear hkn P
  have X_0 := X.cell (j := 0) rfl
  have X_1 := X.cell (j := 1) rfl
  have X_2 := X.cell (j := 2) rfl
  have X_3 := X.cell (j := 3) rfl
  have X_4 := X.cell (j := 4) rfl
  have X_5 := X.cell (j := 5) rfl
  have X_6 := X.cell (j := 6) rfl
  have X_7 := X.cell (j := 7) rfl
  go_wp2_with fail
  refine (cP _ hL (hT.step hb)).mono ?_
  rintro e w7 ⟨⟨rfl, hL2⟩, hk⟩
  replace hx := FromX.kx hx hk (by simp)
  replace hR2 := hR2.kx hk (by simp; omega)
  replace R := R.kx hk (by simp; omega)
  replace O := O.kx hk (by simp; omega)
  clear hk hb hL cP X_0 X_1 X_2 X_3 X_4 X_5 X_6 X_7 X hT
  have hei : (V == V) = true := by simp
  go_upto_region 14 with fail
  have hORn : gO ∉ [gR] := by simp; omega
  have O_0 := kx_all (O.cell (j := 0) rfl) hORn
  have O_1 := kx_all (O.cell (j := 1) rfl) hORn
  have O_2 := kx_all (O.cell (j := 2) rfl) hORn
  have O_3 := kx_all (O.cell (j := 3) rfl) hORn
  have O_4 := kx_all (O.cell (j := 4) rfl) hORn
  have O_5 := kx_all (O.cell (j := 5) rfl) hORn
  have O_6 := kx_all (O.cell (j := 6) rfl) hORn
  have O_7 := kx_all (O.cell (j := 7) rfl) hORn
  clear O O0
  refine wp_region_held (S := Kx [gR] w7) (by kernel_rfl) ?_
  have hst : Below (w7).heap.size w7 { w7 with drawn := (w7).drawn + 1 } := ⟨rfl, rfl, rfl, Nat.le_refl _, fun _ _ => rfl⟩
  have hS : (Kx [gR] w7) { w7 with drawn := (w7).drawn + 1 } := by first | exact ⟨rfl, rfl, rfl, Nat.le_refl _, fun _ _ _ => rfl⟩ | exact ⟨rfl, rfl, rfl, Nat.le_refl _, fun _ _ => rfl⟩ | exact hS0
  replace hx := hx.step hst
  replace hL2 := hL2.step hst
  replace hR2 := hR2.step hst
  replace R := R.step hst
  clear hst
  generalize ({ w7 with drawn := (w7).drawn + 1 } : World) = wq at *
  refine wpAnyH_take (i := 0) (v := ?_) rfl (by kernel_rfl) (by kernel_rfl) (by kernel_rfl) (fun _ _ _ h => h) (Or.inl ⟨by kernel_rfl, ?_⟩) hS ?_
  rotate_left
  · intro W hSW
    have y0 := O_0 _ hSW
    have y1 := O_1 _ hSW
    have y2 := O_2 _ hSW
    have y3 := O_3 _ hSW
    have y4 := O_4 _ hSW
    have y5 := O_5 _ hSW
    have y6 := O_6 _ hSW
    have y7 := O_7 _ hSW
    go_simp
    try with_reducible rfl
  dsimp only [Act.put]
  refine wpAnyH_take (i := 1) (v := ?_) rfl (by kernel_rfl) (by kernel_rfl) (by kernel_rfl) (fun _ _ _ h => h) (Or.inl ⟨by kernel_rfl, ?_⟩) hS ?_
  rotate_left
  · intro W hSW
    have y0 := O_0 _ hSW
    have y1 := O_1 _ hSW
    have y2 := O_2 _ hSW
    have y3 := O_3 _ hSW
    have y4 := O_4 _ hSW
    have y5 := O_5 _ hSW
    have y6 := O_6 _ hSW
    have y7 := O_7 _ hSW
    go_simp
    try with_reducible rfl
  dsimp only [Act.put]
  refine wpAnyH_take (i := 2) (v := ?_) rfl (by kernel_rfl) (by kernel_rfl) (by kernel_rfl) (fun _ _ _ h => h) (Or.inl ⟨by kernel_rfl, ?_⟩) hS ?_
  rotate_left
  · intro W hSW
    have y0 := O_0 _ hSW
    have y1 := O_1 _ hSW
    have y2 := O_2 _ hSW
    have y3 := O_3 _ hSW
    have y4 := O_4 _ hSW
    have y5 := O_5 _ hSW
    have y6 := O_6 _ hSW
    have y7 := O_7 _ hSW
    go_simp
    try with_reducible rfl
  dsimp only [Act.put]
  refine wpAnyH_take (i := 3) (v := ?_) rfl (by kernel_rfl) (by kernel_rfl) (by kernel_rfl) (fun _ _ _ h => h) (Or.inl ⟨by kernel_rfl, ?_⟩) hS ?_
  rotate_left
  · intro W hSW
    have y0 := O_0 _ hSW
    have y1 := O_1 _ hSW
    have y2 := O_2 _ hSW
    have y3 := O_3 _ hSW
    have y4 := O_4 _ hSW
    have y5 := O_5 _ hSW
    have y6 := O_6 _ hSW
    have y7 := O_7 _ hSW
    go_simp
    try with_reducible rfl
  dsimp only [Act.put]
  refine wpAnyH_take (i := 4) (v := ?_) rfl (by kernel_rfl) (by kernel_rfl) (by kernel_rfl) (fun _ _ _ h => h) (Or.inl ⟨by kernel_rfl, ?_⟩) hS ?_
  rotate_left
  · intro W hSW
    have y0 := O_0 _ hSW
    have y1 := O_1 _ hSW
    have y2 := O_2 _ hSW
    have y3 := O_3 _ hSW
    have y4 := O_4 _ hSW
    have y5 := O_5 _ hSW
    have y6 := O_6 _ hSW
    have y7 := O_7 _ hSW
    go_simp
    try with_reducible rfl
  dsimp only [Act.put]
  refine wpAnyH_take (i := 5) (v := ?_) rfl (by kernel_rfl) (by kernel_rfl) (by kernel_rfl) (fun _ _ _ h => h) (Or.inl ⟨by kernel_rfl, ?_⟩) hS ?_
  rotate_left
  · intro W hSW
    have y0 := O_0 _ hSW
    have y1 := O_1 _ hSW
    have y2 := O_2 _ hSW
    have y3 := O_3 _ hSW
    have y4 := O_4 _ hSW
    have y5 := O_5 _ hSW
    have y6 := O_6 _ hSW
    have y7 := O_7 _ hSW
    go_simp
    try with_reducible rfl
  dsimp only [Act.put]
  clear O_0 O_1 O_2 O_3 O_4 O_5 O_6 O_7
  refine wpAnyH_ready (rs := [6, 7]) (by kernel_rfl) (by simp) ?_
  refine AllReadyH.cons rfl (fun K hK => ?_) (AllReadyH.cons rfl (fun K hK => ?_) AllReadyH.nil)
  ·
    go_simp
    refine (num16_any E _).mono ?_
    rintro e wa ⟨rfl, rfl⟩
    refine hK.out _ _ hS (fun hS => ?_)
    clear hK K
    refine wpAnyH_ready (rs := [7, 10]) (by kernel_rfl) (by simp) ?_
    refine AllReadyH.cons rfl (fun K hK => ?_) (AllReadyH.cons rfl (fun K hK => ?_) AllReadyH.nil)
    ·
      go_simp
      refine hK.out _ _ (hS) (fun hS => ?_)
      clear hK K
      refine wpAnyH_ready (rs := [8, 10]) (by kernel_rfl) (by simp) ?_
      refine AllReadyH.cons rfl (fun K hK => ?_) (AllReadyH.cons rfl (fun K hK => ?_) AllReadyH.nil)
      ·
        go_simp
        refine hK.out _ _ (hS) (fun hS => ?_)
        clear hK K
        refine wpAnyH_ready (rs := [9, 10]) (by kernel_rfl) (by simp) ?_
        refine AllReadyH.cons rfl (fun K hK => ?_) (AllReadyH.cons rfl (fun K hK => ?_) AllReadyH.nil)
        ·
          go_simp
          refine hK.out _ _ (hS) (fun hS => ?_)
          clear hK K
          refine wpAnyH_ready (rs := [10]) (by kernel_rfl) (by simp) ?_
          refine AllReadyH.cons rfl (fun K hK => ?_) AllReadyH.nil
          refine step_store_row rfl 55 (.tmp 6) (.tmp 68) rfl rfl gR #[.int .i64 V6, .int .i64 V7, .slice a2 N2 c2, .bool V5, .int .i64 V1, .int .i64 V2, .int .i64 V3, .string V4] (by kernel_rfl) (by kernel_rfl) _ _ R (by kernel_rfl) (by kernel_rfl) (by kernel_rfl) ?_
          have hkn := kx_row wq gR #[.int .i64 V6, .int .i64 V7, .slice a2 N2 c2, .bool V5, .int .i64 V1, .int .i64 V2, .int .i64 V3, .string V4]
          replace hR2 := hR2.kxL R (by decide) (by decide) hkn
          replace R := R.row [.int .i64 V6, .int .i64 V7, .slice a2 N2 c2, .bool V5, .int .i64 V1, .int .i64 V2, .int .i64 V3, .string V4]
          replace hx := FromX.kx hx hkn (by simp; omega)
          replace hL2 := hL2.kx hkn (by simp; omega)
          refine hK.out _ _ (hS.trans hkn) (fun hS => ?_)
          generalize wq.setRow gR #[.int .i64 V6, .int .i64 V7, .slice a2 N2 c2, .bool V5, .int .i64 V1, .int .i64 V2, .int .i64 V3, .string V4] = wd at *
          clear hkn
          clear hK K
          refine wpAnyH_ready (rs := [11]) (by kernel_rfl) (by simp) ?_
          refine AllReadyH.cons rfl (fun K hK => ?_) AllReadyH.nil
          go_simp
          refine hK.out _ _ (hS) (fun hS => ?_)
          clear hK K
          refine wpAnyH_done (by kernel_rfl) ?_ _
          go_wp2_with fail
          (try simp only [Exit.inBlock, Exit.then])
          refine bodyPost_ret (v := .tuple #[.agg #[.int .i64 V6, .int .i64 V7, .slice a2 N2 c2, .bool V5, .int .i64 V1, .int .i64 V2, .int .i64 V3, .string V4], .bool true]) (res_cell1t rfl (by kernel_rfl) (by kernel_rfl) (run_loadVar_row _ _ _ _ _ (0, 0) _ R Tryz.underlying55 rfl (by kernel_rfl))) rfl ?_
          rw [← HQ.out]
          exact ⟨⟨_, rfl, hR2, hL2⟩, hx⟩
        ·
          refine step_store_row rfl 55 (.tmp 6) (.tmp 68) rfl rfl gR #[.int .i64 V6, .int .i64 V7, .slice a2 N2 c2, .bool V5, .int .i64 V1, .int .i64 V2, .int .i64 V3, .string V4] (by kernel_rfl) (by kernel_rfl) _ _ R (by kernel_rfl) (by kernel_rfl) (by kernel_rfl) ?_
          have hkn := kx_row wq gR #[.int .i64 V6, .int .i64 V7, .slice a2 N2 c2, .bool V5, .int .i64 V1, .int .i64 V2, .int .i64 V3, .string V4]
          replace hR2 := hR2.kxL R (by decide) (by decide) hkn
          replace R := R.row [.int .i64 V6, .int .i64 V7, .slice a2 N2 c2, .bool V5, .int .i64 V1, .int .i64 V2, .int .i64 V3, .string V4]
          replace hx := FromX.kx hx hkn (by simp; omega)
          replace hL2 := hL2.kx hkn (by simp; omega)
          refine hK.out _ _ (hS.trans hkn) (fun hS => ?_)
          generalize wq.setRow gR #[.int .i64 V6, .int .i64 V7, .slice a2 N2 c2, .bool V5, .int .i64 V1, .int .i64 V2, .int .i64 V3, .string V4] = wd at *
          clear hkn
          clear hK K
          refine wpAnyH_ready (rs := [9]) (by kernel_rfl) (by simp) ?_
          refine AllReadyH.cons rfl (fun K hK => ?_) AllReadyH.nil
          go_simp
          refine hK.out _ _ (hS) (fun hS => ?_)
          clear hK K
          refine wpAnyH_ready (rs := [11]) (by kernel_rfl) (by simp) ?_
          refine AllReadyH.cons rfl (fun K hK => ?_) AllReadyH.nil
          go_simp
          refine hK.out _ _ (hS) (fun hS => ?_)
          clear hK K
          refine wpAnyH_done (by kernel_rfl) ?_ _
          go_wp2_with fail
          (try simp only [Exit.inBlock, Exit.then])
          refine bodyPost_ret (v := .tuple #[.agg #[.int .i64 V6, .int .i64 V7, .slice a2 N2 c2, .bool V5, .int .i64 V1, .int .i64 V2, .int .i64 V3, .string V4], .bool true]) (res_cell1t rfl (by kernel_rfl) (by kernel_rfl) (run_loadVar_row _ _ _ _ _ (0, 0) _ R Tryz.underlying55 rfl (by kernel_rfl))) rfl ?_
          rw [← HQ.out]
          exact ⟨⟨_, rfl, hR2, hL2⟩, hx⟩
      ·
        refine step_store_row rfl 55 (.tmp 6) (.tmp 68) rfl rfl gR #[.int .i64 V6, .int .i64 V7, .slice a2 N2 c2, .bool V5, .int .i64 V1, .int .i64 V2, .int .i64 V3, .string V4] (by kernel_rfl) (by kernel_rfl) _ _ R (by kernel_rfl) (by kernel_rfl) (by kernel_rfl) ?_
        have hkn := kx_row wq gR #[.int .i64 V6, .int .i64 V7, .slice a2 N2 c2, .bool V5, .int .i64 V1, .int .i64 V2, .int .i64 V3, .string V4]
        replace hR2 := hR2.kxL R (by decide) (by decide) hkn
        replace R := R.row [.int .i64 V6, .int .i64 V7, .slice a2 N2 c2, .bool V5, .int .i64 V1, .int .i64 V2, .int .i64 V3, .string V4]
        replace hx := FromX.kx hx hkn (by simp; omega)
        replace hL2 := hL2.kx hkn (by simp; omega)
        refine hK.out _ _ (hS.trans hkn) (fun hS => ?_)
        generalize wq.setRow gR #[.int .i64 V6, .int .i64 V7, .slice a2 N2 c2, .bool V5, .int .i64 V1, .int .i64 V2, .int .i64 V3, .string V4] = wd at *
        clear hkn
        clear hK K
        refine wpAnyH_ready (rs := [8]) (by kernel_rfl) (by simp) ?_
        refine AllReadyH.cons rfl (fun K hK => ?_) AllReadyH.nil
        go_simp
        refine hK.out _ _ (hS) (fun hS => ?_)
        clear hK K
        refine wpAnyH_ready (rs := [9]) (by kernel_rfl) (by simp) ?_
        refine AllReadyH.cons rfl (fun K hK => ?_) AllReadyH.nil
        go_simp
        refine hK.out _ _ (hS) (fun hS => ?_)
        clear hK K
        refine wpAnyH_ready (rs := [11]) (by kernel_rfl) (by simp) ?_
        refine AllReadyH.cons rfl (fun K hK => ?_) AllReadyH.nil
        go_simp
        refine hK.out _ _ (hS) (fun hS => ?_)
        clear hK K
        refine wpAnyH_done (by kernel_rfl) ?_ _
        go_wp2_with fail
        (try simp only [Exit.inBlock, Exit.then])
        refine bodyPost_ret (v := .tuple #[.agg #[.int .i64 V6, .int .i64 V7, .slice a2 N2 c2, .bool V5, .int .i64 V1, .int .i64 V2, .int .i64 V3, .string V4], .bool true]) (res_cell1t rfl (by kernel_rfl) (by kernel_rfl) (run_loadVar_row _ _ _ _ _ (0, 0) _ R Tryz.underlying55 rfl (by kernel_rfl))) rfl ?_
        rw [← HQ.out]
        exact ⟨⟨_, rfl, hR2, hL2⟩, hx⟩
    ·
      refine step_store_row rfl 55 (.tmp 6) (.tmp 68) rfl rfl gR #[.int .i64 V6, .int .i64 V7, .slice a2 N2 c2, .bool V5, .int .i64 V1, .int .i64 V2, .int .i64 V3, .string V4] (by kernel_rfl) (by kernel_rfl) _ _ R (by kernel_rfl) (by kernel_rfl) (by kernel_rfl) ?_
      have hkn := kx_row wq gR #[.int .i64 V6, .int .i64 V7, .slice a2 N2 c2, .bool V5, .int .i64 V1, .int .i64 V2, .int .i64 V3, .string V4]
      replace hR2 := hR2.kxL R (by decide) (by decide) hkn
      replace R := R.row [.int .i64 V6, .int .i64 V7, .slice a2 N2 c2, .bool V5, .int .i64 V1, .int .i64 V2, .int .i64 V3, .string V4]
      replace hx := FromX.kx hx hkn (by simp; omega)
      replace hL2 := hL2.kx hkn (by simp; omega)
      refine hK.out _ _ (hS.trans hkn) (fun hS => ?_)
      generalize wq.setRow gR #[.int .i64 V6, .int .i64 V7, .slice a2 N2 c2, .bool V5, .int .i64 V1, .int .i64 V2, .int .i64 V3, .string V4] = wd at *
      clear hkn
      clear hK K
      refine wpAnyH_ready (rs := [7]) (by kernel_rfl) (by simp) ?_
      refine AllReadyH.cons rfl (fun K hK => ?_) AllReadyH.nil
      go_simp
      refine hK.out _ _ (hS) (fun hS => ?_)
      clear hK K
      refine wpAnyH_ready (rs := [8]) (by kernel_rfl) (by simp) ?_
      refine AllReadyH.cons rfl (fun K hK => ?_) AllReadyH.nil
      go_simp
      refine hK.out _ _ (hS) (fun hS => ?_)
      clear hK K
      refine wpAnyH_ready (rs := [9]) (by kernel_rfl) (by simp) ?_
      refine AllReadyH.cons rfl (fun K hK => ?_) AllReadyH.nil
      go_simp
      refine hK.out _ _ (hS) (fun hS => ?_)
      clear hK K
      refine wpAnyH_ready (rs := [11]) (by kernel_rfl) (by simp) ?_
      refine AllReadyH.cons rfl (fun K hK => ?_) AllReadyH.nil
      go_simp
      refine hK.out _ _ (hS) (fun hS => ?_)
      clear hK K
      refine wpAnyH_done (by kernel_rfl) ?_ _
      go_wp2_with fail
      (try simp only [Exit.inBlock, Exit.then])
      refine bodyPost_ret (v := .tuple #[.agg #[.int .i64 V6, .int .i64 V7, .slice a2 N2 c2, .bool V5, .int .i64 V1, .int .i64 V2, .int .i64 V3, .string V4], .bool true]) (res_cell1t rfl (by kernel_rfl) (by kernel_rfl) (run_loadVar_row _ _ _ _ _ (0, 0) _ R Tryz.underlying55 rfl (by kernel_rfl))) rfl ?_
      rw [← HQ.out]
      exact ⟨⟨_, rfl, hR2, hL2⟩, hx⟩
  ·
    go_simp
    refine hK.out _ _ (hS) (fun hS => ?_)
    clear hK K
    refine wpAnyH_ready (rs := [6]) (by kernel_rfl) (by simp) ?_
    refine AllReadyH.cons rfl (fun K hK => ?_) AllReadyH.nil
    go_simp
    refine (num16_any E _).mono ?_
    rintro e wa ⟨rfl, rfl⟩
    refine hK.out _ _ hS (fun hS => ?_)
    clear hK K
    refine wpAnyH_ready (rs := [8, 10]) (by kernel_rfl) (by simp) ?_
    refine AllReadyH.cons rfl (fun K hK => ?_) (AllReadyH.cons rfl (fun K hK => ?_) AllReadyH.nil)
    ·
      go_simp
      refine hK.out _ _ (hS) (fun hS => ?_)
      clear hK K
      refine wpAnyH_ready (rs := [9, 10]) (by kernel_rfl) (by simp) ?_
      refine AllReadyH.cons rfl (fun K hK => ?_) (AllReadyH.cons rfl (fun K hK => ?_) AllReadyH.nil)
      ·
        go_simp
        refine hK.out _ _ (hS) (fun hS => ?_)
        clear hK K
        refine wpAnyH_ready (rs := [10]) (by kernel_rfl) (by simp) ?_
        refine AllReadyH.cons rfl (fun K hK => ?_) AllReadyH.nil
        refine step_store_row rfl 55 (.tmp 6) (.tmp 68) rfl rfl gR #[.int .i64 V6, .int .i64 V7, .slice a2 N2 c2, .bool V5, .int .i64 V1, .int .i64 V2, .int .i64 V3, .string V4] (by kernel_rfl) (by kernel_rfl) _ _ R (by kernel_rfl) (by kernel_rfl) (by kernel_rfl) ?_
        have hkn := kx_row wq gR #[.int .i64 V6, .int .i64 V7, .slice a2 N2 c2, .bool V5, .int .i64 V1, .int .i64 V2, .int .i64 V3, .string V4]
        replace hR2 := hR2.kxL R (by decide) (by decide) hkn
        replace R := R.row [.int .i64 V6, .int .i64 V7, .slice a2 N2 c2, .bool V5, .int .i64 V1, .int .i64 V2, .int .i64 V3, .string V4]
        replace hx := FromX.kx hx hkn (by simp; omega)
        replace hL2 := hL2.kx hkn (by simp; omega)
        refine hK.out _ _ (hS.trans hkn) (fun hS => ?_)
        generalize wq.setRow gR #[.int .i64 V6, .int .i64 V7, .slice a2 N2 c2, .bool V5, .int .i64 V1, .int .i64 V2, .int .i64 V3, .string V4] = wd at *
        clear hkn
        clear hK K
        refine wpAnyH_ready (rs := [11]) (by kernel_rfl) (by simp) ?_
        refine AllReadyH.cons rfl (fun K hK => ?_) AllReadyH.nil
        go_simp
        refine hK.out _ _ (hS) (fun hS => ?_)
        clear hK K
        refine wpAnyH_done (by kernel_rfl) ?_ _
        go_wp2_with fail
        (try simp only [Exit.inBlock, Exit.then])
        refine bodyPost_ret (v := .tuple #[.agg #[.int .i64 V6, .int .i64 V7, .slice a2 N2 c2, .bool V5, .int .i64 V1, .int .i64 V2, .int .i64 V3, .string V4], .bool true]) (res_cell1t rfl (by kernel_rfl) (by kernel_rfl) (run_loadVar_row _ _ _ _ _ (0, 0) _ R Tryz.underlying55 rfl (by kernel_rfl))) rfl ?_
        rw [← HQ.out]
        exact ⟨⟨_, rfl, hR2, hL2⟩, hx⟩
      ·
        refine step_store_row rfl 55 (.tmp 6) (.tmp 68) rfl rfl gR #[.int .i64 V6, .int .i64 V7, .slice a2 N2 c2, .bool V5, .int .i64 V1, .int .i64 V2, .int .i64 V3, .string V4] (by kernel_rfl) (by kernel_rfl) _ _ R (by kernel_rfl) (by kernel_rfl) (by kernel_rfl) ?_
        have hkn := kx_row wq gR #[.int .i64 V6, .int .i64 V7, .slice a2 N2 c2, .bool V5, .int .i64 V1, .int .i64 V2, .int .i64 V3, .string V4]
        replace hR2 := hR2.kxL R (by decide) (by decide) hkn
        replace R := R.row [.int .i64 V6, .int .i64 V7, .slice a2 N2 c2, .bool V5, .int .i64 V1, .int .i64 V2, .int .i64 V3, .string V4]
        replace hx := FromX.kx hx hkn (by simp; omega)
        replace hL2 := hL2.kx hkn (by simp; omega)
        refine hK.out _ _ (hS.trans hkn) (fun hS => ?_)
        generalize wq.setRow gR #[.int .i64 V6, .int .i64 V7, .slice a2 N2 c2, .bool V5, .int .i64 V1, .int .i64 V2, .int .i64 V3, .string V4] = wd at *
        clear hkn
        clear hK K
        refine wpAnyH_ready (rs := [9]) (by kernel_rfl) (by simp) ?_
        refine AllReadyH.cons rfl (fun K hK => ?_) AllReadyH.nil
        go_simp
        refine hK.out _ _ (hS) (fun hS => ?_)
        clear hK K
        refine wpAnyH_ready (rs := [11]) (by kernel_rfl) (by simp) ?_
        refine AllReadyH.cons rfl (fun K hK => ?_) AllReadyH.nil
        go_simp
        refine hK.out _ _ (hS) (fun hS => ?_)
        clear hK K
        refine wpAnyH_done (by kernel_rfl) ?_ _
        go_wp2_with fail
        (try simp only [Exit.inBlock, Exit.then])
        refine bodyPost_ret (v := .tuple #[.agg #[.int .i64 V6, .int .i64 V7, .slice a2 N2 c2, .bool V5, .int .i64 V1, .int .i64 V2, .int .i64 V3, .string V4], .bool true]) (res_cell1t rfl (by kernel_rfl) (by kernel_rfl) (run_loadVar_row _ _ _ _ _ (0, 0) _ R Tryz.underlying55 rfl (by kernel_rfl))) rfl ?_
        rw [← HQ.out]
        exact ⟨⟨_, rfl, hR2, hL2⟩, hx⟩
    ·
      refine step_store_row rfl 55 (.tmp 6) (.tmp 68) rfl rfl gR #[.int .i64 V6, .int .i64 V7, .slice a2 N2 c2, .bool V5, .int .i64 V1, .int .i64 V2, .int .i64 V3, .string V4] (by kernel_rfl) (by kernel_rfl) _ _ R (by kernel_rfl) (by kernel_rfl) (by kernel_rfl) ?_
      have hkn := kx_row wq gR #[.int .i64 V6, .int .i64 V7, .slice a2 N2 c2, .bool V5, .int .i64 V1, .int .i64 V2, .int .i64 V3, .string V4]
      replace hR2 := hR2.kxL R (by decide) (by decide) hkn
      replace R := R.row [.int .i64 V6, .int .i64 V7, .slice a2 N2 c2, .bool V5, .int .i64 V1, .int .i64 V2, .int .i64 V3, .string V4]
      replace hx := FromX.kx hx hkn (by simp; omega)
      replace hL2 := hL2.kx hkn (by simp; omega)
      refine hK.out _ _ (hS.trans hkn) (fun hS => ?_)
      generalize wq.setRow gR #[.int .i64 V6, .int .i64 V7, .slice a2 N2 c2, .bool V5, .int .i64 V1, .int .i64 V2, .int .i64 V3, .string V4] = wd at *
      clear hkn
      clear hK K
      refine wpAnyH_ready (rs := [8]) (by kernel_rfl) (by simp) ?_
      refine AllReadyH.cons rfl (fun K hK => ?_) AllReadyH.nil
      go_simp
      refine hK.out _ _ (hS) (fun hS => ?_)
      clear hK K
      refine wpAnyH_ready (rs := [9]) (by kernel_rfl) (by simp) ?_
      refine AllReadyH.cons rfl (fun K hK => ?_) AllReadyH.nil
      go_simp
      refine hK.out _ _ (hS) (fun hS => ?_)
      clear hK K
      refine wpAnyH_ready (rs := [11]) (by kernel_rfl) (by simp) ?_
      refine AllReadyH.cons rfl (fun K hK => ?_) AllReadyH.nil
      go_simp
      refine hK.out _ _ (hS) (fun hS => ?_)
      clear hK K
      refine wpAnyH_done (by kernel_rfl) ?_ _
      go_wp2_with fail
      (try simp only [Exit.inBlock, Exit.then])
      refine bodyPost_ret (v := .tuple #[.agg #[.int .i64 V6, .int .i64 V7, .slice a2 N2 c2, .bool V5, .int .i64 V1, .int .i64 V2, .int .i64 V3, .string V4], .bool true]) (res_cell1t rfl (by kernel_rfl) (by kernel_rfl) (run_loadVar_row _ _ _ _ _ (0, 0) _ R Tryz.underlying55 rfl (by kernel_rfl))) rfl ?_
      rw [← HQ.out]
      exact ⟨⟨_, rfl, hR2, hL2⟩, hx⟩
end Go.Proofs.YthhpblchiodahaaGreatDoor
