
/- Package learner: New, Chosen, knows, majority, Told, Skipped. -/
import Derived.Test.YthhpblchiodahaaGreatDoorLnC
import Derived.WideMake
namespace Go.Proofs.YthhpblchiodahaaGreatDoor
set_option linter.unusedSimpArgs false
set_option linter.unusedVariables false
open Go.RowKit Go.Maps
def newA (c sl : Int) : Lrn := ⟨0, 0, 0, ⟨#[]⟩, false, c, sl⟩
set_option maxRecDepth 100000 in
set_option maxHeartbeats 1000000 in
theorem new16_no (c sl : Int) (w : World) (h : opErr c sl ≠ 0) : Calls Tryz.prog 9 #[.int .i64 c, .int .i64 sl] w fun e w' => e = .returned (.tuple #[.pointer none, .int .i64 (opErr c sl)]) ∧ Below w.heap.size w w' := by
  have cO := fun W => owner_any c sl W
  have h2 : ((opErr c sl) != 0) = true := by simpa using h
  generalize opErr c sl = E at *
  generalize ownerI c sl = V at *
  go_enter Tryz.func9, Tryz.ntmps9
  go_wp2_with fail
  refine (cO _).mono ?_
  rintro e w1 ⟨rfl, hb⟩
  go_wp2_with fail
  go_returns
  exact ⟨rfl, hb⟩
set_option maxRecDepth 100000 in
set_option maxHeartbeats 1000000 in
theorem new16_ok (c sl : Int) (w : World) (h : opErr c sl = 0) : Calls Tryz.prog 9 #[.int .i64 c, .int .i64 sl] w fun e w' => (∃ g b, e = .returned (.tuple #[.pointer (some ⟨g, 0, none⟩), .int .i64 0]) ∧ LW w' g b (newA c sl) [] ∧ w.heap.size ≤ g ∧ w.heap.size ≤ b) ∧ Below w.heap.size w w' := by
  have cO := fun W => owner_any c sl W
  rw [h] at cO
  clear h
  generalize ownerI c sl = V at *
  have hmm := @run_makeMap Tryz.prog
  have hb := From.refl w
  go_enter Tryz.func9, Tryz.ntmps9
  go_wp2_with fail
  refine (cO _).mono ?_
  rintro e w1 ⟨rfl, hbn⟩
  replace hb := hb.step hbn
  clear hbn cO
  go_wp2_with fail
  go_returns
  obtain ⟨b, hb1⟩ : ∃ b, w1.heap.size = b := ⟨_, rfl⟩
  have hM := MapG.made (P := Tryz.prog) (k := 66) (ek := ekB) (ev := evH) w1
  have hbn := (Below.refl w1.heap.size w1).alloc (Nat.le_refl _) (.map #[] 0)
  have hbz := hb.size
  have hz2 : (w1.alloc (.map #[] 0)).heap.size = b + 1 := by rw [← hb1]; exact Array.size_push ..
  rw [hb1] at hM hbz ⊢
  replace hb := hb.step hbn
  generalize w1.alloc (.map #[] 0) = w2 at *
  have hB := Blk.newV hz2 62 #[.int .i64 0, .int .i64 0, .int .i64 0, .string ⟨#[]⟩, .bool false, .int .i64 c, .int .i64 sl, .map (some b)]
  have hbn2 := (Below.refl w2.heap.size w2).alloc (Nat.le_refl _) (.cells #[.int .i64 0, .int .i64 0, .int .i64 0, .string ⟨#[]⟩, .bool false, .int .i64 c, .int .i64 sl, .map (some b)] 62)
  exact ⟨⟨b + 1, b, rfl, ⟨hB, MapG.step hM hbn2⟩, by omega, by omega⟩, hb.step hbn2⟩
def kV (k m n : Int) (s : ByteArray) : Value := .agg #[.int .i64 k, .int .i64 m, .int .i64 n, .string s]
set_option maxRecDepth 100000 in
set_option maxHeartbeats 1000000 in
theorem chosen_at (g b : Nat) (A : Lrn) (L : HMap) (w : World) (h : LW w g b A L) (hc : A.c ≠ 0) : Calls Tryz.prog 18 #[.pointer (some ⟨g, 0, none⟩)] w fun e w' => e = .returned (.tuple #[kV A.k A.m A.n A.s, .bool A.is]) ∧ Below w.heap.size w w' := by
  unfold kV
  obtain ⟨k, m, n, s, is, c, sl⟩ := A
  obtain ⟨hB, hM⟩ := h
  simp only at hc ⊢
  have hcb : (c == 0) = false := by simpa using hc
  have cN := fun W hW => none16_at g c false W hcb hW
  have hb := From.refl w
  go_enter Tryz.func18, Tryz.ntmps18
  go_upto_region 1 with fail
  obtain ⟨gX, hgX⟩ : ∃ g, (w).heap.size = g := ⟨_, rfl⟩
  have lt_hB_X := hB.lt
  rw [hgX] at lt_hB_X
  have X := Blk.newV hgX 24 #[.int .i64 0, .int .i64 0, .int .i64 0, .string ⟨#[]⟩]
  have hbn := (Below.refl (w).heap.size w).alloc (Nat.le_refl _) (.cells #[.int .i64 0, .int .i64 0, .int .i64 0, .string ⟨#[]⟩] 24)
  replace hb := hb.step hbn
  replace hB := hB.step hbn
  clear hbn
  rw [hgX]
  generalize (w).alloc (.cells #[.int .i64 0, .int .i64 0, .int .i64 0, .string ⟨#[]⟩] 24) = w1 at *
  go_wp2_with fail
  refine (cN _ (hB.cell (j := 5) rfl)).mono ?_
  rintro e w2 ⟨rfl, rfl⟩
  go_upto_region 3 with fail
  have hgX2 : g ∉ [gX] := by simp; omega
  have hB_0 := kx_all (hB.cell (j := 0) rfl) hgX2
  have hB_1 := kx_all (hB.cell (j := 1) rfl) hgX2
  have hB_2 := kx_all (hB.cell (j := 2) rfl) hgX2
  have hB_3 := kx_all (hB.cell (j := 3) rfl) hgX2
  have hB_4 := kx_all (hB.cell (j := 4) rfl) hgX2
  have hB_5 := kx_all (hB.cell (j := 5) rfl) hgX2
  have hB_6 := kx_all (hB.cell (j := 6) rfl) hgX2
  have hB_7 := kx_all (hB.cell (j := 7) rfl) hgX2
  refine wp_region_held (S := Kx [gX] w1) (by kernel_rfl) ?_
  have hst : Below (w1).heap.size w1 { w1 with drawn := (w1).drawn + 1 } := ⟨rfl, rfl, rfl, Nat.le_refl _, fun _ _ => rfl⟩
  have hS : (Kx [gX] w1) { w1 with drawn := (w1).drawn + 1 } := by first | exact ⟨rfl, rfl, rfl, Nat.le_refl _, fun _ _ _ => rfl⟩ | exact ⟨rfl, rfl, rfl, Nat.le_refl _, fun _ _ => rfl⟩ | exact hS0
  replace hb := hb.step hst
  replace X := X.step hst
  clear hst
  generalize ({ w1 with drawn := (w1).drawn + 1 } : World) = wq at *
  refine wpAnyH_take (i := 0) (v := ?_) rfl (by kernel_rfl) (by kernel_rfl) (by kernel_rfl) (fun _ _ _ h => h) (Or.inl ⟨by kernel_rfl, ?_⟩) hS ?_
  rotate_left
  · intro W hSW
    have y0 := hB_0 _ hSW
    have y1 := hB_1 _ hSW
    have y2 := hB_2 _ hSW
    have y3 := hB_3 _ hSW
    have y4 := hB_4 _ hSW
    go_simp
    try with_reducible rfl
  dsimp only [Act.put]
  refine wpAnyH_take (i := 1) (v := ?_) rfl (by kernel_rfl) (by kernel_rfl) (by kernel_rfl) (fun _ _ _ h => h) (Or.inl ⟨by kernel_rfl, ?_⟩) hS ?_
  rotate_left
  · intro W hSW
    have y0 := hB_0 _ hSW
    have y1 := hB_1 _ hSW
    have y2 := hB_2 _ hSW
    have y3 := hB_3 _ hSW
    have y4 := hB_4 _ hSW
    go_simp
    try with_reducible rfl
  dsimp only [Act.put]
  refine wpAnyH_take (i := 2) (v := ?_) rfl (by kernel_rfl) (by kernel_rfl) (by kernel_rfl) (fun _ _ _ h => h) (Or.inl ⟨by kernel_rfl, ?_⟩) hS ?_
  rotate_left
  · intro W hSW
    have y0 := hB_0 _ hSW
    have y1 := hB_1 _ hSW
    have y2 := hB_2 _ hSW
    have y3 := hB_3 _ hSW
    have y4 := hB_4 _ hSW
    go_simp
    try with_reducible rfl
  dsimp only [Act.put]
  refine wpAnyH_take (i := 3) (v := ?_) rfl (by kernel_rfl) (by kernel_rfl) (by kernel_rfl) (fun _ _ _ h => h) (Or.inl ⟨by kernel_rfl, ?_⟩) hS ?_
  rotate_left
  · intro W hSW
    have y0 := hB_0 _ hSW
    have y1 := hB_1 _ hSW
    have y2 := hB_2 _ hSW
    have y3 := hB_3 _ hSW
    have y4 := hB_4 _ hSW
    go_simp
    try with_reducible rfl
  dsimp only [Act.put]
  refine wpAnyH_take (i := 4) (v := ?_) rfl (by kernel_rfl) (by kernel_rfl) (by kernel_rfl) (fun _ _ _ h => h) (Or.inl ⟨by kernel_rfl, ?_⟩) hS ?_
  rotate_left
  · intro W hSW
    have y0 := hB_0 _ hSW
    have y1 := hB_1 _ hSW
    have y2 := hB_2 _ hSW
    have y3 := hB_3 _ hSW
    have y4 := hB_4 _ hSW
    go_simp
    try with_reducible rfl
  dsimp only [Act.put]
  refine wpAnyH_take (i := 5) (v := ?_) rfl (by kernel_rfl) (by kernel_rfl) (by kernel_rfl) (fun _ _ _ h => h) (Or.inl ⟨by kernel_rfl, ?_⟩) hS ?_
  rotate_left
  · intro W hSW
    have y0 := hB_0 _ hSW
    have y1 := hB_1 _ hSW
    have y2 := hB_2 _ hSW
    have y3 := hB_3 _ hSW
    have y4 := hB_4 _ hSW
    go_simp
    try with_reducible rfl
  dsimp only [Act.put]
  refine wpAnyH_take (i := 6) (v := ?_) rfl (by kernel_rfl) (by kernel_rfl) (by kernel_rfl) (fun _ _ _ h => h) (Or.inl ⟨by kernel_rfl, ?_⟩) hS ?_
  rotate_left
  · intro W hSW
    have y0 := hB_0 _ hSW
    have y1 := hB_1 _ hSW
    have y2 := hB_2 _ hSW
    have y3 := hB_3 _ hSW
    have y4 := hB_4 _ hSW
    go_simp
    try with_reducible rfl
  dsimp only [Act.put]
  refine wpAnyH_take (i := 7) (v := ?_) rfl (by kernel_rfl) (by kernel_rfl) (by kernel_rfl) (fun _ _ _ h => h) (Or.inl ⟨by kernel_rfl, ?_⟩) hS ?_
  rotate_left
  · intro W hSW
    have y0 := hB_0 _ hSW
    have y1 := hB_1 _ hSW
    have y2 := hB_2 _ hSW
    have y3 := hB_3 _ hSW
    have y4 := hB_4 _ hSW
    go_simp
    try with_reducible rfl
  dsimp only [Act.put]
  refine wpAnyH_take (i := 8) (v := ?_) rfl (by kernel_rfl) (by kernel_rfl) (by kernel_rfl) (fun _ _ _ h => h) (Or.inl ⟨by kernel_rfl, ?_⟩) hS ?_
  rotate_left
  · intro W hSW
    have y0 := hB_0 _ hSW
    have y1 := hB_1 _ hSW
    have y2 := hB_2 _ hSW
    have y3 := hB_3 _ hSW
    have y4 := hB_4 _ hSW
    go_simp
    try with_reducible rfl
  dsimp only [Act.put]
  refine wpAnyH_take (i := 9) (v := ?_) rfl (by kernel_rfl) (by kernel_rfl) (by kernel_rfl) (fun _ _ _ h => h) (Or.inl ⟨by kernel_rfl, ?_⟩) hS ?_
  rotate_left
  · intro W hSW
    have y0 := hB_0 _ hSW
    have y1 := hB_1 _ hSW
    have y2 := hB_2 _ hSW
    have y3 := hB_3 _ hSW
    have y4 := hB_4 _ hSW
    go_simp
    try with_reducible rfl
  dsimp only [Act.put]
  have X_0 := X.cell (j := 0) rfl
  have X_1 := X.cell (j := 1) rfl
  have X_2 := X.cell (j := 2) rfl
  have X_3 := X.cell (j := 3) rfl
  have Xf0 := X.frozen 0
  have Xf1 := X.frozen 1
  have Xf2 := X.frozen 2
  have Xf3 := X.frozen 3
  refine wpAnyH_ready (rs := [10]) (by kernel_rfl) (by simp) ?_
  refine AllReadyH.cons rfl (fun K hK => ?_) AllReadyH.nil
  go_simp
  have hkn : Kx [gX] wq ((((wq.setCell ⟨gX, 0, none⟩ (.int .i64 k)).setCell ⟨gX, 1, none⟩ (.int .i64 m)).setCell ⟨gX, 2, none⟩ (.int .i64 n)).setCell ⟨gX, 3, none⟩ (.string s)) := Kx.setCells [.int .i64 k, .int .i64 m, .int .i64 n, .string s] 0 _ (Kx.refl _ _) (.inl (by simp))
  replace X : Blk ((((wq.setCell ⟨gX, 0, none⟩ (.int .i64 k)).setCell ⟨gX, 1, none⟩ (.int .i64 m)).setCell ⟨gX, 2, none⟩ (.int .i64 n)).setCell ⟨gX, 3, none⟩ (.string s)) gX 24 [.int .i64 k, .int .i64 m, .int .i64 n, .string s] := Blk.puts [.int .i64 k, .int .i64 m, .int .i64 n, .string s] X rfl
  replace hb := hb.kx hkn (by first | (simp; done) | (simp; omega))
  replace hS := hS.kx hkn (by first | (simp; done) | (simp; omega))
  clear hkn
  generalize (((wq.setCell ⟨gX, 0, none⟩ (.int .i64 k)).setCell ⟨gX, 1, none⟩ (.int .i64 m)).setCell ⟨gX, 2, none⟩ (.int .i64 n)).setCell ⟨gX, 3, none⟩ (.string s) = ws at *
  refine hK.out _ _ hS (fun hS => ?_)
  clear hK K
  refine wpAnyH_ready (rs := [11]) (by kernel_rfl) (by simp) ?_
  refine AllReadyH.cons rfl (fun K hK => ?_) AllReadyH.nil
  go_simp
  refine hK.out _ _ (hS) (fun hS => ?_)
  clear hK K
  refine wpAnyH_done (by kernel_rfl) ?_ _
  clear hS hB
  have X_0 := X.cell (j := 0) rfl
  have X_1 := X.cell (j := 1) rfl
  have X_2 := X.cell (j := 2) rfl
  have X_3 := X.cell (j := 3) rfl
  go_wp2_with fail
  (try simp only [Exit.inBlock, Exit.then])
  refine bodyPost_ret (v := .tuple #[.agg #[.int .i64 k, .int .i64 m, .int .i64 n, .string s], .bool is]) ?_ rfl ⟨rfl, by first | exact hb | (rw [← hgX]; exact hb)⟩
  rw [r_cell1t rfl]
  go_simp
set_option maxRecDepth 100000 in
set_option maxHeartbeats 1000000 in
theorem kn1_any (bp g b : Nat) (A : Lrn) (L : HMap) (k m n : Int) (s : ByteArray) (w : World) (h : LW w g b A L) (hp : Blk w bp 41 [.pointer (some ⟨g, 0, none⟩)]) :
    Calls Tryz.prog 74 #[kV k m n s, .pointer (some ⟨bp, 0, none⟩)] w fun e w' => (e = .returned (.tuple #[.bool (knV A), .int .i64 (knE A k m n s)]) ∧ LW w' g b (knowA A k m n s) L) ∧ Kx [g] w w' := by
  unfold kV knV knE
  have hq : eqE A k m n s = eq4 A.k A.m A.n A.s k m n s := rfl
  rw [hq]
  have hbg := h.ne
  obtain ⟨k0, m0, n0, s0, is, c, sl⟩ := A
  obtain ⟨hB, hM⟩ := h
  simp only
  have he := fun W => ne_entry k0 m0 n0 s0 k m n s W
  generalize eq4 k0 m0 n0 s0 k m n s = Q at *
  have hx := FromX.refl [g] w
  cases is
  · go_enter Tryz.func74, Tryz.ntmps74
    go_upto_region 1 with fail
    obtain ⟨gX, hgX⟩ : ∃ g, (w).heap.size = g := ⟨_, rfl⟩
    have lt_hB_X := hB.lt
    rw [hgX] at lt_hB_X
    have lt_hp_X := hp.lt
    rw [hgX] at lt_hp_X
    have X := Blk.newV hgX 24 #[.int .i64 k, .int .i64 m, .int .i64 n, .string s]
    have hbn := (Below.refl (w).heap.size w).alloc (Nat.le_refl _) (.cells #[.int .i64 k, .int .i64 m, .int .i64 n, .string s] 24)
    replace hx := hx.step hbn
    replace hB := hB.step hbn
    replace hM := hM.step hbn
    replace hp := hp.step hbn
    clear hbn
    rw [hgX]
    generalize (w).alloc (.cells #[.int .i64 k, .int .i64 m, .int .i64 n, .string s] 24) = w1 at *
    have hB_0 := hB.cell (j := 0) rfl
    have hB_1 := hB.cell (j := 1) rfl
    have hB_2 := hB.cell (j := 2) rfl
    have hB_3 := hB.cell (j := 3) rfl
    have hB_4 := hB.cell (j := 4) rfl
    have hB_5 := hB.cell (j := 5) rfl
    have hB_6 := hB.cell (j := 6) rfl
    have hB_7 := hB.cell (j := 7) rfl
    have hBf0 := hB.frozen 0
    have hBf1 := hB.frozen 1
    have hBf2 := hB.frozen 2
    have hBf3 := hB.frozen 3
    have hBf4 := hB.frozen 4
    have hBf5 := hB.frozen 5
    have hBf6 := hB.frozen 6
    have hBf7 := hB.frozen 7
    have X_0 := X.cell (j := 0) rfl
    have X_1 := X.cell (j := 1) rfl
    have X_2 := X.cell (j := 2) rfl
    have X_3 := X.cell (j := 3) rfl
    have hp_0 := hp.cell (j := 0) rfl
    go_wp2_with fail
    go_returns
    have hkn : Kx [g] w1 (putsW w1 g 0 [.int .i64 k, .int .i64 m, .int .i64 n, .string s, .bool true]) := Kx.setCells _ 0 w1 (Kx.refl _ _) (.inl (by simp))
    have hB2 : Blk (putsW w1 g 0 [.int .i64 k, .int .i64 m, .int .i64 n, .string s, .bool true]) g 62 (lrnL ⟨k, m, n, s, true, c, sl⟩ b) := Blk.setCells' _ 0 w1 _ hB (by simp [lrnL])
    exact ⟨⟨rfl, hB2, MapG.kx hM hkn (by simp; omega)⟩, hx.kx hkn (by simp)⟩
  · go_enter Tryz.func74, Tryz.ntmps74
    go_upto_region 1 with fail
    obtain ⟨gX, hgX⟩ : ∃ g, (w).heap.size = g := ⟨_, rfl⟩
    have lt_hB_X := hB.lt
    rw [hgX] at lt_hB_X
    have lt_hp_X := hp.lt
    rw [hgX] at lt_hp_X
    have X := Blk.newV hgX 24 #[.int .i64 k, .int .i64 m, .int .i64 n, .string s]
    have hbn := (Below.refl (w).heap.size w).alloc (Nat.le_refl _) (.cells #[.int .i64 k, .int .i64 m, .int .i64 n, .string s] 24)
    replace hx := hx.step hbn
    replace hB := hB.step hbn
    replace hM := hM.step hbn
    replace hp := hp.step hbn
    clear hbn
    rw [hgX]
    generalize (w).alloc (.cells #[.int .i64 k, .int .i64 m, .int .i64 n, .string s] 24) = w1 at *
    have hR2 : LW w1 g b ⟨k0, m0, n0, s0, true, c, sl⟩ L := ⟨hB, hM⟩
    have hc4 := hB.cell (j := 4) rfl
    have hc0 := hp.cell (j := 0) rfl
    go_upto_region 4 with fail
    clear hc4 hc0
    have hB_0 := extA_cell (hB.cell (j := 0) rfl)
    have hB_1 := extA_cell (hB.cell (j := 1) rfl)
    have hB_2 := extA_cell (hB.cell (j := 2) rfl)
    have hB_3 := extA_cell (hB.cell (j := 3) rfl)
    have hB_4 := extA_cell (hB.cell (j := 4) rfl)
    have hB_5 := extA_cell (hB.cell (j := 5) rfl)
    have hB_6 := extA_cell (hB.cell (j := 6) rfl)
    have hB_7 := extA_cell (hB.cell (j := 7) rfl)
    have X_0 := extA_cell (X.cell (j := 0) rfl)
    have X_1 := extA_cell (X.cell (j := 1) rfl)
    have X_2 := extA_cell (X.cell (j := 2) rfl)
    have X_3 := extA_cell (X.cell (j := 3) rfl)
    have hp_0 := extA_cell (hp.cell (j := 0) rfl)
    refine wp_region_extB (by kernel_rfl) (by kernel_rfl) ?_
    repeat
      (first
        | go_big_quiet_skip
        | (go_big_quiet_want
           go_big_quiet_op
           first
             | go_big_quiet_on
             | (apply Exists.intro
                refine ⟨fun w' hC9 => ?_, ?_⟩
                · (first
                    | with_reducible rfl
                    | fail
                    | (go_simp; done)
                    | (go_simp; with_reducible rfl))
                go_big_quiet_on)))
    refine wpQuiet_nil ?_
    intro w2 hq
    replace hx := hx.step hq
    replace hR2 := hR2.step hq
    cases Q
    · go_wp2_with fail
      go_returns
      exact ⟨⟨rfl, hR2⟩, hx⟩
    · go_wp2_with fail
      go_returns
      exact ⟨⟨rfl, hR2⟩, hx⟩
theorem knows_any (g : Nat) (w : World) : Calls Tryz.prog 43 #[.pointer (some ⟨g, 0, none⟩)] w fun e w' => (∃ bp, e = .returned (.func (.func 74) #[] #[.pointer (some ⟨bp, 0, none⟩)]) ∧ Blk w' bp 41 [.pointer (some ⟨g, 0, none⟩)] ∧ w.heap.size ≤ bp) ∧ Below w.heap.size w w' := by
  go_enter Tryz.func43, Tryz.ntmps43
  go_wp2
  go_returns
  exact ⟨⟨_, rfl, Blk.new w 41 _, Nat.le_refl _⟩, (Below.refl _ _).alloc (Nat.le_refl _) _⟩
set_option maxRecDepth 100000 in
set_option maxHeartbeats 2000000 in
theorem maj_any (g : Nat) (c : Int) (hs : List Bool) (hl : hs.length = 9) (w : World) (hc : w.cell? ⟨g, 5, none⟩ = some (.int .i64 c)) (hr : rightB c = true) :
    Calls Tryz.prog 42 #[.pointer (some ⟨g, 0, none⟩), votV hs] w fun e w' => e = .returned (.bool (wonP c hs)) ∧ Below w.heap.size w w' := by
  have he : errI c = 0 := by simp [errI, hr]
  obtain ⟨m, hm⟩ : ∃ m, majI c = m := ⟨_, rfl⟩
  have hlen : (plK 0 hs).length ≤ 9 := by have := plK_len 0 hs; omega
  have hm2 : 0 ≤ m ∧ m ≤ 5 := by
    have := right_bd hr
    rw [← hm]; unfold majI; rw [hr]; simp; omega
  have cA := fun W => votall_any hs hl W
  have cC := fun b W hB => collect_xs 82 #[.pointer (some ⟨b, 0, none⟩)] (enters_of Tryz.func82 (by kernel_rfl) rfl) (plK 0 hs) (by omega) W (fun _ => False) (fun _ h => h.elim) (vot_xs b hs W hl hB)
  have cM := fun W => majority_at c m 0 hm he W
  unfold wonP
  rw [hm]
  generalize plK 0 hs = xs at *
  obtain ⟨a0, a1, a2, a3, a4, a5, a6, a7, a8, rfl⟩ := nine hl
  unfold votV at *
  simp only [List.map_cons, List.map_nil] at *
  clear he hm hl
  have hb := From.refl w
  have c0 := hc
  go_enter Tryz.func42, Tryz.ntmps42
  go_upto_region 1 with fail
  obtain ⟨gX, hgX⟩ : ∃ g, (w).heap.size = g := ⟨_, rfl⟩
  have X := Blk.newV hgX 119 #[.bool a0, .bool a1, .bool a2, .bool a3, .bool a4, .bool a5, .bool a6, .bool a7, .bool a8]
  have hbn := (Below.refl (w).heap.size w).alloc (Nat.le_refl _) (.cells #[.bool a0, .bool a1, .bool a2, .bool a3, .bool a4, .bool a5, .bool a6, .bool a7, .bool a8] 119)
  replace hb := hb.step hbn
  clear hbn
  rw [hgX]
  generalize (w).alloc (.cells #[.bool a0, .bool a1, .bool a2, .bool a3, .bool a4, .bool a5, .bool a6, .bool a7, .bool a8] 119) = w1 at *
  replace c0 := cells_kept hb c0
  go_wp2_with fail
  refine (cM _).mono ?_
  rintro e w2 ⟨rfl, hbn⟩
  replace hb := hb.step hbn
  replace X := X.step hbn
  clear hbn
  clear cM c0
  have X_0 := X.cell (j := 0) rfl
  have X_1 := X.cell (j := 1) rfl
  have X_2 := X.cell (j := 2) rfl
  have X_3 := X.cell (j := 3) rfl
  have X_4 := X.cell (j := 4) rfl
  have X_5 := X.cell (j := 5) rfl
  have X_6 := X.cell (j := 6) rfl
  have X_7 := X.cell (j := 7) rfl
  have X_8 := X.cell (j := 8) rfl
  go_wp2_with fail
  refine (cA _).mono ?_
  rintro e w4 ⟨rfl, hBx, hbn⟩
  clear X_0 X_1 X_2 X_3 X_4 X_5 X_6 X_7 X_8
  have hseq := cC _ _ hBx
  obtain ⟨bs, hbs⟩ : ∃ b, w2.heap.size = b := ⟨_, rfl⟩
  rw [hbs] at hseq ⊢
  replace hb := hb.step hbn
  replace X := X.step hbn
  clear hbn cA cC hBx hbs
  unfold VotF
  go_wp2_with fail
  refine hseq.mono ?_
  rintro e w5 ⟨⟨v, rfl, hR⟩, hbn⟩
  replace hb := hb.step hbn
  replace X := X.step hbn
  clear hbn hseq
  obtain ⟨av, cv, rfl⟩ := RowI.form hR
  clear hR
  obtain ⟨N, hN⟩ : ∃ N, xs.length = N := ⟨_, rfl⟩
  rw [hN] at hlen ⊢
  go_wp2_with fail
  go_returns
  exact ⟨by simp [hN], hb⟩
end Go.Proofs.YthhpblchiodahaaGreatDoor
