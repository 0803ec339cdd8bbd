
/- is: a learner stands as the document's. -/
import Derived.Test.YthhpblchiodahaaGreatDoorLpI
namespace Go.Proofs.YthhpblchiodahaaGreatDoor
set_option linter.unusedSimpArgs false
set_option linter.unusedVariables false
open Go.RowKit Go.Maps
theorem mem_srtB {L : HMap} {x : (Int × Int) × Hd} (h : x ∈ srtB L) : x ∈ L := (srtB_perm L).mem_iff.1 h
set_option maxRecDepth 100000 in
set_option maxHeartbeats 4000000 in
theorem is16_true (base g b : Nat) (A : Lrn) (L : HMap) (a : Option Addr) (N cp : Nat) (w : World) (h : LW w g b A L) (hc : A.c ≠ 0) (hk : ∀ p ∈ L, okB p.1) (hv : ∀ x ∈ L, x.2.vs.length = 9) (hn : L.length ≤ 1000) (hR : HdR w base (.slice a N cp) (srtB L)) :
    Calls Tryz.prog 23 #[.pointer (some ⟨g, 0, none⟩), rV A (.slice a N cp)] w fun e w' => e = .returned (.bool true) ∧ Below w.heap.size w w' := by
  have cC := fun W h => chosen_at g b A L W h hc
  have cH := fun W h => heard_any g b A L W h hc hk hv hn
  have HV := Lib.hid (fun x hx => hv x (mem_srtB hx) : ∀ x ∈ srtB L, x.2.vs.length = 9)
  have HLN := Lib.hid (show (srtB L).length ≤ 10000 by rw [srtB_len]; omega)
  have hb := From.refl w
  clear hk hv hn hc
  obtain ⟨k, m, n, s, is, c, sl⟩ := A
  have hee := fun W => eq_entry k m n s k m n s W
  simp only [show eq4 k m n s k m n s = true by simp [eq4]] at hee
  have hei : (is == is) = true := by simp
  unfold rV
  unfold kV at cC
  simp only at cC ⊢
  go_enter Tryz.func23, Tryz.ntmps23
  go_upto_region 1 with fail
  obtain ⟨gX, hgX⟩ : ∃ g, (w).heap.size = g := ⟨_, rfl⟩
  have X := Blk.newV hgX 55 #[.int .i64 c, .int .i64 sl, .slice a N cp, .bool is, .int .i64 k, .int .i64 m, .int .i64 n, .string s]
  have hbn := (Below.refl (w).heap.size w).alloc (Nat.le_refl _) (.cells #[.int .i64 c, .int .i64 sl, .slice a N cp, .bool is, .int .i64 k, .int .i64 m, .int .i64 n, .string s] 55)
  replace h := h.step hbn
  replace hR := hR.step hbn
  replace hb := hb.step hbn
  clear hbn
  rw [hgX]
  generalize (w).alloc (.cells #[.int .i64 c, .int .i64 sl, .slice a N cp, .bool is, .int .i64 k, .int .i64 m, .int .i64 n, .string s] 55) = w1 at *
  go_wp2_with fail
  refine (cC _ h).mono ?_
  rintro e w2 ⟨rfl, hbn⟩
  replace h := h.step hbn
  replace hR := hR.step hbn
  replace hb := hb.step hbn
  replace X := X.step hbn
  clear hbn
  go_upto_region 2 with fail
  obtain ⟨gY, hgY⟩ : ∃ g, (w2).heap.size = g := ⟨_, rfl⟩
  have lt_X_Y := X.lt
  rw [hgY] at lt_X_Y
  have Y := Blk.newV hgY 24 #[.int .i64 k, .int .i64 m, .int .i64 n, .string s]
  have hbn := (Below.refl (w2).heap.size w2).alloc (Nat.le_refl _) (.cells #[.int .i64 k, .int .i64 m, .int .i64 n, .string s] 24)
  replace h := h.step hbn
  replace hR := hR.step hbn
  replace hb := hb.step hbn
  replace X := X.step hbn
  clear hbn
  rw [hgY]
  generalize (w2).alloc (.cells #[.int .i64 k, .int .i64 m, .int .i64 n, .string s] 24) = w3 at *
  have x2 := extA_cell (X.cell (j := 2) rfl)
  have x3 := extA_cell (X.cell (j := 3) rfl)
  have x4 := extA_cell (X.cell (j := 4) rfl)
  have x5 := extA_cell (X.cell (j := 5) rfl)
  have x6 := extA_cell (X.cell (j := 6) rfl)
  have x7 := extA_cell (X.cell (j := 7) rfl)
  have y0 := extA_cell (Y.cell (j := 0) rfl)
  have y1 := extA_cell (Y.cell (j := 1) rfl)
  have y2 := extA_cell (Y.cell (j := 2) rfl)
  have y3 := extA_cell (Y.cell (j := 3) rfl)
  clear Y cC hgX hgY lt_X_Y
  refine wp_region_head (C := ExtA w3) 10 (by kernel_rfl) (by decide) (by kernel_rfl) ⟨rfl, rfl, rfl, Nat.le_refl _, fun _ _ => rfl⟩ ?_
  simp only [List.take_succ_cons, List.take_zero]
  repeat
    (first
      | go_big_quiet_skip
      | (go_big_quiet_want
         go_big_quiet_op
         first
           | go_big_quiet_on
           | (apply Exists.intro
              refine ⟨fun w' hC9 => ?_, ?_⟩
              · (first
                  | with_reducible rfl
                  | fail
                  | (go_simp; done)
                  | (go_simp; with_reducible rfl))
              go_big_quiet_on)))
  refine wpQuiet_nil ?_
  intro wq hq
  replace h := h.step hq
  replace hR := hR.step hq
  replace hb := hb.step hq
  replace X := X.step hq
  change wpAny _ _ _ _ (7 + 1) _ _ _
  refine wpAny_take (i := 10) (v := ?_) rfl (by kernel_rfl) (by kernel_rfl) (by kernel_rfl) (fun _ _ _ h => h) (Or.inl ⟨by kernel_rfl, ?_⟩) ?_
  rotate_left
  · intro W
    go_simp
    try with_reducible rfl
  dsimp only [Act.put]
  refine wpAny_take (i := 11) (v := ?_) rfl (by kernel_rfl) (by kernel_rfl) (by kernel_rfl) (fun _ _ _ h => h) (Or.inl ⟨by kernel_rfl, ?_⟩) ?_
  rotate_left
  · intro W
    go_simp
    try with_reducible rfl
  dsimp only [Act.put]
  refine wpAny_take (i := 13) (v := ?_) rfl (by kernel_rfl) (by kernel_rfl) (by kernel_rfl) (fun _ _ _ h => h) (Or.inl ⟨by kernel_rfl, ?_⟩) ?_
  rotate_left
  · intro W
    go_simp
    try with_reducible rfl
  dsimp only [Act.put]
  clear x2 x3 x4 x5 x6 x7 y0 y1 y2 y3 hee hei hq
  have x2 := X.cell (j := 2) rfl
  refine wpAny_ready (rs := [12, 14]) (by kernel_rfl) (by simp) ?_
  refine AllReady.cons rfl (fun K hK => ?_) (AllReady.cons rfl (fun K hK => ?_) AllReady.nil)
  ·
    go_simp
    refine (cH _ h).mono ?_
    rintro e w4 ⟨⟨v4, rfl, hR4⟩, hbn⟩
    obtain ⟨a4, c4, rfl, -⟩ := hR4.form
    replace hR := hR.step hbn
    replace hb := hb.step hbn
    replace X := X.step hbn
    have x2 := X.cell (j := 2) rfl
    refine hK _ _ ?_
    clear hbn
    clear hK K
    refine wpAny_ready (rs := [14]) (by kernel_rfl) (by simp) ?_
    refine AllReady.cons rfl (fun K hK => ?_) AllReady.nil
    go_simp
    refine hK _ _ ?_
    clear hK K
    refine wpAny_ready (rs := [15]) (by kernel_rfl) (by simp) ?_
    refine AllReady.cons rfl (fun K hK => ?_) AllReady.nil
    go_simp
    refine (rsameH_any _ hR4 hR HLN.out HV.out).mono ?_
    rintro e w5 ⟨⟨bb, rfl, hbb⟩, hbn⟩
    obtain rfl : bb = true := hbb.2 rfl
    replace hb := hb.step hbn
    refine hK _ _ ?_
    clear hbn
    clear hK K
    refine wpAny_ready (rs := [16]) (by kernel_rfl) (by simp) ?_
    refine AllReady.cons rfl (fun K hK => ?_) AllReady.nil
    go_simp
    refine hK _ _ ?_
    clear hK K
    refine wpAny_ready (rs := [17]) (by kernel_rfl) (by simp) ?_
    refine AllReady.cons rfl (fun K hK => ?_) AllReady.nil
    go_simp
    refine hK _ _ ?_
    clear hK K
    refine wpAny_done (by kernel_rfl) ?_ _
    go_wp2_with fail
    go_ret
    exact ⟨rfl, hb⟩
  ·
    go_simp
    refine hK _ _ ?_
    clear hK K
    refine wpAny_ready (rs := [12]) (by kernel_rfl) (by simp) ?_
    refine AllReady.cons rfl (fun K hK => ?_) AllReady.nil
    go_simp
    refine (cH _ h).mono ?_
    rintro e w4 ⟨⟨v4, rfl, hR4⟩, hbn⟩
    obtain ⟨a4, c4, rfl, -⟩ := hR4.form
    replace hR := hR.step hbn
    replace hb := hb.step hbn
    replace X := X.step hbn
    have x2 := X.cell (j := 2) rfl
    refine hK _ _ ?_
    clear hbn
    clear hK K
    refine wpAny_ready (rs := [15]) (by kernel_rfl) (by simp) ?_
    refine AllReady.cons rfl (fun K hK => ?_) AllReady.nil
    go_simp
    refine (rsameH_any _ hR4 hR HLN.out HV.out).mono ?_
    rintro e w5 ⟨⟨bb, rfl, hbb⟩, hbn⟩
    obtain rfl : bb = true := hbb.2 rfl
    replace hb := hb.step hbn
    refine hK _ _ ?_
    clear hbn
    clear hK K
    refine wpAny_ready (rs := [16]) (by kernel_rfl) (by simp) ?_
    refine AllReady.cons rfl (fun K hK => ?_) AllReady.nil
    go_simp
    refine hK _ _ ?_
    clear hK K
    refine wpAny_ready (rs := [17]) (by kernel_rfl) (by simp) ?_
    refine AllReady.cons rfl (fun K hK => ?_) AllReady.nil
    go_simp
    refine hK _ _ ?_
    clear hK K
    refine wpAny_done (by kernel_rfl) ?_ _
    go_wp2_with fail
    go_ret
    exact ⟨rfl, hb⟩
end Go.Proofs.YthhpblchiodahaaGreatDoor
