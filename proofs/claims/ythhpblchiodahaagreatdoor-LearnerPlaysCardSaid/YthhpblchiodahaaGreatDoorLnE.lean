
/- Package learner: Told, Skipped. -/
import Derived.Test.YthhpblchiodahaaGreatDoorLnD
namespace Go.Proofs.YthhpblchiodahaaGreatDoor
set_option linter.unusedSimpArgs false
set_option linter.unusedVariables false
open Go.RowKit Go.Maps
set_option maxRecDepth 100000 in
set_option maxHeartbeats 1000000 in
theorem told_bad (g b : Nat) (A : Lrn) (L : HMap) (k m n : Int) (s : ByteArray) (w : World) (h : LW w g b A L) (hG : GoodL A L) (hs : s.size ≤ 9223372036854775807) (hT : Tabs w) (he : entB k m n s = false) :
    Calls Tryz.prog 16 #[.pointer (some ⟨g, 0, none⟩), kV k m n s] w fun e w' => e = .returned (.tuple #[.bool false, .int .i64 2]) ∧ Below w.heap.size w w' := by
  unfold kV
  obtain ⟨hB, hM⟩ := id h
  have hcb : (A.c == 0) = false := by simpa using hG.ne
  have cN := fun W hW => none16_at g A.c false W hcb hW
  have cE := fun W hT => ent_any k m n s W hs hT
  rw [he] at cE
  clear he hs
  have hb := From.refl w
  go_enter Tryz.func16, Tryz.ntmps16
  go_upto_region 1 with fail
  obtain ⟨gX, hgX⟩ : ∃ g, (w).heap.size = g := ⟨_, rfl⟩
  have lt_hB_X := hB.lt
  rw [hgX] at lt_hB_X
  have X := Blk.newV hgX 24 #[.int .i64 k, .int .i64 m, .int .i64 n, .string s]
  have hbn := (Below.refl (w).heap.size w).alloc (Nat.le_refl _) (.cells #[.int .i64 k, .int .i64 m, .int .i64 n, .string s] 24)
  replace hb := hb.step hbn
  replace hB := hB.step hbn
  clear hbn
  rw [hgX]
  generalize (w).alloc (.cells #[.int .i64 k, .int .i64 m, .int .i64 n, .string s] 24) = w1 at *
  go_wp2_with fail
  refine (cN _ (hB.cell (j := 5) rfl)).mono ?_
  rintro e w2 ⟨rfl, rfl⟩
  have X_0 := X.cell (j := 0) rfl
  have X_1 := X.cell (j := 1) rfl
  have X_2 := X.cell (j := 2) rfl
  have X_3 := X.cell (j := 3) rfl
  go_wp2_with fail
  refine (cE _ (hT.step hb)).mono ?_
  rintro e w2 ⟨rfl, hbn⟩
  replace hb := hb.step hbn
  replace hB := hB.step hbn
  replace X := X.step hbn
  clear hbn
  go_wp2_with fail
  go_returns
  exact ⟨rfl, hb⟩
set_option maxRecDepth 100000 in
set_option maxHeartbeats 1000000 in
theorem told_ok (g b : Nat) (A : Lrn) (L : HMap) (k m n : Int) (s : ByteArray) (w : World) (h : LW w g b A L) (hG : GoodL A L) (hs : s.size ≤ 9223372036854775807) (hT : Tabs w) (he : entB k m n s = true) :
    Calls Tryz.prog 16 #[.pointer (some ⟨g, 0, none⟩), kV k m n s] w fun e w' => (e = .returned (.tuple #[.bool (knV A), .int .i64 (knE A k m n s)]) ∧ LW w' g b (knowA A k m n s) L) ∧ Kx [g] w w' := by
  obtain ⟨hB, hM⟩ := id h
  have hcb : (A.c == 0) = false := by simpa using hG.ne
  have cN := fun W hW => none16_at g A.c false W hcb hW
  have cE := fun W hT => ent_any k m n s W hs hT
  rw [he] at cE
  have cK := fun bp W hA hP => kn1_any bp g b A L k m n s W hA hP
  unfold kV at *
  generalize knV A = V at *
  generalize knE A k m n s = E at *
  generalize knowA A k m n s = A2 at *
  clear he hs hB hM
  have hx := FromX.refl [g] w
  have hb := From.refl w
  go_enter Tryz.func16, Tryz.ntmps16
  go_upto_region 1 with fail
  obtain ⟨gX, hgX⟩ : ∃ g, (w).heap.size = g := ⟨_, rfl⟩
  have lt_h_X := h.lt
  rw [hgX] at lt_h_X
  have X := Blk.newV hgX 24 #[.int .i64 k, .int .i64 m, .int .i64 n, .string s]
  have hbn := (Below.refl (w).heap.size w).alloc (Nat.le_refl _) (.cells #[.int .i64 k, .int .i64 m, .int .i64 n, .string s] 24)
  replace hb := hb.step hbn
  replace hx := hx.step hbn
  replace h := h.step hbn
  clear hbn
  rw [hgX]
  generalize (w).alloc (.cells #[.int .i64 k, .int .i64 m, .int .i64 n, .string s] 24) = w1 at *
  go_wp2_with fail
  refine (cN _ (h.1.cell (j := 5) rfl)).mono ?_
  rintro e w2 ⟨rfl, rfl⟩
  have X_0 := X.cell (j := 0) rfl
  have X_1 := X.cell (j := 1) rfl
  have X_2 := X.cell (j := 2) rfl
  have X_3 := X.cell (j := 3) rfl
  go_wp2_with fail
  refine (cE _ (hT.step hb)).mono ?_
  rintro e w2 ⟨rfl, hbn⟩
  replace hb := hb.step hbn
  replace hx := hx.step hbn
  replace h := h.step hbn
  replace X := X.step hbn
  clear hbn
  clear X_0 X_1 X_2 X_3
  go_upto_region 5 with fail
  have hXg : gX ∉ [g] := by simp; omega
  have X_0 := kx_all (X.cell (j := 0) rfl) hXg
  have X_1 := kx_all (X.cell (j := 1) rfl) hXg
  have X_2 := kx_all (X.cell (j := 2) rfl) hXg
  have X_3 := kx_all (X.cell (j := 3) rfl) hXg
  clear X hgX
  refine wp_region_held (S := Kx [g] w2) (by kernel_rfl) ?_
  have hst : Below (w2).heap.size w2 { w2 with drawn := (w2).drawn + 1 } := ⟨rfl, rfl, rfl, Nat.le_refl _, fun _ _ => rfl⟩
  have hS : (Kx [g] w2) { w2 with drawn := (w2).drawn + 1 } := by first | exact ⟨rfl, rfl, rfl, Nat.le_refl _, fun _ _ _ => rfl⟩ | exact ⟨rfl, rfl, rfl, Nat.le_refl _, fun _ _ => rfl⟩ | exact hS0
  replace hb := hb.step hst
  replace hx := hx.step hst
  replace h := h.step hst
  clear hst
  generalize ({ w2 with drawn := (w2).drawn + 1 } : World) = wq at *
  refine wpAnyH_take (i := 0) (v := ?_) rfl (by kernel_rfl) (by kernel_rfl) (by kernel_rfl) (fun _ _ _ h => h) (Or.inl ⟨by kernel_rfl, ?_⟩) hS ?_
  rotate_left
  · intro W hSW
    have y0 := X_0 _ hSW
    have y1 := X_1 _ hSW
    have y2 := X_2 _ hSW
    have y3 := X_3 _ hSW
    go_simp
    try with_reducible rfl
  dsimp only [Act.put]
  refine wpAnyH_take (i := 2) (v := ?_) rfl (by kernel_rfl) (by kernel_rfl) (by kernel_rfl) (fun _ _ _ h => h) (Or.inl ⟨by kernel_rfl, ?_⟩) hS ?_
  rotate_left
  · intro W hSW
    have y0 := X_0 _ hSW
    have y1 := X_1 _ hSW
    have y2 := X_2 _ hSW
    have y3 := X_3 _ hSW
    go_simp
    try with_reducible rfl
  dsimp only [Act.put]
  refine wpAnyH_ready (rs := [1]) (by kernel_rfl) (by simp) ?_
  refine AllReadyH.cons rfl (fun K hK => ?_) AllReadyH.nil
  go_simp
  refine (knows_any g _).mono ?_
  rintro e w3 ⟨⟨bp, rfl, hp, hbp⟩, hbn⟩
  replace hb := hb.step hbn
  replace hx := hx.step hbn
  replace h := h.step hbn
  refine hK.out _ _ (hS.step hbn) (fun hS => ?_)
  clear hbn hbp
  clear hK K
  refine wpAnyH_ready (rs := [3]) (by kernel_rfl) (by simp) ?_
  refine AllReadyH.cons rfl (fun K hK => ?_) AllReadyH.nil
  go_simp
  refine (cK bp _ h hp).mono ?_
  rintro e w4 ⟨⟨rfl, h4⟩, hkn⟩
  replace hx := hx.kx hkn (by simp)
  refine hK.out _ _ (hS.kx hkn (by simp)) (fun hS => ?_)
  clear h hp hkn cK hb
  clear hK K
  refine wpAnyH_take (i := 4) (v := ?_) rfl (by kernel_rfl) (by kernel_rfl) (by kernel_rfl) (fun _ _ _ h => h) (Or.inl ⟨by kernel_rfl, ?_⟩) hS ?_
  rotate_left
  · intro W hSW
    go_simp
    try with_reducible rfl
  dsimp only [Act.put]
  refine wpAnyH_take (i := 5) (v := ?_) rfl (by kernel_rfl) (by kernel_rfl) (by kernel_rfl) (fun _ _ _ h => h) (Or.inl ⟨by kernel_rfl, ?_⟩) hS ?_
  rotate_left
  · intro W hSW
    go_simp
    try with_reducible rfl
  dsimp only [Act.put]
  refine wpAnyH_ready (rs := [6]) (by kernel_rfl) (by simp) ?_
  refine AllReadyH.cons rfl (fun K hK => ?_) AllReadyH.nil
  go_simp
  refine hK.out _ _ (hS) (fun hS => ?_)
  clear hK K
  refine wpAnyH_ready (rs := [7]) (by kernel_rfl) (by simp) ?_
  refine AllReadyH.cons rfl (fun K hK => ?_) AllReadyH.nil
  go_simp
  refine hK.out _ _ (hS) (fun hS => ?_)
  clear hK K
  refine wpAnyH_done (by kernel_rfl) ?_ _
  clear hS X_0 X_1 X_2 X_3
  go_wp2_with fail
  go_returns
  exact ⟨⟨rfl, h4⟩, hx⟩
theorem told_any (g b : Nat) (A : Lrn) (L : HMap) (k m n : Int) (s : ByteArray) (w : World) (h : LW w g b A L) (hG : GoodL A L) (hs : s.size ≤ 9223372036854775807) (hT : Tabs w) :
    Calls Tryz.prog 16 #[.pointer (some ⟨g, 0, none⟩), kV k m n s] w fun e w' => (e = .returned (.tuple #[.bool (teV A k m n s), .int .i64 (teE A k m n s)]) ∧ LW w' g b (teA A k m n s) L) ∧ Kx [g] w w' := by
  cases he : entB k m n s
  · refine (told_bad g b A L k m n s w h hG hs hT he).mono ?_
    rintro e w' ⟨rfl, hb⟩
    have e1 : teE A k m n s = 2 := by simp [teE, he]
    have e2 : teV A k m n s = false := by simp [teV, e1]
    have e3 : teA A k m n s = A := by simp [teA, e1]
    rw [e1, e2, e3]
    exact ⟨⟨rfl, h.step hb⟩, (Kx.refl [g] w).step hb⟩
  · refine (told_ok g b A L k m n s w h hG hs hT he).mono ?_
    rintro e w' ⟨⟨rfl, h2⟩, hk⟩
    have e1 : teE A k m n s = knE A k m n s := by simp [teE, he]
    have e2 : teV A k m n s = knV A := by
      unfold teV
      rw [e1]
      unfold knE knV
      cases A.is <;> simp
    have e3 : LW w' g b (teA A k m n s) L := by
      unfold teA
      rw [e1]
      by_cases h0 : knE A k m n s = 0
      · rw [if_pos h0]; exact h2
      · rw [if_neg h0]
        have hi : A.is = true := by
          cases hA : A.is
          · simp [knE, hA] at h0
          · rfl
        have : knowA A k m n s = A := by simp [knowA, hi]
        rw [this] at h2
        exact h2
    rw [e1, e2]
    exact ⟨⟨rfl, e3⟩, hk⟩
set_option maxRecDepth 100000 in
set_option maxHeartbeats 1000000 in
theorem skipped_any (g b : Nat) (A : Lrn) (L : HMap) (w : World) (h : LW w g b A L) (hG : GoodL A L) (hT : Tabs w) :
    Calls Tryz.prog 17 #[.pointer (some ⟨g, 0, none⟩)] w fun e w' => (e = .returned (.tuple #[.bool (teV A 1 0 0 ⟨#[]⟩), .int .i64 (teE A 1 0 0 ⟨#[]⟩)]) ∧ LW w' g b (teA A 1 0 0 ⟨#[]⟩) L) ∧ Kx [g] w w' := by
  have cT := fun W hW hT => told_any g b A L 1 0 0 ⟨#[]⟩ W hW hG (by decide) hT
  unfold kV at cT
  generalize teV A 1 0 0 ⟨#[]⟩ = V at *
  generalize teE A 1 0 0 ⟨#[]⟩ = E at *
  generalize teA A 1 0 0 ⟨#[]⟩ = A2 at *
  go_enter Tryz.func17, Tryz.ntmps17
  go_wp2_with fail
  refine (cT _ h hT).mono ?_
  rintro e w2 ⟨⟨rfl, h2⟩, hk⟩
  go_wp2_with fail
  go_returns
  exact ⟨⟨rfl, h2⟩, hk⟩
end Go.Proofs.YthhpblchiodahaaGreatDoor
