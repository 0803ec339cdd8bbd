
/- Package proposer: fresh, Ask, Own. -/
import Derived.Test.YtcahkcbenanfnaaGreatDoorPrD
import Derived.Test.YtcahkcbenanfnaaGreatDoorAcC
namespace Go.Proofs.YtcahkcbenanfnaaGreatDoor
set_option linter.unusedSimpArgs false
set_option linter.unusedVariables false
open Go.RowKit
def freshA (c sl r p : Int) : Prp := ⟨1, 0, 0, 0, ⟨#[]⟩, [false, false, false, false, false, false, false, false, false], [false, false, false, false, false, false, false, false, false], -1, 0, 0, 0, 0, ⟨#[]⟩, -1, 0, c, sl, r, p⟩
def askB (c sl r p : Int) : Bool := mayB c sl r p && decide (0 < r)
set_option maxRecDepth 100000 in
set_option maxHeartbeats 1000000 in
theorem ask1_true (bb bc bs : Nat) (x y c sl r p : Int) (w : World) (hB : Blk w bb 23 [.int .i64 r, .int .i64 p]) (hC : Blk w bc 42 [.int .i64 c]) (hI : Blk w bs 3 [.int .i64 sl]) (hm : mayB c sl r p = true) :
    Calls Tryz.prog 89 #[.agg #[.int .i64 x, .int .i64 y], .pointer (some ⟨bb, 0, none⟩), .pointer (some ⟨bc, 0, none⟩), .pointer (some ⟨bs, 0, none⟩)] w fun e w' => e = .returned (.tuple #[.agg #[.int .i64 r, .int .i64 p], .bool (decide (0 < r))]) ∧ Below w.heap.size w w' := by
  have HM := Lib.hid hm
  clear hm
  go_enter Tryz.func89, Tryz.ntmps89
  go_upto_region 1 with fail
  have hb := From.refl w
  obtain ⟨gF, hgF⟩ : ∃ g, (w).heap.size = g := ⟨_, rfl⟩
  have lt_hB_F := hB.lt
  rw [hgF] at lt_hB_F
  have lt_hC_F := hC.lt
  rw [hgF] at lt_hC_F
  have lt_hI_F := hI.lt
  rw [hgF] at lt_hI_F
  have F := Blk.newV hgF 23 #[.int .i64 x, .int .i64 y]
  have hbn := (Below.refl (w).heap.size w).alloc (Nat.le_refl _) (.cells #[.int .i64 x, .int .i64 y] 23)
  replace hb := hb.step hbn
  replace hB := hB.step hbn
  replace hC := hC.step hbn
  replace hI := hI.step hbn
  clear hbn
  rw [hgF]
  have szF := alloc_size hgF (.cells #[.int .i64 x, .int .i64 y] 23)
  generalize (w).alloc (.cells #[.int .i64 x, .int .i64 y] 23) = w1 at *
  obtain ⟨gR, hgR⟩ : ∃ g, (w1).heap.size = g := ⟨_, rfl⟩
  have lt_hB_R := hB.lt
  rw [hgR] at lt_hB_R
  have lt_hC_R := hC.lt
  rw [hgR] at lt_hC_R
  have lt_hI_R := hI.lt
  rw [hgR] at lt_hI_R
  have lt_F_R := F.lt
  rw [hgR] at lt_F_R
  have R := Blk.newV hgR 23 #[.int .i64 0, .int .i64 0]
  have hbn := (Below.refl (w1).heap.size w1).alloc (Nat.le_refl _) (.cells #[.int .i64 0, .int .i64 0] 23)
  replace hb := hb.step hbn
  replace hB := hB.step hbn
  replace hC := hC.step hbn
  replace hI := hI.step hbn
  replace F := F.step hbn
  clear hbn
  have egR : gF + 1 = gR := szF.symm.trans hgR
  rw [egR]
  clear szF
  generalize (w1).alloc (.cells #[.int .i64 0, .int .i64 0] 23) = w2 at *
  have hwR : w.heap.size ≤ gR := by omega
  have hBn : bb ∉ [gR] := by simp; omega
  have hCn : bc ∉ [gR] := by simp; omega
  have hSn : bs ∉ [gR] := by simp; omega
  have hB_0 := kx_all (hB.cell (j := 0) rfl) hBn
  have hB_1 := kx_all (hB.cell (j := 1) rfl) hBn
  have hC_0 := kx_all (hC.cell (j := 0) rfl) hCn
  have hI_0 := kx_all (hI.cell (j := 0) rfl) hSn
  refine wp_region_held (S := Kx [gR] w2) (by kernel_rfl) ?_
  have hst : Below (w2).heap.size w2 { w2 with drawn := (w2).drawn + 1 } := ⟨rfl, rfl, rfl, Nat.le_refl _, fun _ _ => rfl⟩
  have hS : (Kx [gR] w2) { w2 with drawn := (w2).drawn + 1 } := by first | exact ⟨rfl, rfl, rfl, Nat.le_refl _, fun _ _ _ => rfl⟩ | exact ⟨rfl, rfl, rfl, Nat.le_refl _, fun _ _ => rfl⟩ | exact hS0
  have Rq := R.step hst
  have hbq := hb.step hst
  clear hst
  generalize ({ w2 with drawn := (w2).drawn + 1 } : World) = wq at *
  refine wpAnyH_take (i := 0) (v := ?_) rfl (by kernel_rfl) (by kernel_rfl) (by kernel_rfl) (fun _ _ _ h => h) (Or.inl ⟨by kernel_rfl, ?_⟩) hS ?_
  rotate_left
  · intro W hSW
    have y0 := hB_0 _ hSW
    have y1 := hB_1 _ hSW
    have y2 := hC_0 _ hSW
    have y3 := hI_0 _ hSW
    go_simp
    try with_reducible rfl
  dsimp only [Act.put]
  refine wpAnyH_take (i := 1) (v := ?_) rfl (by kernel_rfl) (by kernel_rfl) (by kernel_rfl) (fun _ _ _ h => h) (Or.inl ⟨by kernel_rfl, ?_⟩) hS ?_
  rotate_left
  · intro W hSW
    have y0 := hB_0 _ hSW
    have y1 := hB_1 _ hSW
    have y2 := hC_0 _ hSW
    have y3 := hI_0 _ hSW
    go_simp
    try with_reducible rfl
  dsimp only [Act.put]
  refine wpAnyH_take (i := 2) (v := ?_) rfl (by kernel_rfl) (by kernel_rfl) (by kernel_rfl) (fun _ _ _ h => h) (Or.inl ⟨by kernel_rfl, ?_⟩) hS ?_
  rotate_left
  · intro W hSW
    have y0 := hB_0 _ hSW
    have y1 := hB_1 _ hSW
    have y2 := hC_0 _ hSW
    have y3 := hI_0 _ hSW
    go_simp
    try with_reducible rfl
  dsimp only [Act.put]
  refine wpAnyH_take (i := 3) (v := ?_) rfl (by kernel_rfl) (by kernel_rfl) (by kernel_rfl) (fun _ _ _ h => h) (Or.inl ⟨by kernel_rfl, ?_⟩) hS ?_
  rotate_left
  · intro W hSW
    have y0 := hB_0 _ hSW
    have y1 := hB_1 _ hSW
    have y2 := hC_0 _ hSW
    have y3 := hI_0 _ hSW
    go_simp
    try with_reducible rfl
  dsimp only [Act.put]
  refine wpAnyH_ready (rs := [4]) (by kernel_rfl) (by simp) ?_
  refine AllReadyH.cons rfl (fun K hK => ?_) AllReadyH.nil
  go_simp
  refine (may_at _ _ _ _ _ HM.out _).mono ?_
  rintro e w3 ⟨rfl, hbn⟩
  replace Rq := Rq.step hbn
  replace hbq := hbq.step hbn
  refine hK.out _ _ (hS.step hbn) (fun hS => ?_)
  clear hbn
  clear hK K
  refine wpAnyH_take (i := 5) (v := ?_) rfl (by kernel_rfl) (by kernel_rfl) (by kernel_rfl) (fun _ _ _ h => h) (Or.inl ⟨by kernel_rfl, ?_⟩) hS ?_
  rotate_left
  · intro W hSW
    go_simp
    try with_reducible rfl
  dsimp only [Act.put]
  refine wpAnyH_take (i := 6) (v := ?_) rfl (by kernel_rfl) (by kernel_rfl) (by kernel_rfl) (fun _ _ _ h => h) (Or.inl ⟨by kernel_rfl, ?_⟩) hS ?_
  rotate_left
  · intro W hSW
    go_simp
    try with_reducible rfl
  dsimp only [Act.put]
  refine wpAnyH_take (i := 7) (v := ?_) rfl (by kernel_rfl) (by kernel_rfl) (by kernel_rfl) (fun _ _ _ h => h) (Or.inl ⟨by kernel_rfl, ?_⟩) hS ?_
  rotate_left
  · intro W hSW
    go_simp
    try with_reducible rfl
  dsimp only [Act.put]
  refine wpAnyH_take (i := 8) (v := ?_) rfl (by kernel_rfl) (by kernel_rfl) (by kernel_rfl) (fun _ _ _ h => h) (Or.inl ⟨by kernel_rfl, ?_⟩) hS ?_
  rotate_left
  · intro W hSW
    go_simp
    try with_reducible rfl
  dsimp only [Act.put]
  refine wpAnyH_take (i := 9) (v := ?_) rfl (by kernel_rfl) (by kernel_rfl) (by kernel_rfl) (fun _ _ _ h => h) (Or.inl ⟨by kernel_rfl, ?_⟩) hS ?_
  rotate_left
  · intro W hSW
    go_simp
    try with_reducible rfl
  dsimp only [Act.put]
  have Rq_0 := Rq.cell (j := 0) rfl
  have Rq_1 := Rq.cell (j := 1) rfl
  have Rqf0 := Rq.frozen 0
  have Rqf1 := Rq.frozen 1
  refine wpAnyH_ready (rs := [10]) (by kernel_rfl) (by simp) ?_
  refine AllReadyH.cons rfl (fun K hK => ?_) AllReadyH.nil
  go_simp
  have hkn : Kx [gR] w3 ((w3.setCell ⟨gR, 0, none⟩ (.int .i64 r)).setCell ⟨gR, 1, none⟩ (.int .i64 p)) := Kx.setCells [.int .i64 r, .int .i64 p] 0 _ (Kx.refl _ _) (.inl (by simp))
  replace Rq : Blk ((w3.setCell ⟨gR, 0, none⟩ (.int .i64 r)).setCell ⟨gR, 1, none⟩ (.int .i64 p)) gR 23 [.int .i64 r, .int .i64 p] := Blk.puts [.int .i64 r, .int .i64 p] Rq rfl
  replace hbq := hbq.kx hkn (by first | (simp; done) | (simp; omega))
  replace hS := hS.kx hkn (by first | (simp; done) | (simp; omega))
  clear hkn
  generalize (w3.setCell ⟨gR, 0, none⟩ (.int .i64 r)).setCell ⟨gR, 1, none⟩ (.int .i64 p) = ws at *
  refine hK.out _ _ hS (fun hS => ?_)
  clear hK K
  refine wpAnyH_ready (rs := [11]) (by kernel_rfl) (by simp) ?_
  refine AllReadyH.cons rfl (fun K hK => ?_) AllReadyH.nil
  go_simp
  refine hK.out _ _ hS (fun hS => ?_)
  clear hK K
  refine wpAnyH_done (by kernel_rfl) ?_ _
  clear Rq_0 Rq_1
  have Rq_0 := Rq.cell (j := 0) rfl
  have Rq_1 := Rq.cell (j := 1) rfl
  go_wp2
  (try simp only [Exit.inBlock, Exit.then])
  refine bodyPost_ret (v := .tuple #[.agg #[.int .i64 r, .int .i64 p], .bool (decide (0 < r))]) ?_ rfl ⟨rfl, by rw [← hgF]; exact hbq⟩
  rw [r_cell1t rfl]
  go_simp
set_option maxRecDepth 100000 in
set_option maxHeartbeats 1000000 in
theorem ask1_false (bb bc bs : Nat) (x y c sl r p : Int) (w : World) (hB : Blk w bb 23 [.int .i64 r, .int .i64 p]) (hC : Blk w bc 42 [.int .i64 c]) (hI : Blk w bs 3 [.int .i64 sl]) (hm : mayB c sl r p = false) :
    Calls Tryz.prog 89 #[.agg #[.int .i64 x, .int .i64 y], .pointer (some ⟨bb, 0, none⟩), .pointer (some ⟨bc, 0, none⟩), .pointer (some ⟨bs, 0, none⟩)] w fun e w' => e = .returned (.tuple #[.agg #[.int .i64 r, .int .i64 p], .bool (false)]) ∧ Below w.heap.size w w' := by
  have HM := Lib.hid hm
  clear hm
  go_enter Tryz.func89, Tryz.ntmps89
  go_upto_region 1 with fail
  have hb := From.refl w
  obtain ⟨gF, hgF⟩ : ∃ g, (w).heap.size = g := ⟨_, rfl⟩
  have lt_hB_F := hB.lt
  rw [hgF] at lt_hB_F
  have lt_hC_F := hC.lt
  rw [hgF] at lt_hC_F
  have lt_hI_F := hI.lt
  rw [hgF] at lt_hI_F
  have F := Blk.newV hgF 23 #[.int .i64 x, .int .i64 y]
  have hbn := (Below.refl (w).heap.size w).alloc (Nat.le_refl _) (.cells #[.int .i64 x, .int .i64 y] 23)
  replace hb := hb.step hbn
  replace hB := hB.step hbn
  replace hC := hC.step hbn
  replace hI := hI.step hbn
  clear hbn
  rw [hgF]
  have szF := alloc_size hgF (.cells #[.int .i64 x, .int .i64 y] 23)
  generalize (w).alloc (.cells #[.int .i64 x, .int .i64 y] 23) = w1 at *
  obtain ⟨gR, hgR⟩ : ∃ g, (w1).heap.size = g := ⟨_, rfl⟩
  have lt_hB_R := hB.lt
  rw [hgR] at lt_hB_R
  have lt_hC_R := hC.lt
  rw [hgR] at lt_hC_R
  have lt_hI_R := hI.lt
  rw [hgR] at lt_hI_R
  have lt_F_R := F.lt
  rw [hgR] at lt_F_R
  have R := Blk.newV hgR 23 #[.int .i64 0, .int .i64 0]
  have hbn := (Below.refl (w1).heap.size w1).alloc (Nat.le_refl _) (.cells #[.int .i64 0, .int .i64 0] 23)
  replace hb := hb.step hbn
  replace hB := hB.step hbn
  replace hC := hC.step hbn
  replace hI := hI.step hbn
  replace F := F.step hbn
  clear hbn
  have egR : gF + 1 = gR := szF.symm.trans hgR
  rw [egR]
  clear szF
  generalize (w1).alloc (.cells #[.int .i64 0, .int .i64 0] 23) = w2 at *
  have hwR : w.heap.size ≤ gR := by omega
  have hBn : bb ∉ [gR] := by simp; omega
  have hCn : bc ∉ [gR] := by simp; omega
  have hSn : bs ∉ [gR] := by simp; omega
  have hB_0 := kx_all (hB.cell (j := 0) rfl) hBn
  have hB_1 := kx_all (hB.cell (j := 1) rfl) hBn
  have hC_0 := kx_all (hC.cell (j := 0) rfl) hCn
  have hI_0 := kx_all (hI.cell (j := 0) rfl) hSn
  refine wp_region_held (S := Kx [gR] w2) (by kernel_rfl) ?_
  have hst : Below (w2).heap.size w2 { w2 with drawn := (w2).drawn + 1 } := ⟨rfl, rfl, rfl, Nat.le_refl _, fun _ _ => rfl⟩
  have hS : (Kx [gR] w2) { w2 with drawn := (w2).drawn + 1 } := by first | exact ⟨rfl, rfl, rfl, Nat.le_refl _, fun _ _ _ => rfl⟩ | exact ⟨rfl, rfl, rfl, Nat.le_refl _, fun _ _ => rfl⟩ | exact hS0
  have Rq := R.step hst
  have hbq := hb.step hst
  clear hst
  generalize ({ w2 with drawn := (w2).drawn + 1 } : World) = wq at *
  refine wpAnyH_take (i := 0) (v := ?_) rfl (by kernel_rfl) (by kernel_rfl) (by kernel_rfl) (fun _ _ _ h => h) (Or.inl ⟨by kernel_rfl, ?_⟩) hS ?_
  rotate_left
  · intro W hSW
    have y0 := hB_0 _ hSW
    have y1 := hB_1 _ hSW
    have y2 := hC_0 _ hSW
    have y3 := hI_0 _ hSW
    go_simp
    try with_reducible rfl
  dsimp only [Act.put]
  refine wpAnyH_take (i := 1) (v := ?_) rfl (by kernel_rfl) (by kernel_rfl) (by kernel_rfl) (fun _ _ _ h => h) (Or.inl ⟨by kernel_rfl, ?_⟩) hS ?_
  rotate_left
  · intro W hSW
    have y0 := hB_0 _ hSW
    have y1 := hB_1 _ hSW
    have y2 := hC_0 _ hSW
    have y3 := hI_0 _ hSW
    go_simp
    try with_reducible rfl
  dsimp only [Act.put]
  refine wpAnyH_take (i := 2) (v := ?_) rfl (by kernel_rfl) (by kernel_rfl) (by kernel_rfl) (fun _ _ _ h => h) (Or.inl ⟨by kernel_rfl, ?_⟩) hS ?_
  rotate_left
  · intro W hSW
    have y0 := hB_0 _ hSW
    have y1 := hB_1 _ hSW
    have y2 := hC_0 _ hSW
    have y3 := hI_0 _ hSW
    go_simp
    try with_reducible rfl
  dsimp only [Act.put]
  refine wpAnyH_take (i := 3) (v := ?_) rfl (by kernel_rfl) (by kernel_rfl) (by kernel_rfl) (fun _ _ _ h => h) (Or.inl ⟨by kernel_rfl, ?_⟩) hS ?_
  rotate_left
  · intro W hSW
    have y0 := hB_0 _ hSW
    have y1 := hB_1 _ hSW
    have y2 := hC_0 _ hSW
    have y3 := hI_0 _ hSW
    go_simp
    try with_reducible rfl
  dsimp only [Act.put]
  refine wpAnyH_ready (rs := [4]) (by kernel_rfl) (by simp) ?_
  refine AllReadyH.cons rfl (fun K hK => ?_) AllReadyH.nil
  go_simp
  refine (may_at _ _ _ _ _ HM.out _).mono ?_
  rintro e w3 ⟨rfl, hbn⟩
  replace Rq := Rq.step hbn
  replace hbq := hbq.step hbn
  refine hK.out _ _ (hS.step hbn) (fun hS => ?_)
  clear hbn
  clear hK K
  refine wpAnyH_take (i := 5) (v := ?_) rfl (by kernel_rfl) (by kernel_rfl) (by kernel_rfl) (fun _ _ _ h => h) (Or.inl ⟨by kernel_rfl, ?_⟩) hS ?_
  rotate_left
  · intro W hSW
    go_simp
    try with_reducible rfl
  dsimp only [Act.put]
  refine wpAnyH_take (i := 6) (v := undef) rfl (by kernel_rfl) (by kernel_rfl) (by kernel_rfl) (fun _ _ _ h => h) (Or.inr ⟨by kernel_rfl, rfl⟩) hS ?_
  dsimp only [Act.put]
  refine wpAnyH_take (i := 7) (v := undef) rfl (by kernel_rfl) (by kernel_rfl) (by kernel_rfl) (fun _ _ _ h => h) (Or.inr ⟨by kernel_rfl, rfl⟩) hS ?_
  dsimp only [Act.put]
  refine wpAnyH_take (i := 8) (v := undef) rfl (by kernel_rfl) (by kernel_rfl) (by kernel_rfl) (fun _ _ _ h => h) (Or.inr ⟨by kernel_rfl, rfl⟩) hS ?_
  dsimp only [Act.put]
  refine wpAnyH_take (i := 9) (v := ?_) rfl (by kernel_rfl) (by kernel_rfl) (by kernel_rfl) (fun _ _ _ h => h) (Or.inl ⟨by kernel_rfl, ?_⟩) hS ?_
  rotate_left
  · intro W hSW
    go_simp
    try with_reducible rfl
  dsimp only [Act.put]
  have Rq_0 := Rq.cell (j := 0) rfl
  have Rq_1 := Rq.cell (j := 1) rfl
  have Rqf0 := Rq.frozen 0
  have Rqf1 := Rq.frozen 1
  refine wpAnyH_ready (rs := [10]) (by kernel_rfl) (by simp) ?_
  refine AllReadyH.cons rfl (fun K hK => ?_) AllReadyH.nil
  go_simp
  have hkn : Kx [gR] w3 ((w3.setCell ⟨gR, 0, none⟩ (.int .i64 r)).setCell ⟨gR, 1, none⟩ (.int .i64 p)) := Kx.setCells [.int .i64 r, .int .i64 p] 0 _ (Kx.refl _ _) (.inl (by simp))
  replace Rq : Blk ((w3.setCell ⟨gR, 0, none⟩ (.int .i64 r)).setCell ⟨gR, 1, none⟩ (.int .i64 p)) gR 23 [.int .i64 r, .int .i64 p] := Blk.puts [.int .i64 r, .int .i64 p] Rq rfl
  replace hbq := hbq.kx hkn (by first | (simp; done) | (simp; omega))
  replace hS := hS.kx hkn (by first | (simp; done) | (simp; omega))
  clear hkn
  generalize (w3.setCell ⟨gR, 0, none⟩ (.int .i64 r)).setCell ⟨gR, 1, none⟩ (.int .i64 p) = ws at *
  refine hK.out _ _ hS (fun hS => ?_)
  clear hK K
  refine wpAnyH_ready (rs := [11]) (by kernel_rfl) (by simp) ?_
  refine AllReadyH.cons rfl (fun K hK => ?_) AllReadyH.nil
  go_simp
  refine hK.out _ _ hS (fun hS => ?_)
  clear hK K
  refine wpAnyH_done (by kernel_rfl) ?_ _
  clear Rq_0 Rq_1
  have Rq_0 := Rq.cell (j := 0) rfl
  have Rq_1 := Rq.cell (j := 1) rfl
  go_wp2
  (try simp only [Exit.inBlock, Exit.then])
  refine bodyPost_ret (v := .tuple #[.agg #[.int .i64 r, .int .i64 p], .bool (false)]) ?_ rfl ⟨rfl, by rw [← hgF]; exact hbq⟩
  rw [r_cell1t rfl]
  go_simp
theorem ask1_any (bb bc bs : Nat) (x y c sl r p : Int) (w : World) (hB : Blk w bb 23 [.int .i64 r, .int .i64 p]) (hC : Blk w bc 42 [.int .i64 c]) (hI : Blk w bs 3 [.int .i64 sl]) :
    Calls Tryz.prog 89 #[.agg #[.int .i64 x, .int .i64 y], .pointer (some ⟨bb, 0, none⟩), .pointer (some ⟨bc, 0, none⟩), .pointer (some ⟨bs, 0, none⟩)] w fun e w' => e = .returned (.tuple #[.agg #[.int .i64 r, .int .i64 p], .bool (askB c sl r p)]) ∧ Below w.heap.size w w' := by
  unfold askB
  cases hm : mayB c sl r p
  · exact ask1_false bb bc bs x y c sl r p w hB hC hI hm
  · exact ask1_true bb bc bs x y c sl r p w hB hC hI hm
set_option maxRecDepth 100000 in
set_option maxHeartbeats 1000000 in
theorem own1_any (be : Nat) (x y k m n : Int) (s : ByteArray) (w : World) (hE : Blk w be 26 [.int .i64 k, .int .i64 m, .int .i64 n, .string s]) (hs : s.size ≤ 9223372036854775807) (hT : Tabs w) :
    Calls Tryz.prog 67 #[.agg #[.int .i64 x, .int .i64 y], .pointer (some ⟨be, 0, none⟩)] w fun e w' => e = .returned (.tuple #[.agg #[.int .i64 x, .int .i64 y], .bool (entB k m n s)]) ∧ Below w.heap.size w w' := by
  have cE := fun W hW => ent_any k m n s W hs hW
  generalize entB k m n s = V at *
  go_enter Tryz.func67, Tryz.ntmps67
  go_upto_region 1 with fail
  have hb := From.refl w
  obtain ⟨gF, hgF⟩ : ∃ g, (w).heap.size = g := ⟨_, rfl⟩
  have lt_hE_F := hE.lt
  rw [hgF] at lt_hE_F
  have F := Blk.newV hgF 23 #[.int .i64 x, .int .i64 y]
  have hbn := (Below.refl (w).heap.size w).alloc (Nat.le_refl _) (.cells #[.int .i64 x, .int .i64 y] 23)
  replace hb := hb.step hbn
  replace hE := hE.step hbn
  clear hbn
  rw [hgF]
  have szF := alloc_size hgF (.cells #[.int .i64 x, .int .i64 y] 23)
  generalize (w).alloc (.cells #[.int .i64 x, .int .i64 y] 23) = w1 at *
  obtain ⟨gR, hgR⟩ : ∃ g, (w1).heap.size = g := ⟨_, rfl⟩
  have lt_hE_R := hE.lt
  rw [hgR] at lt_hE_R
  have lt_F_R := F.lt
  rw [hgR] at lt_F_R
  have R := Blk.newV hgR 23 #[.int .i64 0, .int .i64 0]
  have hbn := (Below.refl (w1).heap.size w1).alloc (Nat.le_refl _) (.cells #[.int .i64 0, .int .i64 0] 23)
  replace hb := hb.step hbn
  replace hE := hE.step hbn
  replace F := F.step hbn
  clear hbn
  have egR : gF + 1 = gR := szF.symm.trans hgR
  rw [egR]
  clear szF
  generalize (w1).alloc (.cells #[.int .i64 0, .int .i64 0] 23) = w2 at *
  have hwR : w.heap.size ≤ gR := by omega
  have hE_0 := extA_cell (hE.cell (j := 0) rfl)
  have hE_1 := extA_cell (hE.cell (j := 1) rfl)
  have hE_2 := extA_cell (hE.cell (j := 2) rfl)
  have hE_3 := extA_cell (hE.cell (j := 3) rfl)
  have F_0 := extA_cell (F.cell (j := 0) rfl)
  have F_1 := extA_cell (F.cell (j := 1) rfl)
  have hT2 := hT.step hb.out
  refine wp_region_head (C := ExtA w2) 3 (by kernel_rfl) (by decide) (by kernel_rfl) ⟨rfl, rfl, rfl, Nat.le_refl _, fun _ _ => rfl⟩ ?_
  simp only [List.take_succ_cons, List.take_zero]
  repeat
    (first
      | go_big_quiet_skip
      | (go_big_quiet_want
         go_big_quiet_op
         first
           | go_big_quiet_on
           | (apply Exists.intro
              refine ⟨fun w' hC9 => ?_, ?_⟩
              · (first
                  | with_reducible rfl
                  | (go_at_call 49; refine (cE _ (hT2.step hC9)).mono ?_; rintro e w2 ⟨rfl, hb9⟩; exact ⟨rfl, extA_then hC9 hb9⟩)
                  | (go_simp; done)
                  | (go_simp; with_reducible rfl))
              go_big_quiet_on)))
  refine wpQuiet_nil ?_
  intro wq hq
  have Rq := R.step hq
  have hbq := hb.step hq
  change wpAny _ _ _ _ (1 + 1) _ _ _
  have Rq_0 := Rq.cell (j := 0) rfl
  have Rq_1 := Rq.cell (j := 1) rfl
  have Rqf0 := Rq.frozen 0
  have Rqf1 := Rq.frozen 1
  refine wpAny_ready (rs := [3]) (by kernel_rfl) (by simp) ?_
  refine AllReady.cons rfl (fun K hK => ?_) AllReady.nil
  go_simp
  refine hK _ _ ?_
  clear hK K
  refine wpAny_ready (rs := [4]) (by kernel_rfl) (by simp) ?_
  refine AllReady.cons rfl (fun K hK => ?_) AllReady.nil
  go_simp
  refine hK _ _ ?_
  clear hK K
  refine wpAny_done (by kernel_rfl) ?_ _
  go_wp2
  (try simp only [Exit.inBlock, Exit.then])
  refine bodyPost_ret (v := .tuple #[.agg #[.int .i64 x, .int .i64 y], .bool V]) ?_ rfl ⟨rfl, by rw [← hgF]; exact below2 hbq hwR _ _⟩
  rw [r_cell1t rfl]
  go_simp
set_option maxRecDepth 100000 in
set_option maxHeartbeats 2000000 in
theorem fresh_no (c sl : Int) (f : Value) (w : World) (he : opErr c sl ≠ 0) :
    Calls Tryz.prog 66 #[.int .i64 c, .int .i64 sl, f] w fun e w' => e = .returned (.tuple #[.pointer none, .int .i64 (opErr c sl)]) ∧ Below w.heap.size w w' := by
  obtain ⟨E, hE⟩ : ∃ E, opErr c sl = E := ⟨_, rfl⟩
  rw [hE] at he ⊢
  have HE := Lib.hid hE
  clear hE
  go_enter Tryz.func66, Tryz.ntmps66
  go_wp2_with fail
  refine (first_at _ _ _ _ rfl HE.out _).mono ?_
  rintro e w1 ⟨rfl, hb1⟩
  go_wp2
  go_ret2
  exact ⟨rfl, hb1.alloc hb1.size _⟩
set_option maxRecDepth 100000 in
set_option maxHeartbeats 4000000 in
theorem fresh_ask (c sl o : Int) (q1 q2 q3 : Value) (r p : Int) (w : World) (ho : ownerI c sl = o) (he : opErr c sl = 0)
    (cS : ∀ W, Below w.heap.size w W → Calls Tryz.prog 89 #[.agg #[.int .i64 0, .int .i64 o], q1, q2, q3] W fun e w' => e = .returned (.tuple #[.agg #[.int .i64 r, .int .i64 p], .bool true]) ∧ Below W.heap.size W w') :
    Calls Tryz.prog 66 #[.int .i64 c, .int .i64 sl, .func (.func 89) #[] #[q1, q2, q3]] w fun e w' => (∃ g, e = .returned (.tuple #[.pointer (some ⟨g, 0, none⟩), .int .i64 0]) ∧ PW w' g (freshA c sl r p) ∧ w.heap.size ≤ g) ∧ Below w.heap.size w w' := by
  have HO := Lib.hid ho
  clear ho
  have HE := Lib.hid he
  clear he
  have CS := Lib.hid cS
  clear cS
  have hb := From.refl w
  go_enter Tryz.func66, Tryz.ntmps66
  go_wp2_with fail
  refine (first_at _ _ _ _ HO.out HE.out _).mono ?_
  rintro e w1 ⟨rfl, hbn⟩
  replace hb := hb.step hbn
  clear hbn
  go_upto_region 2 with fail
  obtain ⟨gF, hgF⟩ : ∃ g, (w1).heap.size = g := ⟨_, rfl⟩
  have F := Blk.newV hgF 23 #[.int .i64 0, .int .i64 o]
  have hbn := (Below.refl (w1).heap.size w1).alloc (Nat.le_refl _) (.cells #[.int .i64 0, .int .i64 o] 23)
  replace hb := hb.step hbn
  clear hbn
  rw [hgF]
  generalize (w1).alloc (.cells #[.int .i64 0, .int .i64 o] 23) = w2 at *
  have F_0 := F.cell (j := 0) rfl
  have F_1 := F.cell (j := 1) rfl
  go_wp2_with fail
  refine (CS.out _ hb.out).mono ?_
  rintro e w3 ⟨rfl, hbn⟩
  replace hb := hb.step hbn
  replace F := F.step hbn
  clear hbn
  clear F_0 F_1
  go_upto_region 5 with fail
  obtain ⟨gB, hgB⟩ : ∃ g, (w3).heap.size = g := ⟨_, rfl⟩
  have lt_F_B := F.lt
  rw [hgB] at lt_F_B
  have B := Blk.newV hgB 23 #[.int .i64 r, .int .i64 p]
  have hbn := (Below.refl (w3).heap.size w3).alloc (Nat.le_refl _) (.cells #[.int .i64 r, .int .i64 p] 23)
  replace hb := hb.step hbn
  replace F := F.step hbn
  clear hbn
  rw [hgB]
  generalize (w3).alloc (.cells #[.int .i64 r, .int .i64 p] 23) = w4 at *
  have B_0 := B.cell (j := 0) rfl
  have B_1 := B.cell (j := 1) rfl
  go_upto_region 7 with fail
  clear B_0 B_1
  have B_0 := extA_cell (B.cell (j := 0) rfl)
  have B_1 := extA_cell (B.cell (j := 1) rfl)
  refine wp_region_head (C := ExtA w4) 7 (by kernel_rfl) (by decide) (by kernel_rfl) ⟨rfl, rfl, rfl, Nat.le_refl _, fun _ _ => rfl⟩ ?_
  simp only [List.take_succ_cons, List.take_zero]
  repeat
    (first
      | go_big_quiet_skip
      | (go_big_quiet_want
         go_big_quiet_op
         first
           | go_big_quiet_on
           | (apply Exists.intro
              refine ⟨fun w' hC9 => ?_, ?_⟩
              · (first
                  | with_reducible rfl
                  | (go_at_call 45; refine (nothing15_any _).mono ?_; rintro e w2 ⟨rfl, hb9⟩; exact ⟨rfl, extA_then hC9 hb9⟩) | (go_at_call 95; refine (bnone_any _).mono ?_; rintro e w2 ⟨rfl, hb9⟩; exact ⟨rfl, extA_then hC9 hb9⟩)
                  | (go_simp; done)
                  | (go_simp; with_reducible rfl))
              go_big_quiet_on)))
  refine wpQuiet_nil ?_
  intro wq hq
  have hbq := hb.step hq
  change wpAny _ _ _ _ (2 + 1) _ _ _
  refine wpAny_ready (rs := [7]) (by kernel_rfl) (by simp) ?_
  refine AllReady.cons rfl (fun K hK => ?_) AllReady.nil
  go_simp
  obtain ⟨gN, hgN⟩ : ∃ g, wq.heap.size = g := ⟨_, rfl⟩
  have XN := Blk.newV hgN 44 #[.int .i64 1, .int .i64 0, .int .i64 0, .int .i64 0, .string ⟨#[]⟩, .bool false, .bool false, .bool false, .bool false, .bool false, .bool false, .bool false, .bool false, .bool false, .bool false, .bool false, .bool false, .bool false, .bool false, .bool false, .bool false, .bool false, .bool false, .int .i64 (-1), .int .i64 0, .int .i64 0, .int .i64 0, .int .i64 0, .string ⟨#[]⟩, .int .i64 (-1), .int .i64 0, .int .i64 c, .int .i64 sl, .int .i64 r, .int .i64 p]
  have hbn := (Below.refl wq.heap.size wq).alloc (Nat.le_refl _) (.cells #[.int .i64 1, .int .i64 0, .int .i64 0, .int .i64 0, .string ⟨#[]⟩, .bool false, .bool false, .bool false, .bool false, .bool false, .bool false, .bool false, .bool false, .bool false, .bool false, .bool false, .bool false, .bool false, .bool false, .bool false, .bool false, .bool false, .bool false, .int .i64 (-1), .int .i64 0, .int .i64 0, .int .i64 0, .int .i64 0, .string ⟨#[]⟩, .int .i64 (-1), .int .i64 0, .int .i64 c, .int .i64 sl, .int .i64 r, .int .i64 p] 44)
  have hge : w.heap.size ≤ gN := by have := hbq.size; omega
  have hbz := hbq.step hbn
  clear hbn
  rw [hgN]
  generalize wq.alloc (.cells #[.int .i64 1, .int .i64 0, .int .i64 0, .int .i64 0, .string ⟨#[]⟩, .bool false, .bool false, .bool false, .bool false, .bool false, .bool false, .bool false, .bool false, .bool false, .bool false, .bool false, .bool false, .bool false, .bool false, .bool false, .bool false, .bool false, .bool false, .int .i64 (-1), .int .i64 0, .int .i64 0, .int .i64 0, .int .i64 0, .string ⟨#[]⟩, .int .i64 (-1), .int .i64 0, .int .i64 c, .int .i64 sl, .int .i64 r, .int .i64 p] 44) = wz at *
  refine hK _ _ ?_
  clear hK K
  refine wpAny_ready (rs := [8]) (by kernel_rfl) (by simp) ?_
  refine AllReady.cons rfl (fun K hK => ?_) AllReady.nil
  go_simp
  refine hK _ _ ?_
  clear hK K
  refine wpAny_ready (rs := [9]) (by kernel_rfl) (by simp) ?_
  refine AllReady.cons rfl (fun K hK => ?_) AllReady.nil
  go_simp
  refine hK _ _ ?_
  clear hK K
  refine wpAny_done (by kernel_rfl) ?_ _
  go_wp2
  go_ret2
  exact ⟨⟨_, rfl, ⟨XN, rfl, rfl⟩, hge⟩, hbz⟩
set_option maxRecDepth 100000 in
set_option maxHeartbeats 4000000 in
theorem fresh_own (c sl o : Int) (q1 : Value) (w : World) (ho : ownerI c sl = o) (he : opErr c sl = 0)
    (cS : ∀ W, Below w.heap.size w W → Calls Tryz.prog 67 #[.agg #[.int .i64 0, .int .i64 o], q1] W fun e w' => e = .returned (.tuple #[.agg #[.int .i64 0, .int .i64 o], .bool true]) ∧ Below W.heap.size W w') :
    Calls Tryz.prog 66 #[.int .i64 c, .int .i64 sl, .func (.func 67) #[] #[q1]] w fun e w' => (∃ g, e = .returned (.tuple #[.pointer (some ⟨g, 0, none⟩), .int .i64 0]) ∧ PW w' g (freshA c sl 0 o) ∧ w.heap.size ≤ g) ∧ Below w.heap.size w w' := by
  have HO := Lib.hid ho
  clear ho
  have HE := Lib.hid he
  clear he
  have CS := Lib.hid cS
  clear cS
  have hb := From.refl w
  go_enter Tryz.func66, Tryz.ntmps66
  go_wp2_with fail
  refine (first_at _ _ _ _ HO.out HE.out _).mono ?_
  rintro e w1 ⟨rfl, hbn⟩
  replace hb := hb.step hbn
  clear hbn
  go_upto_region 2 with fail
  obtain ⟨gF, hgF⟩ : ∃ g, (w1).heap.size = g := ⟨_, rfl⟩
  have F := Blk.newV hgF 23 #[.int .i64 0, .int .i64 o]
  have hbn := (Below.refl (w1).heap.size w1).alloc (Nat.le_refl _) (.cells #[.int .i64 0, .int .i64 o] 23)
  replace hb := hb.step hbn
  clear hbn
  rw [hgF]
  generalize (w1).alloc (.cells #[.int .i64 0, .int .i64 o] 23) = w2 at *
  have F_0 := F.cell (j := 0) rfl
  have F_1 := F.cell (j := 1) rfl
  go_wp2_with fail
  refine (CS.out _ hb.out).mono ?_
  rintro e w3 ⟨rfl, hbn⟩
  replace hb := hb.step hbn
  replace F := F.step hbn
  clear hbn
  clear F_0 F_1
  go_upto_region 5 with fail
  obtain ⟨gB, hgB⟩ : ∃ g, (w3).heap.size = g := ⟨_, rfl⟩
  have lt_F_B := F.lt
  rw [hgB] at lt_F_B
  have B := Blk.newV hgB 23 #[.int .i64 0, .int .i64 o]
  have hbn := (Below.refl (w3).heap.size w3).alloc (Nat.le_refl _) (.cells #[.int .i64 0, .int .i64 o] 23)
  replace hb := hb.step hbn
  replace F := F.step hbn
  clear hbn
  rw [hgB]
  generalize (w3).alloc (.cells #[.int .i64 0, .int .i64 o] 23) = w4 at *
  have B_0 := B.cell (j := 0) rfl
  have B_1 := B.cell (j := 1) rfl
  go_upto_region 7 with fail
  clear B_0 B_1
  have B_0 := extA_cell (B.cell (j := 0) rfl)
  have B_1 := extA_cell (B.cell (j := 1) rfl)
  refine wp_region_head (C := ExtA w4) 7 (by kernel_rfl) (by decide) (by kernel_rfl) ⟨rfl, rfl, rfl, Nat.le_refl _, fun _ _ => rfl⟩ ?_
  simp only [List.take_succ_cons, List.take_zero]
  repeat
    (first
      | go_big_quiet_skip
      | (go_big_quiet_want
         go_big_quiet_op
         first
           | go_big_quiet_on
           | (apply Exists.intro
              refine ⟨fun w' hC9 => ?_, ?_⟩
              · (first
                  | with_reducible rfl
                  | (go_at_call 45; refine (nothing15_any _).mono ?_; rintro e w2 ⟨rfl, hb9⟩; exact ⟨rfl, extA_then hC9 hb9⟩) | (go_at_call 95; refine (bnone_any _).mono ?_; rintro e w2 ⟨rfl, hb9⟩; exact ⟨rfl, extA_then hC9 hb9⟩)
                  | (go_simp; done)
                  | (go_simp; with_reducible rfl))
              go_big_quiet_on)))
  refine wpQuiet_nil ?_
  intro wq hq
  have hbq := hb.step hq
  change wpAny _ _ _ _ (2 + 1) _ _ _
  refine wpAny_ready (rs := [7]) (by kernel_rfl) (by simp) ?_
  refine AllReady.cons rfl (fun K hK => ?_) AllReady.nil
  go_simp
  obtain ⟨gN, hgN⟩ : ∃ g, wq.heap.size = g := ⟨_, rfl⟩
  have XN := Blk.newV hgN 44 #[.int .i64 1, .int .i64 0, .int .i64 0, .int .i64 0, .string ⟨#[]⟩, .bool false, .bool false, .bool false, .bool false, .bool false, .bool false, .bool false, .bool false, .bool false, .bool false, .bool false, .bool false, .bool false, .bool false, .bool false, .bool false, .bool false, .bool false, .int .i64 (-1), .int .i64 0, .int .i64 0, .int .i64 0, .int .i64 0, .string ⟨#[]⟩, .int .i64 (-1), .int .i64 0, .int .i64 c, .int .i64 sl, .int .i64 0, .int .i64 o]
  have hbn := (Below.refl wq.heap.size wq).alloc (Nat.le_refl _) (.cells #[.int .i64 1, .int .i64 0, .int .i64 0, .int .i64 0, .string ⟨#[]⟩, .bool false, .bool false, .bool false, .bool false, .bool false, .bool false, .bool false, .bool false, .bool false, .bool false, .bool false, .bool false, .bool false, .bool false, .bool false, .bool false, .bool false, .bool false, .int .i64 (-1), .int .i64 0, .int .i64 0, .int .i64 0, .int .i64 0, .string ⟨#[]⟩, .int .i64 (-1), .int .i64 0, .int .i64 c, .int .i64 sl, .int .i64 0, .int .i64 o] 44)
  have hge : w.heap.size ≤ gN := by have := hbq.size; omega
  have hbz := hbq.step hbn
  clear hbn
  rw [hgN]
  generalize wq.alloc (.cells #[.int .i64 1, .int .i64 0, .int .i64 0, .int .i64 0, .string ⟨#[]⟩, .bool false, .bool false, .bool false, .bool false, .bool false, .bool false, .bool false, .bool false, .bool false, .bool false, .bool false, .bool false, .bool false, .bool false, .bool false, .bool false, .bool false, .bool false, .int .i64 (-1), .int .i64 0, .int .i64 0, .int .i64 0, .int .i64 0, .string ⟨#[]⟩, .int .i64 (-1), .int .i64 0, .int .i64 c, .int .i64 sl, .int .i64 0, .int .i64 o] 44) = wz at *
  refine hK _ _ ?_
  clear hK K
  refine wpAny_ready (rs := [8]) (by kernel_rfl) (by simp) ?_
  refine AllReady.cons rfl (fun K hK => ?_) AllReady.nil
  go_simp
  refine hK _ _ ?_
  clear hK K
  refine wpAny_ready (rs := [9]) (by kernel_rfl) (by simp) ?_
  refine AllReady.cons rfl (fun K hK => ?_) AllReady.nil
  go_simp
  refine hK _ _ ?_
  clear hK K
  refine wpAny_done (by kernel_rfl) ?_ _
  go_wp2
  go_ret2
  exact ⟨⟨_, rfl, ⟨XN, rfl, rfl⟩, hge⟩, hbz⟩
set_option maxRecDepth 100000 in
set_option maxHeartbeats 2000000 in
theorem freshN_ask (c sl o : Int) (q1 q2 q3 : Value) (r p : Int) (w : World) (ho : ownerI c sl = o) (he : opErr c sl = 0)
    (cS : ∀ W, Below w.heap.size w W → Calls Tryz.prog 89 #[.agg #[.int .i64 0, .int .i64 o], q1, q2, q3] W fun e w' => e = .returned (.tuple #[.agg #[.int .i64 r, .int .i64 p], .bool false]) ∧ Below W.heap.size W w') :
    Calls Tryz.prog 66 #[.int .i64 c, .int .i64 sl, .func (.func 89) #[] #[q1, q2, q3]] w fun e w' => e = .returned (.tuple #[.pointer none, .int .i64 2]) ∧ Below w.heap.size w w' := by
  have HO := Lib.hid ho
  clear ho
  have HE := Lib.hid he
  clear he
  have CS := Lib.hid cS
  clear cS
  have hb := From.refl w
  go_enter Tryz.func66, Tryz.ntmps66
  go_wp2_with fail
  refine (first_at _ _ _ _ HO.out HE.out _).mono ?_
  rintro e w1 ⟨rfl, hbn⟩
  replace hb := hb.step hbn
  clear hbn
  go_upto_region 2 with fail
  obtain ⟨gF, hgF⟩ : ∃ g, (w1).heap.size = g := ⟨_, rfl⟩
  have F := Blk.newV hgF 23 #[.int .i64 0, .int .i64 o]
  have hbn := (Below.refl (w1).heap.size w1).alloc (Nat.le_refl _) (.cells #[.int .i64 0, .int .i64 o] 23)
  replace hb := hb.step hbn
  clear hbn
  rw [hgF]
  generalize (w1).alloc (.cells #[.int .i64 0, .int .i64 o] 23) = w2 at *
  have F_0 := F.cell (j := 0) rfl
  have F_1 := F.cell (j := 1) rfl
  go_wp2_with fail
  refine (CS.out _ hb.out).mono ?_
  rintro e w3 ⟨rfl, hbn⟩
  replace hb := hb.step hbn
  replace F := F.step hbn
  clear hbn
  clear F_0 F_1
  go_upto_region 5 with fail
  obtain ⟨gB, hgB⟩ : ∃ g, (w3).heap.size = g := ⟨_, rfl⟩
  have lt_F_B := F.lt
  rw [hgB] at lt_F_B
  have B := Blk.newV hgB 23 #[.int .i64 r, .int .i64 p]
  have hbn := (Below.refl (w3).heap.size w3).alloc (Nat.le_refl _) (.cells #[.int .i64 r, .int .i64 p] 23)
  replace hb := hb.step hbn
  replace F := F.step hbn
  clear hbn
  rw [hgB]
  generalize (w3).alloc (.cells #[.int .i64 r, .int .i64 p] 23) = w4 at *
  go_wp2
  go_ret2
  exact ⟨rfl, hb⟩
set_option maxRecDepth 100000 in
set_option maxHeartbeats 2000000 in
theorem freshN_own (c sl o : Int) (q1 : Value) (w : World) (ho : ownerI c sl = o) (he : opErr c sl = 0)
    (cS : ∀ W, Below w.heap.size w W → Calls Tryz.prog 67 #[.agg #[.int .i64 0, .int .i64 o], q1] W fun e w' => e = .returned (.tuple #[.agg #[.int .i64 0, .int .i64 o], .bool false]) ∧ Below W.heap.size W w') :
    Calls Tryz.prog 66 #[.int .i64 c, .int .i64 sl, .func (.func 67) #[] #[q1]] w fun e w' => e = .returned (.tuple #[.pointer none, .int .i64 2]) ∧ Below w.heap.size w w' := by
  have HO := Lib.hid ho
  clear ho
  have HE := Lib.hid he
  clear he
  have CS := Lib.hid cS
  clear cS
  have hb := From.refl w
  go_enter Tryz.func66, Tryz.ntmps66
  go_wp2_with fail
  refine (first_at _ _ _ _ HO.out HE.out _).mono ?_
  rintro e w1 ⟨rfl, hbn⟩
  replace hb := hb.step hbn
  clear hbn
  go_upto_region 2 with fail
  obtain ⟨gF, hgF⟩ : ∃ g, (w1).heap.size = g := ⟨_, rfl⟩
  have F := Blk.newV hgF 23 #[.int .i64 0, .int .i64 o]
  have hbn := (Below.refl (w1).heap.size w1).alloc (Nat.le_refl _) (.cells #[.int .i64 0, .int .i64 o] 23)
  replace hb := hb.step hbn
  clear hbn
  rw [hgF]
  generalize (w1).alloc (.cells #[.int .i64 0, .int .i64 o] 23) = w2 at *
  have F_0 := F.cell (j := 0) rfl
  have F_1 := F.cell (j := 1) rfl
  go_wp2_with fail
  refine (CS.out _ hb.out).mono ?_
  rintro e w3 ⟨rfl, hbn⟩
  replace hb := hb.step hbn
  replace F := F.step hbn
  clear hbn
  clear F_0 F_1
  go_upto_region 5 with fail
  obtain ⟨gB, hgB⟩ : ∃ g, (w3).heap.size = g := ⟨_, rfl⟩
  have lt_F_B := F.lt
  rw [hgB] at lt_F_B
  have B := Blk.newV hgB 23 #[.int .i64 0, .int .i64 o]
  have hbn := (Below.refl (w3).heap.size w3).alloc (Nat.le_refl _) (.cells #[.int .i64 0, .int .i64 o] 23)
  replace hb := hb.step hbn
  replace F := F.step hbn
  clear hbn
  rw [hgB]
  generalize (w3).alloc (.cells #[.int .i64 0, .int .i64 o] 23) = w4 at *
  go_wp2
  go_ret2
  exact ⟨rfl, hb⟩
end Go.Proofs.YtcahkcbenanfnaaGreatDoor
