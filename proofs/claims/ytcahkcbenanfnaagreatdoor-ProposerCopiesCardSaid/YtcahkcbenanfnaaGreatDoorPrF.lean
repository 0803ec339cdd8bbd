
/- Package proposer: Ask, Own. -/
import Derived.Test.YtcahkcbenanfnaaGreatDoorPrE
namespace Go.Proofs.YtcahkcbenanfnaaGreatDoor
set_option linter.unusedSimpArgs false
set_option linter.unusedVariables false
open Go.RowKit
set_option maxRecDepth 100000 in
set_option maxHeartbeats 1000000 in
theorem ask_no (c sl r p : Int) (w : World) (he : opErr c sl ≠ 0) :
    Calls Tryz.prog 41 #[.int .i64 c, .int .i64 sl, .agg #[.int .i64 r, .int .i64 p]] w fun e w' => e = .returned (.tuple #[.pointer none, .int .i64 (opErr c sl)]) ∧ Below w.heap.size w w' := by
  have cF := fun f W => fresh_no c sl f W he
  generalize opErr c sl = E at *
  have hb := From.refl w
  go_enter Tryz.func41, Tryz.ntmps41
  go_upto_region 1 with fail
  obtain ⟨gC, hgC⟩ : ∃ g, (w).heap.size = g := ⟨_, rfl⟩
  have C := Blk.newV hgC 42 #[.int .i64 c]
  have hbn := (Below.refl (w).heap.size w).alloc (Nat.le_refl _) (.cells #[.int .i64 c] 42)
  replace hb := hb.step hbn
  clear hbn
  rw [hgC]
  have szC := alloc_size hgC (.cells #[.int .i64 c] 42)
  generalize (w).alloc (.cells #[.int .i64 c] 42) = w1 at *
  obtain ⟨gI, hgI⟩ : ∃ g, (w1).heap.size = g := ⟨_, rfl⟩
  have lt_C_I := C.lt
  rw [hgI] at lt_C_I
  have I := Blk.newV hgI 3 #[.int .i64 sl]
  have hbn := (Below.refl (w1).heap.size w1).alloc (Nat.le_refl _) (.cells #[.int .i64 sl] 3)
  replace hb := hb.step hbn
  replace C := C.step hbn
  clear hbn
  have egI : gC + 1 = gI := szC.symm.trans hgI
  rw [egI]
  clear szC
  have szI := alloc_size hgI (.cells #[.int .i64 sl] 3)
  generalize (w1).alloc (.cells #[.int .i64 sl] 3) = w2 at *
  obtain ⟨gB, hgB⟩ : ∃ g, (w2).heap.size = g := ⟨_, rfl⟩
  have lt_C_B := C.lt
  rw [hgB] at lt_C_B
  have lt_I_B := I.lt
  rw [hgB] at lt_I_B
  have B := Blk.newV hgB 23 #[.int .i64 r, .int .i64 p]
  have hbn := (Below.refl (w2).heap.size w2).alloc (Nat.le_refl _) (.cells #[.int .i64 r, .int .i64 p] 23)
  replace hb := hb.step hbn
  replace C := C.step hbn
  replace I := I.step hbn
  clear hbn
  have egB : gI + 1 = gB := szI.symm.trans hgB
  rw [egB]
  clear szI
  generalize (w2).alloc (.cells #[.int .i64 r, .int .i64 p] 23) = w3 at *
  have C_0 := C.cell (j := 0) rfl
  have I_0 := I.cell (j := 0) rfl
  go_wp2_with fail
  refine (cF _ _).mono ?_
  rintro e w4 ⟨rfl, hbn⟩
  replace hb := hb.step hbn
  replace C := C.step hbn
  replace I := I.step hbn
  replace B := B.step hbn
  clear hbn
  go_wp2_with fail
  go_returns
  exact ⟨rfl, hb⟩
set_option maxRecDepth 100000 in
set_option maxHeartbeats 1000000 in
theorem ask_bad (c sl r p : Int) (w : World) (he : opErr c sl = 0) (hq : askB c sl r p = false) :
    Calls Tryz.prog 41 #[.int .i64 c, .int .i64 sl, .agg #[.int .i64 r, .int .i64 p]] w fun e w' => e = .returned (.tuple #[.pointer none, .int .i64 2]) ∧ Below w.heap.size w w' := by
  obtain ⟨o, ho⟩ : ∃ o, ownerI c sl = o := ⟨_, rfl⟩
  have hb := From.refl w
  have HO := Lib.hid ho
  clear ho
  go_enter Tryz.func41, Tryz.ntmps41
  go_upto_region 1 with fail
  obtain ⟨gC, hgC⟩ : ∃ g, (w).heap.size = g := ⟨_, rfl⟩
  have C := Blk.newV hgC 42 #[.int .i64 c]
  have hbn := (Below.refl (w).heap.size w).alloc (Nat.le_refl _) (.cells #[.int .i64 c] 42)
  replace hb := hb.step hbn
  clear hbn
  rw [hgC]
  have szC := alloc_size hgC (.cells #[.int .i64 c] 42)
  generalize (w).alloc (.cells #[.int .i64 c] 42) = w1 at *
  obtain ⟨gI, hgI⟩ : ∃ g, (w1).heap.size = g := ⟨_, rfl⟩
  have lt_C_I := C.lt
  rw [hgI] at lt_C_I
  have I := Blk.newV hgI 3 #[.int .i64 sl]
  have hbn := (Below.refl (w1).heap.size w1).alloc (Nat.le_refl _) (.cells #[.int .i64 sl] 3)
  replace hb := hb.step hbn
  replace C := C.step hbn
  clear hbn
  have egI : gC + 1 = gI := szC.symm.trans hgI
  rw [egI]
  clear szC
  have szI := alloc_size hgI (.cells #[.int .i64 sl] 3)
  generalize (w1).alloc (.cells #[.int .i64 sl] 3) = w2 at *
  obtain ⟨gB, hgB⟩ : ∃ g, (w2).heap.size = g := ⟨_, rfl⟩
  have lt_C_B := C.lt
  rw [hgB] at lt_C_B
  have lt_I_B := I.lt
  rw [hgB] at lt_I_B
  have B := Blk.newV hgB 23 #[.int .i64 r, .int .i64 p]
  have hbn := (Below.refl (w2).heap.size w2).alloc (Nat.le_refl _) (.cells #[.int .i64 r, .int .i64 p] 23)
  replace hb := hb.step hbn
  replace C := C.step hbn
  replace I := I.step hbn
  clear hbn
  have egB : gI + 1 = gB := szI.symm.trans hgB
  rw [egB]
  clear szI
  generalize (w2).alloc (.cells #[.int .i64 r, .int .i64 p] 23) = w3 at *
  have cS := fun W (hW : Below w3.heap.size w3 W) => ask1_any gB gC gI 0 o c sl r p W (B.step hW) (C.step hW) (I.step hW)
  have hz := hb.size
  have C_0 := C.cell (j := 0) rfl
  have I_0 := I.cell (j := 0) rfl
  rw [hq] at cS
  go_wp2_with fail
  refine (freshN_ask c sl o _ _ _ r p _ HO.out he cS).mono ?_
  rintro e w4 ⟨rfl, hbn⟩
  replace hb := hb.step hbn
  replace C := C.step hbn
  replace I := I.step hbn
  replace B := B.step hbn
  go_wp2_with fail
  go_returns
  exact ⟨rfl, hb⟩
set_option maxRecDepth 100000 in
set_option maxHeartbeats 1000000 in
theorem ask_ok (c sl r p : Int) (w : World) (he : opErr c sl = 0) (hq : askB c sl r p = true) :
    Calls Tryz.prog 41 #[.int .i64 c, .int .i64 sl, .agg #[.int .i64 r, .int .i64 p]] w fun e w' => (∃ g, e = .returned (.tuple #[.pointer (some ⟨g, 0, none⟩), .int .i64 0]) ∧ PW w' g (freshA c sl r p) ∧ w.heap.size ≤ g) ∧ Below w.heap.size w w' := by
  obtain ⟨o, ho⟩ : ∃ o, ownerI c sl = o := ⟨_, rfl⟩
  have hb := From.refl w
  have HO := Lib.hid ho
  clear ho
  go_enter Tryz.func41, Tryz.ntmps41
  go_upto_region 1 with fail
  obtain ⟨gC, hgC⟩ : ∃ g, (w).heap.size = g := ⟨_, rfl⟩
  have C := Blk.newV hgC 42 #[.int .i64 c]
  have hbn := (Below.refl (w).heap.size w).alloc (Nat.le_refl _) (.cells #[.int .i64 c] 42)
  replace hb := hb.step hbn
  clear hbn
  rw [hgC]
  have szC := alloc_size hgC (.cells #[.int .i64 c] 42)
  generalize (w).alloc (.cells #[.int .i64 c] 42) = w1 at *
  obtain ⟨gI, hgI⟩ : ∃ g, (w1).heap.size = g := ⟨_, rfl⟩
  have lt_C_I := C.lt
  rw [hgI] at lt_C_I
  have I := Blk.newV hgI 3 #[.int .i64 sl]
  have hbn := (Below.refl (w1).heap.size w1).alloc (Nat.le_refl _) (.cells #[.int .i64 sl] 3)
  replace hb := hb.step hbn
  replace C := C.step hbn
  clear hbn
  have egI : gC + 1 = gI := szC.symm.trans hgI
  rw [egI]
  clear szC
  have szI := alloc_size hgI (.cells #[.int .i64 sl] 3)
  generalize (w1).alloc (.cells #[.int .i64 sl] 3) = w2 at *
  obtain ⟨gB, hgB⟩ : ∃ g, (w2).heap.size = g := ⟨_, rfl⟩
  have lt_C_B := C.lt
  rw [hgB] at lt_C_B
  have lt_I_B := I.lt
  rw [hgB] at lt_I_B
  have B := Blk.newV hgB 23 #[.int .i64 r, .int .i64 p]
  have hbn := (Below.refl (w2).heap.size w2).alloc (Nat.le_refl _) (.cells #[.int .i64 r, .int .i64 p] 23)
  replace hb := hb.step hbn
  replace C := C.step hbn
  replace I := I.step hbn
  clear hbn
  have egB : gI + 1 = gB := szI.symm.trans hgB
  rw [egB]
  clear szI
  generalize (w2).alloc (.cells #[.int .i64 r, .int .i64 p] 23) = w3 at *
  have cS := fun W (hW : Below w3.heap.size w3 W) => ask1_any gB gC gI 0 o c sl r p W (B.step hW) (C.step hW) (I.step hW)
  have hz := hb.size
  have C_0 := C.cell (j := 0) rfl
  have I_0 := I.cell (j := 0) rfl
  rw [hq] at cS
  go_wp2_with fail
  refine (fresh_ask c sl o _ _ _ r p _ HO.out he cS).mono ?_
  rintro e w4 ⟨⟨g, rfl, hP, hg⟩, hbn⟩
  replace hb := hb.step hbn
  replace C := C.step hbn
  replace I := I.step hbn
  replace B := B.step hbn
  go_wp2_with fail
  go_returns
  exact ⟨⟨g, rfl, hP, by omega⟩, hb⟩
def ownA (c sl o k m n : Int) (s : ByteArray) : Prp := ⟨2, k, m, n, s, [false, false, false, false, false, false, false, false, false], [false, false, false, false, false, false, false, false, false], -1, 0, 0, 0, 0, ⟨#[]⟩, -1, 0, c, sl, 0, o⟩
set_option maxRecDepth 100000 in
set_option maxHeartbeats 1000000 in
theorem own_no (c sl k m n : Int) (s : ByteArray) (w : World) (he : opErr c sl ≠ 0) :
    Calls Tryz.prog 23 #[.int .i64 c, .int .i64 sl, .agg #[.int .i64 k, .int .i64 m, .int .i64 n, .string s]] w fun e w' => e = .returned (.tuple #[.pointer none, .int .i64 (opErr c sl)]) ∧ Below w.heap.size w w' := by
  have cF := fun f W => fresh_no c sl f W he
  generalize opErr c sl = E at *
  have hb := From.refl w
  go_enter Tryz.func23, Tryz.ntmps23
  go_upto_region 1 with fail
  obtain ⟨gB, hgB⟩ : ∃ g, (w).heap.size = g := ⟨_, rfl⟩
  have B := Blk.newV hgB 26 #[.int .i64 k, .int .i64 m, .int .i64 n, .string s]
  have hbn := (Below.refl (w).heap.size w).alloc (Nat.le_refl _) (.cells #[.int .i64 k, .int .i64 m, .int .i64 n, .string s] 26)
  replace hb := hb.step hbn
  clear hbn
  rw [hgB]
  generalize (w).alloc (.cells #[.int .i64 k, .int .i64 m, .int .i64 n, .string s] 26) = w3 at *
  go_wp2_with fail
  refine (cF _ _).mono ?_
  rintro e w4 ⟨rfl, hbn⟩
  replace hb := hb.step hbn
  replace B := B.step hbn
  clear hbn
  go_wp2_with fail
  go_ret2
  exact ⟨rfl, hb⟩
set_option maxRecDepth 100000 in
set_option maxHeartbeats 2000000 in
theorem own_bad (c sl k m n : Int) (s : ByteArray) (w : World) (hs : s.size ≤ 9223372036854775807) (hT : Tabs w) (he : opErr c sl = 0) (hq : entB k m n s = false) :
    Calls Tryz.prog 23 #[.int .i64 c, .int .i64 sl, .agg #[.int .i64 k, .int .i64 m, .int .i64 n, .string s]] w fun e w' => e = .returned (.tuple #[.pointer none, .int .i64 2]) ∧ Below w.heap.size w w' := by
  obtain ⟨o, ho⟩ : ∃ o, ownerI c sl = o := ⟨_, rfl⟩
  have hb := From.refl w
  have HO := Lib.hid ho
  clear ho
  go_enter Tryz.func23, Tryz.ntmps23
  go_upto_region 1 with fail
  obtain ⟨gB, hgB⟩ : ∃ g, (w).heap.size = g := ⟨_, rfl⟩
  have B := Blk.newV hgB 26 #[.int .i64 k, .int .i64 m, .int .i64 n, .string s]
  have hbn := (Below.refl (w).heap.size w).alloc (Nat.le_refl _) (.cells #[.int .i64 k, .int .i64 m, .int .i64 n, .string s] 26)
  replace hb := hb.step hbn
  clear hbn
  rw [hgB]
  generalize (w).alloc (.cells #[.int .i64 k, .int .i64 m, .int .i64 n, .string s] 26) = w3 at *
  have cS := fun W (hW : Below w3.heap.size w3 W) => own1_any gB 0 o k m n s W (B.step hW) hs ((hT.step hb.out).step hW)
  have hz := hb.size
  have hBl := B.lt
  rw [hq] at cS
  go_wp2_with fail
  refine (freshN_own c sl o _ _ HO.out he cS).mono ?_
  rintro e w4 ⟨rfl, hbn⟩
  replace hb := hb.step hbn
  replace B := B.step hbn
  go_wp2_with fail
  go_ret2
  exact ⟨rfl, hb⟩
set_option maxRecDepth 100000 in
set_option maxHeartbeats 2000000 in
theorem own_ok (c sl k m n : Int) (s : ByteArray) (w : World) (hs : s.size ≤ 9223372036854775807) (hT : Tabs w) (he : opErr c sl = 0) (hq : entB k m n s = true) :
    Calls Tryz.prog 23 #[.int .i64 c, .int .i64 sl, .agg #[.int .i64 k, .int .i64 m, .int .i64 n, .string s]] w fun e w' => (∃ g, e = .returned (.tuple #[.pointer (some ⟨g, 0, none⟩), .int .i64 0]) ∧ PW w' g (ownA c sl (ownerI c sl) k m n s) ∧ w.heap.size ≤ g) ∧ Below w.heap.size w w' := by
  obtain ⟨o, ho⟩ : ∃ o, ownerI c sl = o := ⟨_, rfl⟩
  have hb := From.refl w
  have HO := Lib.hid ho
  clear ho
  go_enter Tryz.func23, Tryz.ntmps23
  go_upto_region 1 with fail
  obtain ⟨gB, hgB⟩ : ∃ g, (w).heap.size = g := ⟨_, rfl⟩
  have B := Blk.newV hgB 26 #[.int .i64 k, .int .i64 m, .int .i64 n, .string s]
  have hbn := (Below.refl (w).heap.size w).alloc (Nat.le_refl _) (.cells #[.int .i64 k, .int .i64 m, .int .i64 n, .string s] 26)
  replace hb := hb.step hbn
  clear hbn
  rw [hgB]
  generalize (w).alloc (.cells #[.int .i64 k, .int .i64 m, .int .i64 n, .string s] 26) = w3 at *
  have cS := fun W (hW : Below w3.heap.size w3 W) => own1_any gB 0 o k m n s W (B.step hW) hs ((hT.step hb.out).step hW)
  have hz := hb.size
  have hBl := B.lt
  rw [hq] at cS
  go_wp2_with fail
  refine (fresh_own c sl o _ _ HO.out he cS).mono ?_
  rintro e w4 ⟨⟨g, rfl, hP, hg⟩, hbn⟩
  replace hb := hb.step hbn
  replace B := B.step hbn
  have hgl := hP.lt
  obtain ⟨hPB, hP1, hP2⟩ := hP
  unfold freshA prpL at hPB
  simp only [List.map_cons, List.map_nil, List.cons_append, List.nil_append] at hPB
  go_upto_region 4 with fail
  have hn : gB ∉ [g] := by simp; omega
  have B_0 := kx_all (B.cell (j := 0) rfl) hn
  have B_1 := kx_all (B.cell (j := 1) rfl) hn
  have B_2 := kx_all (B.cell (j := 2) rfl) hn
  have B_3 := kx_all (B.cell (j := 3) rfl) hn
  have hgw : w.heap.size ≤ g := by omega
  refine wp_region_held (S := Kx [g] w4) (by kernel_rfl) ?_
  have hst : Below (w4).heap.size w4 { w4 with drawn := (w4).drawn + 1 } := ⟨rfl, rfl, rfl, Nat.le_refl _, fun _ _ => rfl⟩
  have hS : (Kx [g] w4) { w4 with drawn := (w4).drawn + 1 } := by first | exact ⟨rfl, rfl, rfl, Nat.le_refl _, fun _ _ _ => rfl⟩ | exact ⟨rfl, rfl, rfl, Nat.le_refl _, fun _ _ => rfl⟩ | exact hS0
  replace hb := hb.step hst
  replace hPB := hPB.step hst
  clear hst
  generalize ({ w4 with drawn := (w4).drawn + 1 } : World) = wq at *
  refine wpAnyH_take (i := 0) (v := ?_) rfl (by kernel_rfl) (by kernel_rfl) (by kernel_rfl) (fun _ _ _ h => h) (Or.inl ⟨by kernel_rfl, ?_⟩) hS ?_
  rotate_left
  · intro W hSW
    have y0 := B_0 _ hSW
    have y1 := B_1 _ hSW
    have y2 := B_2 _ hSW
    have y3 := B_3 _ hSW
    go_simp
    try with_reducible rfl
  dsimp only [Act.put]
  refine wpAnyH_take (i := 1) (v := ?_) rfl (by kernel_rfl) (by kernel_rfl) (by kernel_rfl) (fun _ _ _ h => h) (Or.inl ⟨by kernel_rfl, ?_⟩) hS ?_
  rotate_left
  · intro W hSW
    have y0 := B_0 _ hSW
    have y1 := B_1 _ hSW
    have y2 := B_2 _ hSW
    have y3 := B_3 _ hSW
    go_simp
    try with_reducible rfl
  dsimp only [Act.put]
  refine wpAnyH_take (i := 2) (v := ?_) rfl (by kernel_rfl) (by kernel_rfl) (by kernel_rfl) (fun _ _ _ h => h) (Or.inl ⟨by kernel_rfl, ?_⟩) hS ?_
  rotate_left
  · intro W hSW
    have y0 := B_0 _ hSW
    have y1 := B_1 _ hSW
    have y2 := B_2 _ hSW
    have y3 := B_3 _ hSW
    go_simp
    try with_reducible rfl
  dsimp only [Act.put]
  refine wpAnyH_take (i := 3) (v := ?_) rfl (by kernel_rfl) (by kernel_rfl) (by kernel_rfl) (fun _ _ _ h => h) (Or.inl ⟨by kernel_rfl, ?_⟩) hS ?_
  rotate_left
  · intro W hSW
    have y0 := B_0 _ hSW
    have y1 := B_1 _ hSW
    have y2 := B_2 _ hSW
    have y3 := B_3 _ hSW
    go_simp
    try with_reducible rfl
  dsimp only [Act.put]
  refine wpAnyH_take (i := 4) (v := ?_) rfl (by kernel_rfl) (by kernel_rfl) (by kernel_rfl) (fun _ _ _ h => h) (Or.inl ⟨by kernel_rfl, ?_⟩) hS ?_
  rotate_left
  · intro W hSW
    have y0 := B_0 _ hSW
    have y1 := B_1 _ hSW
    have y2 := B_2 _ hSW
    have y3 := B_3 _ hSW
    go_simp
    try with_reducible rfl
  dsimp only [Act.put]
  refine wpAnyH_take (i := 5) (v := ?_) rfl (by kernel_rfl) (by kernel_rfl) (by kernel_rfl) (fun _ _ _ h => h) (Or.inl ⟨by kernel_rfl, ?_⟩) hS ?_
  rotate_left
  · intro W hSW
    have y0 := B_0 _ hSW
    have y1 := B_1 _ hSW
    have y2 := B_2 _ hSW
    have y3 := B_3 _ hSW
    go_simp
    try with_reducible rfl
  dsimp only [Act.put]
  have p0 := hPB.cell (j := 0) rfl
  have f0 := hPB.frozen 0
  refine wpAnyH_ready (rs := [6]) (by kernel_rfl) (by simp) ?_
  refine AllReadyH.cons rfl (fun K hK => ?_) AllReadyH.nil
  go_simp
  have hk1 : Kx [g] wq (wq.setCell ⟨g, 0, none⟩ (.int .i64 2)) := (Kx.refl [g] wq).setCell (p := ⟨g, 0, none⟩) (.inl (by simp)) (.int .i64 2)
  replace hPB := hPB.set 0 (.int .i64 2)
  replace hb := hb.kx hk1 (by simp; omega)
  refine hK.out _ _ (hS.trans hk1) (fun hS => ?_)
  generalize wq.setCell ⟨g, 0, none⟩ (.int .i64 2) = wa at *
  clear hk1 p0 f0
  clear hK K
  refine wpAnyH_ready (rs := [7]) (by kernel_rfl) (by simp) ?_
  refine AllReadyH.cons rfl (fun K hK => ?_) AllReadyH.nil
  go_simp
  refine hK.out _ _ (hS) (fun hS => ?_)
  clear hK K
  refine wpAnyH_ready (rs := [8]) (by kernel_rfl) (by simp) ?_
  refine AllReadyH.cons rfl (fun K hK => ?_) AllReadyH.nil
  go_simp
  refine hK.out _ _ (hS) (fun hS => ?_)
  clear hK K
  refine wpAnyH_ready (rs := [9]) (by kernel_rfl) (by simp) ?_
  refine AllReadyH.cons rfl (fun K hK => ?_) AllReadyH.nil
  go_simp
  refine hK.out _ _ (hS) (fun hS => ?_)
  clear hK K
  have p1 := hPB.cell (j := 1) rfl
  have p2 := hPB.cell (j := 2) rfl
  have p3 := hPB.cell (j := 3) rfl
  have p4 := hPB.cell (j := 4) rfl
  have f1 := hPB.frozen 1
  have f2 := hPB.frozen 2
  have f3 := hPB.frozen 3
  have f4 := hPB.frozen 4
  refine wpAnyH_ready (rs := [10]) (by kernel_rfl) (by simp) ?_
  refine AllReadyH.cons rfl (fun K hK => ?_) AllReadyH.nil
  go_simp
  have hk1 : Kx [g] wa ((((wa.setCell ⟨g, 1, none⟩ (.int .i64 k)).setCell ⟨g, 2, none⟩ (.int .i64 m)).setCell ⟨g, 3, none⟩ (.int .i64 n)).setCell ⟨g, 4, none⟩ (.string s)) := Kx.setCells [.int .i64 k, .int .i64 m, .int .i64 n, .string s] 1 wa (Kx.refl [g] wa) (.inl (by simp))
  replace hPB := (((hPB.set 1 (.int .i64 k)).set 2 (.int .i64 m)).set 3 (.int .i64 n)).set 4 (.string s)
  replace hb := hb.kx hk1 (by simp; omega)
  refine hK.out _ _ (hS.trans hk1) (fun hS => ?_)
  generalize ((((wa.setCell ⟨g, 1, none⟩ (.int .i64 k)).setCell ⟨g, 2, none⟩ (.int .i64 m)).setCell ⟨g, 3, none⟩ (.int .i64 n)).setCell ⟨g, 4, none⟩ (.string s)) = ws at *
  clear hK K
  refine wpAnyH_done (by kernel_rfl) ?_ _
  have ho2 := HO.out
  go_wp2
  go_ret2
  exact ⟨⟨g, rfl, ⟨by rw [ho2]; exact hPB, rfl, rfl⟩, hgw⟩, hb⟩
end Go.Proofs.YtcahkcbenanfnaaGreatDoor
