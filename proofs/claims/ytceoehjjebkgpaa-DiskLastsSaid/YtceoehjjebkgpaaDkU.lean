
/- Package disk: Cut (done, dying); Remove, Rename: their closures. -/
import Derived.Test.YtceoehjjebkgpaaDkT
namespace Go.Proofs.Ytceoehjjebkgpaa
set_option linter.unusedSimpArgs false
set_option linter.unusedVariables false
open Go.RowKit Go.Maps
set_option maxRecDepth 100000 in
set_option maxHeartbeats 4000000 in
theorem dcut_do (d mb : Nat) (D : Ds) (L : FMap) (s : ByteArray) (n : Int) (w : World) (h : DkW w d mb D L) (hG : GoodD D L) (hs : okS s) (he : fileE L s = 0) (hr1 : 0 ≤ n) (hr2 : n ≤ ((fileM L s).b.length : Int)) (hd : D.dead = false) (hst : D.stop = false ∨ D.after ≠ 0) :
    Calls Try.prog 21 #[.pointer (some ⟨d, 0, none⟩), .string s, .int .i64 n] w fun e w' => e = .returned (.int .i64 0) ∧ (DkW w' d mb (goD D) (putG L s (cutF (fileM L s) n.toNat)) ∧ Kx [d, mb] w w') := by
  have hdl := h.lt
  have hf0 := file_con h s
  obtain ⟨K, rfl⟩ : ∃ K : Nat, n = (K : Int) := ⟨n.toNat, by omega⟩
  rw [Int.toNat_natCast]
  obtain ⟨Z, hZ⟩ : ∃ Z, cutF (fileM L s) K = Z := ⟨_, rfl⟩
  rw [hZ]
  obtain ⟨n, hKn⟩ : ∃ n : Int, (K : Int) = n := ⟨_, rfl⟩
  have hK3 := Lib.hid hKn
  simp only [hKn] at hr1 hr2 ⊢
  clear hKn
  have hb := From.refl w
  have cF := fun W (hW : DkW W d mb D L) => dfile_any d mb D L s W hW hs
  obtain ⟨m, hm⟩ : ∃ m, fileM L s = m := ⟨_, rfl⟩
  obtain ⟨ao, cap, x, sr⟩ := m
  obtain ⟨E, hE⟩ : ∃ E, fileE L s = E := ⟨_, rfl⟩
  simp only [hm, hE] at cF
  unfold fmV at cF
  simp only at cF
  go_enter Try.func21, Try.ntmps21
  go_upto_region 1 with fail
  obtain ⟨gP, hgP⟩ : ∃ g, (w).heap.size = g := ⟨_, rfl⟩
  have P := Blk.newV hgP 25 #[.pointer (some ⟨d, 0, none⟩)]
  have hbn := (Below.refl (w).heap.size w).alloc (Nat.le_refl _) (.cells #[.pointer (some ⟨d, 0, none⟩)] 25)
  replace hb := hb.step hbn
  replace h := h.step hbn
  clear hbn
  rw [hgP]
  have szP := alloc_size hgP (.cells #[.pointer (some ⟨d, 0, none⟩)] 25)
  generalize (w).alloc (.cells #[.pointer (some ⟨d, 0, none⟩)] 25) = w1 at *
  obtain ⟨gN, hgN⟩ : ∃ g, (w1).heap.size = g := ⟨_, rfl⟩
  have lt_P_N := P.lt
  rw [hgN] at lt_P_N
  have N := Blk.newV hgN 9 #[.string s]
  have hbn := (Below.refl (w1).heap.size w1).alloc (Nat.le_refl _) (.cells #[.string s] 9)
  replace hb := hb.step hbn
  replace h := h.step hbn
  replace P := P.step hbn
  clear hbn
  have egN : gP + 1 = gN := szP.symm.trans hgN
  rw [egN]
  clear szP
  have szN := alloc_size hgN (.cells #[.string s] 9)
  generalize (w1).alloc (.cells #[.string s] 9) = w2 at *
  obtain ⟨gI, hgI⟩ : ∃ g, (w2).heap.size = g := ⟨_, rfl⟩
  have lt_P_I := P.lt
  rw [hgI] at lt_P_I
  have lt_N_I := N.lt
  rw [hgI] at lt_N_I
  have I := Blk.newV hgI 3 #[.int .i64 n]
  have hbn := (Below.refl (w2).heap.size w2).alloc (Nat.le_refl _) (.cells #[.int .i64 n] 3)
  replace hb := hb.step hbn
  replace h := h.step hbn
  replace P := P.step hbn
  replace N := N.step hbn
  clear hbn
  have egI : gN + 1 = gI := szN.symm.trans hgI
  rw [egI]
  clear szN
  generalize (w2).alloc (.cells #[.int .i64 n] 3) = w3 at *
  have P_0 := P.cell (j := 0) rfl
  have N_0 := N.cell (j := 0) rfl
  go_wp2_with fail
  refine (cF _ h).mono ?_
  rintro e w4 ⟨rfl, hbn⟩
  replace hb := hb.step hbn
  replace h := h.step hbn
  replace P := P.step hbn
  replace N := N.step hbn
  replace I := I.step hbn
  clear hbn cF P_0 N_0
  go_upto_region 2 with fail
  obtain ⟨gX, hgX⟩ : ∃ g, (w4).heap.size = g := ⟨_, rfl⟩
  have lt_P_X := P.lt
  rw [hgX] at lt_P_X
  have lt_N_X := N.lt
  rw [hgX] at lt_N_X
  have lt_I_X := I.lt
  rw [hgX] at lt_I_X
  have X := Blk.newV hgX 61 #[.slice ao x.length cap, .int .i64 sr]
  have hbn := (Below.refl (w4).heap.size w4).alloc (Nat.le_refl _) (.cells #[.slice ao x.length cap, .int .i64 sr] 61)
  replace hb := hb.step hbn
  replace h := h.step hbn
  replace P := P.step hbn
  replace N := N.step hbn
  replace I := I.step hbn
  clear hbn
  rw [hgX]
  generalize (w4).alloc (.cells #[.slice ao x.length cap, .int .i64 sr] 61) = w5 at *
  obtain rfl : E = 0 := by rw [← hE, he]
  rw [hm] at hr2 hf0 hZ
  simp only at hr2 hf0
  clear he
  have I_0 := I.cell (j := 0) rfl
  have P_0 := P.cell (j := 0) rfl
  have x0 := X.cell (j := 0) rfl
  have h1 : ¬ n < 0 := by omega
  have h2 : ¬ (x.length : Int) < n := by omega
  go_wp2_with fail
  refine (ddoes_cut _ _ _ _ d mb D L _ (fun w' => DkW w' d mb (goD D) (putG L s Z) ∧ Kx [d, mb] w w') h hd hst ⟨hG.a1, hG.a2⟩ ?_).mono ?_
  · intro W hD7 hk7
    have hKn := hK3.out
    rw [← hKn] at I hr2
    have hbW : Kx [d] w W := (Kx.of_below [d] hb.out (Nat.le_refl _)).trans hk7
    have hcon := (file_con hD7 s).1
    rw [hm] at hcon
    refine (dcut1 gX gI gP gN d mb (goD D) L s ⟨ao, cap, x, sr⟩ K W (hk7.blk X (by simp; omega)) (hk7.blk I (by simp; omega)) (hk7.blk P (by simp; omega)) (hk7.blk N (by simp; omega)) hD7 hs (by have := hG.n; omega) hcon hf0.2 (by show K ≤ x.length; omega)).mono ?_
    rw [hZ]
    rintro e w8 ⟨rfl, hR, hk8⟩
    exact ⟨rfl, hR, (hbW.mono (by simp)).trans (hk8.mono (by simp))⟩
  · rintro e w8 ⟨rfl, hR⟩
    go_wp2_with fail
    go_ret
    exact ⟨rfl, hR⟩
set_option maxRecDepth 100000 in
set_option maxHeartbeats 2000000 in
theorem dcut_die (d mb : Nat) (D : Ds) (L : FMap) (s : ByteArray) (n : Int) (w : World) (h : DkW w d mb D L) (hs : okS s) (he : fileE L s = 0) (hr1 : 0 ≤ n) (hr2 : n ≤ ((fileM L s).b.length : Int)) (hd : D.dead = false) (hst : D.stop = true) (ha : D.after = 0) :
    Calls Try.prog 21 #[.pointer (some ⟨d, 0, none⟩), .string s, .int .i64 n] w fun e w' => e = .returned (.int .i64 172) ∧ DkW w' d mb (dieD D) L ∧ Kx [d] w w' := by
  have hb := From.refl w
  have cF := fun W (hW : DkW W d mb D L) => dfile_any d mb D L s W hW hs
  obtain ⟨m, hm⟩ : ∃ m, fileM L s = m := ⟨_, rfl⟩
  obtain ⟨ao, cap, x, sr⟩ := m
  obtain ⟨E, hE⟩ : ∃ E, fileE L s = E := ⟨_, rfl⟩
  simp only [hm, hE] at cF
  unfold fmV at cF
  simp only at cF
  go_enter Try.func21, Try.ntmps21
  go_upto_region 1 with fail
  obtain ⟨gP, hgP⟩ : ∃ g, (w).heap.size = g := ⟨_, rfl⟩
  have P := Blk.newV hgP 25 #[.pointer (some ⟨d, 0, none⟩)]
  have hbn := (Below.refl (w).heap.size w).alloc (Nat.le_refl _) (.cells #[.pointer (some ⟨d, 0, none⟩)] 25)
  replace hb := hb.step hbn
  replace h := h.step hbn
  clear hbn
  rw [hgP]
  have szP := alloc_size hgP (.cells #[.pointer (some ⟨d, 0, none⟩)] 25)
  generalize (w).alloc (.cells #[.pointer (some ⟨d, 0, none⟩)] 25) = w1 at *
  obtain ⟨gN, hgN⟩ : ∃ g, (w1).heap.size = g := ⟨_, rfl⟩
  have lt_P_N := P.lt
  rw [hgN] at lt_P_N
  have N := Blk.newV hgN 9 #[.string s]
  have hbn := (Below.refl (w1).heap.size w1).alloc (Nat.le_refl _) (.cells #[.string s] 9)
  replace hb := hb.step hbn
  replace h := h.step hbn
  replace P := P.step hbn
  clear hbn
  have egN : gP + 1 = gN := szP.symm.trans hgN
  rw [egN]
  clear szP
  have szN := alloc_size hgN (.cells #[.string s] 9)
  generalize (w1).alloc (.cells #[.string s] 9) = w2 at *
  obtain ⟨gI, hgI⟩ : ∃ g, (w2).heap.size = g := ⟨_, rfl⟩
  have lt_P_I := P.lt
  rw [hgI] at lt_P_I
  have lt_N_I := N.lt
  rw [hgI] at lt_N_I
  have I := Blk.newV hgI 3 #[.int .i64 n]
  have hbn := (Below.refl (w2).heap.size w2).alloc (Nat.le_refl _) (.cells #[.int .i64 n] 3)
  replace hb := hb.step hbn
  replace h := h.step hbn
  replace P := P.step hbn
  replace N := N.step hbn
  clear hbn
  have egI : gN + 1 = gI := szN.symm.trans hgI
  rw [egI]
  clear szN
  generalize (w2).alloc (.cells #[.int .i64 n] 3) = w3 at *
  have P_0 := P.cell (j := 0) rfl
  have N_0 := N.cell (j := 0) rfl
  go_wp2_with fail
  refine (cF _ h).mono ?_
  rintro e w4 ⟨rfl, hbn⟩
  replace hb := hb.step hbn
  replace h := h.step hbn
  replace P := P.step hbn
  replace N := N.step hbn
  replace I := I.step hbn
  clear hbn cF P_0 N_0
  go_upto_region 2 with fail
  obtain ⟨gX, hgX⟩ : ∃ g, (w4).heap.size = g := ⟨_, rfl⟩
  have lt_P_X := P.lt
  rw [hgX] at lt_P_X
  have lt_N_X := N.lt
  rw [hgX] at lt_N_X
  have lt_I_X := I.lt
  rw [hgX] at lt_I_X
  have X := Blk.newV hgX 61 #[.slice ao x.length cap, .int .i64 sr]
  have hbn := (Below.refl (w4).heap.size w4).alloc (Nat.le_refl _) (.cells #[.slice ao x.length cap, .int .i64 sr] 61)
  replace hb := hb.step hbn
  replace h := h.step hbn
  replace P := P.step hbn
  replace N := N.step hbn
  replace I := I.step hbn
  clear hbn
  rw [hgX]
  generalize (w4).alloc (.cells #[.slice ao x.length cap, .int .i64 sr] 61) = w5 at *
  obtain rfl : E = 0 := by rw [← hE, he]
  rw [hm] at hr2
  simp only at hr2
  clear he
  have I_0 := I.cell (j := 0) rfl
  have P_0 := P.cell (j := 0) rfl
  have x0 := X.cell (j := 0) rfl
  have h0 : ¬ n < 0 := by omega
  have h1 : ¬ (x.length : Int) < n := by omega
  go_wp2_with fail
  refine (ddoes_die _ d mb D L _ h hd hst ha).mono ?_
  rintro e w7 ⟨rfl, hD7, hk7⟩
  go_wp2_with fail
  go_ret
  exact ⟨rfl, hD7, (Kx.of_below [d] hb.out (Nat.le_refl _)).trans hk7⟩
set_option maxRecDepth 100000 in
set_option maxHeartbeats 2000000 in
theorem dcut_err (d mb : Nat) (D : Ds) (L : FMap) (s : ByteArray) (n : Int) (w : World) (h : DkW w d mb D L) (hs : okS s) (he : fileE L s ≠ 0) :
    Calls Try.prog 21 #[.pointer (some ⟨d, 0, none⟩), .string s, .int .i64 n] w fun e w' => e = .returned (.int .i64 (fileE L s)) ∧ Below w.heap.size w w' := by
  have hne : (fileE L s != 0) = true := by simpa using he
  have hb := From.refl w
  have cF := fun W (hW : DkW W d mb D L) => dfile_any d mb D L s W hW hs
  obtain ⟨m, hm⟩ : ∃ m, fileM L s = m := ⟨_, rfl⟩
  obtain ⟨ao, cap, x, sr⟩ := m
  obtain ⟨E, hE⟩ : ∃ E, fileE L s = E := ⟨_, rfl⟩
  simp only [hm, hE] at cF
  unfold fmV at cF
  simp only at cF
  go_enter Try.func21, Try.ntmps21
  go_upto_region 1 with fail
  obtain ⟨gP, hgP⟩ : ∃ g, (w).heap.size = g := ⟨_, rfl⟩
  have P := Blk.newV hgP 25 #[.pointer (some ⟨d, 0, none⟩)]
  have hbn := (Below.refl (w).heap.size w).alloc (Nat.le_refl _) (.cells #[.pointer (some ⟨d, 0, none⟩)] 25)
  replace hb := hb.step hbn
  replace h := h.step hbn
  clear hbn
  rw [hgP]
  have szP := alloc_size hgP (.cells #[.pointer (some ⟨d, 0, none⟩)] 25)
  generalize (w).alloc (.cells #[.pointer (some ⟨d, 0, none⟩)] 25) = w1 at *
  obtain ⟨gN, hgN⟩ : ∃ g, (w1).heap.size = g := ⟨_, rfl⟩
  have lt_P_N := P.lt
  rw [hgN] at lt_P_N
  have N := Blk.newV hgN 9 #[.string s]
  have hbn := (Below.refl (w1).heap.size w1).alloc (Nat.le_refl _) (.cells #[.string s] 9)
  replace hb := hb.step hbn
  replace h := h.step hbn
  replace P := P.step hbn
  clear hbn
  have egN : gP + 1 = gN := szP.symm.trans hgN
  rw [egN]
  clear szP
  have szN := alloc_size hgN (.cells #[.string s] 9)
  generalize (w1).alloc (.cells #[.string s] 9) = w2 at *
  obtain ⟨gI, hgI⟩ : ∃ g, (w2).heap.size = g := ⟨_, rfl⟩
  have lt_P_I := P.lt
  rw [hgI] at lt_P_I
  have lt_N_I := N.lt
  rw [hgI] at lt_N_I
  have I := Blk.newV hgI 3 #[.int .i64 n]
  have hbn := (Below.refl (w2).heap.size w2).alloc (Nat.le_refl _) (.cells #[.int .i64 n] 3)
  replace hb := hb.step hbn
  replace h := h.step hbn
  replace P := P.step hbn
  replace N := N.step hbn
  clear hbn
  have egI : gN + 1 = gI := szN.symm.trans hgI
  rw [egI]
  clear szN
  generalize (w2).alloc (.cells #[.int .i64 n] 3) = w3 at *
  have P_0 := P.cell (j := 0) rfl
  have N_0 := N.cell (j := 0) rfl
  go_wp2_with fail
  refine (cF _ h).mono ?_
  rintro e w4 ⟨rfl, hbn⟩
  replace hb := hb.step hbn
  replace h := h.step hbn
  replace P := P.step hbn
  replace N := N.step hbn
  replace I := I.step hbn
  clear hbn cF P_0 N_0
  go_upto_region 2 with fail
  obtain ⟨gX, hgX⟩ : ∃ g, (w4).heap.size = g := ⟨_, rfl⟩
  have lt_P_X := P.lt
  rw [hgX] at lt_P_X
  have lt_N_X := N.lt
  rw [hgX] at lt_N_X
  have lt_I_X := I.lt
  rw [hgX] at lt_I_X
  have X := Blk.newV hgX 61 #[.slice ao x.length cap, .int .i64 sr]
  have hbn := (Below.refl (w4).heap.size w4).alloc (Nat.le_refl _) (.cells #[.slice ao x.length cap, .int .i64 sr] 61)
  replace hb := hb.step hbn
  replace h := h.step hbn
  replace P := P.step hbn
  replace N := N.step hbn
  replace I := I.step hbn
  clear hbn
  rw [hgX]
  generalize (w4).alloc (.cells #[.slice ao x.length cap, .int .i64 sr] 61) = w5 at *
  rw [hE] at hne
  go_wp2_with fail
  go_ret
  exact ⟨rfl, hb.out.mono (by omega)⟩
/-! Remove. -/
theorem DkW.less {W W' : World} {d mb : Nat} {D : Ds} {L : FMap} {s : ByteArray} (h : DkW W d mb D L) (hk : Kx [mb] W W') (hM : MapD W' mb (delG L s)) : DkW W' d mb D (delG L s) := by
  have hne := h.ne
  have key : ∀ ao b, BySl W ao b → BySl W' ao b := fun ao b hb => hb.kx hk (fun g hg => by
    rcases hb with ⟨h1, -⟩ | ⟨g', h1, h2⟩
    · rw [h1] at hg; cases hg
    · rw [h1] at hg
      cases hg
      have := h2.ne_map h.map
      simpa using this)
  refine ⟨hk.blk h.blk (by simpa using hne), hM, fun p hp => key _ _ (h.con p (List.mem_filter.1 hp).1), fun p hp => h.room p (List.mem_filter.1 hp).1⟩
set_option maxRecDepth 100000 in
set_option maxHeartbeats 2000000 in
theorem drem1 (bp bn d mb : Nat) (D : Ds) (L : FMap) (s : ByteArray) (m : Fm) (w : World)
    (P : Blk w bp 25 [.pointer (some ⟨d, 0, none⟩)]) (N : Blk w bn 9 [.string s]) (h : DkW w d mb D L) (hs : okS s) :
    Calls Try.prog 44 #[fmV m, .pointer (some ⟨bp, 0, none⟩), .pointer (some ⟨bn, 0, none⟩)] w fun e w' => e = .returned (.tuple #[]) ∧ (DkW w' d mb D (delG L s) ∧ Kx [mb] w w') := by
  obtain ⟨ao, cap, x, sr⟩ := m
  unfold fmV
  simp only
  have hmb : mb < w.heap.size := h.ltb
  have hdm := h.ne
  have hpm := blk_ne_map P h.map
  have hnm := blk_ne_map N h.map
  have hb := From.refl w
  go_enter Try.func44, Try.ntmps44
  go_upto_region 1 with fail
  obtain ⟨gX, hgX⟩ : ∃ g, (w).heap.size = g := ⟨_, rfl⟩
  have X := Blk.newV hgX 61 #[.slice ao x.length cap, .int .i64 sr]
  have hbn := (Below.refl (w).heap.size w).alloc (Nat.le_refl _) (.cells #[.slice ao x.length cap, .int .i64 sr] 61)
  replace hb := hb.step hbn
  clear hbn
  rw [hgX]
  generalize (w).alloc (.cells #[.slice ao x.length cap, .int .i64 sr] 61) = w1 at *
  have k0 := kx_all ((P.step hb.out).cell (j := 0) rfl) (show bp ∉ [mb] by simpa using hpm)
  have k1 := kx_all ((N.step hb.out).cell (j := 0) rfl) (show bn ∉ [mb] by simpa using hnm)
  have k2 := kx_all (h.step hb.out).c1 (show d ∉ [mb] by simpa using hdm)
  refine wp_region_held (S := Kx [mb] w1) (by kernel_rfl) ?_
  have hst : Below (w1).heap.size w1 { w1 with drawn := (w1).drawn + 1 } := ⟨rfl, rfl, rfl, Nat.le_refl _, fun _ _ => rfl⟩
  have hS : (Kx [mb] w1) { w1 with drawn := (w1).drawn + 1 } := by first | exact ⟨rfl, rfl, rfl, Nat.le_refl _, fun _ _ _ => rfl⟩ | exact ⟨rfl, rfl, rfl, Nat.le_refl _, fun _ _ => rfl⟩ | exact hS0
  replace hb := hb.step hst
  clear hst
  generalize ({ w1 with drawn := (w1).drawn + 1 } : World) = wq at *
  refine wpAnyH_take (i := 0) (v := ?_) rfl (by kernel_rfl) (by kernel_rfl) (by kernel_rfl) (fun _ _ _ h => h) (Or.inl ⟨by kernel_rfl, ?_⟩) hS ?_
  rotate_left
  · intro W hSW
    have y0 := k0 _ hSW
    have y1 := k1 _ hSW
    have y2 := k2 _ hSW
    go_simp
    try with_reducible rfl
  dsimp only [Act.put]
  refine wpAnyH_take (i := 1) (v := ?_) rfl (by kernel_rfl) (by kernel_rfl) (by kernel_rfl) (fun _ _ _ h => h) (Or.inl ⟨by kernel_rfl, ?_⟩) hS ?_
  rotate_left
  · intro W hSW
    have y0 := k0 _ hSW
    have y1 := k1 _ hSW
    have y2 := k2 _ hSW
    go_simp
    try with_reducible rfl
  dsimp only [Act.put]
  refine wpAnyH_take (i := 2) (v := ?_) rfl (by kernel_rfl) (by kernel_rfl) (by kernel_rfl) (fun _ _ _ h => h) (Or.inl ⟨by kernel_rfl, ?_⟩) hS ?_
  rotate_left
  · intro W hSW
    have y0 := k0 _ hSW
    have y1 := k1 _ hSW
    have y2 := k2 _ hSW
    go_simp
    try with_reducible rfl
  dsimp only [Act.put]
  refine wpAnyH_take (i := 3) (v := ?_) rfl (by kernel_rfl) (by kernel_rfl) (by kernel_rfl) (fun _ _ _ h => h) (Or.inl ⟨by kernel_rfl, ?_⟩) hS ?_
  rotate_left
  · intro W hSW
    have y0 := k0 _ hSW
    have y1 := k1 _ hSW
    have y2 := k2 _ hSW
    go_simp
    try with_reducible rfl
  dsimp only [Act.put]
  refine wpAnyH_take (i := 4) (v := ?_) rfl (by kernel_rfl) (by kernel_rfl) (by kernel_rfl) (fun _ _ _ h => h) (Or.inl ⟨by kernel_rfl, ?_⟩) hS ?_
  rotate_left
  · intro W hSW
    have y0 := k0 _ hSW
    have y1 := k1 _ hSW
    have y2 := k2 _ hSW
    go_simp
    try with_reducible rfl
  dsimp only [Act.put]
  have hh := MapG.step h.map hb.out
  have hp := MapG.del hh keyS Try.underlying53 s hs 0
  obtain ⟨w9, hrun, hM9, hk9, -⟩ := hp
  have hD9 := (h.step hb.out).less hk9 hM9
  refine wpAnyH_ready (rs := [5]) (by kernel_rfl) (by simp) ?_
  refine AllReadyH.cons rfl (fun K hK => ?_) AllReadyH.nil
  go_simp
  refine hK.out _ _ (hS.trans hk9) (fun hS => ?_)
  clear hK K
  refine wpAnyH_done (by kernel_rfl) ?_ _
  clear hrun hM9 k0 k1 k2
  go_wp2_with fail
  go_end0
  exact ⟨rfl, hD9, (Kx.of_below [mb] hb.out (Nat.le_refl _)).trans hk9⟩
set_option maxRecDepth 100000 in
set_option maxHeartbeats 2000000 in
theorem dren1 (bp bn bt d mb : Nat) (D : Ds) (L : FMap) (s t : ByteArray) (m : Fm) (w : World)
    (P : Blk w bp 25 [.pointer (some ⟨d, 0, none⟩)]) (N : Blk w bn 9 [.string s]) (T : Blk w bt 9 [.string t]) (h : DkW w d mb D L) (hs : okS s) (ht : okS t) (hl : L.length < 1000) (hb0 : BySl w m.ao m.b) (hr0 : m.b.length ≤ m.cap) :
    Calls Try.prog 45 #[fmV m, .pointer (some ⟨bp, 0, none⟩), .pointer (some ⟨bn, 0, none⟩), .pointer (some ⟨bt, 0, none⟩)] w fun e w' => e = .returned (.tuple #[]) ∧ (DkW w' d mb D (putG (delG L s) t m) ∧ Kx [mb] w w') := by
  obtain ⟨ao, cap, x, sr⟩ := m
  unfold fmV
  simp only at hb0 hr0 ⊢
  have hmb : mb < w.heap.size := h.ltb
  have hdm := h.ne
  have hpm := blk_ne_map P h.map
  have hnm := blk_ne_map N h.map
  have htm := blk_ne_map T h.map
  have hdl : (delG L s).length < 1000 := Nat.lt_of_le_of_lt (List.length_filter_le _ _) hl
  have hb := From.refl w
  go_enter Try.func45, Try.ntmps45
  go_upto_region 1 with fail
  obtain ⟨gX, hgX⟩ : ∃ g, (w).heap.size = g := ⟨_, rfl⟩
  have X := Blk.newV hgX 61 #[.slice ao x.length cap, .int .i64 sr]
  have hbn := (Below.refl (w).heap.size w).alloc (Nat.le_refl _) (.cells #[.slice ao x.length cap, .int .i64 sr] 61)
  replace hb := hb.step hbn
  clear hbn
  rw [hgX]
  generalize (w).alloc (.cells #[.slice ao x.length cap, .int .i64 sr] 61) = w1 at *
  have k0 := kx_all ((P.step hb.out).cell (j := 0) rfl) (show bp ∉ [mb] by simpa using hpm)
  have k1 := kx_all ((N.step hb.out).cell (j := 0) rfl) (show bn ∉ [mb] by simpa using hnm)
  have k2 := kx_all (h.step hb.out).c1 (show d ∉ [mb] by simpa using hdm)
  have k3 := kx_all ((T.step hb.out).cell (j := 0) rfl) (show bt ∉ [mb] by simpa using htm)
  have k4 := kx_all (X.cell (j := 0) rfl) (show gX ∉ [mb] by simp; omega)
  have k5 := kx_all (X.cell (j := 1) rfl) (show gX ∉ [mb] by simp; omega)
  refine wp_region_held (S := Kx [mb] w1) (by kernel_rfl) ?_
  have hst : Below (w1).heap.size w1 { w1 with drawn := (w1).drawn + 1 } := ⟨rfl, rfl, rfl, Nat.le_refl _, fun _ _ => rfl⟩
  have hS : (Kx [mb] w1) { w1 with drawn := (w1).drawn + 1 } := by first | exact ⟨rfl, rfl, rfl, Nat.le_refl _, fun _ _ _ => rfl⟩ | exact ⟨rfl, rfl, rfl, Nat.le_refl _, fun _ _ => rfl⟩ | exact hS0
  replace hb := hb.step hst
  clear hst
  generalize ({ w1 with drawn := (w1).drawn + 1 } : World) = wq at *
  refine wpAnyH_take (i := 0) (v := ?_) rfl (by kernel_rfl) (by kernel_rfl) (by kernel_rfl) (fun _ _ _ h => h) (Or.inl ⟨by kernel_rfl, ?_⟩) hS ?_
  rotate_left
  · intro W hSW
    have y0 := k0 _ hSW
    have y1 := k1 _ hSW
    have y2 := k2 _ hSW
    go_simp
    try with_reducible rfl
  dsimp only [Act.put]
  refine wpAnyH_take (i := 1) (v := ?_) rfl (by kernel_rfl) (by kernel_rfl) (by kernel_rfl) (fun _ _ _ h => h) (Or.inl ⟨by kernel_rfl, ?_⟩) hS ?_
  rotate_left
  · intro W hSW
    have y0 := k0 _ hSW
    have y1 := k1 _ hSW
    have y2 := k2 _ hSW
    go_simp
    try with_reducible rfl
  dsimp only [Act.put]
  refine wpAnyH_take (i := 2) (v := ?_) rfl (by kernel_rfl) (by kernel_rfl) (by kernel_rfl) (fun _ _ _ h => h) (Or.inl ⟨by kernel_rfl, ?_⟩) hS ?_
  rotate_left
  · intro W hSW
    have y0 := k0 _ hSW
    have y1 := k1 _ hSW
    have y2 := k2 _ hSW
    go_simp
    try with_reducible rfl
  dsimp only [Act.put]
  refine wpAnyH_take (i := 3) (v := ?_) rfl (by kernel_rfl) (by kernel_rfl) (by kernel_rfl) (fun _ _ _ h => h) (Or.inl ⟨by kernel_rfl, ?_⟩) hS ?_
  rotate_left
  · intro W hSW
    have y0 := k0 _ hSW
    have y1 := k1 _ hSW
    have y2 := k2 _ hSW
    go_simp
    try with_reducible rfl
  dsimp only [Act.put]
  refine wpAnyH_take (i := 4) (v := ?_) rfl (by kernel_rfl) (by kernel_rfl) (by kernel_rfl) (fun _ _ _ h => h) (Or.inl ⟨by kernel_rfl, ?_⟩) hS ?_
  rotate_left
  · intro W hSW
    have y0 := k0 _ hSW
    have y1 := k1 _ hSW
    have y2 := k2 _ hSW
    go_simp
    try with_reducible rfl
  dsimp only [Act.put]
  have hh := MapG.step h.map hb.out
  have hp := MapG.del hh keyS Try.underlying53 s hs 0
  obtain ⟨w9, hrun, hM9, hk9, -⟩ := hp
  have hD9 := (h.step hb.out).less hk9 hM9
  refine wpAnyH_ready (rs := [5]) (by kernel_rfl) (by simp) ?_
  refine AllReadyH.cons rfl (fun K hK => ?_) AllReadyH.nil
  go_simp
  refine hK.out _ _ (hS.trans hk9) (fun hS => ?_)
  clear hK K
  refine wpAnyH_done (by kernel_rfl) ?_ _
  clear hrun hM9
  have hk19 : Kx [mb] w1 w9 := hS
  have j0 := fun W (hW : Kx [mb] w9 W) => k0 W (hk19.trans hW)
  have j1 := fun W (hW : Kx [mb] w9 W) => k3 W (hk19.trans hW)
  have j2 := fun W (hW : Kx [mb] w9 W) => k2 W (hk19.trans hW)
  have j3 := fun W (hW : Kx [mb] w9 W) => k4 W (hk19.trans hW)
  have j4 := fun W (hW : Kx [mb] w9 W) => k5 W (hk19.trans hW)
  clear k0 k1 k2 k3 k4 k5
  have hbx := (hb0.step hb.out)
  have hb29 : BySl w9 ao x := hbx.kx hk9 (fun g hg => by
    rcases hbx with ⟨h1, -⟩ | ⟨g', h1, h2⟩
    · rw [h1] at hg; cases hg
    · rw [h1] at hg
      cases hg
      have := h2.ne_map (h.step hb.out).map
      simpa using this)
  have hk09 : Kx [mb] w w9 := (Kx.of_below [mb] hb.out (Nat.le_refl _)).trans hk9
  clear hk9 hh hS hk19 hbx
  have hc := From.refl w9
  go_upto_region 2 with fail
  refine wp_region_held (S := Kx [mb] w9) (by kernel_rfl) ?_
  have hst : Below (w9).heap.size w9 { w9 with drawn := (w9).drawn + 1 } := ⟨rfl, rfl, rfl, Nat.le_refl _, fun _ _ => rfl⟩
  have hS : (Kx [mb] w9) { w9 with drawn := (w9).drawn + 1 } := by first | exact ⟨rfl, rfl, rfl, Nat.le_refl _, fun _ _ _ => rfl⟩ | exact ⟨rfl, rfl, rfl, Nat.le_refl _, fun _ _ => rfl⟩ | exact hS0
  replace hc := hc.step hst
  clear hst
  generalize ({ w9 with drawn := (w9).drawn + 1 } : World) = wq at *
  refine wpAnyH_take (i := 0) (v := ?_) rfl (by kernel_rfl) (by kernel_rfl) (by kernel_rfl) (fun _ _ _ h => h) (Or.inl ⟨by kernel_rfl, ?_⟩) hS ?_
  rotate_left
  · intro W hSW
    have y0 := j0 _ hSW
    have y1 := j1 _ hSW
    have y2 := j2 _ hSW
    have y3 := j3 _ hSW
    have y4 := j4 _ hSW
    go_simp
    try with_reducible rfl
  dsimp only [Act.put]
  refine wpAnyH_take (i := 1) (v := ?_) rfl (by kernel_rfl) (by kernel_rfl) (by kernel_rfl) (fun _ _ _ h => h) (Or.inl ⟨by kernel_rfl, ?_⟩) hS ?_
  rotate_left
  · intro W hSW
    have y0 := j0 _ hSW
    have y1 := j1 _ hSW
    have y2 := j2 _ hSW
    have y3 := j3 _ hSW
    have y4 := j4 _ hSW
    go_simp
    try with_reducible rfl
  dsimp only [Act.put]
  refine wpAnyH_take (i := 2) (v := ?_) rfl (by kernel_rfl) (by kernel_rfl) (by kernel_rfl) (fun _ _ _ h => h) (Or.inl ⟨by kernel_rfl, ?_⟩) hS ?_
  rotate_left
  · intro W hSW
    have y0 := j0 _ hSW
    have y1 := j1 _ hSW
    have y2 := j2 _ hSW
    have y3 := j3 _ hSW
    have y4 := j4 _ hSW
    go_simp
    try with_reducible rfl
  dsimp only [Act.put]
  refine wpAnyH_take (i := 3) (v := ?_) rfl (by kernel_rfl) (by kernel_rfl) (by kernel_rfl) (fun _ _ _ h => h) (Or.inl ⟨by kernel_rfl, ?_⟩) hS ?_
  rotate_left
  · intro W hSW
    have y0 := j0 _ hSW
    have y1 := j1 _ hSW
    have y2 := j2 _ hSW
    have y3 := j3 _ hSW
    have y4 := j4 _ hSW
    go_simp
    try with_reducible rfl
  dsimp only [Act.put]
  refine wpAnyH_take (i := 4) (v := ?_) rfl (by kernel_rfl) (by kernel_rfl) (by kernel_rfl) (fun _ _ _ h => h) (Or.inl ⟨by kernel_rfl, ?_⟩) hS ?_
  rotate_left
  · intro W hSW
    have y0 := j0 _ hSW
    have y1 := j1 _ hSW
    have y2 := j2 _ hSW
    have y3 := j3 _ hSW
    have y4 := j4 _ hSW
    go_simp
    try with_reducible rfl
  dsimp only [Act.put]
  refine wpAnyH_take (i := 5) (v := ?_) rfl (by kernel_rfl) (by kernel_rfl) (by kernel_rfl) (fun _ _ _ h => h) (Or.inl ⟨by kernel_rfl, ?_⟩) hS ?_
  rotate_left
  · intro W hSW
    have y0 := j0 _ hSW
    have y1 := j1 _ hSW
    have y2 := j2 _ hSW
    have y3 := j3 _ hSW
    have y4 := j4 _ hSW
    go_simp
    try with_reducible rfl
  dsimp only [Act.put]
  have hh := MapG.step hD9.map hc.out
  have hp := MapG.put hh keyS Try.underlying53 t (⟨ao, cap, x, sr⟩ : Fm) ht (by unfold maxLen; omega)
  obtain ⟨wz, hrun, hM9, hkz, -⟩ := hp
  have hDz := (hD9.step hc.out).put hkz hM9 (hb29.step hc.out) hr0
  unfold fmV at hrun
  simp only at hrun
  refine wpAnyH_ready (rs := [6]) (by kernel_rfl) (by simp) ?_
  refine AllReadyH.cons rfl (fun K hK => ?_) AllReadyH.nil
  go_simp
  refine hK.out _ _ (hS.trans hkz) (fun hS => ?_)
  clear hK K
  refine wpAnyH_done (by kernel_rfl) ?_ _
  clear hrun hM9 j0 j1 j2 j3 j4
  go_wp2_with fail
  go_end0
  exact ⟨rfl, hDz, hk09.trans ((Kx.of_below [mb] hc.out (Nat.le_refl _)).trans hkz)⟩
set_option maxRecDepth 100000 in
set_option maxHeartbeats 2000000 in
theorem dof_err_rem (q1 q2 : Value) (d mb : Nat) (D : Ds) (L : FMap) (s : ByteArray) (w : World) (h : DkW w d mb D L) (hs : okS s) (he : fileE L s ≠ 0) :
    Calls Try.prog 38 #[.pointer (some ⟨d, 0, none⟩), .string s, .func (.func 44) #[] #[q1, q2]] w fun e w' => e = .returned (.int .i64 (fileE L s)) ∧ Below w.heap.size w w' := by
  have hne : (fileE L s != 0) = true := by simpa using he
  have hb := From.refl w
  have cF := fun W (hW : DkW W d mb D L) => dfile_any d mb D L s W hW hs
  obtain ⟨m, hm⟩ : ∃ m, fileM L s = m := ⟨_, rfl⟩
  obtain ⟨ao, cap, x, sr⟩ := m
  obtain ⟨E, hE⟩ : ∃ E, fileE L s = E := ⟨_, rfl⟩
  simp only [hm, hE] at cF
  unfold fmV at cF
  simp only at cF
  go_enter Try.func38, Try.ntmps38
  go_upto_region 1 with fail
  obtain ⟨gB, hgB⟩ : ∃ g, (w).heap.size = g := ⟨_, rfl⟩
  have B := Blk.newV hgB 75 #[.func (.func 44) #[] #[q1, q2]]
  have hbn := (Below.refl (w).heap.size w).alloc (Nat.le_refl _) (.cells #[.func (.func 44) #[] #[q1, q2]] 75)
  replace hb := hb.step hbn
  replace h := h.step hbn
  clear hbn
  rw [hgB]
  generalize (w).alloc (.cells #[.func (.func 44) #[] #[q1, q2]] 75) = w1 at *
  go_wp2_with fail
  refine (cF _ h).mono ?_
  rintro e w2 ⟨rfl, hbn⟩
  replace hb := hb.step hbn
  replace h := h.step hbn
  replace B := B.step hbn
  clear hbn cF
  go_upto_region 2 with fail
  obtain ⟨gX, hgX⟩ : ∃ g, (w2).heap.size = g := ⟨_, rfl⟩
  have lt_B_X := B.lt
  rw [hgX] at lt_B_X
  have X := Blk.newV hgX 61 #[.slice ao x.length cap, .int .i64 sr]
  have hbn := (Below.refl (w2).heap.size w2).alloc (Nat.le_refl _) (.cells #[.slice ao x.length cap, .int .i64 sr] 61)
  replace hb := hb.step hbn
  replace h := h.step hbn
  replace B := B.step hbn
  clear hbn
  rw [hgX]
  generalize (w2).alloc (.cells #[.slice ao x.length cap, .int .i64 sr] 61) = w3 at *
  rw [hE] at hne
  go_wp2_with fail
  go_ret
  exact ⟨rfl, hb.out.mono (by omega)⟩
set_option maxRecDepth 100000 in
set_option maxHeartbeats 2000000 in
theorem dof_dead_rem (q1 q2 : Value) (d mb : Nat) (D : Ds) (L : FMap) (s : ByteArray) (w : World) (h : DkW w d mb D L) (hs : okS s) (he : fileE L s = 0) (hd : D.dead = true) :
    Calls Try.prog 38 #[.pointer (some ⟨d, 0, none⟩), .string s, .func (.func 44) #[] #[q1, q2]] w fun e w' => e = .returned (.int .i64 172) ∧ Below w.heap.size w w' := by
  have hb := From.refl w
  have cF := fun W (hW : DkW W d mb D L) => dfile_any d mb D L s W hW hs
  obtain ⟨m, hm⟩ : ∃ m, fileM L s = m := ⟨_, rfl⟩
  obtain ⟨ao, cap, x, sr⟩ := m
  obtain ⟨E, hE⟩ : ∃ E, fileE L s = E := ⟨_, rfl⟩
  simp only [hm, hE] at cF
  unfold fmV at cF
  simp only at cF
  go_enter Try.func38, Try.ntmps38
  go_upto_region 1 with fail
  obtain ⟨gB, hgB⟩ : ∃ g, (w).heap.size = g := ⟨_, rfl⟩
  have B := Blk.newV hgB 75 #[.func (.func 44) #[] #[q1, q2]]
  have hbn := (Below.refl (w).heap.size w).alloc (Nat.le_refl _) (.cells #[.func (.func 44) #[] #[q1, q2]] 75)
  replace hb := hb.step hbn
  replace h := h.step hbn
  clear hbn
  rw [hgB]
  generalize (w).alloc (.cells #[.func (.func 44) #[] #[q1, q2]] 75) = w1 at *
  go_wp2_with fail
  refine (cF _ h).mono ?_
  rintro e w2 ⟨rfl, hbn⟩
  replace hb := hb.step hbn
  replace h := h.step hbn
  replace B := B.step hbn
  clear hbn cF
  go_upto_region 2 with fail
  obtain ⟨gX, hgX⟩ : ∃ g, (w2).heap.size = g := ⟨_, rfl⟩
  have lt_B_X := B.lt
  rw [hgX] at lt_B_X
  have X := Blk.newV hgX 61 #[.slice ao x.length cap, .int .i64 sr]
  have hbn := (Below.refl (w2).heap.size w2).alloc (Nat.le_refl _) (.cells #[.slice ao x.length cap, .int .i64 sr] 61)
  replace hb := hb.step hbn
  replace h := h.step hbn
  replace B := B.step hbn
  clear hbn
  rw [hgX]
  generalize (w2).alloc (.cells #[.slice ao x.length cap, .int .i64 sr] 61) = w3 at *
  obtain rfl : E = 0 := by rw [← hE, he]
  clear he
  go_wp2_with fail
  refine (ddoes_dead _ d mb D L _ h hd).mono ?_
  rintro e w7 ⟨rfl, rfl⟩
  go_wp2_with fail
  go_ret
  exact ⟨rfl, hb.out.mono (by omega)⟩
set_option maxRecDepth 100000 in
set_option maxHeartbeats 2000000 in
theorem dof_die_rem (q1 q2 : Value) (d mb : Nat) (D : Ds) (L : FMap) (s : ByteArray) (w : World) (h : DkW w d mb D L) (hs : okS s) (he : fileE L s = 0) (hd : D.dead = false) (hst : D.stop = true) (ha : D.after = 0) :
    Calls Try.prog 38 #[.pointer (some ⟨d, 0, none⟩), .string s, .func (.func 44) #[] #[q1, q2]] w fun e w' => e = .returned (.int .i64 172) ∧ DkW w' d mb (dieD D) L ∧ Kx [d] w w' := by
  have hb := From.refl w
  have cF := fun W (hW : DkW W d mb D L) => dfile_any d mb D L s W hW hs
  obtain ⟨m, hm⟩ : ∃ m, fileM L s = m := ⟨_, rfl⟩
  obtain ⟨ao, cap, x, sr⟩ := m
  obtain ⟨E, hE⟩ : ∃ E, fileE L s = E := ⟨_, rfl⟩
  simp only [hm, hE] at cF
  unfold fmV at cF
  simp only at cF
  go_enter Try.func38, Try.ntmps38
  go_upto_region 1 with fail
  obtain ⟨gB, hgB⟩ : ∃ g, (w).heap.size = g := ⟨_, rfl⟩
  have B := Blk.newV hgB 75 #[.func (.func 44) #[] #[q1, q2]]
  have hbn := (Below.refl (w).heap.size w).alloc (Nat.le_refl _) (.cells #[.func (.func 44) #[] #[q1, q2]] 75)
  replace hb := hb.step hbn
  replace h := h.step hbn
  clear hbn
  rw [hgB]
  generalize (w).alloc (.cells #[.func (.func 44) #[] #[q1, q2]] 75) = w1 at *
  go_wp2_with fail
  refine (cF _ h).mono ?_
  rintro e w2 ⟨rfl, hbn⟩
  replace hb := hb.step hbn
  replace h := h.step hbn
  replace B := B.step hbn
  clear hbn cF
  go_upto_region 2 with fail
  obtain ⟨gX, hgX⟩ : ∃ g, (w2).heap.size = g := ⟨_, rfl⟩
  have lt_B_X := B.lt
  rw [hgX] at lt_B_X
  have X := Blk.newV hgX 61 #[.slice ao x.length cap, .int .i64 sr]
  have hbn := (Below.refl (w2).heap.size w2).alloc (Nat.le_refl _) (.cells #[.slice ao x.length cap, .int .i64 sr] 61)
  replace hb := hb.step hbn
  replace h := h.step hbn
  replace B := B.step hbn
  clear hbn
  rw [hgX]
  generalize (w2).alloc (.cells #[.slice ao x.length cap, .int .i64 sr] 61) = w3 at *
  obtain rfl : E = 0 := by rw [← hE, he]
  clear he
  go_wp2_with fail
  refine (ddoes_die _ d mb D L _ h hd hst ha).mono ?_
  rintro e w7 ⟨rfl, hD7, hk7⟩
  go_wp2_with fail
  go_ret
  exact ⟨rfl, hD7, (Kx.of_below [d] hb.out (Nat.le_refl _)).trans hk7⟩
set_option maxRecDepth 100000 in
set_option maxHeartbeats 4000000 in
theorem dof1_rem (q1 q2 : Value) (bf bx d mb : Nat) (ao : Option Addr) (cap : Nat) (x : BL) (sr : Int) (w : World) (R : World → Prop) (B : Blk w bf 75 [.func (.func 44) #[] #[q1, q2]]) (X : Blk w bx 61 [.slice ao x.length cap, .int .i64 sr])
    (cG : Calls Try.prog 44 #[.agg #[.slice ao x.length cap, .int .i64 sr], q1, q2] w fun e w' => e = .returned (.tuple #[]) ∧ R w') :
    Calls Try.prog 47 #[.pointer (some ⟨bf, 0, none⟩), .pointer (some ⟨bx, 0, none⟩)] w fun e w' => e = .returned (.tuple #[]) ∧ R w' := by
  have b0 := B.cell (j := 0) rfl
  have x0 := X.cell (j := 0) rfl
  have x1 := X.cell (j := 1) rfl
  go_enter Try.func47, Try.ntmps47
  go_wp2_with fail
  refine cG.mono ?_
  rintro e w2 ⟨rfl, hR⟩
  go_wp2_with fail
  go_end0
  exact ⟨rfl, hR⟩
set_option maxRecDepth 100000 in
set_option maxHeartbeats 4000000 in
theorem dof_do_rem (q1 q2 : Value) (d mb : Nat) (D : Ds) (L : FMap) (s : ByteArray) (w : World) (R : World → Prop) (h : DkW w d mb D L) (hs : okS s) (he : fileE L s = 0) (hd : D.dead = false) (hst : D.stop = false ∨ D.after ≠ 0) (ha : 0 ≤ D.after ∧ D.after ≤ 9223372036854775807)
    (cG : ∀ W, DkW W d mb (goD D) L → Kx [d] w W → Calls Try.prog 44 #[fmV (fileM L s), q1, q2] W fun e w' => e = .returned (.tuple #[]) ∧ R w') :
    Calls Try.prog 38 #[.pointer (some ⟨d, 0, none⟩), .string s, .func (.func 44) #[] #[q1, q2]] w fun e w' => e = .returned (.int .i64 0) ∧ R w' := by
  have hdl := h.lt
  have hb := From.refl w
  have cF := fun W (hW : DkW W d mb D L) => dfile_any d mb D L s W hW hs
  obtain ⟨m, hm⟩ : ∃ m, fileM L s = m := ⟨_, rfl⟩
  obtain ⟨ao, cap, x, sr⟩ := m
  obtain ⟨E, hE⟩ : ∃ E, fileE L s = E := ⟨_, rfl⟩
  simp only [hm, hE] at cF
  unfold fmV at cF
  simp only at cF
  go_enter Try.func38, Try.ntmps38
  go_upto_region 1 with fail
  obtain ⟨gB, hgB⟩ : ∃ g, (w).heap.size = g := ⟨_, rfl⟩
  have B := Blk.newV hgB 75 #[.func (.func 44) #[] #[q1, q2]]
  have hbn := (Below.refl (w).heap.size w).alloc (Nat.le_refl _) (.cells #[.func (.func 44) #[] #[q1, q2]] 75)
  replace hb := hb.step hbn
  replace h := h.step hbn
  clear hbn
  rw [hgB]
  generalize (w).alloc (.cells #[.func (.func 44) #[] #[q1, q2]] 75) = w1 at *
  go_wp2_with fail
  refine (cF _ h).mono ?_
  rintro e w2 ⟨rfl, hbn⟩
  replace hb := hb.step hbn
  replace h := h.step hbn
  replace B := B.step hbn
  clear hbn cF
  go_upto_region 2 with fail
  obtain ⟨gX, hgX⟩ : ∃ g, (w2).heap.size = g := ⟨_, rfl⟩
  have lt_B_X := B.lt
  rw [hgX] at lt_B_X
  have X := Blk.newV hgX 61 #[.slice ao x.length cap, .int .i64 sr]
  have hbn := (Below.refl (w2).heap.size w2).alloc (Nat.le_refl _) (.cells #[.slice ao x.length cap, .int .i64 sr] 61)
  replace hb := hb.step hbn
  replace h := h.step hbn
  replace B := B.step hbn
  clear hbn
  rw [hgX]
  generalize (w2).alloc (.cells #[.slice ao x.length cap, .int .i64 sr] 61) = w3 at *
  obtain rfl : E = 0 := by rw [← hE, he]
  clear he
  rw [hm] at cG
  unfold fmV at cG
  simp only at cG
  go_wp2_with fail
  refine (ddoes_of _ _ d mb D L _ R h hd hst ha ?_).mono ?_
  · intro W hD7 hk7
    exact dof1_rem q1 q2 gB gX d mb ao cap x sr W R (hk7.blk B (by simp; omega)) (hk7.blk X (by simp; omega)) (cG W hD7 ((Kx.of_below [d] hb.out (Nat.le_refl _)).trans hk7))
  · rintro e w8 ⟨rfl, hR⟩
    go_wp2_with fail
    go_ret
    exact ⟨rfl, hR⟩
set_option maxRecDepth 100000 in
set_option maxHeartbeats 2000000 in
theorem dof_err_ren (q1 q2 q3 : Value) (d mb : Nat) (D : Ds) (L : FMap) (s : ByteArray) (w : World) (h : DkW w d mb D L) (hs : okS s) (he : fileE L s ≠ 0) :
    Calls Try.prog 38 #[.pointer (some ⟨d, 0, none⟩), .string s, .func (.func 45) #[] #[q1, q2, q3]] w fun e w' => e = .returned (.int .i64 (fileE L s)) ∧ Below w.heap.size w w' := by
  have hne : (fileE L s != 0) = true := by simpa using he
  have hb := From.refl w
  have cF := fun W (hW : DkW W d mb D L) => dfile_any d mb D L s W hW hs
  obtain ⟨m, hm⟩ : ∃ m, fileM L s = m := ⟨_, rfl⟩
  obtain ⟨ao, cap, x, sr⟩ := m
  obtain ⟨E, hE⟩ : ∃ E, fileE L s = E := ⟨_, rfl⟩
  simp only [hm, hE] at cF
  unfold fmV at cF
  simp only at cF
  go_enter Try.func38, Try.ntmps38
  go_upto_region 1 with fail
  obtain ⟨gB, hgB⟩ : ∃ g, (w).heap.size = g := ⟨_, rfl⟩
  have B := Blk.newV hgB 75 #[.func (.func 45) #[] #[q1, q2, q3]]
  have hbn := (Below.refl (w).heap.size w).alloc (Nat.le_refl _) (.cells #[.func (.func 45) #[] #[q1, q2, q3]] 75)
  replace hb := hb.step hbn
  replace h := h.step hbn
  clear hbn
  rw [hgB]
  generalize (w).alloc (.cells #[.func (.func 45) #[] #[q1, q2, q3]] 75) = w1 at *
  go_wp2_with fail
  refine (cF _ h).mono ?_
  rintro e w2 ⟨rfl, hbn⟩
  replace hb := hb.step hbn
  replace h := h.step hbn
  replace B := B.step hbn
  clear hbn cF
  go_upto_region 2 with fail
  obtain ⟨gX, hgX⟩ : ∃ g, (w2).heap.size = g := ⟨_, rfl⟩
  have lt_B_X := B.lt
  rw [hgX] at lt_B_X
  have X := Blk.newV hgX 61 #[.slice ao x.length cap, .int .i64 sr]
  have hbn := (Below.refl (w2).heap.size w2).alloc (Nat.le_refl _) (.cells #[.slice ao x.length cap, .int .i64 sr] 61)
  replace hb := hb.step hbn
  replace h := h.step hbn
  replace B := B.step hbn
  clear hbn
  rw [hgX]
  generalize (w2).alloc (.cells #[.slice ao x.length cap, .int .i64 sr] 61) = w3 at *
  rw [hE] at hne
  go_wp2_with fail
  go_ret
  exact ⟨rfl, hb.out.mono (by omega)⟩
set_option maxRecDepth 100000 in
set_option maxHeartbeats 2000000 in
theorem dof_dead_ren (q1 q2 q3 : Value) (d mb : Nat) (D : Ds) (L : FMap) (s : ByteArray) (w : World) (h : DkW w d mb D L) (hs : okS s) (he : fileE L s = 0) (hd : D.dead = true) :
    Calls Try.prog 38 #[.pointer (some ⟨d, 0, none⟩), .string s, .func (.func 45) #[] #[q1, q2, q3]] w fun e w' => e = .returned (.int .i64 172) ∧ Below w.heap.size w w' := by
  have hb := From.refl w
  have cF := fun W (hW : DkW W d mb D L) => dfile_any d mb D L s W hW hs
  obtain ⟨m, hm⟩ : ∃ m, fileM L s = m := ⟨_, rfl⟩
  obtain ⟨ao, cap, x, sr⟩ := m
  obtain ⟨E, hE⟩ : ∃ E, fileE L s = E := ⟨_, rfl⟩
  simp only [hm, hE] at cF
  unfold fmV at cF
  simp only at cF
  go_enter Try.func38, Try.ntmps38
  go_upto_region 1 with fail
  obtain ⟨gB, hgB⟩ : ∃ g, (w).heap.size = g := ⟨_, rfl⟩
  have B := Blk.newV hgB 75 #[.func (.func 45) #[] #[q1, q2, q3]]
  have hbn := (Below.refl (w).heap.size w).alloc (Nat.le_refl _) (.cells #[.func (.func 45) #[] #[q1, q2, q3]] 75)
  replace hb := hb.step hbn
  replace h := h.step hbn
  clear hbn
  rw [hgB]
  generalize (w).alloc (.cells #[.func (.func 45) #[] #[q1, q2, q3]] 75) = w1 at *
  go_wp2_with fail
  refine (cF _ h).mono ?_
  rintro e w2 ⟨rfl, hbn⟩
  replace hb := hb.step hbn
  replace h := h.step hbn
  replace B := B.step hbn
  clear hbn cF
  go_upto_region 2 with fail
  obtain ⟨gX, hgX⟩ : ∃ g, (w2).heap.size = g := ⟨_, rfl⟩
  have lt_B_X := B.lt
  rw [hgX] at lt_B_X
  have X := Blk.newV hgX 61 #[.slice ao x.length cap, .int .i64 sr]
  have hbn := (Below.refl (w2).heap.size w2).alloc (Nat.le_refl _) (.cells #[.slice ao x.length cap, .int .i64 sr] 61)
  replace hb := hb.step hbn
  replace h := h.step hbn
  replace B := B.step hbn
  clear hbn
  rw [hgX]
  generalize (w2).alloc (.cells #[.slice ao x.length cap, .int .i64 sr] 61) = w3 at *
  obtain rfl : E = 0 := by rw [← hE, he]
  clear he
  go_wp2_with fail
  refine (ddoes_dead _ d mb D L _ h hd).mono ?_
  rintro e w7 ⟨rfl, rfl⟩
  go_wp2_with fail
  go_ret
  exact ⟨rfl, hb.out.mono (by omega)⟩
set_option maxRecDepth 100000 in
set_option maxHeartbeats 2000000 in
theorem dof_die_ren (q1 q2 q3 : Value) (d mb : Nat) (D : Ds) (L : FMap) (s : ByteArray) (w : World) (h : DkW w d mb D L) (hs : okS s) (he : fileE L s = 0) (hd : D.dead = false) (hst : D.stop = true) (ha : D.after = 0) :
    Calls Try.prog 38 #[.pointer (some ⟨d, 0, none⟩), .string s, .func (.func 45) #[] #[q1, q2, q3]] w fun e w' => e = .returned (.int .i64 172) ∧ DkW w' d mb (dieD D) L ∧ Kx [d] w w' := by
  have hb := From.refl w
  have cF := fun W (hW : DkW W d mb D L) => dfile_any d mb D L s W hW hs
  obtain ⟨m, hm⟩ : ∃ m, fileM L s = m := ⟨_, rfl⟩
  obtain ⟨ao, cap, x, sr⟩ := m
  obtain ⟨E, hE⟩ : ∃ E, fileE L s = E := ⟨_, rfl⟩
  simp only [hm, hE] at cF
  unfold fmV at cF
  simp only at cF
  go_enter Try.func38, Try.ntmps38
  go_upto_region 1 with fail
  obtain ⟨gB, hgB⟩ : ∃ g, (w).heap.size = g := ⟨_, rfl⟩
  have B := Blk.newV hgB 75 #[.func (.func 45) #[] #[q1, q2, q3]]
  have hbn := (Below.refl (w).heap.size w).alloc (Nat.le_refl _) (.cells #[.func (.func 45) #[] #[q1, q2, q3]] 75)
  replace hb := hb.step hbn
  replace h := h.step hbn
  clear hbn
  rw [hgB]
  generalize (w).alloc (.cells #[.func (.func 45) #[] #[q1, q2, q3]] 75) = w1 at *
  go_wp2_with fail
  refine (cF _ h).mono ?_
  rintro e w2 ⟨rfl, hbn⟩
  replace hb := hb.step hbn
  replace h := h.step hbn
  replace B := B.step hbn
  clear hbn cF
  go_upto_region 2 with fail
  obtain ⟨gX, hgX⟩ : ∃ g, (w2).heap.size = g := ⟨_, rfl⟩
  have lt_B_X := B.lt
  rw [hgX] at lt_B_X
  have X := Blk.newV hgX 61 #[.slice ao x.length cap, .int .i64 sr]
  have hbn := (Below.refl (w2).heap.size w2).alloc (Nat.le_refl _) (.cells #[.slice ao x.length cap, .int .i64 sr] 61)
  replace hb := hb.step hbn
  replace h := h.step hbn
  replace B := B.step hbn
  clear hbn
  rw [hgX]
  generalize (w2).alloc (.cells #[.slice ao x.length cap, .int .i64 sr] 61) = w3 at *
  obtain rfl : E = 0 := by rw [← hE, he]
  clear he
  go_wp2_with fail
  refine (ddoes_die _ d mb D L _ h hd hst ha).mono ?_
  rintro e w7 ⟨rfl, hD7, hk7⟩
  go_wp2_with fail
  go_ret
  exact ⟨rfl, hD7, (Kx.of_below [d] hb.out (Nat.le_refl _)).trans hk7⟩
set_option maxRecDepth 100000 in
set_option maxHeartbeats 4000000 in
theorem dof1_ren (q1 q2 q3 : Value) (bf bx d mb : Nat) (ao : Option Addr) (cap : Nat) (x : BL) (sr : Int) (w : World) (R : World → Prop) (B : Blk w bf 75 [.func (.func 45) #[] #[q1, q2, q3]]) (X : Blk w bx 61 [.slice ao x.length cap, .int .i64 sr])
    (cG : Calls Try.prog 45 #[.agg #[.slice ao x.length cap, .int .i64 sr], q1, q2, q3] w fun e w' => e = .returned (.tuple #[]) ∧ R w') :
    Calls Try.prog 47 #[.pointer (some ⟨bf, 0, none⟩), .pointer (some ⟨bx, 0, none⟩)] w fun e w' => e = .returned (.tuple #[]) ∧ R w' := by
  have b0 := B.cell (j := 0) rfl
  have x0 := X.cell (j := 0) rfl
  have x1 := X.cell (j := 1) rfl
  go_enter Try.func47, Try.ntmps47
  go_wp2_with fail
  refine cG.mono ?_
  rintro e w2 ⟨rfl, hR⟩
  go_wp2_with fail
  go_end0
  exact ⟨rfl, hR⟩
set_option maxRecDepth 100000 in
set_option maxHeartbeats 4000000 in
theorem dof_do_ren (q1 q2 q3 : Value) (d mb : Nat) (D : Ds) (L : FMap) (s : ByteArray) (w : World) (R : World → Prop) (h : DkW w d mb D L) (hs : okS s) (he : fileE L s = 0) (hd : D.dead = false) (hst : D.stop = false ∨ D.after ≠ 0) (ha : 0 ≤ D.after ∧ D.after ≤ 9223372036854775807)
    (cG : ∀ W, DkW W d mb (goD D) L → Kx [d] w W → Calls Try.prog 45 #[fmV (fileM L s), q1, q2, q3] W fun e w' => e = .returned (.tuple #[]) ∧ R w') :
    Calls Try.prog 38 #[.pointer (some ⟨d, 0, none⟩), .string s, .func (.func 45) #[] #[q1, q2, q3]] w fun e w' => e = .returned (.int .i64 0) ∧ R w' := by
  have hdl := h.lt
  have hb := From.refl w
  have cF := fun W (hW : DkW W d mb D L) => dfile_any d mb D L s W hW hs
  obtain ⟨m, hm⟩ : ∃ m, fileM L s = m := ⟨_, rfl⟩
  obtain ⟨ao, cap, x, sr⟩ := m
  obtain ⟨E, hE⟩ : ∃ E, fileE L s = E := ⟨_, rfl⟩
  simp only [hm, hE] at cF
  unfold fmV at cF
  simp only at cF
  go_enter Try.func38, Try.ntmps38
  go_upto_region 1 with fail
  obtain ⟨gB, hgB⟩ : ∃ g, (w).heap.size = g := ⟨_, rfl⟩
  have B := Blk.newV hgB 75 #[.func (.func 45) #[] #[q1, q2, q3]]
  have hbn := (Below.refl (w).heap.size w).alloc (Nat.le_refl _) (.cells #[.func (.func 45) #[] #[q1, q2, q3]] 75)
  replace hb := hb.step hbn
  replace h := h.step hbn
  clear hbn
  rw [hgB]
  generalize (w).alloc (.cells #[.func (.func 45) #[] #[q1, q2, q3]] 75) = w1 at *
  go_wp2_with fail
  refine (cF _ h).mono ?_
  rintro e w2 ⟨rfl, hbn⟩
  replace hb := hb.step hbn
  replace h := h.step hbn
  replace B := B.step hbn
  clear hbn cF
  go_upto_region 2 with fail
  obtain ⟨gX, hgX⟩ : ∃ g, (w2).heap.size = g := ⟨_, rfl⟩
  have lt_B_X := B.lt
  rw [hgX] at lt_B_X
  have X := Blk.newV hgX 61 #[.slice ao x.length cap, .int .i64 sr]
  have hbn := (Below.refl (w2).heap.size w2).alloc (Nat.le_refl _) (.cells #[.slice ao x.length cap, .int .i64 sr] 61)
  replace hb := hb.step hbn
  replace h := h.step hbn
  replace B := B.step hbn
  clear hbn
  rw [hgX]
  generalize (w2).alloc (.cells #[.slice ao x.length cap, .int .i64 sr] 61) = w3 at *
  obtain rfl : E = 0 := by rw [← hE, he]
  clear he
  rw [hm] at cG
  unfold fmV at cG
  simp only at cG
  go_wp2_with fail
  refine (ddoes_of _ _ d mb D L _ R h hd hst ha ?_).mono ?_
  · intro W hD7 hk7
    exact dof1_ren q1 q2 q3 gB gX d mb ao cap x sr W R (hk7.blk B (by simp; omega)) (hk7.blk X (by simp; omega)) (cG W hD7 ((Kx.of_below [d] hb.out (Nat.le_refl _)).trans hk7))
  · rintro e w8 ⟨rfl, hR⟩
    go_wp2_with fail
    go_ret
    exact ⟨rfl, hR⟩
end Go.Proofs.Ytceoehjjebkgpaa
