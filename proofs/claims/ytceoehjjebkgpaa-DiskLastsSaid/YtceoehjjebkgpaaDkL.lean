
/- Package disk: of, Sync; Stop, Dead; Cut (what is refused). -/
import Derived.Test.YtceoehjjebkgpaaDkI
namespace Go.Proofs.Ytceoehjjebkgpaa
set_option linter.unusedSimpArgs false
set_option linter.unusedVariables false
open Go.RowKit Go.Maps
set_option maxRecDepth 100000 in
set_option maxHeartbeats 2000000 in
theorem dsync1 (bp bn d mb : Nat) (D : Ds) (L : FMap) (s : ByteArray) (m : Fm) (w : World)
    (P : Blk w bp 25 [.pointer (some ⟨d, 0, none⟩)]) (N : Blk w bn 9 [.string s]) (h : DkW w d mb D L) (hs : okS s) (hl : L.length < 1000) (hb0 : BySl w m.ao m.b) (hr0 : m.b.length ≤ m.cap) :
    Calls Try.prog 39 #[fmV m, .pointer (some ⟨bp, 0, none⟩), .pointer (some ⟨bn, 0, none⟩)] w fun e w' => e = .returned (.tuple #[]) ∧ (DkW w' d mb D (putG L s ⟨m.ao, m.cap, m.b, (m.b.length : Nat)⟩) ∧ Kx [mb] w w') := by
  obtain ⟨ao, cap, x, sr⟩ := m
  simp only at hb0 hr0 ⊢
  unfold fmV
  have hmb : mb < w.heap.size := h.ltb
  have hdm := h.ne
  have hpm := blk_ne_map P h.map
  have hnm := blk_ne_map N h.map
  have hb := From.refl w
  go_enter Try.func39, Try.ntmps39
  go_upto_region 1 with fail
  obtain ⟨gX, hgX⟩ : ∃ g, (w).heap.size = g := ⟨_, rfl⟩
  have X := Blk.newV hgX 61 #[.slice ao x.length cap, .int .i64 sr]
  have hbn := (Below.refl (w).heap.size w).alloc (Nat.le_refl _) (.cells #[.slice ao x.length cap, .int .i64 sr] 61)
  replace hb := hb.step hbn
  clear hbn
  rw [hgX]
  generalize (w).alloc (.cells #[.slice ao x.length cap, .int .i64 sr] 61) = w1 at *
  have hwX : w.heap.size ≤ gX := by omega
  have k0 := kx_all ((P.step hb.out).cell (j := 0) rfl) (show bp ∉ [mb] by simpa using hpm)
  have k1 := kx_all ((N.step hb.out).cell (j := 0) rfl) (show bn ∉ [mb] by simpa using hnm)
  have k2 := kx_all (h.step hb.out).c1 (show d ∉ [mb] by simpa using hdm)
  have k3 := kx_all (X.cell (j := 0) rfl) (show gX ∉ [mb] by simp; omega)
  refine wp_region_held (S := Kx [mb] w1) (by kernel_rfl) ?_
  have hst : Below (w1).heap.size w1 { w1 with drawn := (w1).drawn + 1 } := ⟨rfl, rfl, rfl, Nat.le_refl _, fun _ _ => rfl⟩
  have hS : (Kx [mb] w1) { w1 with drawn := (w1).drawn + 1 } := by first | exact ⟨rfl, rfl, rfl, Nat.le_refl _, fun _ _ _ => rfl⟩ | exact ⟨rfl, rfl, rfl, Nat.le_refl _, fun _ _ => rfl⟩ | exact hS0
  replace hb := hb.step hst
  clear hst
  generalize ({ w1 with drawn := (w1).drawn + 1 } : World) = wq at *
  refine wpAnyH_take (i := 0) (v := ?_) rfl (by kernel_rfl) (by kernel_rfl) (by kernel_rfl) (fun _ _ _ h => h) (Or.inl ⟨by kernel_rfl, ?_⟩) hS ?_
  rotate_left
  · intro W hSW
    have y0 := k0 _ hSW
    have y1 := k1 _ hSW
    have y2 := k2 _ hSW
    have y3 := k3 _ hSW
    go_simp
    try with_reducible rfl
  dsimp only [Act.put]
  refine wpAnyH_take (i := 1) (v := ?_) rfl (by kernel_rfl) (by kernel_rfl) (by kernel_rfl) (fun _ _ _ h => h) (Or.inl ⟨by kernel_rfl, ?_⟩) hS ?_
  rotate_left
  · intro W hSW
    have y0 := k0 _ hSW
    have y1 := k1 _ hSW
    have y2 := k2 _ hSW
    have y3 := k3 _ hSW
    go_simp
    try with_reducible rfl
  dsimp only [Act.put]
  refine wpAnyH_take (i := 2) (v := ?_) rfl (by kernel_rfl) (by kernel_rfl) (by kernel_rfl) (fun _ _ _ h => h) (Or.inl ⟨by kernel_rfl, ?_⟩) hS ?_
  rotate_left
  · intro W hSW
    have y0 := k0 _ hSW
    have y1 := k1 _ hSW
    have y2 := k2 _ hSW
    have y3 := k3 _ hSW
    go_simp
    try with_reducible rfl
  dsimp only [Act.put]
  refine wpAnyH_take (i := 3) (v := ?_) rfl (by kernel_rfl) (by kernel_rfl) (by kernel_rfl) (fun _ _ _ h => h) (Or.inl ⟨by kernel_rfl, ?_⟩) hS ?_
  rotate_left
  · intro W hSW
    have y0 := k0 _ hSW
    have y1 := k1 _ hSW
    have y2 := k2 _ hSW
    have y3 := k3 _ hSW
    go_simp
    try with_reducible rfl
  dsimp only [Act.put]
  refine wpAnyH_take (i := 4) (v := ?_) rfl (by kernel_rfl) (by kernel_rfl) (by kernel_rfl) (fun _ _ _ h => h) (Or.inl ⟨by kernel_rfl, ?_⟩) hS ?_
  rotate_left
  · intro W hSW
    have y0 := k0 _ hSW
    have y1 := k1 _ hSW
    have y2 := k2 _ hSW
    have y3 := k3 _ hSW
    go_simp
    try with_reducible rfl
  dsimp only [Act.put]
  refine wpAnyH_take (i := 5) (v := ?_) rfl (by kernel_rfl) (by kernel_rfl) (by kernel_rfl) (fun _ _ _ h => h) (Or.inl ⟨by kernel_rfl, ?_⟩) hS ?_
  rotate_left
  · intro W hSW
    have y0 := k0 _ hSW
    have y1 := k1 _ hSW
    have y2 := k2 _ hSW
    have y3 := k3 _ hSW
    go_simp
    try with_reducible rfl
  dsimp only [Act.put]
  refine wpAnyH_take (i := 6) (v := ?_) rfl (by kernel_rfl) (by kernel_rfl) (by kernel_rfl) (fun _ _ _ h => h) (Or.inl ⟨by kernel_rfl, ?_⟩) hS ?_
  rotate_left
  · intro W hSW
    have y0 := k0 _ hSW
    have y1 := k1 _ hSW
    have y2 := k2 _ hSW
    have y3 := k3 _ hSW
    go_simp
    try with_reducible rfl
  dsimp only [Act.put]
  refine wpAnyH_take (i := 7) (v := ?_) rfl (by kernel_rfl) (by kernel_rfl) (by kernel_rfl) (fun _ _ _ h => h) (Or.inl ⟨by kernel_rfl, ?_⟩) hS ?_
  rotate_left
  · intro W hSW
    have y0 := k0 _ hSW
    have y1 := k1 _ hSW
    have y2 := k2 _ hSW
    have y3 := k3 _ hSW
    go_simp
    try with_reducible rfl
  dsimp only [Act.put]
  refine wpAnyH_take (i := 8) (v := ?_) rfl (by kernel_rfl) (by kernel_rfl) (by kernel_rfl) (fun _ _ _ h => h) (Or.inl ⟨by kernel_rfl, ?_⟩) hS ?_
  rotate_left
  · intro W hSW
    have y0 := k0 _ hSW
    have y1 := k1 _ hSW
    have y2 := k2 _ hSW
    have y3 := k3 _ hSW
    go_simp
    try with_reducible rfl
  dsimp only [Act.put]
  refine wpAnyH_take (i := 9) (v := ?_) rfl (by kernel_rfl) (by kernel_rfl) (by kernel_rfl) (fun _ _ _ h => h) (Or.inl ⟨by kernel_rfl, ?_⟩) hS ?_
  rotate_left
  · intro W hSW
    have y0 := k0 _ hSW
    have y1 := k1 _ hSW
    have y2 := k2 _ hSW
    have y3 := k3 _ hSW
    go_simp
    try with_reducible rfl
  dsimp only [Act.put]
  refine wpAnyH_take (i := 10) (v := ?_) rfl (by kernel_rfl) (by kernel_rfl) (by kernel_rfl) (fun _ _ _ h => h) (Or.inl ⟨by kernel_rfl, ?_⟩) hS ?_
  rotate_left
  · intro W hSW
    have y0 := k0 _ hSW
    have y1 := k1 _ hSW
    have y2 := k2 _ hSW
    have y3 := k3 _ hSW
    go_simp
    try with_reducible rfl
  dsimp only [Act.put]
  obtain ⟨w9, hrun, hM9, hk9, -⟩ := MapG.put (MapG.step h.map hb.out) keyS Try.underlying53 s (⟨ao, cap, x, (x.length : Nat)⟩ : Fm) hs (by unfold maxLen; omega)
  have hD9 := (h.step hb.out).put hk9 hM9 (hb0.step hb.out) hr0
  unfold fmV at hrun
  simp only at hrun
  refine wpAnyH_ready (rs := [11]) (by kernel_rfl) (by simp) ?_
  refine AllReadyH.cons rfl (fun K hK => ?_) AllReadyH.nil
  go_simp
  refine hK.out _ _ (hS.trans hk9) (fun hS => ?_)
  clear hK K
  refine wpAnyH_done (by kernel_rfl) ?_ _
  clear hrun hM9 k0 k1 k2 k3
  go_wp2_with fail
  go_end0
  exact ⟨rfl, hD9, (Kx.of_below [mb] hb.out (Nat.le_refl _)).trans hk9⟩
/-! of. -/
/-- What a file's step leaves. -/
def OfQ (w : World) (d mb : Nat) (R : World → Prop) (w' : World) : Prop := R w' ∧ Kx [d, mb] w w'
set_option maxRecDepth 100000 in
set_option maxHeartbeats 2000000 in
theorem dof_err_sync (q1 q2 : Value) (d mb : Nat) (D : Ds) (L : FMap) (s : ByteArray) (w : World) (h : DkW w d mb D L) (hs : okS s) (he : fileE L s ≠ 0) :
    Calls Try.prog 38 #[.pointer (some ⟨d, 0, none⟩), .string s, .func (.func 39) #[] #[q1, q2]] w fun e w' => e = .returned (.int .i64 (fileE L s)) ∧ Below w.heap.size w w' := by
  have hne : (fileE L s != 0) = true := by simpa using he
  have hb := From.refl w
  have cF := fun W (hW : DkW W d mb D L) => dfile_any d mb D L s W hW hs
  obtain ⟨m, hm⟩ : ∃ m, fileM L s = m := ⟨_, rfl⟩
  obtain ⟨ao, cap, x, sr⟩ := m
  obtain ⟨E, hE⟩ : ∃ E, fileE L s = E := ⟨_, rfl⟩
  simp only [hm, hE] at cF
  unfold fmV at cF
  simp only at cF
  go_enter Try.func38, Try.ntmps38
  go_upto_region 1 with fail
  obtain ⟨gB, hgB⟩ : ∃ g, (w).heap.size = g := ⟨_, rfl⟩
  have B := Blk.newV hgB 75 #[.func (.func 39) #[] #[q1, q2]]
  have hbn := (Below.refl (w).heap.size w).alloc (Nat.le_refl _) (.cells #[.func (.func 39) #[] #[q1, q2]] 75)
  replace hb := hb.step hbn
  replace h := h.step hbn
  clear hbn
  rw [hgB]
  generalize (w).alloc (.cells #[.func (.func 39) #[] #[q1, q2]] 75) = w1 at *
  go_wp2_with fail
  refine (cF _ h).mono ?_
  rintro e w2 ⟨rfl, hbn⟩
  replace hb := hb.step hbn
  replace h := h.step hbn
  replace B := B.step hbn
  clear hbn cF
  go_upto_region 2 with fail
  obtain ⟨gX, hgX⟩ : ∃ g, (w2).heap.size = g := ⟨_, rfl⟩
  have lt_B_X := B.lt
  rw [hgX] at lt_B_X
  have X := Blk.newV hgX 61 #[.slice ao x.length cap, .int .i64 sr]
  have hbn := (Below.refl (w2).heap.size w2).alloc (Nat.le_refl _) (.cells #[.slice ao x.length cap, .int .i64 sr] 61)
  replace hb := hb.step hbn
  replace h := h.step hbn
  replace B := B.step hbn
  clear hbn
  rw [hgX]
  generalize (w2).alloc (.cells #[.slice ao x.length cap, .int .i64 sr] 61) = w3 at *
  rw [hE] at hne
  go_wp2_with fail
  go_ret
  exact ⟨rfl, hb.out.mono (by omega)⟩
set_option maxRecDepth 100000 in
set_option maxHeartbeats 2000000 in
theorem dof_dead_sync (q1 q2 : Value) (d mb : Nat) (D : Ds) (L : FMap) (s : ByteArray) (w : World) (h : DkW w d mb D L) (hs : okS s) (he : fileE L s = 0) (hd : D.dead = true) :
    Calls Try.prog 38 #[.pointer (some ⟨d, 0, none⟩), .string s, .func (.func 39) #[] #[q1, q2]] w fun e w' => e = .returned (.int .i64 172) ∧ Below w.heap.size w w' := by
  have hb := From.refl w
  have cF := fun W (hW : DkW W d mb D L) => dfile_any d mb D L s W hW hs
  obtain ⟨m, hm⟩ : ∃ m, fileM L s = m := ⟨_, rfl⟩
  obtain ⟨ao, cap, x, sr⟩ := m
  obtain ⟨E, hE⟩ : ∃ E, fileE L s = E := ⟨_, rfl⟩
  simp only [hm, hE] at cF
  unfold fmV at cF
  simp only at cF
  go_enter Try.func38, Try.ntmps38
  go_upto_region 1 with fail
  obtain ⟨gB, hgB⟩ : ∃ g, (w).heap.size = g := ⟨_, rfl⟩
  have B := Blk.newV hgB 75 #[.func (.func 39) #[] #[q1, q2]]
  have hbn := (Below.refl (w).heap.size w).alloc (Nat.le_refl _) (.cells #[.func (.func 39) #[] #[q1, q2]] 75)
  replace hb := hb.step hbn
  replace h := h.step hbn
  clear hbn
  rw [hgB]
  generalize (w).alloc (.cells #[.func (.func 39) #[] #[q1, q2]] 75) = w1 at *
  go_wp2_with fail
  refine (cF _ h).mono ?_
  rintro e w2 ⟨rfl, hbn⟩
  replace hb := hb.step hbn
  replace h := h.step hbn
  replace B := B.step hbn
  clear hbn cF
  go_upto_region 2 with fail
  obtain ⟨gX, hgX⟩ : ∃ g, (w2).heap.size = g := ⟨_, rfl⟩
  have lt_B_X := B.lt
  rw [hgX] at lt_B_X
  have X := Blk.newV hgX 61 #[.slice ao x.length cap, .int .i64 sr]
  have hbn := (Below.refl (w2).heap.size w2).alloc (Nat.le_refl _) (.cells #[.slice ao x.length cap, .int .i64 sr] 61)
  replace hb := hb.step hbn
  replace h := h.step hbn
  replace B := B.step hbn
  clear hbn
  rw [hgX]
  generalize (w2).alloc (.cells #[.slice ao x.length cap, .int .i64 sr] 61) = w3 at *
  obtain rfl : E = 0 := by rw [← hE, he]
  clear he
  go_wp2_with fail
  refine (ddoes_dead _ d mb D L _ h hd).mono ?_
  rintro e w7 ⟨rfl, rfl⟩
  go_wp2_with fail
  go_ret
  exact ⟨rfl, hb.out.mono (by omega)⟩
set_option maxRecDepth 100000 in
set_option maxHeartbeats 2000000 in
theorem dof_die_sync (q1 q2 : Value) (d mb : Nat) (D : Ds) (L : FMap) (s : ByteArray) (w : World) (h : DkW w d mb D L) (hs : okS s) (he : fileE L s = 0) (hd : D.dead = false) (hst : D.stop = true) (ha : D.after = 0) :
    Calls Try.prog 38 #[.pointer (some ⟨d, 0, none⟩), .string s, .func (.func 39) #[] #[q1, q2]] w fun e w' => e = .returned (.int .i64 172) ∧ DkW w' d mb (dieD D) L ∧ Kx [d] w w' := by
  have hb := From.refl w
  have cF := fun W (hW : DkW W d mb D L) => dfile_any d mb D L s W hW hs
  obtain ⟨m, hm⟩ : ∃ m, fileM L s = m := ⟨_, rfl⟩
  obtain ⟨ao, cap, x, sr⟩ := m
  obtain ⟨E, hE⟩ : ∃ E, fileE L s = E := ⟨_, rfl⟩
  simp only [hm, hE] at cF
  unfold fmV at cF
  simp only at cF
  go_enter Try.func38, Try.ntmps38
  go_upto_region 1 with fail
  obtain ⟨gB, hgB⟩ : ∃ g, (w).heap.size = g := ⟨_, rfl⟩
  have B := Blk.newV hgB 75 #[.func (.func 39) #[] #[q1, q2]]
  have hbn := (Below.refl (w).heap.size w).alloc (Nat.le_refl _) (.cells #[.func (.func 39) #[] #[q1, q2]] 75)
  replace hb := hb.step hbn
  replace h := h.step hbn
  clear hbn
  rw [hgB]
  generalize (w).alloc (.cells #[.func (.func 39) #[] #[q1, q2]] 75) = w1 at *
  go_wp2_with fail
  refine (cF _ h).mono ?_
  rintro e w2 ⟨rfl, hbn⟩
  replace hb := hb.step hbn
  replace h := h.step hbn
  replace B := B.step hbn
  clear hbn cF
  go_upto_region 2 with fail
  obtain ⟨gX, hgX⟩ : ∃ g, (w2).heap.size = g := ⟨_, rfl⟩
  have lt_B_X := B.lt
  rw [hgX] at lt_B_X
  have X := Blk.newV hgX 61 #[.slice ao x.length cap, .int .i64 sr]
  have hbn := (Below.refl (w2).heap.size w2).alloc (Nat.le_refl _) (.cells #[.slice ao x.length cap, .int .i64 sr] 61)
  replace hb := hb.step hbn
  replace h := h.step hbn
  replace B := B.step hbn
  clear hbn
  rw [hgX]
  generalize (w2).alloc (.cells #[.slice ao x.length cap, .int .i64 sr] 61) = w3 at *
  obtain rfl : E = 0 := by rw [← hE, he]
  clear he
  go_wp2_with fail
  refine (ddoes_die _ d mb D L _ h hd hst ha).mono ?_
  rintro e w7 ⟨rfl, hD7, hk7⟩
  go_wp2_with fail
  go_ret
  exact ⟨rfl, hD7, (Kx.of_below [d] hb.out (Nat.le_refl _)).trans hk7⟩
set_option maxRecDepth 100000 in
set_option maxHeartbeats 4000000 in
theorem dof1_sync (q1 q2 : Value) (bf bx d mb : Nat) (ao : Option Addr) (cap : Nat) (x : BL) (sr : Int) (w : World) (R : World → Prop) (B : Blk w bf 75 [.func (.func 39) #[] #[q1, q2]]) (X : Blk w bx 61 [.slice ao x.length cap, .int .i64 sr])
    (cG : Calls Try.prog 39 #[.agg #[.slice ao x.length cap, .int .i64 sr], q1, q2] w fun e w' => e = .returned (.tuple #[]) ∧ R w') :
    Calls Try.prog 47 #[.pointer (some ⟨bf, 0, none⟩), .pointer (some ⟨bx, 0, none⟩)] w fun e w' => e = .returned (.tuple #[]) ∧ R w' := by
  have b0 := B.cell (j := 0) rfl
  have x0 := X.cell (j := 0) rfl
  have x1 := X.cell (j := 1) rfl
  go_enter Try.func47, Try.ntmps47
  go_wp2_with fail
  refine cG.mono ?_
  rintro e w2 ⟨rfl, hR⟩
  go_wp2_with fail
  go_end0
  exact ⟨rfl, hR⟩
set_option maxRecDepth 100000 in
set_option maxHeartbeats 4000000 in
theorem dof_do_sync (q1 q2 : Value) (d mb : Nat) (D : Ds) (L : FMap) (s : ByteArray) (w : World) (R : World → Prop) (h : DkW w d mb D L) (hs : okS s) (he : fileE L s = 0) (hd : D.dead = false) (hst : D.stop = false ∨ D.after ≠ 0) (ha : 0 ≤ D.after ∧ D.after ≤ 9223372036854775807)
    (cG : ∀ W, DkW W d mb (goD D) L → Kx [d] w W → Calls Try.prog 39 #[fmV (fileM L s), q1, q2] W fun e w' => e = .returned (.tuple #[]) ∧ R w') :
    Calls Try.prog 38 #[.pointer (some ⟨d, 0, none⟩), .string s, .func (.func 39) #[] #[q1, q2]] w fun e w' => e = .returned (.int .i64 0) ∧ R w' := by
  have hdl := h.lt
  have hb := From.refl w
  have cF := fun W (hW : DkW W d mb D L) => dfile_any d mb D L s W hW hs
  obtain ⟨m, hm⟩ : ∃ m, fileM L s = m := ⟨_, rfl⟩
  obtain ⟨ao, cap, x, sr⟩ := m
  obtain ⟨E, hE⟩ : ∃ E, fileE L s = E := ⟨_, rfl⟩
  simp only [hm, hE] at cF
  unfold fmV at cF
  simp only at cF
  go_enter Try.func38, Try.ntmps38
  go_upto_region 1 with fail
  obtain ⟨gB, hgB⟩ : ∃ g, (w).heap.size = g := ⟨_, rfl⟩
  have B := Blk.newV hgB 75 #[.func (.func 39) #[] #[q1, q2]]
  have hbn := (Below.refl (w).heap.size w).alloc (Nat.le_refl _) (.cells #[.func (.func 39) #[] #[q1, q2]] 75)
  replace hb := hb.step hbn
  replace h := h.step hbn
  clear hbn
  rw [hgB]
  generalize (w).alloc (.cells #[.func (.func 39) #[] #[q1, q2]] 75) = w1 at *
  go_wp2_with fail
  refine (cF _ h).mono ?_
  rintro e w2 ⟨rfl, hbn⟩
  replace hb := hb.step hbn
  replace h := h.step hbn
  replace B := B.step hbn
  clear hbn cF
  go_upto_region 2 with fail
  obtain ⟨gX, hgX⟩ : ∃ g, (w2).heap.size = g := ⟨_, rfl⟩
  have lt_B_X := B.lt
  rw [hgX] at lt_B_X
  have X := Blk.newV hgX 61 #[.slice ao x.length cap, .int .i64 sr]
  have hbn := (Below.refl (w2).heap.size w2).alloc (Nat.le_refl _) (.cells #[.slice ao x.length cap, .int .i64 sr] 61)
  replace hb := hb.step hbn
  replace h := h.step hbn
  replace B := B.step hbn
  clear hbn
  rw [hgX]
  generalize (w2).alloc (.cells #[.slice ao x.length cap, .int .i64 sr] 61) = w3 at *
  obtain rfl : E = 0 := by rw [← hE, he]
  clear he
  rw [hm] at cG
  unfold fmV at cG
  simp only at cG
  go_wp2_with fail
  refine (ddoes_of _ _ d mb D L _ R h hd hst ha ?_).mono ?_
  · intro W hD7 hk7
    exact dof1_sync q1 q2 gB gX d mb ao cap x sr W R (hk7.blk B (by simp; omega)) (hk7.blk X (by simp; omega)) (cG W hD7 ((Kx.of_below [d] hb.out (Nat.le_refl _)).trans hk7))
  · rintro e w8 ⟨rfl, hR⟩
    go_wp2_with fail
    go_ret
    exact ⟨rfl, hR⟩
end Go.Proofs.Ytceoehjjebkgpaa
