
/- Package disk: Cut, Remove, Rename: their closures. -/
import Derived.Test.YtceoehjjebkgpaaDkM
namespace Go.Proofs.Ytceoehjjebkgpaa
set_option linter.unusedSimpArgs false
set_option linter.unusedVariables false
open Go.RowKit Go.Maps
set_option maxRecDepth 100000 in
set_option maxHeartbeats 1000000 in
theorem ddoes_cut (q1 q2 q3 q4 : Value) (d mb : Nat) (D : Ds) (L : FMap) (w : World) (R : World → Prop) (h : DkW w d mb D L) (hd : D.dead = false) (hs : D.stop = false ∨ D.after ≠ 0) (ha : 0 ≤ D.after ∧ D.after ≤ 9223372036854775807)
    (cF : ∀ W, DkW W d mb (goD D) L → Kx [d] w W → Calls Try.prog 40 #[q1, q2, q3, q4] W fun e w' => e = .returned (.tuple #[]) ∧ R w') :
    Calls Try.prog 26 #[.pointer (some ⟨d, 0, none⟩), .func (.func 40) #[] #[q1, q2, q3, q4]] w fun e w' => e = .returned (.int .i64 0) ∧ R w' := by
  obtain ⟨room, stop, after, dead⟩ := D
  obtain rfl : dead = false := hd
  have hB := h.blk
  unfold dsL at hB
  simp only at hB hs ha
  have x0 := hB.cell (j := 0) rfl
  have x1 := hB.cell (j := 1) rfl
  have x2 := hB.cell (j := 2) rfl
  have x3 := hB.cell (j := 3) rfl
  have x4 := hB.cell (j := 4) rfl
  have f2 := hB.frozen 2
  have f3 := hB.frozen 3
  have f4 := hB.frozen 4
  cases stop
  · have cG := cF w h (Kx.refl _ _)
    clear x0 x1 x3 f2 f3 f4 cF
    go_enter Try.func26, Try.ntmps26
    go_wp2_with fail
    refine cG.mono ?_
    rintro e w2 ⟨rfl, hR⟩
    go_wp2_with fail
    go_ret
    exact ⟨rfl, hR⟩
  · have ha0 : after ≠ 0 := by rcases hs with h | h; cases h; exact h
    have haf : (after == 0) = false := by simpa using ha0
    have hwr : IntKind.wrap .i64 (after - 1) = after - 1 := by rw [IntKind.wrap_i64]; omega
    have hk : Kx [d] w (w.setCell ⟨d, 3, none⟩ (.int .i64 (after - 1))) := (Kx.refl [d] w).setCell (.inl (by simp)) _
    have hD := h.own (D' := ⟨room, true, after - 1, false⟩) hk (hB.set 3 (.int .i64 (after - 1)))
    have cG := cF _ hD hk
    clear cF
    go_enter Try.func26, Try.ntmps26
    go_wp2_with fail
    refine cG.mono ?_
    rintro e w2 ⟨rfl, hR⟩
    go_wp2_with fail
    go_ret
    exact ⟨rfl, hR⟩
def cutF (m : Fm) (N : Nat) : Fm := ⟨m.ao, N, m.b.take N, min m.s N⟩
set_option maxRecDepth 100000 in
set_option maxHeartbeats 2000000 in
theorem dcut1 (bx bi bp bn d mb : Nat) (D : Ds) (L : FMap) (s : ByteArray) (m : Fm) (N : Nat) (w : World) (X : Blk w bx 61 [.slice m.ao m.b.length m.cap, .int .i64 m.s]) (I : Blk w bi 3 [.int .i64 N])
    (P : Blk w bp 25 [.pointer (some ⟨d, 0, none⟩)]) (NM : Blk w bn 9 [.string s]) (h : DkW w d mb D L) (hs : okS s) (hl : L.length < 1000) (hb0 : BySl w m.ao m.b) (hr0 : m.b.length ≤ m.cap) (hN : N ≤ m.b.length) :
    Calls Try.prog 40 #[.pointer (some ⟨bx, 0, none⟩), .pointer (some ⟨bi, 0, none⟩), .pointer (some ⟨bp, 0, none⟩), .pointer (some ⟨bn, 0, none⟩)] w fun e w' => e = .returned (.tuple #[]) ∧ (DkW w' d mb D (putG L s (cutF m N)) ∧ Kx [mb] w w') := by
  obtain ⟨ao, cap, x, sr⟩ := m
  simp only at hb0 hr0 hN X ⊢
  have hmb : mb < w.heap.size := h.ltb
  have hdm := h.ne
  have hpm := blk_ne_map P h.map
  have hnm := blk_ne_map NM h.map
  have hxm := blk_ne_map X h.map
  have him := blk_ne_map I h.map
  have hNi : (N : Int) ≤ (cap : Int) := by omega
  have hN0 : (0 : Int) ≤ (N : Int) := by omega
  obtain ⟨q, hq⟩ : ∃ q, min sr (N : Int) = q := ⟨_, rfl⟩
  have hlt : (x.take N).length = N := by rw [List.length_take]; omega
  have hc : cutF ⟨ao, cap, x, sr⟩ N = ⟨ao, N, x.take N, q⟩ := by simp [cutF, hq]
  rw [hc]
  clear hc
  have hx2 := hb0.pre N
  obtain ⟨x2, h2⟩ : ∃ x2, x.take N = x2 := ⟨_, rfl⟩
  rw [h2] at hlt hx2 ⊢
  clear h2
  have hb := From.refl w
  have k0 := kx_all (P.cell (j := 0) rfl) (show bp ∉ [mb] by simpa using hpm)
  have k1 := kx_all (NM.cell (j := 0) rfl) (show bn ∉ [mb] by simpa using hnm)
  have k2 := kx_all h.c1 (show d ∉ [mb] by simpa using hdm)
  have k3 := kx_all (X.cell (j := 0) rfl) (show bx ∉ [mb] by simpa using hxm)
  have k4 := kx_all (X.cell (j := 1) rfl) (show bx ∉ [mb] by simpa using hxm)
  have k5 := kx_all (I.cell (j := 0) rfl) (show bi ∉ [mb] by simpa using him)
  go_enter Try.func40, Try.ntmps40
  go_upto_region 0 with fail
  refine wp_region_held (S := Kx [mb] w) (by kernel_rfl) ?_
  have hst : Below (w).heap.size w { w with drawn := (w).drawn + 1 } := ⟨rfl, rfl, rfl, Nat.le_refl _, fun _ _ => rfl⟩
  have hS : (Kx [mb] w) { w with drawn := (w).drawn + 1 } := by first | exact ⟨rfl, rfl, rfl, Nat.le_refl _, fun _ _ _ => rfl⟩ | exact ⟨rfl, rfl, rfl, Nat.le_refl _, fun _ _ => rfl⟩ | exact hS0
  replace hb := hb.step hst
  clear hst
  generalize ({ w with drawn := (w).drawn + 1 } : World) = wq at *
  refine wpAnyH_take (i := 0) (v := ?_) rfl (by kernel_rfl) (by kernel_rfl) (by kernel_rfl) (fun _ _ _ h => h) (Or.inl ⟨by kernel_rfl, ?_⟩) hS ?_
  rotate_left
  · intro W hSW
    have y0 := k0 _ hSW
    have y1 := k1 _ hSW
    have y2 := k2 _ hSW
    have y3 := k3 _ hSW
    have y4 := k4 _ hSW
    have y5 := k5 _ hSW
    go_simp
    try with_reducible rfl
  dsimp only [Act.put]
  refine wpAnyH_take (i := 1) (v := ?_) rfl (by kernel_rfl) (by kernel_rfl) (by kernel_rfl) (fun _ _ _ h => h) (Or.inl ⟨by kernel_rfl, ?_⟩) hS ?_
  rotate_left
  · intro W hSW
    have y0 := k0 _ hSW
    have y1 := k1 _ hSW
    have y2 := k2 _ hSW
    have y3 := k3 _ hSW
    have y4 := k4 _ hSW
    have y5 := k5 _ hSW
    go_simp
    try with_reducible rfl
  dsimp only [Act.put]
  refine wpAnyH_take (i := 2) (v := ?_) rfl (by kernel_rfl) (by kernel_rfl) (by kernel_rfl) (fun _ _ _ h => h) (Or.inl ⟨by kernel_rfl, ?_⟩) hS ?_
  rotate_left
  · intro W hSW
    have y0 := k0 _ hSW
    have y1 := k1 _ hSW
    have y2 := k2 _ hSW
    have y3 := k3 _ hSW
    have y4 := k4 _ hSW
    have y5 := k5 _ hSW
    go_simp
    try with_reducible rfl
  dsimp only [Act.put]
  refine wpAnyH_take (i := 3) (v := ?_) rfl (by kernel_rfl) (by kernel_rfl) (by kernel_rfl) (fun _ _ _ h => h) (Or.inl ⟨by kernel_rfl, ?_⟩) hS ?_
  rotate_left
  · intro W hSW
    have y0 := k0 _ hSW
    have y1 := k1 _ hSW
    have y2 := k2 _ hSW
    have y3 := k3 _ hSW
    have y4 := k4 _ hSW
    have y5 := k5 _ hSW
    go_simp
    try with_reducible rfl
  dsimp only [Act.put]
  refine wpAnyH_take (i := 4) (v := ?_) rfl (by kernel_rfl) (by kernel_rfl) (by kernel_rfl) (fun _ _ _ h => h) (Or.inl ⟨by kernel_rfl, ?_⟩) hS ?_
  rotate_left
  · intro W hSW
    have y0 := k0 _ hSW
    have y1 := k1 _ hSW
    have y2 := k2 _ hSW
    have y3 := k3 _ hSW
    have y4 := k4 _ hSW
    have y5 := k5 _ hSW
    go_simp
    try with_reducible rfl
  dsimp only [Act.put]
  refine wpAnyH_take (i := 5) (v := ?_) rfl (by kernel_rfl) (by kernel_rfl) (by kernel_rfl) (fun _ _ _ h => h) (Or.inl ⟨by kernel_rfl, ?_⟩) hS ?_
  rotate_left
  · intro W hSW
    have y0 := k0 _ hSW
    have y1 := k1 _ hSW
    have y2 := k2 _ hSW
    have y3 := k3 _ hSW
    have y4 := k4 _ hSW
    have y5 := k5 _ hSW
    go_simp
    try with_reducible rfl
  dsimp only [Act.put]
  refine wpAnyH_take (i := 6) (v := ?_) rfl (by kernel_rfl) (by kernel_rfl) (by kernel_rfl) (fun _ _ _ h => h) (Or.inl ⟨by kernel_rfl, ?_⟩) hS ?_
  rotate_left
  · intro W hSW
    have y0 := k0 _ hSW
    have y1 := k1 _ hSW
    have y2 := k2 _ hSW
    have y3 := k3 _ hSW
    have y4 := k4 _ hSW
    have y5 := k5 _ hSW
    go_simp
    try with_reducible rfl
  dsimp only [Act.put]
  refine wpAnyH_take (i := 7) (v := ?_) rfl (by kernel_rfl) (by kernel_rfl) (by kernel_rfl) (fun _ _ _ h => h) (Or.inl ⟨by kernel_rfl, ?_⟩) hS ?_
  rotate_left
  · intro W hSW
    have y0 := k0 _ hSW
    have y1 := k1 _ hSW
    have y2 := k2 _ hSW
    have y3 := k3 _ hSW
    have y4 := k4 _ hSW
    have y5 := k5 _ hSW
    go_simp
    try with_reducible rfl
  dsimp only [Act.put]
  refine wpAnyH_take (i := 8) (v := ?_) rfl (by kernel_rfl) (by kernel_rfl) (by kernel_rfl) (fun _ _ _ h => h) (Or.inl ⟨by kernel_rfl, ?_⟩) hS ?_
  rotate_left
  · intro W hSW
    have y0 := k0 _ hSW
    have y1 := k1 _ hSW
    have y2 := k2 _ hSW
    have y3 := k3 _ hSW
    have y4 := k4 _ hSW
    have y5 := k5 _ hSW
    go_simp
    try with_reducible rfl
  dsimp only [Act.put]
  refine wpAnyH_take (i := 9) (v := ?_) rfl (by kernel_rfl) (by kernel_rfl) (by kernel_rfl) (fun _ _ _ h => h) (Or.inl ⟨by kernel_rfl, ?_⟩) hS ?_
  rotate_left
  · intro W hSW
    have y0 := k0 _ hSW
    have y1 := k1 _ hSW
    have y2 := k2 _ hSW
    have y3 := k3 _ hSW
    have y4 := k4 _ hSW
    have y5 := k5 _ hSW
    go_simp
    try with_reducible rfl
  dsimp only [Act.put]
  refine wpAnyH_take (i := 10) (v := ?_) rfl (by kernel_rfl) (by kernel_rfl) (by kernel_rfl) (fun _ _ _ h => h) (Or.inl ⟨by kernel_rfl, ?_⟩) hS ?_
  rotate_left
  · intro W hSW
    have y0 := k0 _ hSW
    have y1 := k1 _ hSW
    have y2 := k2 _ hSW
    have y3 := k3 _ hSW
    have y4 := k4 _ hSW
    have y5 := k5 _ hSW
    go_simp
    try with_reducible rfl
  dsimp only [Act.put]
  refine wpAnyH_take (i := 11) (v := ?_) rfl (by kernel_rfl) (by kernel_rfl) (by kernel_rfl) (fun _ _ _ h => h) (Or.inl ⟨by kernel_rfl, ?_⟩) hS ?_
  rotate_left
  · intro W hSW
    have y0 := k0 _ hSW
    have y1 := k1 _ hSW
    have y2 := k2 _ hSW
    have y3 := k3 _ hSW
    have y4 := k4 _ hSW
    have y5 := k5 _ hSW
    go_simp
    try with_reducible rfl
  dsimp only [Act.put]
  refine wpAnyH_take (i := 12) (v := ?_) rfl (by kernel_rfl) (by kernel_rfl) (by kernel_rfl) (fun _ _ _ h => h) (Or.inl ⟨by kernel_rfl, ?_⟩) hS ?_
  rotate_left
  · intro W hSW
    have y0 := k0 _ hSW
    have y1 := k1 _ hSW
    have y2 := k2 _ hSW
    have y3 := k3 _ hSW
    have y4 := k4 _ hSW
    have y5 := k5 _ hSW
    go_simp
    try with_reducible rfl
  dsimp only [Act.put]
  refine wpAnyH_take (i := 13) (v := ?_) rfl (by kernel_rfl) (by kernel_rfl) (by kernel_rfl) (fun _ _ _ h => h) (Or.inl ⟨by kernel_rfl, ?_⟩) hS ?_
  rotate_left
  · intro W hSW
    have y0 := k0 _ hSW
    have y1 := k1 _ hSW
    have y2 := k2 _ hSW
    have y3 := k3 _ hSW
    have y4 := k4 _ hSW
    have y5 := k5 _ hSW
    go_simp
    try with_reducible rfl
  dsimp only [Act.put]
  refine wpAnyH_take (i := 14) (v := ?_) rfl (by kernel_rfl) (by kernel_rfl) (by kernel_rfl) (fun _ _ _ h => h) (Or.inl ⟨by kernel_rfl, ?_⟩) hS ?_
  rotate_left
  · intro W hSW
    have y0 := k0 _ hSW
    have y1 := k1 _ hSW
    have y2 := k2 _ hSW
    have y3 := k3 _ hSW
    have y4 := k4 _ hSW
    have y5 := k5 _ hSW
    go_simp
    try with_reducible rfl
  dsimp only [Act.put]
  have hh := MapG.step h.map hb.out
  have hp := MapG.put hh keyS Try.underlying53 s (⟨ao, N, x2, q⟩ : Fm) hs (by unfold maxLen; omega)
  obtain ⟨w9, hrun, hM9, hk9, -⟩ := hp
  have hD9 := (h.step hb.out).put hk9 hM9 (hx2.step hb.out) (Nat.le_of_eq hlt)
  unfold fmV at hrun
  simp only [hlt] at hrun
  refine wpAnyH_ready (rs := [15]) (by kernel_rfl) (by simp) ?_
  refine AllReadyH.cons rfl (fun K hK => ?_) AllReadyH.nil
  go_simp
  refine hK.out _ _ (hS.trans hk9) (fun hS => ?_)
  clear hK K
  refine wpAnyH_done (by kernel_rfl) ?_ _
  clear hrun hM9 k0 k1 k2 k3 k4 k5
  go_wp2_with fail
  go_end0
  exact ⟨rfl, hD9, (Kx.of_below [mb] hb.out (Nat.le_refl _)).trans hk9⟩
end Go.Proofs.Ytceoehjjebkgpaa
