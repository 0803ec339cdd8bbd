
/- Package disk: Append's closure. -/
import Derived.Test.YtceoehjjebkgpaaDkG
import Derived.Deep.RegionHeld3
import Derived.Deep.RegionWith
import Derived.BigQuiet
import Derived.BigGuard
import Derived.Deep.Cut
import Derived.Shelf.RegionOpen
import Derived.Handy
namespace Go.Proofs.Ytceoehjjebkgpaa
set_option linter.unusedSimpArgs false
set_option linter.unusedVariables false
open Go.RowKit Go.Maps
theorem ByR.ne_any {W : World} {g d : Nat} {b : BL} {t : TypeId} {cs : List Value} (h : ByR W g b) (hd : Blk W d t cs) (ht : 5 ≠ t) : g ≠ d := by
  rintro rfl
  obtain ⟨p, fz, h1, -⟩ := h
  rw [show W.heap[g]? = _ from hd] at h1
  injection h1 with h1
  injection h1 with h1 h2 h3
  exact ht h2.symm
theorem blk_ne_map {W : World} {g b : Nat} {t : TypeId} {cs : List Value} {L : FMap} (h : Blk W g t cs) (hm : MapD W b L) : g ≠ b := by
  rintro rfl
  obtain ⟨es, clock, h2, -⟩ := hm
  rw [show W.heap[g]? = _ from h] at h2
  cases h2
/-- What a file is behind bytes that were put behind it. -/
def AppR (w : World) (d mb : Nat) (D : Ds) (L : FMap) (s : ByteArray) (y : BL) (w' : World) : Prop := (∃ m, DkW w' d mb D (putG L s m) ∧ m.b = (getM L s).b ++ y ∧ m.s = (getM L s).s ∧ ∀ g, m.ao = some ⟨g, 0, none⟩ → w.heap.size ≤ g ∨ (getM L s).ao = some ⟨g, 0, none⟩) ∧ Kx [mb] w w'
set_option maxRecDepth 100000 in
set_option maxHeartbeats 4000000 in
theorem dapp1_none (bp bn bb d mb : Nat) (D : Ds) (L : FMap) (s : ByteArray) (bo : Option Addr) (y : BL) (cb : Nat) (cap : Nat) (sr : Int) (w : World)
    (P : Blk w bp 25 [.pointer (some ⟨d, 0, none⟩)]) (N : Blk w bn 9 [.string s]) (Y : Blk w bb 22 [.slice bo y.length cb]) (h : DkW w d mb D L) (hy : ByAt w bo y) (hs : okS s) (hl : L.length < 1000)
    (hM : getM L s = ⟨none, cap, [], sr⟩) (hsz : ([] : BL).length + y.length ≤ 33554432) :
    Calls Try.prog 27 #[.pointer (some ⟨bp, 0, none⟩), .pointer (some ⟨bn, 0, none⟩), .pointer (some ⟨bb, 0, none⟩)] w fun e w' => e = .returned (.tuple #[]) ∧ AppR w d mb D L s y w' := by
  have hlkS := fun W (hW : ExtA w W) => look_getM (MapG.step h.map hW) s hs
  have hmc := getM_con h s
  unfold AppR
  rw [hM] at hmc ⊢
  simp only [hM, fmV] at hlkS
  obtain ⟨hx, hroom⟩ := hmc
  simp only at hx hroom ⊢
  have hroomi : (([] : BL).length : Int) ≤ (cap : Int) := by omega
  clear hM
  have p0 := extA_cell (P.cell (j := 0) rfl)
  have n0 := extA_cell (N.cell (j := 0) rfl)
  have hc1 := extA_cell h.c1
  have hb := From.refl w
  go_enter Try.func27, Try.ntmps27
  go_upto_region 0 with fail
  refine wp_region_held (S := ExtA w) (by kernel_rfl) ?_
  have hst : Below (w).heap.size w { w with drawn := (w).drawn + 1 } := ⟨rfl, rfl, rfl, Nat.le_refl _, fun _ _ => rfl⟩
  have hS : (ExtA w) { w with drawn := (w).drawn + 1 } := by first | exact ⟨rfl, rfl, rfl, Nat.le_refl _, fun _ _ _ => rfl⟩ | exact ⟨rfl, rfl, rfl, Nat.le_refl _, fun _ _ => rfl⟩ | exact hS0
  replace hb := hb.step hst
  clear hst
  generalize ({ w with drawn := (w).drawn + 1 } : World) = wq at *
  refine wpAnyH_take (i := 0) (v := ?_) rfl (by kernel_rfl) (by kernel_rfl) (by kernel_rfl) (fun _ _ _ h => h) (Or.inl ⟨by kernel_rfl, ?_⟩) hS ?_
  rotate_left
  · intro W hSW
    have y0 := p0 _ hSW
    have y1 := n0 _ hSW
    have y2 := hc1 _ hSW
    have y3 := hlkS _ hSW
    go_simp
    try with_reducible rfl
  dsimp only [Act.put]
  refine wpAnyH_take (i := 1) (v := ?_) rfl (by kernel_rfl) (by kernel_rfl) (by kernel_rfl) (fun _ _ _ h => h) (Or.inl ⟨by kernel_rfl, ?_⟩) hS ?_
  rotate_left
  · intro W hSW
    have y0 := p0 _ hSW
    have y1 := n0 _ hSW
    have y2 := hc1 _ hSW
    have y3 := hlkS _ hSW
    go_simp
    try with_reducible rfl
  dsimp only [Act.put]
  refine wpAnyH_take (i := 2) (v := ?_) rfl (by kernel_rfl) (by kernel_rfl) (by kernel_rfl) (fun _ _ _ h => h) (Or.inl ⟨by kernel_rfl, ?_⟩) hS ?_
  rotate_left
  · intro W hSW
    have y0 := p0 _ hSW
    have y1 := n0 _ hSW
    have y2 := hc1 _ hSW
    have y3 := hlkS _ hSW
    go_simp
    try with_reducible rfl
  dsimp only [Act.put]
  refine wpAnyH_take (i := 3) (v := ?_) rfl (by kernel_rfl) (by kernel_rfl) (by kernel_rfl) (fun _ _ _ h => h) (Or.inl ⟨by kernel_rfl, ?_⟩) hS ?_
  rotate_left
  · intro W hSW
    have y0 := p0 _ hSW
    have y1 := n0 _ hSW
    have y2 := hc1 _ hSW
    have y3 := hlkS _ hSW
    go_simp
    try with_reducible rfl
  dsimp only [Act.put]
  refine wpAnyH_take (i := 4) (v := ?_) rfl (by kernel_rfl) (by kernel_rfl) (by kernel_rfl) (fun _ _ _ h => h) (Or.inl ⟨by kernel_rfl, ?_⟩) hS ?_
  rotate_left
  · intro W hSW
    have y0 := p0 _ hSW
    have y1 := n0 _ hSW
    have y2 := hc1 _ hSW
    have y3 := hlkS _ hSW
    go_simp
    try with_reducible rfl
  dsimp only [Act.put]
  refine wpAnyH_take (i := 5) (v := ?_) rfl (by kernel_rfl) (by kernel_rfl) (by kernel_rfl) (fun _ _ _ h => h) (Or.inl ⟨by kernel_rfl, ?_⟩) hS ?_
  rotate_left
  · intro W hSW
    have y0 := p0 _ hSW
    have y1 := n0 _ hSW
    have y2 := hc1 _ hSW
    have y3 := hlkS _ hSW
    go_simp
    try with_reducible rfl
  dsimp only [Act.put]
  refine wpAnyH_ready (rs := [6]) (by kernel_rfl) (by simp) ?_
  refine AllReadyH.cons rfl (fun K hK => ?_) AllReadyH.nil
  go_simp
  obtain ⟨gF, hgF⟩ : ∃ g, wq.heap.size = g := ⟨_, rfl⟩
  have F := Blk.newV hgF 61 #[.slice none 0 0, .int .i64 0]
  have hba := (Below.refl wq.heap.size wq).alloc (Nat.le_refl _) (.cells #[.slice none 0 0, .int .i64 0] 61)
  have hwF : w.heap.size ≤ gF := by have := hb.size; omega
  replace hb := hb.step hba
  refine hK.out _ _ hb.out (fun hS => ?_)
  rw [hgF]
  generalize wq.alloc (.cells #[.slice none 0 0, .int .i64 0] 61) = wa at *
  clear hgF hba
  clear hK K
  have z0 := F.cell (j := 0) rfl
  have z1 := F.cell (j := 1) rfl
  have g0 := F.frozen 0
  have g1 := F.frozen 1
  refine wpAnyH_ready (rs := [7]) (by kernel_rfl) (by simp) ?_
  refine AllReadyH.cons rfl (fun K hK => ?_) AllReadyH.nil
  go_simp
  have hkn : Kx [gF] wa ((wa.setCell ⟨gF, 0, none⟩ (.slice none ([] : BL).length cap)).setCell ⟨gF, 1, none⟩ (.int .i64 sr)) := ((Kx.refl _ wa).setCell (.inl (by simp)) _).setCell (.inl (by simp)) _
  have F2 := (F.set 0 (.slice none ([] : BL).length cap)).set 1 (.int .i64 sr)
  replace hb := hb.kx hkn (by simp; omega)
  refine hK.out _ _ hb.out (fun hS => ?_)
  generalize (wa.setCell ⟨gF, 0, none⟩ (.slice none ([] : BL).length cap)).setCell ⟨gF, 1, none⟩ (.int .i64 sr) = ws at *
  clear hkn z0 z1 g0 g1
  clear hK K
  refine wpAnyH_done (by kernel_rfl) ?_ _
  clear hS p0 n0 hc1 hlkS F
  replace F2 : Blk ws gF 61 [.slice none ([] : BL).length cap, .int .i64 sr] := F2
  go_upto_region 1 with fail
  have z0 := extA_cell (F2.cell (j := 0) rfl)
  have y0 := extA_cell ((Y.step hb.out).cell (j := 0) rfl)
  have hFl := F2.lt
  refine wp_region_head (C := ExtA ws) 10 (by kernel_rfl) (by decide) (by kernel_rfl) ⟨rfl, rfl, rfl, Nat.le_refl _, fun _ _ => rfl⟩ ?_
  simp only [List.take_succ_cons, List.take_zero]
  repeat
    (first
      | go_big_quiet_skip
      | (go_big_quiet_want
         go_big_quiet_op
         first
           | go_big_quiet_on
           | (apply Exists.intro
              refine ⟨fun w' hC9 => ?_, ?_⟩
              · (first
                  | with_reducible rfl
                  | fail
                  | (go_simp; done)
                  | (go_simp; with_reducible rfl))
              go_big_quiet_on)))
  refine wpQuiet_nil ?_
  intro wq hq
  replace hb := hb.step hq
  replace F2 := F2.step hq
  change wpAny _ _ _ _ (2 + 1) _ _ _
  refine wpAny_ready (rs := [10]) (by kernel_rfl) (by simp) ?_
  refine AllReady.cons rfl (fun K hK => ?_) AllReady.nil
  obtain ⟨ao2, cap2, wx, hrun, hx2, hr2, hfr, hbx⟩ := append_full wq none bo [] y cb 59 (hx.step hb.out) (hy.step hb.out) hsz
  replace hfr := fun g hg => (hfr g hg).imp (fun h => Nat.le_trans hb.size h) id
  obtain ⟨z, hz⟩ : ∃ z, ([] ++ y : BL) = z := ⟨_, rfl⟩
  rw [hz] at hrun hx2 hr2
  refine step_append2 rfl (.tmp 18) (.tmp 19) 59 22 rfl rfl rfl hrun ?_
  replace hb := hb.step hbx
  replace F2 := F2.step hbx
  refine hK _ _ ?_
  clear hrun hbx z0 y0
  clear hK K
  refine wpAny_take (i := 11) (v := ?_) rfl (by kernel_rfl) (by kernel_rfl) (by kernel_rfl) (fun _ _ _ h => h) (Or.inl ⟨by kernel_rfl, ?_⟩) ?_
  rotate_left
  · intro W
    go_simp
    try with_reducible rfl
  dsimp only [Act.put]
  have z0 := F2.cell (j := 0) rfl
  have g0 := F2.frozen 0
  refine wpAny_ready (rs := [12]) (by kernel_rfl) (by simp) ?_
  refine AllReady.cons rfl (fun K hK => ?_) AllReady.nil
  go_simp
  have hkn : Kx [gF] wx (wx.setCell ⟨gF, 0, none⟩ (.slice ao2 z.length cap2)) := (Kx.refl _ wx).setCell (.inl (by simp)) _
  have hne : ∀ g, ao2 = some ⟨g, 0, none⟩ → g ∉ [gF] := fun g hg => by
    rcases hx2 with ⟨h1, -⟩ | ⟨g', h1, h2⟩
    · rw [h1] at hg; cases hg
    · rw [h1] at hg
      cases hg
      have := h2.ne_any F2 (by decide)
      simpa using this
  replace hx2 := hx2.kx hkn hne
  replace F2 := F2.set 0 (.slice ao2 z.length cap2)
  replace hb := hb.kx hkn (by simp; omega)
  refine hK _ _ ?_
  generalize wx.setCell ⟨gF, 0, none⟩ (.slice ao2 z.length cap2) = wy at *
  clear hkn z0 g0 hne
  clear hK K
  refine wpAny_done (by kernel_rfl) ?_ _
  clear hx hroom hroomi
  replace F2 : Blk wy gF 61 [.slice ao2 z.length cap2, .int .i64 sr] := F2
  have hmb : mb < w.heap.size := h.ltb
  have hdm := h.ne
  have hpm := blk_ne_map P h.map
  have hnm := blk_ne_map N h.map
  have k0 := kx_all ((P.step hb.out).cell (j := 0) rfl) (show bp ∉ [mb] by simpa using hpm)
  have k1 := kx_all ((N.step hb.out).cell (j := 0) rfl) (show bn ∉ [mb] by simpa using hnm)
  have k2 := kx_all (h.step hb.out).c1 (show d ∉ [mb] by simpa using hdm)
  have k3 := kx_all (F2.cell (j := 0) rfl) (show gF ∉ [mb] by simp; omega)
  have k4 := kx_all (F2.cell (j := 1) rfl) (show gF ∉ [mb] by simp; omega)
  go_upto_region 2 with fail
  refine wp_region_held (S := Kx [mb] wy) (by kernel_rfl) ?_
  have hst : Below (wy).heap.size wy { wy with drawn := (wy).drawn + 1 } := ⟨rfl, rfl, rfl, Nat.le_refl _, fun _ _ => rfl⟩
  have hS : (Kx [mb] wy) { wy with drawn := (wy).drawn + 1 } := by first | exact ⟨rfl, rfl, rfl, Nat.le_refl _, fun _ _ _ => rfl⟩ | exact ⟨rfl, rfl, rfl, Nat.le_refl _, fun _ _ => rfl⟩ | exact hS0
  replace hb := hb.step hst
  replace hx2 := hx2.step hst
  clear hst
  generalize ({ wy with drawn := (wy).drawn + 1 } : World) = wq at *
  refine wpAnyH_take (i := 0) (v := ?_) rfl (by kernel_rfl) (by kernel_rfl) (by kernel_rfl) (fun _ _ _ h => h) (Or.inl ⟨by kernel_rfl, ?_⟩) hS ?_
  rotate_left
  · intro W hSW
    have y0 := k0 _ hSW
    have y1 := k1 _ hSW
    have y2 := k2 _ hSW
    have y3 := k3 _ hSW
    have y4 := k4 _ hSW
    go_simp
    try with_reducible rfl
  dsimp only [Act.put]
  refine wpAnyH_take (i := 1) (v := ?_) rfl (by kernel_rfl) (by kernel_rfl) (by kernel_rfl) (fun _ _ _ h => h) (Or.inl ⟨by kernel_rfl, ?_⟩) hS ?_
  rotate_left
  · intro W hSW
    have y0 := k0 _ hSW
    have y1 := k1 _ hSW
    have y2 := k2 _ hSW
    have y3 := k3 _ hSW
    have y4 := k4 _ hSW
    go_simp
    try with_reducible rfl
  dsimp only [Act.put]
  refine wpAnyH_take (i := 2) (v := ?_) rfl (by kernel_rfl) (by kernel_rfl) (by kernel_rfl) (fun _ _ _ h => h) (Or.inl ⟨by kernel_rfl, ?_⟩) hS ?_
  rotate_left
  · intro W hSW
    have y0 := k0 _ hSW
    have y1 := k1 _ hSW
    have y2 := k2 _ hSW
    have y3 := k3 _ hSW
    have y4 := k4 _ hSW
    go_simp
    try with_reducible rfl
  dsimp only [Act.put]
  refine wpAnyH_take (i := 3) (v := ?_) rfl (by kernel_rfl) (by kernel_rfl) (by kernel_rfl) (fun _ _ _ h => h) (Or.inl ⟨by kernel_rfl, ?_⟩) hS ?_
  rotate_left
  · intro W hSW
    have y0 := k0 _ hSW
    have y1 := k1 _ hSW
    have y2 := k2 _ hSW
    have y3 := k3 _ hSW
    have y4 := k4 _ hSW
    go_simp
    try with_reducible rfl
  dsimp only [Act.put]
  refine wpAnyH_take (i := 4) (v := ?_) rfl (by kernel_rfl) (by kernel_rfl) (by kernel_rfl) (fun _ _ _ h => h) (Or.inl ⟨by kernel_rfl, ?_⟩) hS ?_
  rotate_left
  · intro W hSW
    have y0 := k0 _ hSW
    have y1 := k1 _ hSW
    have y2 := k2 _ hSW
    have y3 := k3 _ hSW
    have y4 := k4 _ hSW
    go_simp
    try with_reducible rfl
  dsimp only [Act.put]
  refine wpAnyH_take (i := 5) (v := ?_) rfl (by kernel_rfl) (by kernel_rfl) (by kernel_rfl) (fun _ _ _ h => h) (Or.inl ⟨by kernel_rfl, ?_⟩) hS ?_
  rotate_left
  · intro W hSW
    have y0 := k0 _ hSW
    have y1 := k1 _ hSW
    have y2 := k2 _ hSW
    have y3 := k3 _ hSW
    have y4 := k4 _ hSW
    go_simp
    try with_reducible rfl
  dsimp only [Act.put]
  obtain ⟨w9, hrun, hM9, hk9, -⟩ := MapG.put (MapG.step h.map hb.out) keyS Try.underlying53 s (⟨ao2, cap2, z, sr⟩ : Fm) hs (by unfold maxLen; omega)
  have hD9 := (h.step hb.out).put hk9 hM9 hx2 hr2
  unfold fmV at hrun
  simp only at hrun
  refine wpAnyH_ready (rs := [6]) (by kernel_rfl) (by simp) ?_
  refine AllReadyH.cons rfl (fun K hK => ?_) AllReadyH.nil
  go_simp
  refine hK.out _ _ (hS.trans hk9) (fun hS => ?_)
  clear hK K
  refine wpAnyH_done (by kernel_rfl) ?_ _
  clear hrun hM9 k0 k1 k2 k3 k4
  go_wp2_with fail
  go_end0
  exact ⟨rfl, ⟨_, hD9, hz.symm, rfl, hfr⟩, (Kx.of_below [mb] hb.out (Nat.le_refl _)).trans hk9⟩
set_option maxRecDepth 100000 in
set_option maxHeartbeats 4000000 in
theorem dapp1_some (bp bn bb d mb : Nat) (D : Ds) (L : FMap) (s : ByteArray) (bo : Option Addr) (y : BL) (cb : Nat) (g : Nat) (x : BL) (cap : Nat) (sr : Int) (w : World)
    (P : Blk w bp 25 [.pointer (some ⟨d, 0, none⟩)]) (N : Blk w bn 9 [.string s]) (Y : Blk w bb 22 [.slice bo y.length cb]) (h : DkW w d mb D L) (hy : ByAt w bo y) (hs : okS s) (hl : L.length < 1000)
    (hM : getM L s = ⟨(some ⟨g, 0, none⟩), cap, x, sr⟩) (hsz : (x : BL).length + y.length ≤ 33554432) :
    Calls Try.prog 27 #[.pointer (some ⟨bp, 0, none⟩), .pointer (some ⟨bn, 0, none⟩), .pointer (some ⟨bb, 0, none⟩)] w fun e w' => e = .returned (.tuple #[]) ∧ AppR w d mb D L s y w' := by
  have hlkS := fun W (hW : ExtA w W) => look_getM (MapG.step h.map hW) s hs
  have hmc := getM_con h s
  unfold AppR
  rw [hM] at hmc ⊢
  simp only [hM, fmV] at hlkS
  obtain ⟨hx, hroom⟩ := hmc
  simp only at hx hroom ⊢
  have hroomi : ((x : BL).length : Int) ≤ (cap : Int) := by omega
  clear hM
  have p0 := extA_cell (P.cell (j := 0) rfl)
  have n0 := extA_cell (N.cell (j := 0) rfl)
  have hc1 := extA_cell h.c1
  have hb := From.refl w
  go_enter Try.func27, Try.ntmps27
  go_upto_region 0 with fail
  refine wp_region_held (S := ExtA w) (by kernel_rfl) ?_
  have hst : Below (w).heap.size w { w with drawn := (w).drawn + 1 } := ⟨rfl, rfl, rfl, Nat.le_refl _, fun _ _ => rfl⟩
  have hS : (ExtA w) { w with drawn := (w).drawn + 1 } := by first | exact ⟨rfl, rfl, rfl, Nat.le_refl _, fun _ _ _ => rfl⟩ | exact ⟨rfl, rfl, rfl, Nat.le_refl _, fun _ _ => rfl⟩ | exact hS0
  replace hb := hb.step hst
  clear hst
  generalize ({ w with drawn := (w).drawn + 1 } : World) = wq at *
  refine wpAnyH_take (i := 0) (v := ?_) rfl (by kernel_rfl) (by kernel_rfl) (by kernel_rfl) (fun _ _ _ h => h) (Or.inl ⟨by kernel_rfl, ?_⟩) hS ?_
  rotate_left
  · intro W hSW
    have y0 := p0 _ hSW
    have y1 := n0 _ hSW
    have y2 := hc1 _ hSW
    have y3 := hlkS _ hSW
    go_simp
    try with_reducible rfl
  dsimp only [Act.put]
  refine wpAnyH_take (i := 1) (v := ?_) rfl (by kernel_rfl) (by kernel_rfl) (by kernel_rfl) (fun _ _ _ h => h) (Or.inl ⟨by kernel_rfl, ?_⟩) hS ?_
  rotate_left
  · intro W hSW
    have y0 := p0 _ hSW
    have y1 := n0 _ hSW
    have y2 := hc1 _ hSW
    have y3 := hlkS _ hSW
    go_simp
    try with_reducible rfl
  dsimp only [Act.put]
  refine wpAnyH_take (i := 2) (v := ?_) rfl (by kernel_rfl) (by kernel_rfl) (by kernel_rfl) (fun _ _ _ h => h) (Or.inl ⟨by kernel_rfl, ?_⟩) hS ?_
  rotate_left
  · intro W hSW
    have y0 := p0 _ hSW
    have y1 := n0 _ hSW
    have y2 := hc1 _ hSW
    have y3 := hlkS _ hSW
    go_simp
    try with_reducible rfl
  dsimp only [Act.put]
  refine wpAnyH_take (i := 3) (v := ?_) rfl (by kernel_rfl) (by kernel_rfl) (by kernel_rfl) (fun _ _ _ h => h) (Or.inl ⟨by kernel_rfl, ?_⟩) hS ?_
  rotate_left
  · intro W hSW
    have y0 := p0 _ hSW
    have y1 := n0 _ hSW
    have y2 := hc1 _ hSW
    have y3 := hlkS _ hSW
    go_simp
    try with_reducible rfl
  dsimp only [Act.put]
  refine wpAnyH_take (i := 4) (v := ?_) rfl (by kernel_rfl) (by kernel_rfl) (by kernel_rfl) (fun _ _ _ h => h) (Or.inl ⟨by kernel_rfl, ?_⟩) hS ?_
  rotate_left
  · intro W hSW
    have y0 := p0 _ hSW
    have y1 := n0 _ hSW
    have y2 := hc1 _ hSW
    have y3 := hlkS _ hSW
    go_simp
    try with_reducible rfl
  dsimp only [Act.put]
  refine wpAnyH_take (i := 5) (v := ?_) rfl (by kernel_rfl) (by kernel_rfl) (by kernel_rfl) (fun _ _ _ h => h) (Or.inl ⟨by kernel_rfl, ?_⟩) hS ?_
  rotate_left
  · intro W hSW
    have y0 := p0 _ hSW
    have y1 := n0 _ hSW
    have y2 := hc1 _ hSW
    have y3 := hlkS _ hSW
    go_simp
    try with_reducible rfl
  dsimp only [Act.put]
  refine wpAnyH_ready (rs := [6]) (by kernel_rfl) (by simp) ?_
  refine AllReadyH.cons rfl (fun K hK => ?_) AllReadyH.nil
  go_simp
  obtain ⟨gF, hgF⟩ : ∃ g, wq.heap.size = g := ⟨_, rfl⟩
  have F := Blk.newV hgF 61 #[.slice none 0 0, .int .i64 0]
  have hba := (Below.refl wq.heap.size wq).alloc (Nat.le_refl _) (.cells #[.slice none 0 0, .int .i64 0] 61)
  have hwF : w.heap.size ≤ gF := by have := hb.size; omega
  replace hb := hb.step hba
  refine hK.out _ _ hb.out (fun hS => ?_)
  rw [hgF]
  generalize wq.alloc (.cells #[.slice none 0 0, .int .i64 0] 61) = wa at *
  clear hgF hba
  clear hK K
  have z0 := F.cell (j := 0) rfl
  have z1 := F.cell (j := 1) rfl
  have g0 := F.frozen 0
  have g1 := F.frozen 1
  refine wpAnyH_ready (rs := [7]) (by kernel_rfl) (by simp) ?_
  refine AllReadyH.cons rfl (fun K hK => ?_) AllReadyH.nil
  go_simp
  have hkn : Kx [gF] wa ((wa.setCell ⟨gF, 0, none⟩ (.slice (some ⟨g, 0, none⟩) (x : BL).length cap)).setCell ⟨gF, 1, none⟩ (.int .i64 sr)) := ((Kx.refl _ wa).setCell (.inl (by simp)) _).setCell (.inl (by simp)) _
  have F2 := (F.set 0 (.slice (some ⟨g, 0, none⟩) (x : BL).length cap)).set 1 (.int .i64 sr)
  replace hb := hb.kx hkn (by simp; omega)
  refine hK.out _ _ hb.out (fun hS => ?_)
  generalize (wa.setCell ⟨gF, 0, none⟩ (.slice (some ⟨g, 0, none⟩) (x : BL).length cap)).setCell ⟨gF, 1, none⟩ (.int .i64 sr) = ws at *
  clear hkn z0 z1 g0 g1
  clear hK K
  refine wpAnyH_done (by kernel_rfl) ?_ _
  clear hS p0 n0 hc1 hlkS F
  replace F2 : Blk ws gF 61 [.slice (some ⟨g, 0, none⟩) (x : BL).length cap, .int .i64 sr] := F2
  go_upto_region 1 with fail
  have z0 := extA_cell (F2.cell (j := 0) rfl)
  have y0 := extA_cell ((Y.step hb.out).cell (j := 0) rfl)
  have hFl := F2.lt
  refine wp_region_head (C := ExtA ws) 10 (by kernel_rfl) (by decide) (by kernel_rfl) ⟨rfl, rfl, rfl, Nat.le_refl _, fun _ _ => rfl⟩ ?_
  simp only [List.take_succ_cons, List.take_zero]
  repeat
    (first
      | go_big_quiet_skip
      | (go_big_quiet_want
         go_big_quiet_op
         first
           | go_big_quiet_on
           | (apply Exists.intro
              refine ⟨fun w' hC9 => ?_, ?_⟩
              · (first
                  | with_reducible rfl
                  | fail
                  | (go_simp; done)
                  | (go_simp; with_reducible rfl))
              go_big_quiet_on)))
  refine wpQuiet_nil ?_
  intro wq hq
  replace hb := hb.step hq
  replace F2 := F2.step hq
  change wpAny _ _ _ _ (2 + 1) _ _ _
  refine wpAny_ready (rs := [10]) (by kernel_rfl) (by simp) ?_
  refine AllReady.cons rfl (fun K hK => ?_) AllReady.nil
  obtain ⟨ao2, cap2, wx, hrun, hx2, hr2, hfr, hbx⟩ := append_full wq (some ⟨g, 0, none⟩) bo x y cb 59 (hx.step hb.out) (hy.step hb.out) hsz
  replace hfr := fun g hg => (hfr g hg).imp (fun h => Nat.le_trans hb.size h) id
  obtain ⟨z, hz⟩ : ∃ z, (x ++ y : BL) = z := ⟨_, rfl⟩
  rw [hz] at hrun hx2 hr2
  refine step_append2 rfl (.tmp 18) (.tmp 19) 59 22 rfl rfl rfl hrun ?_
  replace hb := hb.step hbx
  replace F2 := F2.step hbx
  refine hK _ _ ?_
  clear hrun hbx z0 y0
  clear hK K
  refine wpAny_take (i := 11) (v := ?_) rfl (by kernel_rfl) (by kernel_rfl) (by kernel_rfl) (fun _ _ _ h => h) (Or.inl ⟨by kernel_rfl, ?_⟩) ?_
  rotate_left
  · intro W
    go_simp
    try with_reducible rfl
  dsimp only [Act.put]
  have z0 := F2.cell (j := 0) rfl
  have g0 := F2.frozen 0
  refine wpAny_ready (rs := [12]) (by kernel_rfl) (by simp) ?_
  refine AllReady.cons rfl (fun K hK => ?_) AllReady.nil
  go_simp
  have hkn : Kx [gF] wx (wx.setCell ⟨gF, 0, none⟩ (.slice ao2 z.length cap2)) := (Kx.refl _ wx).setCell (.inl (by simp)) _
  have hne : ∀ g, ao2 = some ⟨g, 0, none⟩ → g ∉ [gF] := fun g hg => by
    rcases hx2 with ⟨h1, -⟩ | ⟨g', h1, h2⟩
    · rw [h1] at hg; cases hg
    · rw [h1] at hg
      cases hg
      have := h2.ne_any F2 (by decide)
      simpa using this
  replace hx2 := hx2.kx hkn hne
  replace F2 := F2.set 0 (.slice ao2 z.length cap2)
  replace hb := hb.kx hkn (by simp; omega)
  refine hK _ _ ?_
  generalize wx.setCell ⟨gF, 0, none⟩ (.slice ao2 z.length cap2) = wy at *
  clear hkn z0 g0 hne
  clear hK K
  refine wpAny_done (by kernel_rfl) ?_ _
  clear hx hroom hroomi
  replace F2 : Blk wy gF 61 [.slice ao2 z.length cap2, .int .i64 sr] := F2
  have hmb : mb < w.heap.size := h.ltb
  have hdm := h.ne
  have hpm := blk_ne_map P h.map
  have hnm := blk_ne_map N h.map
  have k0 := kx_all ((P.step hb.out).cell (j := 0) rfl) (show bp ∉ [mb] by simpa using hpm)
  have k1 := kx_all ((N.step hb.out).cell (j := 0) rfl) (show bn ∉ [mb] by simpa using hnm)
  have k2 := kx_all (h.step hb.out).c1 (show d ∉ [mb] by simpa using hdm)
  have k3 := kx_all (F2.cell (j := 0) rfl) (show gF ∉ [mb] by simp; omega)
  have k4 := kx_all (F2.cell (j := 1) rfl) (show gF ∉ [mb] by simp; omega)
  go_upto_region 2 with fail
  refine wp_region_held (S := Kx [mb] wy) (by kernel_rfl) ?_
  have hst : Below (wy).heap.size wy { wy with drawn := (wy).drawn + 1 } := ⟨rfl, rfl, rfl, Nat.le_refl _, fun _ _ => rfl⟩
  have hS : (Kx [mb] wy) { wy with drawn := (wy).drawn + 1 } := by first | exact ⟨rfl, rfl, rfl, Nat.le_refl _, fun _ _ _ => rfl⟩ | exact ⟨rfl, rfl, rfl, Nat.le_refl _, fun _ _ => rfl⟩ | exact hS0
  replace hb := hb.step hst
  replace hx2 := hx2.step hst
  clear hst
  generalize ({ wy with drawn := (wy).drawn + 1 } : World) = wq at *
  refine wpAnyH_take (i := 0) (v := ?_) rfl (by kernel_rfl) (by kernel_rfl) (by kernel_rfl) (fun _ _ _ h => h) (Or.inl ⟨by kernel_rfl, ?_⟩) hS ?_
  rotate_left
  · intro W hSW
    have y0 := k0 _ hSW
    have y1 := k1 _ hSW
    have y2 := k2 _ hSW
    have y3 := k3 _ hSW
    have y4 := k4 _ hSW
    go_simp
    try with_reducible rfl
  dsimp only [Act.put]
  refine wpAnyH_take (i := 1) (v := ?_) rfl (by kernel_rfl) (by kernel_rfl) (by kernel_rfl) (fun _ _ _ h => h) (Or.inl ⟨by kernel_rfl, ?_⟩) hS ?_
  rotate_left
  · intro W hSW
    have y0 := k0 _ hSW
    have y1 := k1 _ hSW
    have y2 := k2 _ hSW
    have y3 := k3 _ hSW
    have y4 := k4 _ hSW
    go_simp
    try with_reducible rfl
  dsimp only [Act.put]
  refine wpAnyH_take (i := 2) (v := ?_) rfl (by kernel_rfl) (by kernel_rfl) (by kernel_rfl) (fun _ _ _ h => h) (Or.inl ⟨by kernel_rfl, ?_⟩) hS ?_
  rotate_left
  · intro W hSW
    have y0 := k0 _ hSW
    have y1 := k1 _ hSW
    have y2 := k2 _ hSW
    have y3 := k3 _ hSW
    have y4 := k4 _ hSW
    go_simp
    try with_reducible rfl
  dsimp only [Act.put]
  refine wpAnyH_take (i := 3) (v := ?_) rfl (by kernel_rfl) (by kernel_rfl) (by kernel_rfl) (fun _ _ _ h => h) (Or.inl ⟨by kernel_rfl, ?_⟩) hS ?_
  rotate_left
  · intro W hSW
    have y0 := k0 _ hSW
    have y1 := k1 _ hSW
    have y2 := k2 _ hSW
    have y3 := k3 _ hSW
    have y4 := k4 _ hSW
    go_simp
    try with_reducible rfl
  dsimp only [Act.put]
  refine wpAnyH_take (i := 4) (v := ?_) rfl (by kernel_rfl) (by kernel_rfl) (by kernel_rfl) (fun _ _ _ h => h) (Or.inl ⟨by kernel_rfl, ?_⟩) hS ?_
  rotate_left
  · intro W hSW
    have y0 := k0 _ hSW
    have y1 := k1 _ hSW
    have y2 := k2 _ hSW
    have y3 := k3 _ hSW
    have y4 := k4 _ hSW
    go_simp
    try with_reducible rfl
  dsimp only [Act.put]
  refine wpAnyH_take (i := 5) (v := ?_) rfl (by kernel_rfl) (by kernel_rfl) (by kernel_rfl) (fun _ _ _ h => h) (Or.inl ⟨by kernel_rfl, ?_⟩) hS ?_
  rotate_left
  · intro W hSW
    have y0 := k0 _ hSW
    have y1 := k1 _ hSW
    have y2 := k2 _ hSW
    have y3 := k3 _ hSW
    have y4 := k4 _ hSW
    go_simp
    try with_reducible rfl
  dsimp only [Act.put]
  obtain ⟨w9, hrun, hM9, hk9, -⟩ := MapG.put (MapG.step h.map hb.out) keyS Try.underlying53 s (⟨ao2, cap2, z, sr⟩ : Fm) hs (by unfold maxLen; omega)
  have hD9 := (h.step hb.out).put hk9 hM9 hx2 hr2
  unfold fmV at hrun
  simp only at hrun
  refine wpAnyH_ready (rs := [6]) (by kernel_rfl) (by simp) ?_
  refine AllReadyH.cons rfl (fun K hK => ?_) AllReadyH.nil
  go_simp
  refine hK.out _ _ (hS.trans hk9) (fun hS => ?_)
  clear hK K
  refine wpAnyH_done (by kernel_rfl) ?_ _
  clear hrun hM9 k0 k1 k2 k3 k4
  go_wp2_with fail
  go_end0
  exact ⟨rfl, ⟨_, hD9, hz.symm, rfl, hfr⟩, (Kx.of_below [mb] hb.out (Nat.le_refl _)).trans hk9⟩
theorem dapp1_any (bp bn bb d mb : Nat) (D : Ds) (L : FMap) (s : ByteArray) (bo : Option Addr) (y : BL) (cb : Nat) (w : World)
    (P : Blk w bp 25 [.pointer (some ⟨d, 0, none⟩)]) (N : Blk w bn 9 [.string s]) (Y : Blk w bb 22 [.slice bo y.length cb]) (h : DkW w d mb D L) (hy : ByAt w bo y) (hs : okS s) (hl : L.length < 1000)
    (hsz : (getM L s).b.length + y.length ≤ 33554432) :
    Calls Try.prog 27 #[.pointer (some ⟨bp, 0, none⟩), .pointer (some ⟨bn, 0, none⟩), .pointer (some ⟨bb, 0, none⟩)] w fun e w' => e = .returned (.tuple #[]) ∧ AppR w d mb D L s y w' := by
  have hc := (getM_con h s).1
  obtain ⟨M, hM⟩ : ∃ M, getM L s = M := ⟨_, rfl⟩
  rw [hM] at hc hsz
  obtain ⟨ao, cap, x, sr⟩ := M
  simp only at hc hsz
  rcases hc with ⟨rfl, rfl⟩ | ⟨g, rfl, -⟩
  · exact dapp1_none bp bn bb d mb D L s bo y cb cap sr w P N Y h hy hs hl hM hsz
  · exact dapp1_some bp bn bb d mb D L s bo y cb g x cap sr w P N Y h hy hs hl hM hsz
end Go.Proofs.Ytceoehjjebkgpaa
