
/- Law 7: works. -/
import Derived.Lib.SlBytesConst
import Derived.Test.YtceoehjjebkgpaaDkP
namespace Go.Proofs.Ytceoehjjebkgpaa
set_option linter.unusedSimpArgs false
set_option linter.unusedVariables false
set_option linter.unusedSimpArgs false
set_option linter.unusedVariables false
open Go.RowKit Go.Maps
abbrev bHi : BL := [104, 105]
abbrev bYou : BL := [121, 111, 117]
abbrev bNum : BL := [49, 50, 51, 52]
abbrev bX : BL := [120]
theorem heap_at {W : World} {g : Nat} {y : BL} {fr : Nat × Nat} (h : W.heap[g]? = some (.cells (y.map encB).toArray 5 fr)) : ByAt W (some ⟨g, 0, none⟩) y := by
  refine .inr ⟨g, 0, rfl, fun j u hu => ?_⟩
  rw [Nat.zero_add]
  simp [World.cell?, h, hu]
abbrev bFive : BL := [104, 105, 121, 111, 117]
abbrev bSix : BL := [104, 105, 121, 111, 117, 120]
abbrev hi07 : ByteArray := ⟨#[104, 105]⟩
set_option maxRecDepth 100000 in
set_option maxHeartbeats 8000000 in
theorem works07_any (w : World) : Calls Try.prog 6 #[] w fun e w' => e = .returned (.bool true) ∧ Below w.heap.size w w' := by
  have hb := From.refl w
  have kc := fun (w : World) (C : Array Value) (n c : Nat) => Lib.run_convert_bytes_const (P := Try.prog) w 22 5 C n c Try.underlying22 Try.underlying5
  go_enter Try.func6, Try.ntmps6
  go_wp2_with fail
  refine (dnew_any 8 _ (by decide) (by decide)).mono ?_
  rintro e w2 ⟨⟨d, mb, rfl, h, hwd, hwm⟩, hbn⟩
  replace hb := hb.step hbn
  clear hbn
  have hk2 : ∀ x, x ∈ [d, mb] → w.heap.size ≤ x := by simp; omega
  have hk1 : ∀ x, x ∈ [d] → w.heap.size ≤ x := by simp; omega
  clear hwd hwm
  go_wp2_with fail
  have hbn := (Below.refl (w2).heap.size w2).alloc (Nat.le_refl _) (.cells #[.int .u8 104, .int .u8 105] 5 (2, 2 + 1))
  have hy : ByAt ((w2).alloc (.cells #[.int .u8 104, .int .u8 105] 5 (2, 2 + 1))) (some ⟨(w2).heap.size, 0, none⟩) bHi := heap_at (World.alloc_heap_new _ _)
  replace hb := hb.step hbn
  replace h := h.step hbn
  clear hbn
  generalize (w2).alloc (.cells #[.int .u8 104, .int .u8 105] 5 (2, 2 + 1)) = w3 at *
  refine (one_app0 d mb _ bHi _ 2 _ h (by decide) (by decide) (by decide) (by decide) hy (by decide) rfl (.inl rfl)).mono ?_
  rintro e w4 ⟨⟨rfl, h2⟩, hkn⟩
  replace hb := hb.kx hkn hk2
  clear hkn h
  have h : OneW w4 d mb ⟨8, false, 0, false⟩ bHi 0 := h2
  clear h2
  clear hy
  go_wp2_with fail
  refine (one_sync d mb _ _ _ _ h ⟨by decide, by decide, by decide, by decide, by decide⟩ rfl (.inl rfl)).mono ?_
  rintro e w5 ⟨⟨rfl, h2⟩, hkn⟩
  replace hb := hb.kx hkn hk2
  clear hkn h
  have h : OneW w5 d mb ⟨8, false, 0, false⟩ bHi 2 := h2
  clear h2
  go_wp2_with fail
  have hbn := (Below.refl (w5).heap.size w5).alloc (Nat.le_refl _) (.cells #[.int .u8 121, .int .u8 111, .int .u8 117] 5 (3, 3 + 1))
  have hy : ByAt ((w5).alloc (.cells #[.int .u8 121, .int .u8 111, .int .u8 117] 5 (3, 3 + 1))) (some ⟨(w5).heap.size, 0, none⟩) bYou := heap_at (World.alloc_heap_new _ _)
  replace hb := hb.step hbn
  replace h := h.step hbn
  clear hbn
  generalize (w5).alloc (.cells #[.int .u8 121, .int .u8 111, .int .u8 117] 5 (3, 3 + 1)) = w6 at *
  refine (one_app d mb _ _ bYou _ _ 3 _ h ⟨by decide, by decide, by decide, by decide, by decide⟩ hy (by decide) rfl (.inl rfl)).mono ?_
  rintro e w7 ⟨⟨rfl, h2⟩, hkn⟩
  replace hb := hb.kx hkn hk2
  clear hkn h
  have h : OneW w7 d mb ⟨8, false, 0, false⟩ bFive 2 := h2
  clear h2
  clear hy
  go_wp2_with fail
  have hbn := (Below.refl (w7).heap.size w7).alloc (Nat.le_refl _) (.cells #[.int .u8 49, .int .u8 50, .int .u8 51, .int .u8 52] 5 (4, 4 + 1))
  have hy : ByAt ((w7).alloc (.cells #[.int .u8 49, .int .u8 50, .int .u8 51, .int .u8 52] 5 (4, 4 + 1))) (some ⟨(w7).heap.size, 0, none⟩) bNum := heap_at (World.alloc_heap_new _ _)
  replace hb := hb.step hbn
  replace h := h.step hbn
  clear hbn
  generalize (w7).alloc (.cells #[.int .u8 49, .int .u8 50, .int .u8 51, .int .u8 52] 5 (4, 4 + 1)) = w8 at *
  refine (one_room d mb _ _ bNum _ bS _ 4 _ h ⟨by decide, by decide, by decide, by decide, by decide⟩ nm_b (by decide) (by decide)).mono ?_
  rintro e w9 ⟨rfl, hbn⟩
  replace hb := hb.step hbn
  replace h := h.step hbn
  clear hbn hy
  go_wp2_with fail
  refine (one_stop d mb _ _ _ 1 _ h (by decide) rfl).mono ?_
  rintro e wa ⟨⟨rfl, h2⟩, hkn⟩
  replace hb := hb.kx hkn hk1
  clear hkn h
  have h : OneW wa d mb ⟨8, true, 1, false⟩ bFive 2 := h2
  clear h2
  go_wp2_with fail
  have hbn := (Below.refl (wa).heap.size wa).alloc (Nat.le_refl _) (.cells #[.int .u8 120] 5 (1, 1 + 1))
  have hy : ByAt ((wa).alloc (.cells #[.int .u8 120] 5 (1, 1 + 1))) (some ⟨(wa).heap.size, 0, none⟩) bX := heap_at (World.alloc_heap_new _ _)
  replace hb := hb.step hbn
  replace h := h.step hbn
  clear hbn
  generalize (wa).alloc (.cells #[.int .u8 120] 5 (1, 1 + 1)) = wb at *
  refine (one_app d mb _ _ bX _ _ 1 _ h ⟨by decide, by decide, by decide, by decide, by decide⟩ hy (by decide) rfl (.inr (by decide))).mono ?_
  rintro e wc ⟨⟨rfl, h2⟩, hkn⟩
  replace hb := hb.kx hkn hk2
  clear hkn h
  have h : OneW wc d mb ⟨8, true, 0, false⟩ bSix 2 := h2
  clear h2
  clear hy
  go_wp2_with fail
  refine (one_syncx d mb _ _ _ _ h rfl rfl rfl).mono ?_
  rintro e wd ⟨⟨rfl, h2⟩, hkn⟩
  replace hb := hb.kx hkn hk1
  clear hkn h
  have h : OneW wd d mb ⟨8, false, 0, true⟩ bSix 2 := h2
  clear h2
  go_wp2_with fail
  refine (one_cutr d mb _ _ _ 9 _ h (.inr (by decide))).mono ?_
  rintro e we ⟨rfl, hbn⟩
  replace hb := hb.step hbn
  replace h := h.step hbn
  clear hbn
  go_wp2_with fail
  refine (one_cutd d mb _ _ _ 5 _ h (by decide) (by decide) rfl).mono ?_
  rintro e wf ⟨rfl, hbn⟩
  replace hb := hb.step hbn
  replace h := h.step hbn
  clear hbn
  go_wp2_with fail
  refine (one_read d mb _ _ _ _ h ⟨by decide, by decide, by decide, by decide, by decide⟩).mono ?_
  rintro e wg ⟨⟨ao2, c2, rfl, h2⟩, hbn⟩
  replace hb := hb.step hbn
  replace h := h.step hbn
  clear hbn
  have hcv : (convert 22 9 (.slice ao2 6 c2)).run Try.prog wg = .ok (.string ⟨#[104, 105, 121, 111, 117, 120]⟩) wg := bySl_back h2 c2
  go_wp2_with fail
  refine (num07_any _ _).mono ?_
  rintro e wx ⟨rfl, rfl⟩
  go_wp2_with fail
  refine (num07_any _ _).mono ?_
  rintro e wx ⟨rfl, rfl⟩
  go_wp2_with fail
  refine (num07_any _ _).mono ?_
  rintro e wx ⟨rfl, rfl⟩
  go_wp2_with fail
  refine (num07_any _ _).mono ?_
  rintro e wx ⟨rfl, rfl⟩
  go_wp2_with fail
  refine (num07_any _ _).mono ?_
  rintro e wx ⟨rfl, rfl⟩
  go_wp2_with fail
  refine (num07_any _ _).mono ?_
  rintro e wx ⟨rfl, rfl⟩
  go_wp2_with fail
  refine (num07_any _ _).mono ?_
  rintro e wx ⟨rfl, rfl⟩
  go_wp2_with fail
  refine (num07_any _ _).mono ?_
  rintro e wx ⟨rfl, rfl⟩
  go_wp2_with fail
  refine (num07_any _ _).mono ?_
  rintro e wx ⟨rfl, rfl⟩
  go_wp2_with fail
  refine (one_dead d mb _ _ _ _ h).mono ?_
  rintro e wx ⟨rfl, rfl⟩
  go_wp2_with fail
  refine (num07_any _ _).mono ?_
  rintro e wx ⟨rfl, rfl⟩
  go_wp2_with fail
  refine (num07_any _ _).mono ?_
  rintro e wx ⟨rfl, rfl⟩
  go_wp2_with fail
  refine (one_left d mb _ _ _ _ [] _ _ hi07 h ⟨by decide, by decide, by decide, by decide, by decide⟩ ⟨by decide, by decide⟩ (int_nil _ _) (by decide) (by kernel_rfl)).mono ?_
  rintro e wh ⟨rfl, hbn⟩
  replace hb := hb.step hbn
  replace h := h.step hbn
  clear hbn
  go_wp2_with fail
  obtain ⟨gP1, hgP1⟩ : ∃ g, (wh).heap.size = g := ⟨_, rfl⟩
  have P1 := Blk.newV hgP1 3 #[.int .i64 2]
  have hbn := (Below.refl (wh).heap.size wh).alloc (Nat.le_refl _) (.cells #[.int .i64 2] 3)
  replace hb := hb.step hbn
  replace h := h.step hbn
  clear hbn
  rw [hgP1]
  generalize (wh).alloc (.cells #[.int .i64 2] 3) = wi at *
  go_wp2_with fail
  refine (one_left d mb _ _ _ _ [2] _ _ ⟨#[104, 105, 121, 111]⟩ h ⟨by decide, by decide, by decide, by decide, by decide⟩ ⟨by decide, by decide⟩ (blk_int P1) (by decide) (by kernel_rfl)).mono ?_
  rintro e wj ⟨rfl, hbn⟩
  replace hb := hb.step hbn
  replace h := h.step hbn
  replace P1 := P1.step hbn
  clear hbn
  go_wp2_with fail
  obtain ⟨gP2, hgP2⟩ : ∃ g, (wj).heap.size = g := ⟨_, rfl⟩
  have P2 := Blk.newV hgP2 3 #[.int .i64 5]
  have hbn := (Below.refl (wj).heap.size wj).alloc (Nat.le_refl _) (.cells #[.int .i64 5] 3)
  replace hb := hb.step hbn
  replace h := h.step hbn
  clear hbn
  rw [hgP2]
  generalize (wj).alloc (.cells #[.int .i64 5] 3) = wk at *
  go_wp2_with fail
  refine (one_left d mb _ _ _ _ [5] _ _ hi07 h ⟨by decide, by decide, by decide, by decide, by decide⟩ ⟨by decide, by decide⟩ (blk_int P2) (by decide) (by kernel_rfl)).mono ?_
  rintro e wl ⟨rfl, hbn⟩
  replace hb := hb.step hbn
  replace h := h.step hbn
  replace P2 := P2.step hbn
  clear hbn
  go_wp2_with fail
  obtain ⟨gP3, hgP3⟩ : ∃ g, (wl).heap.size = g := ⟨_, rfl⟩
  have P3 := Blk.newV hgP3 3 #[.int .i64 (-1)]
  have hbn := (Below.refl (wl).heap.size wl).alloc (Nat.le_refl _) (.cells #[.int .i64 (-1)] 3)
  replace hb := hb.step hbn
  replace h := h.step hbn
  clear hbn
  rw [hgP3]
  generalize (wl).alloc (.cells #[.int .i64 (-1)] 3) = wm at *
  go_wp2_with fail
  refine (one_left d mb _ _ _ _ [-1] _ _ ⟨#[104, 105, 121, 111, 117, 120]⟩ h ⟨by decide, by decide, by decide, by decide, by decide⟩ ⟨by decide, by decide⟩ (blk_int P3) (by decide) (by kernel_rfl)).mono ?_
  rintro e wn ⟨rfl, hbn⟩
  replace hb := hb.step hbn
  replace h := h.step hbn
  replace P3 := P3.step hbn
  clear hbn
  go_wp2_with fail
  go_ret
  exact ⟨rfl, hb.out⟩
end Go.Proofs.Ytceoehjjebkgpaa
