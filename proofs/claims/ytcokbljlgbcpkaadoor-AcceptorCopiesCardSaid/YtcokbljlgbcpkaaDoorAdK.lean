
/- Package acceptor: the chapter's rows (works). -/
import Derived.Test.YtcokbljlgbcpkaaDoorAdI
namespace Go.Proofs.YtcokbljlgbcpkaaDoor
open Go.RowKit
theorem kx_out {g B : Nat} {W W' : World} (h : Kx [g] W W') (hg : B ≤ g) (hB : B ≤ W.heap.size) : Below B W W' :=
  ⟨h.os, h.tape, h.output, h.size, fun k hk => h.block k (by omega) (by simp; omega)⟩
def wA0 : Acc := ⟨0, 1, -1, 0, 0, 0, 0, ⟨#[]⟩, 3, 1⟩
def wA1 : Acc := ⟨0, 1, 0, 1, 1, 0, 0, ⟨#[]⟩, 3, 1⟩
def wA2 : Acc := ⟨1, 0, 0, 1, 1, 0, 0, ⟨#[]⟩, 3, 1⟩
def wA3 : Acc := ⟨2, 2, 2, 2, 1, 0, 0, ⟨#[]⟩, 3, 1⟩
theorem wacc1 (g : Nat) (w : World) (h : AW w g wA0) (hT : Tabs w) :
    Calls Tryd.prog 18 #[.pointer (some ⟨g, 0, none⟩), .agg #[.int .i64 0, .int .i64 1], .agg #[.int .i64 1, .int .i64 0, .int .i64 0, .string ⟨#[]⟩]] w fun e w' => e = .returned (.tuple #[.bool true, .int .i64 0]) ∧ AW w' g wA1 ∧ Kx [g] w w' := by
  have h1 := accept_any g wA0 0 1 1 0 0 ⟨#[]⟩ w h (by decide) (by decide) hT
  unfold accP at h1
  rw [show accB wA0 0 1 1 0 0 ⟨#[]⟩ = true by kernel_rfl, show accE wA0 0 1 1 0 0 ⟨#[]⟩ = 0 by kernel_rfl, show accA wA0 0 1 1 0 0 ⟨#[]⟩ = wA1 by kernel_rfl] at h1
  exact h1
theorem wacc2 (g : Nat) (w : World) (h : AW w g wA2) (hT : Tabs w) :
    Calls Tryd.prog 18 #[.pointer (some ⟨g, 0, none⟩), .agg #[.int .i64 0, .int .i64 1], .agg #[.int .i64 1, .int .i64 0, .int .i64 0, .string ⟨#[]⟩]] w fun e w' => e = .returned (.tuple #[.bool false, .int .i64 0]) ∧ AW w' g wA2 ∧ Kx [g] w w' := by
  have h1 := accept_any g wA2 0 1 1 0 0 ⟨#[]⟩ w h (by decide) (by decide) hT
  unfold accP at h1
  rw [show accB wA2 0 1 1 0 0 ⟨#[]⟩ = false by kernel_rfl, show accE wA2 0 1 1 0 0 ⟨#[]⟩ = 0 by kernel_rfl, show accA wA2 0 1 1 0 0 ⟨#[]⟩ = wA2 by kernel_rfl] at h1
  exact h1
theorem wacc3 (g : Nat) (w : World) (h : AW w g wA2) (hT : Tabs w) :
    Calls Tryd.prog 18 #[.pointer (some ⟨g, 0, none⟩), .agg #[.int .i64 0, .int .i64 2], .agg #[.int .i64 1, .int .i64 0, .int .i64 0, .string ⟨#[]⟩]] w fun e w' => e = .returned (.tuple #[.bool false, .int .i64 2]) ∧ AW w' g wA2 ∧ Kx [g] w w' := by
  have h1 := accept_any g wA2 0 2 1 0 0 ⟨#[]⟩ w h (by decide) (by decide) hT
  unfold accP at h1
  rw [show accB wA2 0 2 1 0 0 ⟨#[]⟩ = false by kernel_rfl, show accE wA2 0 2 1 0 0 ⟨#[]⟩ = 2 by kernel_rfl, show accA wA2 0 2 1 0 0 ⟨#[]⟩ = wA2 by kernel_rfl] at h1
  exact h1
theorem wacc4 (g : Nat) (w : World) (h : AW w g wA2) (hT : Tabs w) :
    Calls Tryd.prog 18 #[.pointer (some ⟨g, 0, none⟩), .agg #[.int .i64 2, .int .i64 2], .agg #[.int .i64 1, .int .i64 0, .int .i64 0, .string ⟨#[]⟩]] w fun e w' => e = .returned (.tuple #[.bool true, .int .i64 0]) ∧ AW w' g wA3 ∧ Kx [g] w w' := by
  have h1 := accept_any g wA2 2 2 1 0 0 ⟨#[]⟩ w h (by decide) (by decide) hT
  unfold accP at h1
  rw [show accB wA2 2 2 1 0 0 ⟨#[]⟩ = true by kernel_rfl, show accE wA2 2 2 1 0 0 ⟨#[]⟩ = 0 by kernel_rfl, show accA wA2 2 2 1 0 0 ⟨#[]⟩ = wA3 by kernel_rfl] at h1
  exact h1
theorem wpro1 (g : Nat) (w : World) (h : AW w g wA1) :
    Calls Tryd.prog 17 #[.pointer (some ⟨g, 0, none⟩), .agg #[.int .i64 1, .int .i64 0]] w fun e w' => e = .returned (.tuple #[.agg #[.int .i64 0, .int .i64 1, .int .i64 1, .int .i64 0, .int .i64 0, .string ⟨#[]⟩], .bool true, .int .i64 0]) ∧ AW w' g wA2 ∧ Kx [g] w w' := by
  have h1 := promise_any g wA1 1 0 w h (by decide)
  unfold proP at h1
  rw [show proB wA1 1 0 = true by kernel_rfl, show proE wA1 1 0 = 0 by kernel_rfl, show proA wA1 1 0 = wA2 by kernel_rfl, show proX wA1 1 0 = .agg #[.int .i64 0, .int .i64 1, .int .i64 1, .int .i64 0, .int .i64 0, .string ⟨#[]⟩] by kernel_rfl] at h1
  exact h1
theorem wpro2 (g : Nat) (w : World) (h : AW w g wA2) :
    Calls Tryd.prog 17 #[.pointer (some ⟨g, 0, none⟩), .agg #[.int .i64 1, .int .i64 0]] w fun e w' => e = .returned (.tuple #[.agg #[.int .i64 0, .int .i64 0, .int .i64 0, .int .i64 0, .int .i64 0, .string ⟨#[]⟩], .bool false, .int .i64 0]) ∧ AW w' g wA2 ∧ Kx [g] w w' := by
  have h1 := promise_any g wA2 1 0 w h (by decide)
  unfold proP at h1
  rw [show proB wA2 1 0 = false by kernel_rfl, show proE wA2 1 0 = 0 by kernel_rfl, show proA wA2 1 0 = wA2 by kernel_rfl, show proX wA2 1 0 = .agg #[.int .i64 0, .int .i64 0, .int .i64 0, .int .i64 0, .int .i64 0, .string ⟨#[]⟩] by kernel_rfl] at h1
  exact h1
theorem wpro3 (g : Nat) (w : World) (h : AW w g wA2) :
    Calls Tryd.prog 17 #[.pointer (some ⟨g, 0, none⟩), .agg #[.int .i64 0, .int .i64 1]] w fun e w' => e = .returned (.tuple #[.agg #[.int .i64 0, .int .i64 0, .int .i64 0, .int .i64 0, .int .i64 0, .string ⟨#[]⟩], .bool false, .int .i64 2]) ∧ AW w' g wA2 ∧ Kx [g] w w' := by
  have h1 := promise_any g wA2 0 1 w h (by decide)
  unfold proP at h1
  rw [show proB wA2 0 1 = false by kernel_rfl, show proE wA2 0 1 = 2 by kernel_rfl, show proA wA2 0 1 = wA2 by kernel_rfl, show proX wA2 0 1 = .agg #[.int .i64 0, .int .i64 0, .int .i64 0, .int .i64 0, .int .i64 0, .string ⟨#[]⟩] by kernel_rfl] at h1
  exact h1
theorem works14_new (w : World) : Calls Tryd.prog 13 #[.int .i64 3, .int .i64 1] w fun e w' => (∃ g, e = .returned (.tuple #[.pointer (some ⟨g, 0, none⟩), .int .i64 0]) ∧ AW w' g wA0 ∧ w.heap.size ≤ g) ∧ Below w.heap.size w w' := new14_ok 3 1 1 w (by kernel_rfl) (by kernel_rfl)
theorem wpromised (g : Nat) (w : World) (h : AW w g wA3) : Calls Tryd.prog 15 #[.pointer (some ⟨g, 0, none⟩)] w fun e w' => e = .returned (.agg #[.int .i64 2, .int .i64 2]) ∧ Below w.heap.size w w' := promised_at g wA3 w h (by decide)
set_option maxRecDepth 100000 in
set_option maxHeartbeats 4000000 in
theorem works14_any (w : World) (hT : Tabs w) : Calls Tryd.prog 9 #[] w fun e w' => e = .returned (.bool true) ∧ Below w.heap.size w w' := by
  go_enter Tryd.func9, Tryd.ntmps9
  go_upto_region 2 with fail
  obtain ⟨B, hB⟩ : ∃ B, w.heap.size = B := ⟨_, rfl⟩
  have X := Blk.newV (W := w) hB 24 #[.int .i64 1, .int .i64 0, .int .i64 0, .string ⟨#[]⟩]
  have hb : Below B w (w.alloc (.cells #[.int .i64 1, .int .i64 0, .int .i64 0, .string ⟨#[]⟩] 24)) := hB ▸ (Below.refl w.heap.size w).alloc (Nat.le_refl _) _
  rw [hB]
  generalize w.alloc (.cells #[.int .i64 1, .int .i64 0, .int .i64 0, .string ⟨#[]⟩] 24) = w1 at *
  go_wp2_with fail
  refine (works14_new _).mono ?_
  rintro e w2 ⟨⟨g, rfl, hA, hg⟩, hbn⟩
  have hgB : B < g := Nat.lt_of_lt_of_le X.lt hg
  replace X := X.step hbn
  replace hb := hb.trans (hbn.mono (by have := hb.size; omega))
  clear hbn hg
  have ec0 := X.cell (j := 0) rfl
  have ec1 := X.cell (j := 1) rfl
  have ec2 := X.cell (j := 2) rfl
  have ec3 := X.cell (j := 3) rfl
  go_wp2_with fail
  refine (wacc1 g _ hA (hT.step (hB ▸ hb))).mono ?_
  rintro e wk ⟨rfl, hA, hK⟩
  replace hb := hb.trans (hK.below (by have := hb.size; omega) (by simp; omega))
  replace X := hK.blk X (by simp; omega)
  clear ec0 ec1 ec2 ec3 hK
  go_wp2_with fail
  refine (wpro1 g _ hA).mono ?_
  rintro e wk ⟨rfl, hA, hK⟩
  replace hb := hb.trans (hK.below (by have := hb.size; omega) (by simp; omega))
  replace X := hK.blk X (by simp; omega)
  clear hK
  go_upto_region 5 with fail
  have C := Blk.newV (W := wk) rfl 39 #[.int .i64 0, .int .i64 1, .int .i64 1, .int .i64 0, .int .i64 0, .string ⟨#[]⟩]
  have hC4 := hA.lt
  have hC5 := hb.size
  have hC6 := X.lt
  obtain ⟨wo, hwo⟩ : ∃ wo, wk.alloc (.cells #[.int .i64 0, .int .i64 1, .int .i64 1, .int .i64 0, .int .i64 0, .string ⟨#[]⟩] 39) = wo := ⟨_, rfl⟩
  have hn := (Below.refl wk.heap.size wk).alloc (Nat.le_refl _) (.cells #[.int .i64 0, .int .i64 1, .int .i64 1, .int .i64 0, .int .i64 0, .string ⟨#[]⟩] 39)
  replace hb := hb.alloc (by have := hb.size; omega) (.cells #[.int .i64 0, .int .i64 1, .int .i64 1, .int .i64 0, .int .i64 0, .string ⟨#[]⟩] 39)
  rw [hwo] at hn hb
  replace X := X.step hn
  replace hA := hA.step hn
  rw [hwo] at C ⊢
  clear hwo hn
  obtain ⟨G, hG⟩ : ∃ G, wk.heap.size = G := ⟨_, rfl⟩
  rw [hG] at C hC4 hC5 hC6 ⊢
  clear hG
  have ec0 := X.cell (j := 0) rfl
  have ec1 := X.cell (j := 1) rfl
  have ec2 := X.cell (j := 2) rfl
  have ec3 := X.cell (j := 3) rfl
  go_wp2_with fail
  refine (wacc2 g _ hA (hT.step (hB ▸ hb))).mono ?_
  rintro e wk ⟨rfl, hA, hK⟩
  replace hb := hb.trans (hK.below (by have := hb.size; omega) (by simp; omega))
  replace X := hK.blk X (by simp; omega)
  replace C := hK.blk C (by simp; omega)
  clear hK
  clear ec0 ec1 ec2 ec3
  go_wp2_with fail
  refine (wpro2 g _ hA).mono ?_
  rintro e wk ⟨rfl, hA, hK⟩
  replace hb := hb.trans (hK.below (by have := hb.size; omega) (by simp; omega))
  replace X := hK.blk X (by simp; omega)
  replace C := hK.blk C (by simp; omega)
  clear hK
  go_upto_region 7 with fail
  obtain ⟨wo, hwo⟩ : ∃ wo, wk.alloc (.cells #[.int .i64 0, .int .i64 0, .int .i64 0, .int .i64 0, .int .i64 0, .string ⟨#[]⟩] 39) = wo := ⟨_, rfl⟩
  have hn := (Below.refl wk.heap.size wk).alloc (Nat.le_refl _) (.cells #[.int .i64 0, .int .i64 0, .int .i64 0, .int .i64 0, .int .i64 0, .string ⟨#[]⟩] 39)
  replace hb := hb.alloc (by have := hb.size; omega) (.cells #[.int .i64 0, .int .i64 0, .int .i64 0, .int .i64 0, .int .i64 0, .string ⟨#[]⟩] 39)
  rw [hwo] at hn hb
  replace X := X.step hn
  replace hA := hA.step hn
  replace C := C.step hn
  rw [hwo]
  clear hwo hn
  go_wp2_with fail
  refine (wpro3 g _ hA).mono ?_
  rintro e wk ⟨rfl, hA, hK⟩
  replace hb := hb.trans (hK.below (by have := hb.size; omega) (by simp; omega))
  replace X := hK.blk X (by simp; omega)
  replace C := hK.blk C (by simp; omega)
  clear hK
  go_upto_region 8 with fail
  obtain ⟨wo, hwo⟩ : ∃ wo, wk.alloc (.cells #[.int .i64 0, .int .i64 0, .int .i64 0, .int .i64 0, .int .i64 0, .string ⟨#[]⟩] 39) = wo := ⟨_, rfl⟩
  have hn := (Below.refl wk.heap.size wk).alloc (Nat.le_refl _) (.cells #[.int .i64 0, .int .i64 0, .int .i64 0, .int .i64 0, .int .i64 0, .string ⟨#[]⟩] 39)
  replace hb := hb.alloc (by have := hb.size; omega) (.cells #[.int .i64 0, .int .i64 0, .int .i64 0, .int .i64 0, .int .i64 0, .string ⟨#[]⟩] 39)
  rw [hwo] at hn hb
  replace X := X.step hn
  replace hA := hA.step hn
  replace C := C.step hn
  rw [hwo]
  clear hwo hn
  have ec0 := X.cell (j := 0) rfl
  have ec1 := X.cell (j := 1) rfl
  have ec2 := X.cell (j := 2) rfl
  have ec3 := X.cell (j := 3) rfl
  go_wp2_with fail
  refine (wacc3 g _ hA (hT.step (hB ▸ hb))).mono ?_
  rintro e wk ⟨rfl, hA, hK⟩
  replace hb := hb.trans (hK.below (by have := hb.size; omega) (by simp; omega))
  replace X := hK.blk X (by simp; omega)
  replace C := hK.blk C (by simp; omega)
  clear hK
  clear ec0 ec1 ec2 ec3
  have ec0 := X.cell (j := 0) rfl
  have ec1 := X.cell (j := 1) rfl
  have ec2 := X.cell (j := 2) rfl
  have ec3 := X.cell (j := 3) rfl
  go_wp2_with fail
  refine (wacc4 g _ hA (hT.step (hB ▸ hb))).mono ?_
  rintro e wk ⟨rfl, hA, hK⟩
  replace hb := hb.trans (hK.below (by have := hb.size; omega) (by simp; omega))
  replace X := hK.blk X (by simp; omega)
  replace C := hK.blk C (by simp; omega)
  clear hK
  clear ec0 ec1 ec2 ec3
  have ec0 := X.cell (j := 0) rfl
  have ec1 := X.cell (j := 1) rfl
  have ec2 := X.cell (j := 2) rfl
  have ec3 := X.cell (j := 3) rfl
  have yc0 := C.cell (j := 0) rfl
  have yc1 := C.cell (j := 1) rfl
  have yc2 := C.cell (j := 2) rfl
  have yc3 := C.cell (j := 3) rfl
  have yc4 := C.cell (j := 4) rfl
  have yc5 := C.cell (j := 5) rfl
  go_wp2_with fail
  refine (num14_any _ _).mono ?_
  rintro e w3 ⟨rfl, rfl⟩
  go_wp2_with fail
  refine (num14_any _ _).mono ?_
  rintro e w3 ⟨rfl, rfl⟩
  go_wp2_with fail
  refine (num14_any _ _).mono ?_
  rintro e w3 ⟨rfl, rfl⟩
  go_wp2_with fail
  refine (num14_any _ _).mono ?_
  rintro e w3 ⟨rfl, rfl⟩
  go_wp2_with fail
  refine (num14_any _ _).mono ?_
  rintro e w3 ⟨rfl, rfl⟩
  go_wp2_with fail
  refine (num14_any _ _).mono ?_
  rintro e w3 ⟨rfl, rfl⟩
  go_wp2_with fail
  refine (num14_any _ _).mono ?_
  rintro e w3 ⟨rfl, rfl⟩
  go_wp2_with fail
  refine (num14_any _ _).mono ?_
  rintro e w3 ⟨rfl, rfl⟩
  go_wp2_with fail
  refine (wpromised g _ hA).mono ?_
  rintro e w4 ⟨rfl, hbn⟩
  go_wp2
  go_ret
  exact ⟨rfl, hB ▸ hb.trans (hbn.mono (by have := hb.size; omega))⟩
end Go.Proofs.YtcokbljlgbcpkaaDoor
