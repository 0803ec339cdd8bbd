
/- Package proposer: the chapter's rows (works). -/
import Derived.Test.YtcahkcbenanfnaaGreatDoorPrL
namespace Go.Proofs.YtcahkcbenanfnaaGreatDoor
set_option linter.unusedSimpArgs false
set_option linter.unusedVariables false
open Go.RowKit

def wP0 : Prp := ownA 3 1 1 4 0 1 ⟨#[104, 105]⟩
def wP1 : Prp := acA wP0 0
def wP2 : Prp := acA wP1 0
def wQ0 : Prp := freshA 3 1 1 0
def wQ1 : Prp := prA wQ0 0 (-1) 0 0 0 0 ⟨#[]⟩
def wQ2 : Prp := prA wQ1 1 0 1 4 0 1 ⟨#[104, 105]⟩
def wR1 : Prp := rfA wQ0 2 2 2
theorem invP0 : InvP wP0 := InvP.own (by kernel_rfl)
theorem invP1 : InvP wP1 := invP0.take 0
theorem invP2 : InvP wP2 := invP1.take 0
theorem invQ0 : InvP wQ0 := InvP.fresh (by kernel_rfl)
theorem invQ1 : InvP wQ1 := invQ0.tell 0 (-1) 0 0 0 0 ⟨#[]⟩
theorem invQ2 : InvP wQ2 := invQ1.tell 1 0 1 4 0 1 ⟨#[104, 105]⟩
theorem invR1 : InvP wR1 := invQ0.ref 2 2 2
theorem wac0 (g : Nat) (w : World) (hP : PW w g wP0) : Calls Tryz.prog 13 #[.pointer (some ⟨g, 0, none⟩), .int .i64 0] w fun e w' => (e = .returned (.tuple #[.int .i64 2, .int .i64 0]) ∧ PW w' g (acA wP0 0)) ∧ Kx [g] w w' := by
  have h := acc_any g wP0 0 w hP invP0
  rw [show acVv wP0 0 = 2 by kernel_rfl, show acE wP0 0 = 0 by kernel_rfl] at h
  exact h.mono (fun e w' h => ⟨⟨h.1, h.2.1⟩, h.2.2⟩)
theorem wac1 (g : Nat) (w : World) (hP : PW w g wP1) : Calls Tryz.prog 13 #[.pointer (some ⟨g, 0, none⟩), .int .i64 0] w fun e w' => (e = .returned (.tuple #[.int .i64 2, .int .i64 0]) ∧ PW w' g (acA wP1 0)) ∧ Kx [g] w w' := by
  have h := acc_any g wP1 0 w hP invP1
  rw [show acVv wP1 0 = 2 by kernel_rfl, show acE wP1 0 = 0 by kernel_rfl] at h
  exact h.mono (fun e w' h => ⟨⟨h.1, h.2.1⟩, h.2.2⟩)
theorem wac2 (g : Nat) (w : World) (hP : PW w g wP2) : Calls Tryz.prog 13 #[.pointer (some ⟨g, 0, none⟩), .int .i64 2] w fun e w' => (e = .returned (.tuple #[.int .i64 3, .int .i64 0]) ∧ PW w' g (acA wP2 2)) ∧ Kx [g] w w' := by
  have h := acc_any g wP2 2 w hP invP2
  rw [show acVv wP2 2 = 3 by kernel_rfl, show acE wP2 2 = 0 by kernel_rfl] at h
  exact h.mono (fun e w' h => ⟨⟨h.1, h.2.1⟩, h.2.2⟩)
theorem wpr0 (g : Nat) (w : World) (hP : PW w g wQ0) (hT : Tabs w) : Calls Tryz.prog 11 #[.pointer (some ⟨g, 0, none⟩), .int .i64 0, .agg #[.int .i64 (-1), .int .i64 0, .int .i64 0, .int .i64 0, .int .i64 0, .string ⟨#[]⟩]] w fun e w' => (e = .returned (.tuple #[.int .i64 1, .int .i64 0]) ∧ PW w' g (prA wQ0 0 (-1) 0 0 0 0 ⟨#[]⟩)) ∧ Kx [g] w w' := by
  have h := prom_any g wQ0 0 (-1) 0 0 0 0 ⟨#[]⟩ w hP invQ0 (by decide) hT
  rw [show prV wQ0 0 (-1) 0 0 0 0 ⟨#[]⟩ = 1 by kernel_rfl, show prE wQ0 0 (-1) 0 0 0 0 ⟨#[]⟩ = 0 by kernel_rfl] at h
  exact h.mono (fun e w' h => ⟨⟨h.1, h.2.1⟩, h.2.2⟩)
theorem wpr1 (g : Nat) (w : World) (hP : PW w g wQ1) (hT : Tabs w) : Calls Tryz.prog 11 #[.pointer (some ⟨g, 0, none⟩), .int .i64 1, .agg #[.int .i64 (0), .int .i64 1, .int .i64 4, .int .i64 0, .int .i64 1, .string ⟨#[104, 105]⟩]] w fun e w' => (e = .returned (.tuple #[.int .i64 2, .int .i64 0]) ∧ PW w' g (prA wQ1 1 (0) 1 4 0 1 ⟨#[104, 105]⟩)) ∧ Kx [g] w w' := by
  have h := prom_any g wQ1 1 (0) 1 4 0 1 ⟨#[104, 105]⟩ w hP invQ1 (by decide) hT
  rw [show prV wQ1 1 (0) 1 4 0 1 ⟨#[104, 105]⟩ = 2 by kernel_rfl, show prE wQ1 1 (0) 1 4 0 1 ⟨#[104, 105]⟩ = 0 by kernel_rfl] at h
  exact h.mono (fun e w' h => ⟨⟨h.1, h.2.1⟩, h.2.2⟩)
theorem wpr2 (g : Nat) (w : World) (hP : PW w g wR1) (hT : Tabs w) : Calls Tryz.prog 11 #[.pointer (some ⟨g, 0, none⟩), .int .i64 0, .agg #[.int .i64 (-1), .int .i64 0, .int .i64 0, .int .i64 0, .int .i64 0, .string ⟨#[]⟩]] w fun e w' => (e = .returned (.tuple #[.int .i64 4, .int .i64 0]) ∧ PW w' g (prA wR1 0 (-1) 0 0 0 0 ⟨#[]⟩)) ∧ Kx [g] w w' := by
  have h := prom_any g wR1 0 (-1) 0 0 0 0 ⟨#[]⟩ w hP invR1 (by decide) hT
  rw [show prV wR1 0 (-1) 0 0 0 0 ⟨#[]⟩ = 4 by kernel_rfl, show prE wR1 0 (-1) 0 0 0 0 ⟨#[]⟩ = 0 by kernel_rfl] at h
  exact h.mono (fun e w' h => ⟨⟨h.1, h.2.1⟩, h.2.2⟩)
theorem wrf (g : Nat) (w : World) (hP : PW w g wQ0) : Calls Tryz.prog 14 #[.pointer (some ⟨g, 0, none⟩), .int .i64 2, .agg #[.int .i64 2, .int .i64 2]] w fun e w' => (e = .returned (.tuple #[.int .i64 4, .int .i64 0]) ∧ PW w' g wR1) ∧ Kx [g] w w' := by
  have h := ref_any g wQ0 2 2 2 w hP invQ0
  rw [show rfV wQ0 2 2 2 = 4 by kernel_rfl, show rfE wQ0 2 2 2 = 0 by kernel_rfl] at h
  exact h.mono (fun e w' h => ⟨⟨h.1, h.2.1⟩, h.2.2⟩)
theorem wst (g : Nat) (w : World) (hP : PW w g wQ2) : Calls Tryz.prog 17 #[.pointer (some ⟨g, 0, none⟩)] w fun e w' => (∃ x1 x2 x3 x4 x5 a2 n2 c2, e = .returned (.agg #[.int .i64 x1, .int .i64 x2, .int .i64 x3, .int .i64 4, .int .i64 0, .int .i64 1, .string ⟨#[104, 105]⟩, .slice a2 n2 c2, .int .i64 x4, .int .i64 x5])) ∧ Below w.heap.size w w' := by
  refine (state_any g wQ2 w hP invQ2.ne).mono ?_
  rintro e w' ⟨⟨v, rfl, hR⟩, hb⟩
  obtain ⟨a, c, rfl⟩ := hR.form
  unfold ppV
  rw [show wQ2.k = 4 by kernel_rfl, show wQ2.m = 0 by kernel_rfl, show wQ2.n = 1 by kernel_rfl, show wQ2.s = ⟨#[104, 105]⟩ by kernel_rfl]
  exact ⟨⟨wQ2.ph, wQ2.r, wQ2.p, wQ2.ur, wQ2.up, a, _, c, rfl⟩, hb⟩
theorem wown (w : World) (hT : Tabs w) : Calls Tryz.prog 23 #[.int .i64 3, .int .i64 1, .agg #[.int .i64 4, .int .i64 0, .int .i64 1, .string ⟨#[104, 105]⟩]] w fun e w' => (∃ g, e = .returned (.tuple #[.pointer (some ⟨g, 0, none⟩), .int .i64 0]) ∧ PW w' g wP0 ∧ w.heap.size ≤ g) ∧ Below w.heap.size w w' :=
  own_ok 3 1 4 0 1 ⟨#[104, 105]⟩ w (by decide) hT (by kernel_rfl) hi_ent
theorem wask (w : World) : Calls Tryz.prog 41 #[.int .i64 3, .int .i64 1, .agg #[.int .i64 1, .int .i64 0]] w fun e w' => (∃ g, e = .returned (.tuple #[.pointer (some ⟨g, 0, none⟩), .int .i64 0]) ∧ PW w' g wQ0 ∧ w.heap.size ≤ g) ∧ Below w.heap.size w w' :=
  ask_ok 3 1 1 0 w (by kernel_rfl) (by kernel_rfl)
theorem fld_entry (x1 x2 x3 k m n x4 x5 : Int) (s : ByteArray) (a2 : Option Addr) (n2 c2 : Nat) (w : World) : (Instr.field 55 (.agg #[.int .i64 x1, .int .i64 x2, .int .i64 x3, .int .i64 k, .int .i64 m, .int .i64 n, .string s, .slice a2 n2 c2, .int .i64 x4, .int .i64 x5]) 2).run Tryz.prog w = .ok (.agg #[.int .i64 k, .int .i64 m, .int .i64 n, .string s]) w := by kernel_rfl
set_option maxRecDepth 100000 in
set_option maxHeartbeats 8000000 in
theorem works15_any (w : World) (hT : Tabs w) : Calls Tryz.prog 9 #[] w fun e w' => e = .returned (.bool true) ∧ Below w.heap.size w w' := by
  have hb := From.refl w
  go_enter Tryz.func9, Tryz.ntmps9
  go_upto_region 2 with fail
  obtain ⟨gX, hgX⟩ : ∃ g, (w).heap.size = g := ⟨_, rfl⟩
  have X := Blk.newV hgX 26 #[.int .i64 4, .int .i64 0, .int .i64 1, .string ⟨#[104, 105]⟩]
  have hbn := (Below.refl (w).heap.size w).alloc (Nat.le_refl _) (.cells #[.int .i64 4, .int .i64 0, .int .i64 1, .string ⟨#[104, 105]⟩] 26)
  replace hb := hb.step hbn
  clear hbn
  rw [hgX]
  generalize (w).alloc (.cells #[.int .i64 4, .int .i64 0, .int .i64 1, .string ⟨#[104, 105]⟩] 26) = w1 at *
  have X_0 := X.cell (j := 0) rfl
  have X_1 := X.cell (j := 1) rfl
  have X_2 := X.cell (j := 2) rfl
  have X_3 := X.cell (j := 3) rfl
  go_wp2_with fail
  refine (wown _ (hT.step hb.out)).mono ?_
  rintro e w2 ⟨⟨gp, rfl, hP, hgp⟩, hbn⟩
  have hX1 := X.lt
  have hsz1 := hb.size
  replace hb := hb.step hbn
  replace X := X.step hbn
  replace X_0 := X.cell (j := 0) rfl
  replace X_1 := X.cell (j := 1) rfl
  replace X_2 := X.cell (j := 2) rfl
  replace X_3 := X.cell (j := 3) rfl
  clear hbn
  have hwp : w.heap.size ≤ gp := by omega
  have hXp : gX < gp := by omega
  clear hgp
  go_wp2_with fail
  refine (wac0 gp _ hP).mono ?_
  rintro e w3 ⟨⟨rfl, hP⟩, hbn⟩
  replace hb := hb.kx hbn (by first | (simp; done) | (simp; omega))
  replace X := X.kx hbn (by first | (simp; done) | (simp; omega))
  replace X_0 := X.cell (j := 0) rfl
  replace X_1 := X.cell (j := 1) rfl
  replace X_2 := X.cell (j := 2) rfl
  replace X_3 := X.cell (j := 3) rfl
  clear hbn
  go_wp2_with fail
  refine (wac1 gp _ hP).mono ?_
  rintro e w4 ⟨⟨rfl, hP⟩, hbn⟩
  replace hb := hb.kx hbn (by first | (simp; done) | (simp; omega))
  replace X := X.kx hbn (by first | (simp; done) | (simp; omega))
  replace X_0 := X.cell (j := 0) rfl
  replace X_1 := X.cell (j := 1) rfl
  replace X_2 := X.cell (j := 2) rfl
  replace X_3 := X.cell (j := 3) rfl
  clear hbn
  go_wp2_with fail
  refine (wac2 gp _ hP).mono ?_
  rintro e w5 ⟨⟨rfl, hP⟩, hbn⟩
  replace hb := hb.kx hbn (by first | (simp; done) | (simp; omega))
  replace X := X.kx hbn (by first | (simp; done) | (simp; omega))
  replace X_0 := X.cell (j := 0) rfl
  replace X_1 := X.cell (j := 1) rfl
  replace X_2 := X.cell (j := 2) rfl
  replace X_3 := X.cell (j := 3) rfl
  clear hbn
  go_wp2_with fail
  refine (wask _).mono ?_
  rintro e w6 ⟨⟨gq, rfl, hQ, hgq⟩, hbn⟩
  have hX2 := X.lt
  have hsz2 := hb.size
  replace hb := hb.step hbn
  replace X := X.step hbn
  replace X_0 := X.cell (j := 0) rfl
  replace X_1 := X.cell (j := 1) rfl
  replace X_2 := X.cell (j := 2) rfl
  replace X_3 := X.cell (j := 3) rfl
  clear hbn
  have hwq : w.heap.size ≤ gq := by omega
  have hXq : gX < gq := by omega
  clear hgq
  go_wp2_with fail
  refine (lnothing_any _).mono ?_
  rintro e w7 ⟨rfl, hbn⟩
  replace hb := hb.step hbn
  replace X := X.step hbn
  replace X_0 := X.cell (j := 0) rfl
  replace X_1 := X.cell (j := 1) rfl
  replace X_2 := X.cell (j := 2) rfl
  replace X_3 := X.cell (j := 3) rfl
  replace hQ := hQ.step hbn
  clear hbn
  go_wp2_with fail
  refine (wpr0 gq _ hQ (hT.step hb.out)).mono ?_
  rintro e w8 ⟨⟨rfl, hQ⟩, hbn⟩
  replace hb := hb.kx hbn (by first | (simp; done) | (simp; omega))
  replace X := X.kx hbn (by first | (simp; done) | (simp; omega))
  replace X_0 := X.cell (j := 0) rfl
  replace X_1 := X.cell (j := 1) rfl
  replace X_2 := X.cell (j := 2) rfl
  replace X_3 := X.cell (j := 3) rfl
  clear hbn
  go_wp2_with fail
  refine (wpr1 gq _ hQ (hT.step hb.out)).mono ?_
  rintro e w9 ⟨⟨rfl, hQ⟩, hbn⟩
  replace hb := hb.kx hbn (by first | (simp; done) | (simp; omega))
  replace X := X.kx hbn (by first | (simp; done) | (simp; omega))
  replace X_0 := X.cell (j := 0) rfl
  replace X_1 := X.cell (j := 1) rfl
  replace X_2 := X.cell (j := 2) rfl
  replace X_3 := X.cell (j := 3) rfl
  clear hbn
  go_wp2_with fail
  refine (wask _).mono ?_
  rintro e wa ⟨⟨gr, rfl, hR, hgr⟩, hbn⟩
  have hX3 := X.lt
  have hsz3 := hb.size
  have hQ3 := hQ.lt
  replace hb := hb.step hbn
  replace X := X.step hbn
  replace X_0 := X.cell (j := 0) rfl
  replace X_1 := X.cell (j := 1) rfl
  replace X_2 := X.cell (j := 2) rfl
  replace X_3 := X.cell (j := 3) rfl
  replace hQ := hQ.step hbn
  clear hbn
  have hwr : w.heap.size ≤ gr := by omega
  have hXr : gX < gr := by omega
  have hqr : gq ≠ gr := by omega
  clear hgr
  go_wp2_with fail
  refine (wrf gr _ hR).mono ?_
  rintro e wb ⟨⟨rfl, hR⟩, hbn⟩
  replace hb := hb.kx hbn (by first | (simp; done) | (simp; omega))
  replace X := X.kx hbn (by first | (simp; done) | (simp; omega))
  replace X_0 := X.cell (j := 0) rfl
  replace X_1 := X.cell (j := 1) rfl
  replace X_2 := X.cell (j := 2) rfl
  replace X_3 := X.cell (j := 3) rfl
  replace hQ := hQ.kx hbn (by first | (simp; done) | (simp; omega))
  clear hbn
  go_wp2_with fail
  refine (lnothing_any _).mono ?_
  rintro e wc ⟨rfl, hbn⟩
  replace hb := hb.step hbn
  replace X := X.step hbn
  replace X_0 := X.cell (j := 0) rfl
  replace X_1 := X.cell (j := 1) rfl
  replace X_2 := X.cell (j := 2) rfl
  replace X_3 := X.cell (j := 3) rfl
  replace hQ := hQ.step hbn
  replace hR := hR.step hbn
  clear hbn
  go_wp2_with fail
  refine (wpr2 gr _ hR (hT.step hb.out)).mono ?_
  rintro e wd ⟨⟨rfl, hR⟩, hbn⟩
  replace hb := hb.kx hbn (by first | (simp; done) | (simp; omega))
  replace X := X.kx hbn (by first | (simp; done) | (simp; omega))
  replace X_0 := X.cell (j := 0) rfl
  replace X_1 := X.cell (j := 1) rfl
  replace X_2 := X.cell (j := 2) rfl
  replace X_3 := X.cell (j := 3) rfl
  replace hQ := hQ.kx hbn (by first | (simp; done) | (simp; omega))
  clear hbn
  go_upto_region 12 with fail
  clear X_0 X_1 X_2 X_3
  have X_0 := extA_cell (X.cell (j := 0) rfl)
  have X_1 := extA_cell (X.cell (j := 1) rfl)
  have X_2 := extA_cell (X.cell (j := 2) rfl)
  have X_3 := extA_cell (X.cell (j := 3) rfl)
  refine wp_region_held (S := ExtA wd) (by kernel_rfl) ?_
  have hst : Below (wd).heap.size wd { wd with drawn := (wd).drawn + 1 } := ⟨rfl, rfl, rfl, Nat.le_refl _, fun _ _ => rfl⟩
  have hS : (ExtA wd) { wd with drawn := (wd).drawn + 1 } := by first | exact ⟨rfl, rfl, rfl, Nat.le_refl _, fun _ _ _ => rfl⟩ | exact ⟨rfl, rfl, rfl, Nat.le_refl _, fun _ _ => rfl⟩ | exact hS0
  replace hb := hb.step hst
  replace hQ := hQ.step hst
  clear hst
  generalize ({ wd with drawn := (wd).drawn + 1 } : World) = wq at *
  refine wpAnyH_take (i := 0) (v := ?_) rfl (by kernel_rfl) (by kernel_rfl) (by kernel_rfl) (fun _ _ _ h => h) (Or.inl ⟨by kernel_rfl, ?_⟩) hS ?_
  rotate_left
  · intro W hSW
    have y0 := X_0 _ hSW
    have y1 := X_1 _ hSW
    have y2 := X_2 _ hSW
    have y3 := X_3 _ hSW
    go_simp
    try with_reducible rfl
  dsimp only [Act.put]
  refine wpAnyH_take (i := 2) (v := ?_) rfl (by kernel_rfl) (by kernel_rfl) (by kernel_rfl) (fun _ _ _ h => h) (Or.inl ⟨by kernel_rfl, ?_⟩) hS ?_
  rotate_left
  · intro W hSW
    have y0 := X_0 _ hSW
    have y1 := X_1 _ hSW
    have y2 := X_2 _ hSW
    have y3 := X_3 _ hSW
    go_simp
    try with_reducible rfl
  dsimp only [Act.put]
  refine wpAnyH_take (i := 5) (v := ?_) rfl (by kernel_rfl) (by kernel_rfl) (by kernel_rfl) (fun _ _ _ h => h) (Or.inl ⟨by kernel_rfl, ?_⟩) hS ?_
  rotate_left
  · intro W hSW
    have y0 := X_0 _ hSW
    have y1 := X_1 _ hSW
    have y2 := X_2 _ hSW
    have y3 := X_3 _ hSW
    go_simp
    try with_reducible rfl
  dsimp only [Act.put]
  refine wpAnyH_take (i := 8) (v := ?_) rfl (by kernel_rfl) (by kernel_rfl) (by kernel_rfl) (fun _ _ _ h => h) (Or.inl ⟨by kernel_rfl, ?_⟩) hS ?_
  rotate_left
  · intro W hSW
    have y0 := X_0 _ hSW
    have y1 := X_1 _ hSW
    have y2 := X_2 _ hSW
    have y3 := X_3 _ hSW
    go_simp
    try with_reducible rfl
  dsimp only [Act.put]
  refine wpAnyH_take (i := 11) (v := ?_) rfl (by kernel_rfl) (by kernel_rfl) (by kernel_rfl) (fun _ _ _ h => h) (Or.inl ⟨by kernel_rfl, ?_⟩) hS ?_
  rotate_left
  · intro W hSW
    have y0 := X_0 _ hSW
    have y1 := X_1 _ hSW
    have y2 := X_2 _ hSW
    have y3 := X_3 _ hSW
    go_simp
    try with_reducible rfl
  dsimp only [Act.put]
  refine wpAnyH_take (i := 14) (v := ?_) rfl (by kernel_rfl) (by kernel_rfl) (by kernel_rfl) (fun _ _ _ h => h) (Or.inl ⟨by kernel_rfl, ?_⟩) hS ?_
  rotate_left
  · intro W hSW
    have y0 := X_0 _ hSW
    have y1 := X_1 _ hSW
    have y2 := X_2 _ hSW
    have y3 := X_3 _ hSW
    go_simp
    try with_reducible rfl
  dsimp only [Act.put]
  refine wpAnyH_take (i := 17) (v := ?_) rfl (by kernel_rfl) (by kernel_rfl) (by kernel_rfl) (fun _ _ _ h => h) (Or.inl ⟨by kernel_rfl, ?_⟩) hS ?_
  rotate_left
  · intro W hSW
    have y0 := X_0 _ hSW
    have y1 := X_1 _ hSW
    have y2 := X_2 _ hSW
    have y3 := X_3 _ hSW
    go_simp
    try with_reducible rfl
  dsimp only [Act.put]
  refine wpAnyH_take (i := 20) (v := ?_) rfl (by kernel_rfl) (by kernel_rfl) (by kernel_rfl) (fun _ _ _ h => h) (Or.inl ⟨by kernel_rfl, ?_⟩) hS ?_
  rotate_left
  · intro W hSW
    have y0 := X_0 _ hSW
    have y1 := X_1 _ hSW
    have y2 := X_2 _ hSW
    have y3 := X_3 _ hSW
    go_simp
    try with_reducible rfl
  dsimp only [Act.put]
  refine wpAnyH_take (i := 23) (v := ?_) rfl (by kernel_rfl) (by kernel_rfl) (by kernel_rfl) (fun _ _ _ h => h) (Or.inl ⟨by kernel_rfl, ?_⟩) hS ?_
  rotate_left
  · intro W hSW
    have y0 := X_0 _ hSW
    have y1 := X_1 _ hSW
    have y2 := X_2 _ hSW
    have y3 := X_3 _ hSW
    go_simp
    try with_reducible rfl
  dsimp only [Act.put]
  refine wpAnyH_take (i := 26) (v := ?_) rfl (by kernel_rfl) (by kernel_rfl) (by kernel_rfl) (fun _ _ _ h => h) (Or.inl ⟨by kernel_rfl, ?_⟩) hS ?_
  rotate_left
  · intro W hSW
    have y0 := X_0 _ hSW
    have y1 := X_1 _ hSW
    have y2 := X_2 _ hSW
    have y3 := X_3 _ hSW
    go_simp
    try with_reducible rfl
  dsimp only [Act.put]
  refine wpAnyH_ready (rs := [1]) (by kernel_rfl) (by simp) ?_
  refine AllReadyH.cons rfl (fun K hK => ?_) AllReadyH.nil
  go_simp
  refine (num15_any 0 _).mono ?_
  rintro e wz ⟨rfl, rfl⟩
  refine hK.out _ _ hS (fun hS => ?_)
  clear hK K
  refine wpAnyH_ready (rs := [3]) (by kernel_rfl) (by simp) ?_
  refine AllReadyH.cons rfl (fun K hK => ?_) AllReadyH.nil
  go_simp
  refine (num15_any 0 _).mono ?_
  rintro e wz ⟨rfl, rfl⟩
  refine hK.out _ _ hS (fun hS => ?_)
  clear hK K
  refine wpAnyH_take (i := 4) (v := ?_) rfl (by kernel_rfl) (by kernel_rfl) (by kernel_rfl) (fun _ _ _ h => h) (Or.inl ⟨by kernel_rfl, ?_⟩) hS ?_
  rotate_left
  · intro W hSW
    go_simp
    try with_reducible rfl
  dsimp only [Act.put]
  refine wpAnyH_ready (rs := [6]) (by kernel_rfl) (by simp) ?_
  refine AllReadyH.cons rfl (fun K hK => ?_) AllReadyH.nil
  go_simp
  refine (num15_any 0 _).mono ?_
  rintro e wz ⟨rfl, rfl⟩
  refine hK.out _ _ hS (fun hS => ?_)
  clear hK K
  refine wpAnyH_take (i := 7) (v := ?_) rfl (by kernel_rfl) (by kernel_rfl) (by kernel_rfl) (fun _ _ _ h => h) (Or.inl ⟨by kernel_rfl, ?_⟩) hS ?_
  rotate_left
  · intro W hSW
    go_simp
    try with_reducible rfl
  dsimp only [Act.put]
  refine wpAnyH_ready (rs := [9]) (by kernel_rfl) (by simp) ?_
  refine AllReadyH.cons rfl (fun K hK => ?_) AllReadyH.nil
  go_simp
  refine (num15_any 0 _).mono ?_
  rintro e wz ⟨rfl, rfl⟩
  refine hK.out _ _ hS (fun hS => ?_)
  clear hK K
  refine wpAnyH_take (i := 10) (v := ?_) rfl (by kernel_rfl) (by kernel_rfl) (by kernel_rfl) (fun _ _ _ h => h) (Or.inl ⟨by kernel_rfl, ?_⟩) hS ?_
  rotate_left
  · intro W hSW
    go_simp
    try with_reducible rfl
  dsimp only [Act.put]
  refine wpAnyH_ready (rs := [12]) (by kernel_rfl) (by simp) ?_
  refine AllReadyH.cons rfl (fun K hK => ?_) AllReadyH.nil
  go_simp
  refine (num15_any 0 _).mono ?_
  rintro e wz ⟨rfl, rfl⟩
  refine hK.out _ _ hS (fun hS => ?_)
  clear hK K
  refine wpAnyH_take (i := 13) (v := ?_) rfl (by kernel_rfl) (by kernel_rfl) (by kernel_rfl) (fun _ _ _ h => h) (Or.inl ⟨by kernel_rfl, ?_⟩) hS ?_
  rotate_left
  · intro W hSW
    go_simp
    try with_reducible rfl
  dsimp only [Act.put]
  refine wpAnyH_ready (rs := [15]) (by kernel_rfl) (by simp) ?_
  refine AllReadyH.cons rfl (fun K hK => ?_) AllReadyH.nil
  go_simp
  refine (num15_any 0 _).mono ?_
  rintro e wz ⟨rfl, rfl⟩
  refine hK.out _ _ hS (fun hS => ?_)
  clear hK K
  refine wpAnyH_take (i := 16) (v := ?_) rfl (by kernel_rfl) (by kernel_rfl) (by kernel_rfl) (fun _ _ _ h => h) (Or.inl ⟨by kernel_rfl, ?_⟩) hS ?_
  rotate_left
  · intro W hSW
    go_simp
    try with_reducible rfl
  dsimp only [Act.put]
  refine wpAnyH_ready (rs := [18]) (by kernel_rfl) (by simp) ?_
  refine AllReadyH.cons rfl (fun K hK => ?_) AllReadyH.nil
  go_simp
  refine (num15_any 0 _).mono ?_
  rintro e wz ⟨rfl, rfl⟩
  refine hK.out _ _ hS (fun hS => ?_)
  clear hK K
  refine wpAnyH_take (i := 19) (v := ?_) rfl (by kernel_rfl) (by kernel_rfl) (by kernel_rfl) (fun _ _ _ h => h) (Or.inl ⟨by kernel_rfl, ?_⟩) hS ?_
  rotate_left
  · intro W hSW
    go_simp
    try with_reducible rfl
  dsimp only [Act.put]
  refine wpAnyH_ready (rs := [21]) (by kernel_rfl) (by simp) ?_
  refine AllReadyH.cons rfl (fun K hK => ?_) AllReadyH.nil
  go_simp
  refine (num15_any 0 _).mono ?_
  rintro e wz ⟨rfl, rfl⟩
  refine hK.out _ _ hS (fun hS => ?_)
  clear hK K
  refine wpAnyH_take (i := 22) (v := ?_) rfl (by kernel_rfl) (by kernel_rfl) (by kernel_rfl) (fun _ _ _ h => h) (Or.inl ⟨by kernel_rfl, ?_⟩) hS ?_
  rotate_left
  · intro W hSW
    go_simp
    try with_reducible rfl
  dsimp only [Act.put]
  refine wpAnyH_ready (rs := [24]) (by kernel_rfl) (by simp) ?_
  refine AllReadyH.cons rfl (fun K hK => ?_) AllReadyH.nil
  go_simp
  refine (num15_any 0 _).mono ?_
  rintro e wz ⟨rfl, rfl⟩
  refine hK.out _ _ hS (fun hS => ?_)
  clear hK K
  refine wpAnyH_take (i := 25) (v := ?_) rfl (by kernel_rfl) (by kernel_rfl) (by kernel_rfl) (fun _ _ _ h => h) (Or.inl ⟨by kernel_rfl, ?_⟩) hS ?_
  rotate_left
  · intro W hSW
    go_simp
    try with_reducible rfl
  dsimp only [Act.put]
  refine wpAnyH_ready (rs := [27]) (by kernel_rfl) (by simp) ?_
  refine AllReadyH.cons rfl (fun K hK => ?_) AllReadyH.nil
  go_simp
  refine (num15_any 0 _).mono ?_
  rintro e wz ⟨rfl, rfl⟩
  refine hK.out _ _ hS (fun hS => ?_)
  clear hK K
  refine wpAnyH_take (i := 28) (v := ?_) rfl (by kernel_rfl) (by kernel_rfl) (by kernel_rfl) (fun _ _ _ h => h) (Or.inl ⟨by kernel_rfl, ?_⟩) hS ?_
  rotate_left
  · intro W hSW
    go_simp
    try with_reducible rfl
  dsimp only [Act.put]
  refine wpAnyH_take (i := 29) (v := ?_) rfl (by kernel_rfl) (by kernel_rfl) (by kernel_rfl) (fun _ _ _ h => h) (Or.inl ⟨by kernel_rfl, ?_⟩) hS ?_
  rotate_left
  · intro W hSW
    go_simp
    try with_reducible rfl
  dsimp only [Act.put]
  refine wpAnyH_take (i := 30) (v := ?_) rfl (by kernel_rfl) (by kernel_rfl) (by kernel_rfl) (fun _ _ _ h => h) (Or.inl ⟨by kernel_rfl, ?_⟩) hS ?_
  rotate_left
  · intro W hSW
    go_simp
    try with_reducible rfl
  dsimp only [Act.put]
  refine wpAnyH_take (i := 31) (v := ?_) rfl (by kernel_rfl) (by kernel_rfl) (by kernel_rfl) (fun _ _ _ h => h) (Or.inl ⟨by kernel_rfl, ?_⟩) hS ?_
  rotate_left
  · intro W hSW
    go_simp
    try with_reducible rfl
  dsimp only [Act.put]
  refine wpAnyH_take (i := 32) (v := ?_) rfl (by kernel_rfl) (by kernel_rfl) (by kernel_rfl) (fun _ _ _ h => h) (Or.inl ⟨by kernel_rfl, ?_⟩) hS ?_
  rotate_left
  · intro W hSW
    go_simp
    try with_reducible rfl
  dsimp only [Act.put]
  refine wpAnyH_take (i := 33) (v := ?_) rfl (by kernel_rfl) (by kernel_rfl) (by kernel_rfl) (fun _ _ _ h => h) (Or.inl ⟨by kernel_rfl, ?_⟩) hS ?_
  rotate_left
  · intro W hSW
    go_simp
    try with_reducible rfl
  dsimp only [Act.put]
  refine wpAnyH_take (i := 34) (v := ?_) rfl (by kernel_rfl) (by kernel_rfl) (by kernel_rfl) (fun _ _ _ h => h) (Or.inl ⟨by kernel_rfl, ?_⟩) hS ?_
  rotate_left
  · intro W hSW
    go_simp
    try with_reducible rfl
  dsimp only [Act.put]
  refine wpAnyH_take (i := 35) (v := ?_) rfl (by kernel_rfl) (by kernel_rfl) (by kernel_rfl) (fun _ _ _ h => h) (Or.inl ⟨by kernel_rfl, ?_⟩) hS ?_
  rotate_left
  · intro W hSW
    go_simp
    try with_reducible rfl
  dsimp only [Act.put]
  refine wpAnyH_take (i := 36) (v := ?_) rfl (by kernel_rfl) (by kernel_rfl) (by kernel_rfl) (fun _ _ _ h => h) (Or.inl ⟨by kernel_rfl, ?_⟩) hS ?_
  rotate_left
  · intro W hSW
    go_simp
    try with_reducible rfl
  dsimp only [Act.put]
  refine wpAnyH_take (i := 37) (v := ?_) rfl (by kernel_rfl) (by kernel_rfl) (by kernel_rfl) (fun _ _ _ h => h) (Or.inl ⟨by kernel_rfl, ?_⟩) hS ?_
  rotate_left
  · intro W hSW
    go_simp
    try with_reducible rfl
  dsimp only [Act.put]
  refine wpAnyH_take (i := 38) (v := ?_) rfl (by kernel_rfl) (by kernel_rfl) (by kernel_rfl) (fun _ _ _ h => h) (Or.inl ⟨by kernel_rfl, ?_⟩) hS ?_
  rotate_left
  · intro W hSW
    go_simp
    try with_reducible rfl
  dsimp only [Act.put]
  refine wpAnyH_take (i := 39) (v := ?_) rfl (by kernel_rfl) (by kernel_rfl) (by kernel_rfl) (fun _ _ _ h => h) (Or.inl ⟨by kernel_rfl, ?_⟩) hS ?_
  rotate_left
  · intro W hSW
    go_simp
    try with_reducible rfl
  dsimp only [Act.put]
  refine wpAnyH_take (i := 40) (v := ?_) rfl (by kernel_rfl) (by kernel_rfl) (by kernel_rfl) (fun _ _ _ h => h) (Or.inl ⟨by kernel_rfl, ?_⟩) hS ?_
  rotate_left
  · intro W hSW
    go_simp
    try with_reducible rfl
  dsimp only [Act.put]
  refine wpAnyH_take (i := 41) (v := ?_) rfl (by kernel_rfl) (by kernel_rfl) (by kernel_rfl) (fun _ _ _ h => h) (Or.inl ⟨by kernel_rfl, ?_⟩) hS ?_
  rotate_left
  · intro W hSW
    go_simp
    try with_reducible rfl
  dsimp only [Act.put]
  refine wpAnyH_take (i := 42) (v := ?_) rfl (by kernel_rfl) (by kernel_rfl) (by kernel_rfl) (fun _ _ _ h => h) (Or.inl ⟨by kernel_rfl, ?_⟩) hS ?_
  rotate_left
  · intro W hSW
    go_simp
    try with_reducible rfl
  dsimp only [Act.put]
  refine wpAnyH_take (i := 43) (v := ?_) rfl (by kernel_rfl) (by kernel_rfl) (by kernel_rfl) (fun _ _ _ h => h) (Or.inl ⟨by kernel_rfl, ?_⟩) hS ?_
  rotate_left
  · intro W hSW
    go_simp
    try with_reducible rfl
  dsimp only [Act.put]
  refine wpAnyH_take (i := 44) (v := ?_) rfl (by kernel_rfl) (by kernel_rfl) (by kernel_rfl) (fun _ _ _ h => h) (Or.inl ⟨by kernel_rfl, ?_⟩) hS ?_
  rotate_left
  · intro W hSW
    go_simp
    try with_reducible rfl
  dsimp only [Act.put]
  refine wpAnyH_take (i := 45) (v := ?_) rfl (by kernel_rfl) (by kernel_rfl) (by kernel_rfl) (fun _ _ _ h => h) (Or.inl ⟨by kernel_rfl, ?_⟩) hS ?_
  rotate_left
  · intro W hSW
    go_simp
    try with_reducible rfl
  dsimp only [Act.put]
  refine wpAnyH_take (i := 46) (v := ?_) rfl (by kernel_rfl) (by kernel_rfl) (by kernel_rfl) (fun _ _ _ h => h) (Or.inl ⟨by kernel_rfl, ?_⟩) hS ?_
  rotate_left
  · intro W hSW
    go_simp
    try with_reducible rfl
  dsimp only [Act.put]
  refine wpAnyH_take (i := 47) (v := ?_) rfl (by kernel_rfl) (by kernel_rfl) (by kernel_rfl) (fun _ _ _ h => h) (Or.inl ⟨by kernel_rfl, ?_⟩) hS ?_
  rotate_left
  · intro W hSW
    go_simp
    try with_reducible rfl
  dsimp only [Act.put]
  refine wpAnyH_take (i := 48) (v := ?_) rfl (by kernel_rfl) (by kernel_rfl) (by kernel_rfl) (fun _ _ _ h => h) (Or.inl ⟨by kernel_rfl, ?_⟩) hS ?_
  rotate_left
  · intro W hSW
    go_simp
    try with_reducible rfl
  dsimp only [Act.put]
  refine wpAnyH_take (i := 49) (v := ?_) rfl (by kernel_rfl) (by kernel_rfl) (by kernel_rfl) (fun _ _ _ h => h) (Or.inl ⟨by kernel_rfl, ?_⟩) hS ?_
  rotate_left
  · intro W hSW
    go_simp
    try with_reducible rfl
  dsimp only [Act.put]
  refine wpAnyH_take (i := 50) (v := ?_) rfl (by kernel_rfl) (by kernel_rfl) (by kernel_rfl) (fun _ _ _ h => h) (Or.inl ⟨by kernel_rfl, ?_⟩) hS ?_
  rotate_left
  · intro W hSW
    go_simp
    try with_reducible rfl
  dsimp only [Act.put]
  refine wpAnyH_take (i := 51) (v := ?_) rfl (by kernel_rfl) (by kernel_rfl) (by kernel_rfl) (fun _ _ _ h => h) (Or.inl ⟨by kernel_rfl, ?_⟩) hS ?_
  rotate_left
  · intro W hSW
    go_simp
    try with_reducible rfl
  dsimp only [Act.put]
  refine wpAnyH_take (i := 54) (v := ?_) rfl (by kernel_rfl) (by kernel_rfl) (by kernel_rfl) (fun _ _ _ h => h) (Or.inl ⟨by kernel_rfl, ?_⟩) hS ?_
  rotate_left
  · intro W hSW
    go_simp
    try with_reducible rfl
  dsimp only [Act.put]
  refine wpAnyH_ready (rs := [52]) (by kernel_rfl) (by simp) ?_
  refine AllReadyH.cons rfl (fun K hK => ?_) AllReadyH.nil
  go_simp
  refine (wst gq _ hQ).mono ?_
  rintro e we ⟨⟨x1, x2, x3, x4, x5, a2, n2, c2, rfl⟩, hbn⟩
  replace hb := hb.step hbn
  have hfl := fun W => fld_entry x1 x2 x3 4 0 1 x4 x5 ⟨#[104, 105]⟩ a2 n2 c2 W
  refine hK.out _ _ (extA_then hS hbn) (fun hS => ?_)
  clear hK K
  refine wpAnyH_take (i := 53) (v := ?_) rfl (by kernel_rfl) (by kernel_rfl) (by kernel_rfl) (fun _ _ _ h => h) (Or.inl ⟨by kernel_rfl, ?_⟩) hS ?_
  rotate_left
  · intro W hSW
    go_simp
    try with_reducible rfl
  dsimp only [Act.put]
  refine wpAnyH_take (i := 55) (v := ?_) rfl (by kernel_rfl) (by kernel_rfl) (by kernel_rfl) (fun _ _ _ h => h) (Or.inl ⟨by kernel_rfl, ?_⟩) hS ?_
  rotate_left
  · intro W hSW
    go_simp
    try with_reducible rfl
  dsimp only [Act.put]
  refine wpAnyH_take (i := 56) (v := ?_) rfl (by kernel_rfl) (by kernel_rfl) (by kernel_rfl) (fun _ _ _ h => h) (Or.inl ⟨by kernel_rfl, ?_⟩) hS ?_
  rotate_left
  · intro W hSW
    go_simp
    try with_reducible rfl
  dsimp only [Act.put]
  refine wpAnyH_take (i := 57) (v := ?_) rfl (by kernel_rfl) (by kernel_rfl) (by kernel_rfl) (fun _ _ _ h => h) (Or.inl ⟨by kernel_rfl, ?_⟩) hS ?_
  rotate_left
  · intro W hSW
    go_simp
    try with_reducible rfl
  dsimp only [Act.put]
  refine wpAnyH_take (i := 58) (v := ?_) rfl (by kernel_rfl) (by kernel_rfl) (by kernel_rfl) (fun _ _ _ h => h) (Or.inl ⟨by kernel_rfl, ?_⟩) hS ?_
  rotate_left
  · intro W hSW
    go_simp
    try with_reducible rfl
  dsimp only [Act.put]
  refine wpAnyH_take (i := 59) (v := ?_) rfl (by kernel_rfl) (by kernel_rfl) (by kernel_rfl) (fun _ _ _ h => h) (Or.inl ⟨by kernel_rfl, ?_⟩) hS ?_
  rotate_left
  · intro W hSW
    go_simp
    try with_reducible rfl
  dsimp only [Act.put]
  refine wpAnyH_take (i := 60) (v := ?_) rfl (by kernel_rfl) (by kernel_rfl) (by kernel_rfl) (fun _ _ _ h => h) (Or.inl ⟨by kernel_rfl, ?_⟩) hS ?_
  rotate_left
  · intro W hSW
    go_simp
    try with_reducible rfl
  dsimp only [Act.put]
  refine wpAnyH_take (i := 61) (v := ?_) rfl (by kernel_rfl) (by kernel_rfl) (by kernel_rfl) (fun _ _ _ h => h) (Or.inl ⟨by kernel_rfl, ?_⟩) hS ?_
  rotate_left
  · intro W hSW
    go_simp
    try with_reducible rfl
  dsimp only [Act.put]
  refine wpAnyH_take (i := 62) (v := ?_) rfl (by kernel_rfl) (by kernel_rfl) (by kernel_rfl) (fun _ _ _ h => h) (Or.inl ⟨by kernel_rfl, ?_⟩) hS ?_
  rotate_left
  · intro W hSW
    go_simp
    try with_reducible rfl
  dsimp only [Act.put]
  refine wpAnyH_take (i := 63) (v := ?_) rfl (by kernel_rfl) (by kernel_rfl) (by kernel_rfl) (fun _ _ _ h => h) (Or.inl ⟨by kernel_rfl, ?_⟩) hS ?_
  rotate_left
  · intro W hSW
    go_simp
    try with_reducible rfl
  dsimp only [Act.put]
  refine wpAnyH_take (i := 64) (v := ?_) rfl (by kernel_rfl) (by kernel_rfl) (by kernel_rfl) (fun _ _ _ h => h) (Or.inl ⟨by kernel_rfl, ?_⟩) hS ?_
  rotate_left
  · intro W hSW
    go_simp
    try with_reducible rfl
  dsimp only [Act.put]
  refine wpAnyH_ready (rs := [65]) (by kernel_rfl) (by simp) ?_
  refine AllReadyH.cons rfl (fun K hK => ?_) AllReadyH.nil
  go_simp
  refine hK.out _ _ hS (fun hS => ?_)
  clear hK K
  refine wpAnyH_done (by kernel_rfl) ?_ _
  go_wp2_with fail
  go_ret
  exact ⟨rfl, by first | exact hb | (rw [← hgX]; exact hb)⟩
end Go.Proofs.YtcahkcbenanfnaaGreatDoor
