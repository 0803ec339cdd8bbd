
/- The document's wheel: Set. -/
import Derived.Test.YtfdfmmmfklodgaaWhY
namespace Go.Proofs.Ytfdfmmmfklodgaa
set_option linter.unusedSimpArgs false
set_option linter.unusedVariables false
open Go.RowKit
theorem refAdv_any (now : Int) (a : Option Addr) (c : Nat) (L : List (Int × Int)) (n : Int) (w : World) (h : RowD w 0 (.slice a L.length c) L) (hG : GoodW now L) :
    Calls Try.prog 32 #[.agg #[.int .i64 now, .slice a L.length c], .int .i64 n] w (RefA w (.slice a L.length c) now L n) := by
  cases h1 : inI n 0
  · exact refAdv_bad now a c L n w h hG h1
  · by_cases h2 : 4611686018427387904 - n < now
    · exact refAdv_long now a c L n w h hG h1 h2
    · exact refAdv_yes now a c L n w h hG h1 (by omega)
set_option maxRecDepth 100000 in
set_option maxHeartbeats 1000000 in
theorem refSet_bad (now : Int) (a : Option Addr) (c : Nat) (L : List (Int × Int)) (id after : Int) (w : World) (h : RowD w 0 (.slice a L.length c) L) (hl : L.length ≤ 5000) (h1 : inI id 0 = false ∨ inI after 1 = false) :
    Calls Try.prog 30 #[.agg #[.int .i64 now, .slice a L.length c], .int .i64 id, .int .i64 after] w
      (RefP w (.slice a L.length c) now L [.int .i64 0, .int .i64 2]) := by
  have hR0 := Lib.hid h.ge
  have cA := fun W (hW : RowD W 0 (.slice a L.length c) L) => refAt_any 0 now a c L id W hW hl
  obtain ⟨N, hN⟩ : ∃ N, L.length = N := ⟨_, rfl⟩
  rw [hN] at h hR0 hl cA ⊢
  clear cA
  have HN := Lib.hid hN
  clear hN
  have h4 : id < 0 ∨ (¬ id < 0 ∧ 2147483647 < id) ∨ (¬ id < 0 ∧ ¬ 2147483647 < id ∧ after < 1) ∨ (¬ id < 0 ∧ ¬ 2147483647 < id ∧ ¬ after < 1 ∧ 2147483647 < after) := by
    rcases h1 with h1 | h1
    · rcases inI_no h1 with h1 | h1 <;> omega
    · rcases inI_no h1 with h1 | h1 <;> omega
  clear h1
  rcases h4 with h1 | ⟨h1, h3⟩ | ⟨h1, h3, h4⟩ | ⟨h1, h3, h4, h5⟩
  all_goals
    have hb := From.refl w
    go_enter Try.func30, Try.ntmps30
    go_upto_region 1 with fail
    obtain ⟨gX, hgX⟩ : ∃ g, (w).heap.size = g := ⟨_, rfl⟩
    have X := Blk.newV hgX 28 #[.int .i64 now, .slice a N c]
    have hbn := (Below.refl (w).heap.size w).alloc (Nat.le_refl _) (.cells #[.int .i64 now, .slice a N c] 28)
    replace hb := hb.step hbn
    replace h := h.step hbn
    clear hbn
    rw [hgX]
    have szX := alloc_size hgX (.cells #[.int .i64 now, .slice a N c] 28)
    generalize (w).alloc (.cells #[.int .i64 now, .slice a N c] 28) = w1 at *
    obtain ⟨gR, hgR⟩ : ∃ g, (w1).heap.size = g := ⟨_, rfl⟩
    have lt_X_R := X.lt
    rw [hgR] at lt_X_R
    have R := Blk.newV hgR 28 #[.int .i64 0, .slice none 0 0]
    have hbn := (Below.refl (w1).heap.size w1).alloc (Nat.le_refl _) (.cells #[.int .i64 0, .slice none 0 0] 28)
    replace hb := hb.step hbn
    replace h := h.step hbn
    replace X := X.step hbn
    clear hbn
    have egR : gX + 1 = gR := szX.symm.trans hgR
    rw [egR]
    clear szX
    generalize (w1).alloc (.cells #[.int .i64 0, .slice none 0 0] 28) = w2 at *
    have X_0 := X.cell (j := 0) rfl
    have X_1 := X.cell (j := 1) rfl
    have R_0 := R.cell (j := 0) rfl
    have R_1 := R.cell (j := 1) rfl
    have Rf0 := R.frozen 0
    have Rf1 := R.frozen 1
    go_wp2_with fail
    have hkk : Kx [gR] w2 ((w2.setCell ⟨gR, 0, none⟩ (.int .i64 now)).setCell ⟨gR, 1, none⟩ (.slice a N c)) := ((Kx.refl _ _).setCell (.inl (by simp)) _).setCell (.inl (by simp)) _
    have h2 := h.kx hkk (fun k hk hm => by have := hR0.out k hk; simp at hm; omega)
    have hb2 := hb.kx hkk (fun z hz => by simp at hz; omega)
    clear hkk h hb
    refine bodyPost_ret (v := .tuple #[.agg #[.int .i64 now, .slice a N c], .int .i64 0, .int .i64 2]) ?_ rfl (refP_same rfl HN.out h2 hb2)
    rw [r_cell1tt rfl]
    go_simp
set_option maxRecDepth 100000 in
set_option maxHeartbeats 1000000 in
theorem refSet_long (now : Int) (a : Option Addr) (c : Nat) (L : List (Int × Int)) (id after : Int) (w : World) (h : RowD w 0 (.slice a L.length c) L) (hl : L.length ≤ 5000) (n0 : 0 ≤ now) (n1 : now ≤ 4611686018427387904) (h1 : inI id 0 = true) (h2 : inI after 1 = true) (h6 : ((getF L id).isSome = false ∧ 4096 ≤ L.length) ∨ 4611686018427387904 - after < now) :
    Calls Try.prog 30 #[.agg #[.int .i64 now, .slice a L.length c], .int .i64 id, .int .i64 after] w
      (RefP w (.slice a L.length c) now L [.int .i64 0, .int .i64 3]) := by
  have hpos := pos_get L id
  obtain ⟨h1, h3⟩ := inI_yes h1
  obtain ⟨h4, h5⟩ := inI_yes h2
  have hR0 := Lib.hid h.ge
  have cA := fun W (hW : RowD W 0 (.slice a L.length c) L) => refAt_any 0 now a c L id W hW hl
  obtain ⟨N, hN⟩ : ∃ N, L.length = N := ⟨_, rfl⟩
  rw [hN] at h hR0 hl cA ⊢
  obtain ⟨P, hP⟩ : ∃ P, posD L id = P := ⟨_, rfl⟩
  rw [hP] at cA hpos
  rw [hN] at h6
  have HN := Lib.hid hN
  clear hN
  by_cases hs : (getF L id).isSome = false
  · have hp : P = -1 := by
      rcases hpos with ⟨h7, _⟩ | ⟨k, p, _, _, _, h7⟩
      · exact h7
      · rw [h7] at hs; cases hs
    subst hp
    by_cases hl2 : 4096 ≤ N
    · have hl3 : (4096 : Int) ≤ (N : Int) := by omega
      clear hpos h6 hs hP
      have hb := From.refl w
      go_enter Try.func30, Try.ntmps30
      go_upto_region 1 with fail
      obtain ⟨gX, hgX⟩ : ∃ g, (w).heap.size = g := ⟨_, rfl⟩
      have X := Blk.newV hgX 28 #[.int .i64 now, .slice a N c]
      have hbn := (Below.refl (w).heap.size w).alloc (Nat.le_refl _) (.cells #[.int .i64 now, .slice a N c] 28)
      replace hb := hb.step hbn
      replace h := h.step hbn
      clear hbn
      rw [hgX]
      have szX := alloc_size hgX (.cells #[.int .i64 now, .slice a N c] 28)
      generalize (w).alloc (.cells #[.int .i64 now, .slice a N c] 28) = w1 at *
      obtain ⟨gR, hgR⟩ : ∃ g, (w1).heap.size = g := ⟨_, rfl⟩
      have lt_X_R := X.lt
      rw [hgR] at lt_X_R
      have R := Blk.newV hgR 28 #[.int .i64 0, .slice none 0 0]
      have hbn := (Below.refl (w1).heap.size w1).alloc (Nat.le_refl _) (.cells #[.int .i64 0, .slice none 0 0] 28)
      replace hb := hb.step hbn
      replace h := h.step hbn
      replace X := X.step hbn
      clear hbn
      have egR : gX + 1 = gR := szX.symm.trans hgR
      rw [egR]
      clear szX
      generalize (w1).alloc (.cells #[.int .i64 0, .slice none 0 0] 28) = w2 at *
      have X_0 := X.cell (j := 0) rfl
      have X_1 := X.cell (j := 1) rfl
      have R_0 := R.cell (j := 0) rfl
      have R_1 := R.cell (j := 1) rfl
      have Rf0 := R.frozen 0
      have Rf1 := R.frozen 1
      go_wp2_with fail
      refine (cA _ h).mono ?_
      rintro e w3 ⟨rfl, hbn⟩
      replace hb := hb.step hbn
      replace h := h.step hbn
      replace X := X.step hbn
      replace X_0 := X.cell (j := 0) rfl
      replace X_1 := X.cell (j := 1) rfl
      replace R := R.step hbn
      replace R_0 := R.cell (j := 0) rfl
      replace R_1 := R.cell (j := 1) rfl
      replace Rf0 := R.frozen 0
      replace Rf1 := R.frozen 1
      clear hbn
      go_wp2_with fail
      have hkk : Kx [gR] w3 ((w3.setCell ⟨gR, 0, none⟩ (.int .i64 now)).setCell ⟨gR, 1, none⟩ (.slice a N c)) := ((Kx.refl _ _).setCell (.inl (by simp)) _).setCell (.inl (by simp)) _
      have h2 := h.kx hkk (fun k hk hm => by have := hR0.out k hk; simp at hm; omega)
      have hb2 := hb.kx hkk (fun z hz => by simp at hz; omega)
      clear hkk h hb
      refine bodyPost_ret (v := .tuple #[.agg #[.int .i64 now, .slice a N c], .int .i64 0, .int .i64 3]) ?_ rfl (refP_same rfl HN.out h2 hb2)
      rw [r_cell1tt rfl]
      go_simp
    · have hl3 : ¬ (4096 : Int) ≤ (N : Int) := by omega
      have h7 : 4611686018427387904 - after < now := h6.resolve_left (fun h => hl2 h.2)
      clear hpos h6 hs hP
      have hb := From.refl w
      go_enter Try.func30, Try.ntmps30
      go_upto_region 1 with fail
      obtain ⟨gX, hgX⟩ : ∃ g, (w).heap.size = g := ⟨_, rfl⟩
      have X := Blk.newV hgX 28 #[.int .i64 now, .slice a N c]
      have hbn := (Below.refl (w).heap.size w).alloc (Nat.le_refl _) (.cells #[.int .i64 now, .slice a N c] 28)
      replace hb := hb.step hbn
      replace h := h.step hbn
      clear hbn
      rw [hgX]
      have szX := alloc_size hgX (.cells #[.int .i64 now, .slice a N c] 28)
      generalize (w).alloc (.cells #[.int .i64 now, .slice a N c] 28) = w1 at *
      obtain ⟨gR, hgR⟩ : ∃ g, (w1).heap.size = g := ⟨_, rfl⟩
      have lt_X_R := X.lt
      rw [hgR] at lt_X_R
      have R := Blk.newV hgR 28 #[.int .i64 0, .slice none 0 0]
      have hbn := (Below.refl (w1).heap.size w1).alloc (Nat.le_refl _) (.cells #[.int .i64 0, .slice none 0 0] 28)
      replace hb := hb.step hbn
      replace h := h.step hbn
      replace X := X.step hbn
      clear hbn
      have egR : gX + 1 = gR := szX.symm.trans hgR
      rw [egR]
      clear szX
      generalize (w1).alloc (.cells #[.int .i64 0, .slice none 0 0] 28) = w2 at *
      have X_0 := X.cell (j := 0) rfl
      have X_1 := X.cell (j := 1) rfl
      have R_0 := R.cell (j := 0) rfl
      have R_1 := R.cell (j := 1) rfl
      have Rf0 := R.frozen 0
      have Rf1 := R.frozen 1
      go_wp2_with fail
      refine (cA _ h).mono ?_
      rintro e w3 ⟨rfl, hbn⟩
      replace hb := hb.step hbn
      replace h := h.step hbn
      replace X := X.step hbn
      replace X_0 := X.cell (j := 0) rfl
      replace X_1 := X.cell (j := 1) rfl
      replace R := R.step hbn
      replace R_0 := R.cell (j := 0) rfl
      replace R_1 := R.cell (j := 1) rfl
      replace Rf0 := R.frozen 0
      replace Rf1 := R.frozen 1
      clear hbn
      go_wp2_with fail
      have hkk : Kx [gR] w3 ((w3.setCell ⟨gR, 0, none⟩ (.int .i64 now)).setCell ⟨gR, 1, none⟩ (.slice a N c)) := ((Kx.refl _ _).setCell (.inl (by simp)) _).setCell (.inl (by simp)) _
      have h2 := h.kx hkk (fun k hk hm => by have := hR0.out k hk; simp at hm; omega)
      have hb2 := hb.kx hkk (fun z hz => by simp at hz; omega)
      clear hkk h hb
      refine bodyPost_ret (v := .tuple #[.agg #[.int .i64 now, .slice a N c], .int .i64 0, .int .i64 3]) ?_ rfl (refP_same rfl HN.out h2 hb2)
      rw [r_cell1tt rfl]
      go_simp
  · have h7 : 4611686018427387904 - after < now := h6.resolve_left (fun h => hs h.1)
    obtain ⟨q, rfl⟩ : ∃ k : Nat, P = k := by
      rcases hpos with ⟨_, h7⟩ | ⟨k, p, h8, _, _, _⟩
      · rw [h7] at hs; exact absurd rfl hs
      · exact ⟨k, h8⟩
    have q0 : ¬ (q : Int) < 0 := by omega
    clear hpos h6 hs hP
    have hb := From.refl w
    go_enter Try.func30, Try.ntmps30
    go_upto_region 1 with fail
    obtain ⟨gX, hgX⟩ : ∃ g, (w).heap.size = g := ⟨_, rfl⟩
    have X := Blk.newV hgX 28 #[.int .i64 now, .slice a N c]
    have hbn := (Below.refl (w).heap.size w).alloc (Nat.le_refl _) (.cells #[.int .i64 now, .slice a N c] 28)
    replace hb := hb.step hbn
    replace h := h.step hbn
    clear hbn
    rw [hgX]
    have szX := alloc_size hgX (.cells #[.int .i64 now, .slice a N c] 28)
    generalize (w).alloc (.cells #[.int .i64 now, .slice a N c] 28) = w1 at *
    obtain ⟨gR, hgR⟩ : ∃ g, (w1).heap.size = g := ⟨_, rfl⟩
    have lt_X_R := X.lt
    rw [hgR] at lt_X_R
    have R := Blk.newV hgR 28 #[.int .i64 0, .slice none 0 0]
    have hbn := (Below.refl (w1).heap.size w1).alloc (Nat.le_refl _) (.cells #[.int .i64 0, .slice none 0 0] 28)
    replace hb := hb.step hbn
    replace h := h.step hbn
    replace X := X.step hbn
    clear hbn
    have egR : gX + 1 = gR := szX.symm.trans hgR
    rw [egR]
    clear szX
    generalize (w1).alloc (.cells #[.int .i64 0, .slice none 0 0] 28) = w2 at *
    have X_0 := X.cell (j := 0) rfl
    have X_1 := X.cell (j := 1) rfl
    have R_0 := R.cell (j := 0) rfl
    have R_1 := R.cell (j := 1) rfl
    have Rf0 := R.frozen 0
    have Rf1 := R.frozen 1
    go_wp2_with fail
    refine (cA _ h).mono ?_
    rintro e w3 ⟨rfl, hbn⟩
    replace hb := hb.step hbn
    replace h := h.step hbn
    replace X := X.step hbn
    replace X_0 := X.cell (j := 0) rfl
    replace X_1 := X.cell (j := 1) rfl
    replace R := R.step hbn
    replace R_0 := R.cell (j := 0) rfl
    replace R_1 := R.cell (j := 1) rfl
    replace Rf0 := R.frozen 0
    replace Rf1 := R.frozen 1
    clear hbn
    go_wp2_with fail
    have hkk : Kx [gR] w3 ((w3.setCell ⟨gR, 0, none⟩ (.int .i64 now)).setCell ⟨gR, 1, none⟩ (.slice a N c)) := ((Kx.refl _ _).setCell (.inl (by simp)) _).setCell (.inl (by simp)) _
    have h2 := h.kx hkk (fun k hk hm => by have := hR0.out k hk; simp at hm; omega)
    have hb2 := hb.kx hkk (fun z hz => by simp at hz; omega)
    clear hkk h hb
    refine bodyPost_ret (v := .tuple #[.agg #[.int .i64 now, .slice a N c], .int .i64 0, .int .i64 3]) ?_ rfl (refP_same rfl HN.out h2 hb2)
    rw [r_cell1tt rfl]
    go_simp
end Go.Proofs.Ytfdfmmmfklodgaa
