
/- The document's wheel: Cancel, Same. -/
import Derived.Test.YtfdfmmmfklodgaaWhT
namespace Go.Proofs.Ytfdfmmmfklodgaa
set_option linter.unusedSimpArgs false
set_option linter.unusedVariables false
open Go.RowKit
def FreshV (w : World) (v v' : Value) : Prop := ∀ k, v'.ownBlock = some k → v.ownBlock = some k ∨ w.heap.size ≤ k
def RefP (w : World) (v : Value) (now : Int) (L : List (Int × Int)) (rest : List Value) (e : Ending) (w' : World) : Prop :=
  ∃ a c, e = .returned (.tuple (.agg #[.int .i64 now, .slice a L.length c] :: rest).toArray) ∧ RowD w' 0 (.slice a L.length c) L ∧ FreshV w v (.slice a L.length c) ∧ Below w.heap.size w w'
theorem refP_same {w w' : World} {a : Option Addr} {N c : Nat} {now : Int} {L : List (Int × Int)} {rest : List Value} {e : Ending} (he : e = .returned (.tuple (.agg #[.int .i64 now, .slice a N c] :: rest).toArray)) (hN : L.length = N) (h : RowD w' 0 (.slice a N c) L) (hb : From w w') : RefP w (.slice a N c) now L rest e w' := by
  subst hN
  exact ⟨a, c, he, h, fun _ hk => .inl hk, hb⟩
theorem inI_no {x y : Int} (h : inI x y = false) : x < y ∨ (¬ x < y ∧ 2147483647 < x) := by
  unfold inI at h
  by_cases h1 : x < y
  · exact .inl h1
  · right
    refine ⟨h1, ?_⟩
    have : decide (y ≤ x) = true := by simp; omega
    rw [this] at h
    simpa using h
theorem inI_yes {x y : Int} (h : inI x y = true) : ¬ x < y ∧ ¬ 2147483647 < x := by
  unfold inI at h
  simp at h
  omega
set_option maxRecDepth 100000 in
set_option maxHeartbeats 1000000 in
theorem refCan_bad (now : Int) (a : Option Addr) (c : Nat) (L : List (Int × Int)) (id : Int) (w : World) (h : RowD w 0 (.slice a L.length c) L) (hl : L.length ≤ 5000) (h1 : inI id 0 = false) :
  Calls Try.prog 31 #[.agg #[.int .i64 now, .slice a L.length c], .int .i64 id] w
      (RefP w (.slice a L.length c) now L [.int .i64 2]) := by
  have hR0 := Lib.hid h.ge
  have cA := fun W (hW : RowD W 0 (.slice a L.length c) L) => refAt_any 0 now a c L id W hW hl
  have cW := fun W (hW : RowD W 0 (.slice a L.length c) L) => without_any 0 now a c L id W hW hl
  obtain ⟨N, hN⟩ : ∃ N, L.length = N := ⟨_, rfl⟩
  rw [hN] at h hR0 hl cA cW ⊢
  have HN := Lib.hid hN
  clear hN
  clear cA cW
  rcases inI_no h1 with h1 | ⟨h1, h3⟩
  all_goals
    have hb := From.refl w
    go_enter Try.func31, Try.ntmps31
    go_upto_region 1 with fail
    obtain ⟨gX, hgX⟩ : ∃ g, (w).heap.size = g := ⟨_, rfl⟩
    have X := Blk.newV hgX 28 #[.int .i64 now, .slice a N c]
    have hbn := (Below.refl (w).heap.size w).alloc (Nat.le_refl _) (.cells #[.int .i64 now, .slice a N c] 28)
    replace hb := hb.step hbn
    replace h := h.step hbn
    clear hbn
    rw [hgX]
    have szX := alloc_size hgX (.cells #[.int .i64 now, .slice a N c] 28)
    generalize (w).alloc (.cells #[.int .i64 now, .slice a N c] 28) = w1 at *
    obtain ⟨gR, hgR⟩ : ∃ g, (w1).heap.size = g := ⟨_, rfl⟩
    have lt_X_R := X.lt
    rw [hgR] at lt_X_R
    have R := Blk.newV hgR 28 #[.int .i64 0, .slice none 0 0]
    have hbn := (Below.refl (w1).heap.size w1).alloc (Nat.le_refl _) (.cells #[.int .i64 0, .slice none 0 0] 28)
    replace hb := hb.step hbn
    replace h := h.step hbn
    replace X := X.step hbn
    clear hbn
    have egR : gX + 1 = gR := szX.symm.trans hgR
    rw [egR]
    clear szX
    generalize (w1).alloc (.cells #[.int .i64 0, .slice none 0 0] 28) = w2 at *
    have X_0 := X.cell (j := 0) rfl
    have X_1 := X.cell (j := 1) rfl
    have R_0 := R.cell (j := 0) rfl
    have R_1 := R.cell (j := 1) rfl
    have Rf0 := R.frozen 0
    have Rf1 := R.frozen 1
    go_wp2_with fail
    have hkk : Kx [gR] w2 ((w2.setCell ⟨gR, 0, none⟩ (.int .i64 now)).setCell ⟨gR, 1, none⟩ (.slice a N c)) := ((Kx.refl _ _).setCell (.inl (by simp)) _).setCell (.inl (by simp)) _
    have h2 := h.kx hkk (fun k hk hm => by have := hR0.out k hk; simp at hm; omega)
    have hb2 := hb.kx hkk (fun z hz => by simp at hz; omega)
    clear hkk h hb
    refine bodyPost_ret (v := .tuple #[.agg #[.int .i64 now, .slice a N c], .int .i64 2]) ?_ rfl (refP_same rfl HN.out h2 hb2)
    rw [r_cell1t rfl]
    go_simp
set_option maxRecDepth 100000 in
set_option maxHeartbeats 1000000 in
theorem refCan_none (now : Int) (a : Option Addr) (c : Nat) (L : List (Int × Int)) (id : Int) (w : World) (h : RowD w 0 (.slice a L.length c) L) (hl : L.length ≤ 5000) (h1 : inI id 0 = true) (h2 : getF L id = none) :
  Calls Try.prog 31 #[.agg #[.int .i64 now, .slice a L.length c], .int .i64 id] w
      (RefP w (.slice a L.length c) now L [.int .i64 5]) := by
  have hR0 := Lib.hid h.ge
  have cA := fun W (hW : RowD W 0 (.slice a L.length c) L) => refAt_any 0 now a c L id W hW hl
  have cW := fun W (hW : RowD W 0 (.slice a L.length c) L) => without_any 0 now a c L id W hW hl
  obtain ⟨N, hN⟩ : ∃ N, L.length = N := ⟨_, rfl⟩
  rw [hN] at h hR0 hl cA cW ⊢
  have HN := Lib.hid hN
  clear hN
  have hp : posD L id = -1 := by
    rcases pos_get L id with ⟨h3, _⟩ | ⟨k, p, _, _, _, h3⟩
    · exact h3
    · rw [h2] at h3; cases h3
  rw [hp] at cA
  clear cW h2 hp
  obtain ⟨h1, h3⟩ := inI_yes h1
  have hb := From.refl w
  go_enter Try.func31, Try.ntmps31
  go_upto_region 1 with fail
  obtain ⟨gX, hgX⟩ : ∃ g, (w).heap.size = g := ⟨_, rfl⟩
  have X := Blk.newV hgX 28 #[.int .i64 now, .slice a N c]
  have hbn := (Below.refl (w).heap.size w).alloc (Nat.le_refl _) (.cells #[.int .i64 now, .slice a N c] 28)
  replace hb := hb.step hbn
  replace h := h.step hbn
  clear hbn
  rw [hgX]
  have szX := alloc_size hgX (.cells #[.int .i64 now, .slice a N c] 28)
  generalize (w).alloc (.cells #[.int .i64 now, .slice a N c] 28) = w1 at *
  obtain ⟨gR, hgR⟩ : ∃ g, (w1).heap.size = g := ⟨_, rfl⟩
  have lt_X_R := X.lt
  rw [hgR] at lt_X_R
  have R := Blk.newV hgR 28 #[.int .i64 0, .slice none 0 0]
  have hbn := (Below.refl (w1).heap.size w1).alloc (Nat.le_refl _) (.cells #[.int .i64 0, .slice none 0 0] 28)
  replace hb := hb.step hbn
  replace h := h.step hbn
  replace X := X.step hbn
  clear hbn
  have egR : gX + 1 = gR := szX.symm.trans hgR
  rw [egR]
  clear szX
  generalize (w1).alloc (.cells #[.int .i64 0, .slice none 0 0] 28) = w2 at *
  have X_0 := X.cell (j := 0) rfl
  have X_1 := X.cell (j := 1) rfl
  have R_0 := R.cell (j := 0) rfl
  have R_1 := R.cell (j := 1) rfl
  have Rf0 := R.frozen 0
  have Rf1 := R.frozen 1
  go_wp2_with fail
  refine (cA _ h).mono ?_
  rintro e w3 ⟨rfl, hbn⟩
  replace hb := hb.step hbn
  replace h := h.step hbn
  replace X := X.step hbn
  replace X_0 := X.cell (j := 0) rfl
  replace X_1 := X.cell (j := 1) rfl
  replace R := R.step hbn
  replace R_0 := R.cell (j := 0) rfl
  replace R_1 := R.cell (j := 1) rfl
  replace Rf0 := R.frozen 0
  replace Rf1 := R.frozen 1
  clear hbn
  go_wp2_with fail
  have hkk : Kx [gR] w3 ((w3.setCell ⟨gR, 0, none⟩ (.int .i64 now)).setCell ⟨gR, 1, none⟩ (.slice a N c)) := ((Kx.refl _ _).setCell (.inl (by simp)) _).setCell (.inl (by simp)) _
  have h2 := h.kx hkk (fun k hk hm => by have := hR0.out k hk; simp at hm; omega)
  have hb2 := hb.kx hkk (fun z hz => by simp at hz; omega)
  clear hkk h hb
  refine bodyPost_ret (v := .tuple #[.agg #[.int .i64 now, .slice a N c], .int .i64 5]) ?_ rfl (refP_same rfl HN.out h2 hb2)
  rw [r_cell1t rfl]
  go_simp
theorem refP_new {w w' : World} {v : Value} {a : Option Addr} {c B : Nat} {now : Int} {L : List (Int × Int)} {rest : List Value} {e : Ending} (he : e = .returned (.tuple (.agg #[.int .i64 now, .slice a L.length c] :: rest).toArray)) (h : RowD w' B (.slice a L.length c) L) (hB : w.heap.size ≤ B) (hb : From w w') : RefP w v now L rest e w' :=
  ⟨a, c, he, h.low (Nat.zero_le _), fun k hk => .inr (by have := (h.ge k hk).1; omega), hb⟩
set_option maxRecDepth 100000 in
set_option maxHeartbeats 1000000 in
theorem refCan_yes (now : Int) (a : Option Addr) (c : Nat) (L : List (Int × Int)) (id : Int) (w : World) (h : RowD w 0 (.slice a L.length c) L) (hl : L.length ≤ 5000) (h1 : inI id 0 = true) (h2 : (getF L id).isSome = true) :
  Calls Try.prog 31 #[.agg #[.int .i64 now, .slice a L.length c], .int .i64 id] w
      (RefP w (.slice a L.length c) now (delF L id) [.int .i64 0]) := by
  have hR0 := Lib.hid h.ge
  have cA := fun W (hW : RowD W 0 (.slice a L.length c) L) => refAt_any 0 now a c L id W hW hl
  have cW := fun W (hW : RowD W 0 (.slice a L.length c) L) => without_any 0 now a c L id W hW hl
  obtain ⟨N, hN⟩ : ∃ N, L.length = N := ⟨_, rfl⟩
  rw [hN] at h hR0 hl cA cW ⊢
  have HN := Lib.hid hN
  clear hN
  obtain ⟨q, hp⟩ : ∃ k : Nat, posD L id = k := by
    rcases pos_get L id with ⟨_, h3⟩ | ⟨k, p, h4, _, _, h3⟩
    · rw [h3] at h2; cases h2
    · exact ⟨k, h4⟩
  rw [hp] at cA
  clear h2 hp
  have q0 : (0 : Int) ≤ (q : Int) := by omega
  obtain ⟨h1, h3⟩ := inI_yes h1
  generalize delF L id = D at *
  have hb := From.refl w
  go_enter Try.func31, Try.ntmps31
  go_upto_region 1 with fail
  obtain ⟨gX, hgX⟩ : ∃ g, (w).heap.size = g := ⟨_, rfl⟩
  have X := Blk.newV hgX 28 #[.int .i64 now, .slice a N c]
  have hbn := (Below.refl (w).heap.size w).alloc (Nat.le_refl _) (.cells #[.int .i64 now, .slice a N c] 28)
  replace hb := hb.step hbn
  replace h := h.step hbn
  clear hbn
  rw [hgX]
  have szX := alloc_size hgX (.cells #[.int .i64 now, .slice a N c] 28)
  generalize (w).alloc (.cells #[.int .i64 now, .slice a N c] 28) = w1 at *
  obtain ⟨gR, hgR⟩ : ∃ g, (w1).heap.size = g := ⟨_, rfl⟩
  have lt_X_R := X.lt
  rw [hgR] at lt_X_R
  have R := Blk.newV hgR 28 #[.int .i64 0, .slice none 0 0]
  have hbn := (Below.refl (w1).heap.size w1).alloc (Nat.le_refl _) (.cells #[.int .i64 0, .slice none 0 0] 28)
  replace hb := hb.step hbn
  replace h := h.step hbn
  replace X := X.step hbn
  clear hbn
  have egR : gX + 1 = gR := szX.symm.trans hgR
  rw [egR]
  clear szX
  generalize (w1).alloc (.cells #[.int .i64 0, .slice none 0 0] 28) = w2 at *
  have X_0 := X.cell (j := 0) rfl
  have X_1 := X.cell (j := 1) rfl
  have R_0 := R.cell (j := 0) rfl
  have R_1 := R.cell (j := 1) rfl
  have Rf0 := R.frozen 0
  have Rf1 := R.frozen 1
  go_wp2_with fail
  refine (cA _ h).mono ?_
  rintro e w3 ⟨rfl, hbn⟩
  replace hb := hb.step hbn
  replace h := h.step hbn
  replace X := X.step hbn
  replace X_0 := X.cell (j := 0) rfl
  replace X_1 := X.cell (j := 1) rfl
  replace R := R.step hbn
  replace R_0 := R.cell (j := 0) rfl
  replace R_1 := R.cell (j := 1) rfl
  replace Rf0 := R.frozen 0
  replace Rf1 := R.frozen 1
  clear hbn
  go_wp2_with fail
  refine (cW _ h).mono ?_
  rintro e w4 ⟨⟨a', c', rfl, hD⟩, hbn⟩
  have hz := hb.size
  have hRz := R.lt
  replace hb := hb.step hbn
  replace X := X.step hbn
  replace X_0 := X.cell (j := 0) rfl
  replace X_1 := X.cell (j := 1) rfl
  replace R := R.step hbn
  replace R_0 := R.cell (j := 0) rfl
  replace R_1 := R.cell (j := 1) rfl
  replace Rf0 := R.frozen 0
  replace Rf1 := R.frozen 1
  clear hbn h
  go_wp2_with fail
  have hkk : Kx [gR] w4 ((w4.setCell ⟨gR, 0, none⟩ (.int .i64 now)).setCell ⟨gR, 1, none⟩ (.slice a' D.length c')) := ((Kx.refl _ _).setCell (.inl (by simp)) _).setCell (.inl (by simp)) _
  have hD2 := hD.kx hkk (fun k hk hm => by have := (hD.ge k hk).1; simp at hm; omega)
  have hb2 := hb.kx hkk (fun z hz => by simp at hz; omega)
  clear hkk hD hb
  refine bodyPost_ret (v := .tuple #[.agg #[.int .i64 now, .slice a' D.length c'], .int .i64 0]) ?_ rfl (refP_new rfl hD2 hz hb2)
  rw [r_cell1t rfl]
  go_simp
theorem refCancel_any (now : Int) (a : Option Addr) (c : Nat) (L : List (Int × Int)) (id : Int) (w : World) (h : RowD w 0 (.slice a L.length c) L) (hl : L.length ≤ 5000) :
    Calls Try.prog 31 #[.agg #[.int .i64 now, .slice a L.length c], .int .i64 id] w (RefP w (.slice a L.length c) now (canL L id) [.int .i64 (canE L id)]) := by
  unfold canL canE
  cases h1 : inI id 0
  · exact refCan_bad now a c L id w h hl h1
  · cases h2 : getF L id with
    | none => exact refCan_none now a c L id w h hl h1 h2
    | some x => exact refCan_yes now a c L id w h hl h1 (by rw [h2]; rfl)
set_option maxRecDepth 100000 in
set_option maxHeartbeats 1000000 in
theorem refSame_any (n1 : Int) (a : Option Addr) (c : Nat) (L : List (Int × Int)) (n2 : Int) (a2 : Option Addr) (c2 : Nat) (M : List (Int × Int)) (w : World) (h : RowD w 0 (.slice a L.length c) L) (h2 : RowD w 0 (.slice a2 M.length c2) M) (hl : L.length ≤ 5000) (hl2 : M.length ≤ 5000) :
    Calls Try.prog 27 #[.agg #[.int .i64 n1, .slice a L.length c], .agg #[.int .i64 n2, .slice a2 M.length c2]] w fun e w' => e = .returned (.bool (sameW n1 L n2 M)) ∧ Below w.heap.size w w' := by
  unfold sameW
  have cS := fun W (hW : From w W) => sameList_any 0 0 a c L a2 c2 M W (h.step hW) (h2.step hW) hl hl2
  obtain ⟨R, hR⟩ : ∃ R, decide (L = M) = R := ⟨_, rfl⟩
  obtain ⟨N, hN⟩ : ∃ N, L.length = N := ⟨_, rfl⟩
  obtain ⟨K, hK⟩ : ∃ N, M.length = N := ⟨_, rfl⟩
  rw [hR, hN, hK] at cS
  rw [hR, hN, hK]
  clear hR hN hK h h2 hl hl2
  have hb := From.refl w
  by_cases he : n1 = n2
  · subst he
    go_enter Try.func27, Try.ntmps27
    go_upto_region 1 with fail
    obtain ⟨gX, hgX⟩ : ∃ g, (w).heap.size = g := ⟨_, rfl⟩
    have X := Blk.newV hgX 28 #[.int .i64 n1, .slice a N c]
    have hbn := (Below.refl (w).heap.size w).alloc (Nat.le_refl _) (.cells #[.int .i64 n1, .slice a N c] 28)
    replace hb := hb.step hbn
    clear hbn
    rw [hgX]
    have szX := alloc_size hgX (.cells #[.int .i64 n1, .slice a N c] 28)
    generalize (w).alloc (.cells #[.int .i64 n1, .slice a N c] 28) = w1 at *
    obtain ⟨gY, hgY⟩ : ∃ g, (w1).heap.size = g := ⟨_, rfl⟩
    have lt_X_Y := X.lt
    rw [hgY] at lt_X_Y
    have Y := Blk.newV hgY 28 #[.int .i64 n1, .slice a2 K c2]
    have hbn := (Below.refl (w1).heap.size w1).alloc (Nat.le_refl _) (.cells #[.int .i64 n1, .slice a2 K c2] 28)
    replace hb := hb.step hbn
    replace X := X.step hbn
    clear hbn
    have egY : gX + 1 = gY := szX.symm.trans hgY
    rw [egY]
    clear szX
    generalize (w1).alloc (.cells #[.int .i64 n1, .slice a2 K c2] 28) = w2 at *
    have X_0 := X.cell (j := 0) rfl
    have X_1 := X.cell (j := 1) rfl
    have Y_0 := Y.cell (j := 0) rfl
    have Y_1 := Y.cell (j := 1) rfl
    go_wp2_with fail
    refine (cS _ hb).mono ?_
    rintro e w3 ⟨rfl, hbn⟩
    replace hb := hb.step hbn
    replace X := X.step hbn
    replace X_0 := X.cell (j := 0) rfl
    replace X_1 := X.cell (j := 1) rfl
    replace Y := Y.step hbn
    replace Y_0 := Y.cell (j := 0) rfl
    replace Y_1 := Y.cell (j := 1) rfl
    go_wp2
    go_ret
    exact ⟨by simp, by first | exact hb | (rw [← hgX]; exact hb)⟩
  · have h3 : (n1 == n2) = false := by simpa using he
    rw [h3]
    go_enter Try.func27, Try.ntmps27
    go_upto_region 1 with fail
    obtain ⟨gX, hgX⟩ : ∃ g, (w).heap.size = g := ⟨_, rfl⟩
    have X := Blk.newV hgX 28 #[.int .i64 n1, .slice a N c]
    have hbn := (Below.refl (w).heap.size w).alloc (Nat.le_refl _) (.cells #[.int .i64 n1, .slice a N c] 28)
    replace hb := hb.step hbn
    clear hbn
    rw [hgX]
    have szX := alloc_size hgX (.cells #[.int .i64 n1, .slice a N c] 28)
    generalize (w).alloc (.cells #[.int .i64 n1, .slice a N c] 28) = w1 at *
    obtain ⟨gY, hgY⟩ : ∃ g, (w1).heap.size = g := ⟨_, rfl⟩
    have lt_X_Y := X.lt
    rw [hgY] at lt_X_Y
    have Y := Blk.newV hgY 28 #[.int .i64 n2, .slice a2 K c2]
    have hbn := (Below.refl (w1).heap.size w1).alloc (Nat.le_refl _) (.cells #[.int .i64 n2, .slice a2 K c2] 28)
    replace hb := hb.step hbn
    replace X := X.step hbn
    clear hbn
    have egY : gX + 1 = gY := szX.symm.trans hgY
    rw [egY]
    clear szX
    generalize (w1).alloc (.cells #[.int .i64 n2, .slice a2 K c2] 28) = w2 at *
    have X_0 := X.cell (j := 0) rfl
    have X_1 := X.cell (j := 1) rfl
    have Y_0 := Y.cell (j := 0) rfl
    have Y_1 := Y.cell (j := 1) rfl
    go_wp2
    go_ret
    exact ⟨by simp, by first | exact hb | (rw [← hgX]; exact hb)⟩
end Go.Proofs.Ytfdfmmmfklodgaa
