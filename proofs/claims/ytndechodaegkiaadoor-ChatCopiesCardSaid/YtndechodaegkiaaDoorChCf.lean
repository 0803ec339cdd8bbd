
/- Walk of ChatCopies. -/
import Derived.Test.YtndechodaegkiaaDoorChCe
import Derived.Test.YtndechodaegkiaaDoorChU
namespace Go.Proofs.YtndechodaegkiaaDoor
open Go.RowKit
theorem two_ents {W : World} {b : Nat} {t : TypeId} {x y : En} (h : Blk W b t (enL x ++ enL y)) : HasE W (some ⟨b, 0, none⟩) [x, y] := by
  intro k e he
  refine ⟨b, 0, rfl, ?_⟩
  match k, he with
  | 0, he =>
    obtain rfl : x = e := by simpa using he
    exact ⟨h.cell (j := 0) rfl, h.cell (j := 1) rfl, h.cell (j := 2) rfl, h.cell (j := 3) rfl⟩
  | 1, he =>
    obtain rfl : y = e := by simpa using he
    exact ⟨h.cell (j := 4) rfl, h.cell (j := 5) rfl, h.cell (j := 6) rfl, h.cell (j := 7) rfl⟩
theorem refNewX (l : List En) (ao : Option Addr) (c : Nat) (hs : ∀ e, e ∈ l → e.s.size ≤ 9223372036854775807) (hl : l.length ≤ 9223372036854775807) :
    ∃ sl E : Int, ∀ W, HasE W ao l → Calls Tryd.prog 19 #[.slice ao l.length c] W fun r w' => (∃ a n c2, r = .returned (.tuple #[.agg #[.int .i64 sl, .slice a n c2], .int .i64 E])) ∧ Below W.heap.size W w' := by
  by_cases h0 : (newF tk0 0 l).2 = 0
  · refine ⟨(newF tk0 0 l).1.sl, 0, fun W hW => (refNew_any l ao c W hW hs hl).mono ?_⟩
    intro r w' hr
    unfold dnP at hr
    rw [if_pos h0] at hr
    obtain ⟨⟨sv, rfl, hD⟩, hb⟩ := hr
    obtain ⟨a, c2, rfl⟩ := hD.sl
    exact ⟨⟨_, _, _, rfl⟩, hb⟩
  · refine ⟨0, (newF tk0 0 l).2, fun W hW => (refNew_any l ao c W hW hs hl).mono ?_⟩
    intro r w' hr
    unfold dnP at hr
    rw [if_neg h0] at hr
    obtain ⟨rfl, hb⟩ := hr
    exact ⟨⟨_, _, _, rfl⟩, hb⟩
set_option maxRecDepth 100000 in
set_option maxHeartbeats 2000000 in
theorem copies_few (l : List En) (ao : Option Addr) (cap : Nat) (x y : En) (w : World) (hT : Tabs w) (hE : HasE w ao l) (hl : l.length ≤ 9223372036854775807) (hs : ∀ e, e ∈ l → e.s.size ≤ 9223372036854775807) (hx : x.s.size ≤ 9223372036854775807) (hy : y.s.size ≤ 9223372036854775807) (hf : fewB l 30 = false) :
    Calls Tryd.prog 8 #[.slice ao l.length cap, enV x, enV y] w fun e w' => e = .returned (.bool true) ∧ Below w.heap.size w w' := by
  have cF := fun W hE => few_any l ao cap 30 W hE hl
  rw [hf] at cF
  obtain ⟨sl, E, cR⟩ := refNewX l ao cap hs hl
  obtain ⟨N, hN⟩ : ∃ N, l.length = N := ⟨_, rfl⟩
  have hNI : (N : Int) ≤ 9223372036854775807 := by omega
  rw [hN] at cF cR ⊢
  have HE := Lib.hid hE
  clear hE
  clear hf hs
  obtain ⟨xk, xm, xn, xs⟩ := x
  obtain ⟨yk, ym, yn, ys⟩ := y
  unfold enV enL
  simp only at hx hy ⊢
  have hb := From.refl w
  go_enter Tryd.func8, Tryd.ntmps8
  go_upto_region 1 with fail
  obtain ⟨gP, hgP⟩ : ∃ g, (w).heap.size = g := ⟨_, rfl⟩
  have P := Blk.newV hgP 26 #[.int .i64 xk, .int .i64 xm, .int .i64 xn, .string xs]
  have hbn := (Below.refl (w).heap.size w).alloc (Nat.le_refl _) (.cells #[.int .i64 xk, .int .i64 xm, .int .i64 xn, .string xs] 26)
  replace hb := hb.step hbn
  clear hbn
  rw [hgP]
  have szP := alloc_size hgP (.cells #[.int .i64 xk, .int .i64 xm, .int .i64 xn, .string xs] 26)
  generalize (w).alloc (.cells #[.int .i64 xk, .int .i64 xm, .int .i64 xn, .string xs] 26) = w1 at *
  obtain ⟨gX, hgX⟩ : ∃ g, (w1).heap.size = g := ⟨_, rfl⟩
  have lt_P_X := P.lt
  rw [hgX] at lt_P_X
  have X := Blk.newV hgX 26 #[.int .i64 yk, .int .i64 ym, .int .i64 yn, .string ys]
  have hbn := (Below.refl (w1).heap.size w1).alloc (Nat.le_refl _) (.cells #[.int .i64 yk, .int .i64 ym, .int .i64 yn, .string ys] 26)
  replace hb := hb.step hbn
  replace P := P.step hbn
  clear hbn
  have egX : gP + 1 = gX := szP.symm.trans hgX
  rw [egX]
  clear szP
  generalize (w1).alloc (.cells #[.int .i64 yk, .int .i64 ym, .int .i64 yn, .string ys] 26) = w2 at *
  go_wp2_with fail
  refine (cR _ (HE.out.step hb.out)).mono ?_
  rintro e w3 ⟨⟨a, n, c2, rfl⟩, hbn⟩
  replace hb := hb.step hbn
  replace P := P.step hbn
  replace X := X.step hbn
  clear hbn
  go_upto_region 2 with fail
  obtain ⟨gR, hgR⟩ : ∃ g, (w3).heap.size = g := ⟨_, rfl⟩
  have lt_P_R := P.lt
  rw [hgR] at lt_P_R
  have lt_X_R := X.lt
  rw [hgR] at lt_X_R
  have R := Blk.newV hgR 49 #[.int .i64 sl, .slice a n c2]
  have hbn := (Below.refl (w3).heap.size w3).alloc (Nat.le_refl _) (.cells #[.int .i64 sl, .slice a n c2] 49)
  replace hb := hb.step hbn
  replace P := P.step hbn
  replace X := X.step hbn
  clear hbn
  rw [hgR]
  generalize (w3).alloc (.cells #[.int .i64 sl, .slice a n c2] 49) = w4 at *
  go_wp2_with fail
  refine (cF _ (HE.out.step hb.out)).mono ?_
  rintro e w5 ⟨rfl, rfl⟩
  go_wp2_with fail
  refine (works_any _ (hT.step hb.out)).mono ?_
  rintro e w6 ⟨rfl, hbn⟩
  replace hb := hb.step hbn
  replace P := P.step hbn
  replace X := X.step hbn
  replace R := R.step hbn
  clear hbn
  go_wp2
  go_ret
  exact ⟨rfl, hb⟩
set_option maxRecDepth 100000 in
set_option maxHeartbeats 2000000 in
theorem copies_two (l : List En) (ao : Option Addr) (cap : Nat) (x y : En) (w : World) (hT : Tabs w) (hE : HasE w ao l) (hl : l.length ≤ 9223372036854775807) (hs : ∀ e, e ∈ l → e.s.size ≤ 9223372036854775807) (hx : x.s.size ≤ 9223372036854775807) (hy : y.s.size ≤ 9223372036854775807) (hf : fewB l 30 = true) (hf2 : fewB [x, y] 2 = false) :
    Calls Tryd.prog 8 #[.slice ao l.length cap, enV x, enV y] w fun e w' => e = .returned (.bool true) ∧ Below w.heap.size w w' := by
  have cF := fun W hE => few_any l ao cap 30 W hE hl
  rw [hf] at cF
  obtain ⟨sl, E, cR⟩ := refNewX l ao cap hs hl
  obtain ⟨N, hN⟩ : ∃ N, l.length = N := ⟨_, rfl⟩
  have hNI : (N : Int) ≤ 9223372036854775807 := by omega
  rw [hN] at cF cR ⊢
  have HE := Lib.hid hE
  clear hE
  clear hf hs
  obtain ⟨xk, xm, xn, xs⟩ := x
  obtain ⟨yk, ym, yn, ys⟩ := y
  unfold enV enL
  simp only at hx hy ⊢
  have hb := From.refl w
  go_enter Tryd.func8, Tryd.ntmps8
  go_upto_region 1 with fail
  obtain ⟨gP, hgP⟩ : ∃ g, (w).heap.size = g := ⟨_, rfl⟩
  have P := Blk.newV hgP 26 #[.int .i64 xk, .int .i64 xm, .int .i64 xn, .string xs]
  have hbn := (Below.refl (w).heap.size w).alloc (Nat.le_refl _) (.cells #[.int .i64 xk, .int .i64 xm, .int .i64 xn, .string xs] 26)
  replace hb := hb.step hbn
  clear hbn
  rw [hgP]
  have szP := alloc_size hgP (.cells #[.int .i64 xk, .int .i64 xm, .int .i64 xn, .string xs] 26)
  generalize (w).alloc (.cells #[.int .i64 xk, .int .i64 xm, .int .i64 xn, .string xs] 26) = w1 at *
  obtain ⟨gX, hgX⟩ : ∃ g, (w1).heap.size = g := ⟨_, rfl⟩
  have lt_P_X := P.lt
  rw [hgX] at lt_P_X
  have X := Blk.newV hgX 26 #[.int .i64 yk, .int .i64 ym, .int .i64 yn, .string ys]
  have hbn := (Below.refl (w1).heap.size w1).alloc (Nat.le_refl _) (.cells #[.int .i64 yk, .int .i64 ym, .int .i64 yn, .string ys] 26)
  replace hb := hb.step hbn
  replace P := P.step hbn
  clear hbn
  have egX : gP + 1 = gX := szP.symm.trans hgX
  rw [egX]
  clear szP
  generalize (w1).alloc (.cells #[.int .i64 yk, .int .i64 ym, .int .i64 yn, .string ys] 26) = w2 at *
  go_wp2_with fail
  refine (cR _ (HE.out.step hb.out)).mono ?_
  rintro e w3 ⟨⟨a, n, c2, rfl⟩, hbn⟩
  replace hb := hb.step hbn
  replace P := P.step hbn
  replace X := X.step hbn
  clear hbn
  go_upto_region 2 with fail
  obtain ⟨gR, hgR⟩ : ∃ g, (w3).heap.size = g := ⟨_, rfl⟩
  have lt_P_R := P.lt
  rw [hgR] at lt_P_R
  have lt_X_R := X.lt
  rw [hgR] at lt_X_R
  have R := Blk.newV hgR 49 #[.int .i64 sl, .slice a n c2]
  have hbn := (Below.refl (w3).heap.size w3).alloc (Nat.le_refl _) (.cells #[.int .i64 sl, .slice a n c2] 49)
  replace hb := hb.step hbn
  replace P := P.step hbn
  replace X := X.step hbn
  clear hbn
  rw [hgR]
  generalize (w3).alloc (.cells #[.int .i64 sl, .slice a n c2] 49) = w4 at *
  go_wp2_with fail
  refine (cF _ (HE.out.step hb.out)).mono ?_
  rintro e w5 ⟨rfl, rfl⟩
  have P_0 := P.cell (j := 0) rfl
  have P_1 := P.cell (j := 1) rfl
  have P_2 := P.cell (j := 2) rfl
  have P_3 := P.cell (j := 3) rfl
  have X_0 := X.cell (j := 0) rfl
  have X_1 := X.cell (j := 1) rfl
  have X_2 := X.cell (j := 2) rfl
  have X_3 := X.cell (j := 3) rfl
  go_wp2_with fail
  obtain ⟨gS, hgS⟩ : ∃ g, (w4).heap.size = g := ⟨_, rfl⟩
  have lt_P_S := P.lt
  rw [hgS] at lt_P_S
  have lt_X_S := X.lt
  rw [hgS] at lt_X_S
  have lt_R_S := R.lt
  rw [hgS] at lt_R_S
  have S := Blk.newV hgS 26 #[.int .i64 xk, .int .i64 xm, .int .i64 xn, .string xs, .int .i64 yk, .int .i64 ym, .int .i64 yn, .string ys]
  have hbn := (Below.refl (w4).heap.size w4).alloc (Nat.le_refl _) (.cells #[.int .i64 xk, .int .i64 xm, .int .i64 xn, .string xs, .int .i64 yk, .int .i64 ym, .int .i64 yn, .string ys] 26)
  replace hb := hb.step hbn
  replace P := P.step hbn
  replace P_0 := P.cell (j := 0) rfl
  replace P_1 := P.cell (j := 1) rfl
  replace P_2 := P.cell (j := 2) rfl
  replace P_3 := P.cell (j := 3) rfl
  replace X := X.step hbn
  replace X_0 := X.cell (j := 0) rfl
  replace X_1 := X.cell (j := 1) rfl
  replace X_2 := X.cell (j := 2) rfl
  replace X_3 := X.cell (j := 3) rfl
  replace R := R.step hbn
  clear hbn
  rw [hgS]
  generalize (w4).alloc (.cells #[.int .i64 xk, .int .i64 xm, .int .i64 xn, .string xs, .int .i64 yk, .int .i64 ym, .int .i64 yn, .string ys] 26) = w6 at *
  have c2 : ∀ W, HasE W (some ⟨gS, 0, none⟩) _ → Calls Tryd.prog 15 #[.slice (some ⟨gS, 0, none⟩) 2 2, .int .i64 2] W _ := fun W hE => few_any [⟨xk, xm, xn, xs⟩, ⟨yk, ym, yn, ys⟩] (some ⟨gS, 0, none⟩) 2 2 W hE (by simp)
  rw [hf2] at c2
  go_wp2_with fail
  refine (c2 _ (two_ents S)).mono ?_
  rintro e w7 ⟨rfl, rfl⟩
  clear c2
  go_wp2_with fail
  refine (works_any _ (hT.step hb.out)).mono ?_
  rintro e w8 ⟨rfl, hbn⟩
  replace hb := hb.step hbn
  replace P := P.step hbn
  replace P_0 := P.cell (j := 0) rfl
  replace P_1 := P.cell (j := 1) rfl
  replace P_2 := P.cell (j := 2) rfl
  replace P_3 := P.cell (j := 3) rfl
  replace X := X.step hbn
  replace X_0 := X.cell (j := 0) rfl
  replace X_1 := X.cell (j := 1) rfl
  replace X_2 := X.cell (j := 2) rfl
  replace X_3 := X.cell (j := 3) rfl
  replace R := R.step hbn
  replace S := S.step hbn
  clear hbn
  go_wp2
  go_ret
  exact ⟨rfl, hb⟩
set_option maxRecDepth 100000 in
set_option maxHeartbeats 2000000 in
theorem copies_no (l : List En) (ao : Option Addr) (cap : Nat) (x y : En) (w : World) (hT : Tabs w) (hE : HasE w ao l) (hl : l.length ≤ 9223372036854775807) (hs : ∀ e, e ∈ l → e.s.size ≤ 9223372036854775807) (hx : x.s.size ≤ 9223372036854775807) (hy : y.s.size ≤ 9223372036854775807) (hf : fewB l 30 = true) (hf2 : fewB [x, y] 2 = true) (h0 : (newF tk0 0 l).2 ≠ 0) :
    Calls Tryd.prog 8 #[.slice ao l.length cap, enV x, enV y] w fun e w' => e = .returned (.bool true) ∧ Below w.heap.size w w' := by
  have cF := fun W hE => few_any l ao cap 30 W hE hl
  rw [hf] at cF
  have cR : ∀ W, HasE W ao l → Calls Tryd.prog 19 #[.slice ao l.length cap] W fun r w' => r = .returned (.tuple #[.agg #[.int .i64 0, .slice none 0 0], .int .i64 (newF tk0 0 l).2]) ∧ Below W.heap.size W w' := fun W hW => (refNew_any l ao cap W hW hs hl).mono (by
    intro r w' hr
    unfold dnP at hr
    rw [if_neg h0] at hr
    exact hr)
  generalize (newF tk0 0 l).2 = E at *
  have hd : (E != 0) = true := by simpa using h0
  obtain ⟨N, hN⟩ : ∃ N, l.length = N := ⟨_, rfl⟩
  have hNI : (N : Int) ≤ 9223372036854775807 := by omega
  rw [hN] at cF cR ⊢
  have HE := Lib.hid hE
  clear hE
  clear hf hs
  obtain ⟨xk, xm, xn, xs⟩ := x
  obtain ⟨yk, ym, yn, ys⟩ := y
  unfold enV enL
  simp only at hx hy ⊢
  have hb := From.refl w
  go_enter Tryd.func8, Tryd.ntmps8
  go_upto_region 1 with fail
  obtain ⟨gP, hgP⟩ : ∃ g, (w).heap.size = g := ⟨_, rfl⟩
  have P := Blk.newV hgP 26 #[.int .i64 xk, .int .i64 xm, .int .i64 xn, .string xs]
  have hbn := (Below.refl (w).heap.size w).alloc (Nat.le_refl _) (.cells #[.int .i64 xk, .int .i64 xm, .int .i64 xn, .string xs] 26)
  replace hb := hb.step hbn
  clear hbn
  rw [hgP]
  have szP := alloc_size hgP (.cells #[.int .i64 xk, .int .i64 xm, .int .i64 xn, .string xs] 26)
  generalize (w).alloc (.cells #[.int .i64 xk, .int .i64 xm, .int .i64 xn, .string xs] 26) = w1 at *
  obtain ⟨gX, hgX⟩ : ∃ g, (w1).heap.size = g := ⟨_, rfl⟩
  have lt_P_X := P.lt
  rw [hgX] at lt_P_X
  have X := Blk.newV hgX 26 #[.int .i64 yk, .int .i64 ym, .int .i64 yn, .string ys]
  have hbn := (Below.refl (w1).heap.size w1).alloc (Nat.le_refl _) (.cells #[.int .i64 yk, .int .i64 ym, .int .i64 yn, .string ys] 26)
  replace hb := hb.step hbn
  replace P := P.step hbn
  clear hbn
  have egX : gP + 1 = gX := szP.symm.trans hgX
  rw [egX]
  clear szP
  generalize (w1).alloc (.cells #[.int .i64 yk, .int .i64 ym, .int .i64 yn, .string ys] 26) = w2 at *
  go_wp2_with fail
  refine (cR _ (HE.out.step hb.out)).mono ?_
  rintro e w3 ⟨rfl, hbn⟩
  replace hb := hb.step hbn
  replace P := P.step hbn
  replace X := X.step hbn
  clear hbn
  go_upto_region 2 with fail
  obtain ⟨gR, hgR⟩ : ∃ g, (w3).heap.size = g := ⟨_, rfl⟩
  have lt_P_R := P.lt
  rw [hgR] at lt_P_R
  have lt_X_R := X.lt
  rw [hgR] at lt_X_R
  have R := Blk.newV hgR 49 #[.int .i64 0, .slice none 0 0]
  have hbn := (Below.refl (w3).heap.size w3).alloc (Nat.le_refl _) (.cells #[.int .i64 0, .slice none 0 0] 49)
  replace hb := hb.step hbn
  replace P := P.step hbn
  replace X := X.step hbn
  clear hbn
  rw [hgR]
  generalize (w3).alloc (.cells #[.int .i64 0, .slice none 0 0] 49) = w4 at *
  go_wp2_with fail
  refine (cF _ (HE.out.step hb.out)).mono ?_
  rintro e w5 ⟨rfl, rfl⟩
  have P_0 := P.cell (j := 0) rfl
  have P_1 := P.cell (j := 1) rfl
  have P_2 := P.cell (j := 2) rfl
  have P_3 := P.cell (j := 3) rfl
  have X_0 := X.cell (j := 0) rfl
  have X_1 := X.cell (j := 1) rfl
  have X_2 := X.cell (j := 2) rfl
  have X_3 := X.cell (j := 3) rfl
  go_wp2_with fail
  obtain ⟨gS, hgS⟩ : ∃ g, (w4).heap.size = g := ⟨_, rfl⟩
  have lt_P_S := P.lt
  rw [hgS] at lt_P_S
  have lt_X_S := X.lt
  rw [hgS] at lt_X_S
  have lt_R_S := R.lt
  rw [hgS] at lt_R_S
  have S := Blk.newV hgS 26 #[.int .i64 xk, .int .i64 xm, .int .i64 xn, .string xs, .int .i64 yk, .int .i64 ym, .int .i64 yn, .string ys]
  have hbn := (Below.refl (w4).heap.size w4).alloc (Nat.le_refl _) (.cells #[.int .i64 xk, .int .i64 xm, .int .i64 xn, .string xs, .int .i64 yk, .int .i64 ym, .int .i64 yn, .string ys] 26)
  replace hb := hb.step hbn
  replace P := P.step hbn
  replace P_0 := P.cell (j := 0) rfl
  replace P_1 := P.cell (j := 1) rfl
  replace P_2 := P.cell (j := 2) rfl
  replace P_3 := P.cell (j := 3) rfl
  replace X := X.step hbn
  replace X_0 := X.cell (j := 0) rfl
  replace X_1 := X.cell (j := 1) rfl
  replace X_2 := X.cell (j := 2) rfl
  replace X_3 := X.cell (j := 3) rfl
  replace R := R.step hbn
  clear hbn
  rw [hgS]
  generalize (w4).alloc (.cells #[.int .i64 xk, .int .i64 xm, .int .i64 xn, .string xs, .int .i64 yk, .int .i64 ym, .int .i64 yn, .string ys] 26) = w6 at *
  have c2 : ∀ W, HasE W (some ⟨gS, 0, none⟩) _ → Calls Tryd.prog 15 #[.slice (some ⟨gS, 0, none⟩) 2 2, .int .i64 2] W _ := fun W hE => few_any [⟨xk, xm, xn, xs⟩, ⟨yk, ym, yn, ys⟩] (some ⟨gS, 0, none⟩) 2 2 W hE (by simp)
  rw [hf2] at c2
  go_wp2_with fail
  refine (c2 _ (two_ents S)).mono ?_
  rintro e w7 ⟨rfl, rfl⟩
  clear c2
  go_wp2_with fail
  refine (works_any _ (hT.step hb.out)).mono ?_
  rintro e w8 ⟨rfl, hbn⟩
  replace hb := hb.step hbn
  replace P := P.step hbn
  replace P_0 := P.cell (j := 0) rfl
  replace P_1 := P.cell (j := 1) rfl
  replace P_2 := P.cell (j := 2) rfl
  replace P_3 := P.cell (j := 3) rfl
  replace X := X.step hbn
  replace X_0 := X.cell (j := 0) rfl
  replace X_1 := X.cell (j := 1) rfl
  replace X_2 := X.cell (j := 2) rfl
  replace X_3 := X.cell (j := 3) rfl
  replace R := R.step hbn
  replace S := S.step hbn
  clear hbn
  go_wp2
  go_ret
  exact ⟨rfl, hb⟩
end Go.Proofs.YtndechodaegkiaaDoor
