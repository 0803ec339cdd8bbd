
/- Walk of AcceptorCopies. -/
import Derived.Test.YtcokbljlgbcpkaaDoorAdR
namespace Go.Proofs.YtcokbljlgbcpkaaDoor
open Go.RowKit
theorem eq8_symm (r1 p1 a1 b1 k1 m1 n1 : Int) (s1 : ByteArray) (r2 p2 a2 b2 k2 m2 n2 : Int) (s2 : ByteArray) : eq8 r1 p1 a1 b1 k1 m1 n1 s1 r2 p2 a2 b2 k2 m2 n2 s2 = eq8 r2 p2 a2 b2 k2 m2 n2 s2 r1 p1 a1 b1 k1 m1 n1 s1 := by
  unfold eq8
  congr 1
  apply propext
  constructor <;> rintro ⟨h1, h2, h3, h4, h5, h6, h7, h8⟩ <;> exact ⟨h1.symm, h2.symm, h3.symm, h4.symm, h5.symm, h6.symm, h7.symm, h8.symm⟩
theorem same_symm (A B : Acc) : sameA A B = sameA B A := eq8_symm _ _ _ _ _ _ _ _ _ _ _ _ _ _ _ _
theorem same_self (A : Acc) : sameA A A = true := by unfold sameA eq8; simp
theorem act_c (A : Acc) (e : Ac) : (actA A e).c = A.c ∧ (actA A e).sl = A.sl := by
  unfold actA proA accA
  split <;> split <;> exact ⟨rfl, rfl⟩
theorem two_acts {W : World} {b : Nat} {t : TypeId} {x y : Ac} (h : Blk W b t (acL x ++ acL y)) : HasAc W (some ⟨b, 0, none⟩) [x, y] := by
  intro k e he
  refine ⟨b, 0, rfl, ?_⟩
  match k, he with
  | 0, he =>
    obtain rfl : x = e := by simpa using he
    exact ⟨h.cell (j := 0) rfl, h.cell (j := 1) rfl, h.cell (j := 2) rfl, h.cell (j := 3) rfl, h.cell (j := 4) rfl, h.cell (j := 5) rfl, h.cell (j := 6) rfl⟩
  | 1, he =>
    obtain rfl : y = e := by simpa using he
    exact ⟨h.cell (j := 7) rfl, h.cell (j := 8) rfl, h.cell (j := 9) rfl, h.cell (j := 10) rfl, h.cell (j := 11) rfl, h.cell (j := 12) rfl, h.cell (j := 13) rfl⟩
set_option maxRecDepth 100000 in
set_option maxHeartbeats 2000000 in
theorem copies_few (c sl : Int) (l : List Ac) (ao : Option Addr) (cap : Nat) (x y : Ac) (w : World) (hT : Tabs w) (hE : HasAc w ao l) (hl : l.length ≤ 9223372036854775807) (hs : ∀ e, e ∈ l → e.s.size ≤ 9223372036854775807) (hx : x.s.size ≤ 9223372036854775807) (hy : y.s.size ≤ 9223372036854775807) (hf : fewB l 20 = false) :
    Calls Tryd.prog 6 #[.int .i64 c, .int .i64 sl, .slice ao l.length cap, acVal x, acVal y] w fun e w' => e = .returned (.bool true) ∧ Below w.heap.size w w' := by
  have cF := fun W hE => few_any l ao cap 20 W hE hl hs
  rw [hf] at cF
  obtain ⟨z, E, cR⟩ : ∃ (z : Acc) (E : Int), ∀ W, Calls Tryd.prog 20 #[.int .i64 c, .int .i64 sl] W fun e w' => e = .returned (.tuple #[refV z, .int .i64 E]) ∧ Below W.heap.size W w' := by
    by_cases h0 : opErr c sl = 0
    · exact ⟨_, _, fun W => refNew14_ok c sl W h0⟩
    · exact ⟨_, _, fun W => refNew14_no c sl W h0⟩
  unfold refV at cR
  obtain ⟨N, hN⟩ : ∃ N, l.length = N := ⟨_, rfl⟩
  have hNI : (N : Int) ≤ 9223372036854775807 := by omega
  rw [hN] at cF ⊢
  have HE := Lib.hid hE
  clear hE
  clear hf hs
  obtain ⟨xw, xx, xy, xk, xm, xn, xs⟩ := x
  obtain ⟨yw, yx, yy, yk, ym, yn, ys⟩ := y
  unfold acVal
  simp only at hx hy ⊢
  have hb := From.refl w
  go_enter Tryd.func6, Tryd.ntmps6
  go_upto_region 1 with fail
  obtain ⟨gP, hgP⟩ : ∃ g, (w).heap.size = g := ⟨_, rfl⟩
  have P := Blk.newV hgP 43 #[.int .i64 xw, .int .i64 xx, .int .i64 xy, .int .i64 xk, .int .i64 xm, .int .i64 xn, .string xs]
  have hbn := (Below.refl (w).heap.size w).alloc (Nat.le_refl _) (.cells #[.int .i64 xw, .int .i64 xx, .int .i64 xy, .int .i64 xk, .int .i64 xm, .int .i64 xn, .string xs] 43)
  replace hb := hb.step hbn
  clear hbn
  rw [hgP]
  have szP := alloc_size hgP (.cells #[.int .i64 xw, .int .i64 xx, .int .i64 xy, .int .i64 xk, .int .i64 xm, .int .i64 xn, .string xs] 43)
  generalize (w).alloc (.cells #[.int .i64 xw, .int .i64 xx, .int .i64 xy, .int .i64 xk, .int .i64 xm, .int .i64 xn, .string xs] 43) = w1 at *
  obtain ⟨gX, hgX⟩ : ∃ g, (w1).heap.size = g := ⟨_, rfl⟩
  have lt_P_X := P.lt
  rw [hgX] at lt_P_X
  have X := Blk.newV hgX 43 #[.int .i64 yw, .int .i64 yx, .int .i64 yy, .int .i64 yk, .int .i64 ym, .int .i64 yn, .string ys]
  have hbn := (Below.refl (w1).heap.size w1).alloc (Nat.le_refl _) (.cells #[.int .i64 yw, .int .i64 yx, .int .i64 yy, .int .i64 yk, .int .i64 ym, .int .i64 yn, .string ys] 43)
  replace hb := hb.step hbn
  replace P := P.step hbn
  clear hbn
  have egX : gP + 1 = gX := szP.symm.trans hgX
  rw [egX]
  clear szP
  generalize (w1).alloc (.cells #[.int .i64 yw, .int .i64 yx, .int .i64 yy, .int .i64 yk, .int .i64 ym, .int .i64 yn, .string ys] 43) = w2 at *
  go_wp2_with fail
  refine (cR _).mono ?_
  rintro e w3 ⟨rfl, hbn⟩
  replace hb := hb.step hbn
  replace P := P.step hbn
  replace X := X.step hbn
  clear hbn
  go_upto_region 2 with fail
  obtain ⟨gR, hgR⟩ : ∃ g, (w3).heap.size = g := ⟨_, rfl⟩
  have lt_P_R := P.lt
  rw [hgR] at lt_P_R
  have lt_X_R := X.lt
  rw [hgR] at lt_X_R
  have R := Blk.newV hgR 51 #[.int .i64 z.c, .int .i64 z.sl, .int .i64 z.r, .int .i64 z.p, .int .i64 z.ar, .int .i64 z.ap, .int .i64 z.k, .int .i64 z.m, .int .i64 z.n, .string z.s]
  have hbn := (Below.refl (w3).heap.size w3).alloc (Nat.le_refl _) (.cells #[.int .i64 z.c, .int .i64 z.sl, .int .i64 z.r, .int .i64 z.p, .int .i64 z.ar, .int .i64 z.ap, .int .i64 z.k, .int .i64 z.m, .int .i64 z.n, .string z.s] 51)
  replace hb := hb.step hbn
  replace P := P.step hbn
  replace X := X.step hbn
  clear hbn
  rw [hgR]
  generalize (w3).alloc (.cells #[.int .i64 z.c, .int .i64 z.sl, .int .i64 z.r, .int .i64 z.p, .int .i64 z.ar, .int .i64 z.ap, .int .i64 z.k, .int .i64 z.m, .int .i64 z.n, .string z.s] 51) = w4 at *
  go_wp2_with fail
  refine (cF _ (HE.out.step hb.out)).mono ?_
  rintro e w5 ⟨rfl, hbn⟩
  replace hb := hb.step hbn
  replace P := P.step hbn
  replace X := X.step hbn
  replace R := R.step hbn
  clear hbn
  go_wp2_with fail
  refine (works14_any _ (hT.step hb.out)).mono ?_
  rintro e w6 ⟨rfl, hbn⟩
  replace hb := hb.step hbn
  replace P := P.step hbn
  replace X := X.step hbn
  replace R := R.step hbn
  clear hbn
  go_wp2
  go_ret
  exact ⟨rfl, hb⟩
set_option maxRecDepth 100000 in
set_option maxHeartbeats 2000000 in
theorem copies_two (c sl : Int) (l : List Ac) (ao : Option Addr) (cap : Nat) (x y : Ac) (w : World) (hT : Tabs w) (hE : HasAc w ao l) (hl : l.length ≤ 9223372036854775807) (hs : ∀ e, e ∈ l → e.s.size ≤ 9223372036854775807) (hx : x.s.size ≤ 9223372036854775807) (hy : y.s.size ≤ 9223372036854775807) (hf : fewB l 20 = true) (hf2 : fewB [x, y] 2 = false) :
    Calls Tryd.prog 6 #[.int .i64 c, .int .i64 sl, .slice ao l.length cap, acVal x, acVal y] w fun e w' => e = .returned (.bool true) ∧ Below w.heap.size w w' := by
  have cF := fun W hE => few_any l ao cap 20 W hE hl hs
  rw [hf] at cF
  obtain ⟨z, E, cR⟩ : ∃ (z : Acc) (E : Int), ∀ W, Calls Tryd.prog 20 #[.int .i64 c, .int .i64 sl] W fun e w' => e = .returned (.tuple #[refV z, .int .i64 E]) ∧ Below W.heap.size W w' := by
    by_cases h0 : opErr c sl = 0
    · exact ⟨_, _, fun W => refNew14_ok c sl W h0⟩
    · exact ⟨_, _, fun W => refNew14_no c sl W h0⟩
  unfold refV at cR
  obtain ⟨N, hN⟩ : ∃ N, l.length = N := ⟨_, rfl⟩
  have hNI : (N : Int) ≤ 9223372036854775807 := by omega
  rw [hN] at cF ⊢
  have HE := Lib.hid hE
  clear hE
  clear hf hs
  obtain ⟨xw, xx, xy, xk, xm, xn, xs⟩ := x
  obtain ⟨yw, yx, yy, yk, ym, yn, ys⟩ := y
  unfold acVal
  simp only at hx hy ⊢
  have hb := From.refl w
  go_enter Tryd.func6, Tryd.ntmps6
  go_upto_region 1 with fail
  obtain ⟨gP, hgP⟩ : ∃ g, (w).heap.size = g := ⟨_, rfl⟩
  have P := Blk.newV hgP 43 #[.int .i64 xw, .int .i64 xx, .int .i64 xy, .int .i64 xk, .int .i64 xm, .int .i64 xn, .string xs]
  have hbn := (Below.refl (w).heap.size w).alloc (Nat.le_refl _) (.cells #[.int .i64 xw, .int .i64 xx, .int .i64 xy, .int .i64 xk, .int .i64 xm, .int .i64 xn, .string xs] 43)
  replace hb := hb.step hbn
  clear hbn
  rw [hgP]
  have szP := alloc_size hgP (.cells #[.int .i64 xw, .int .i64 xx, .int .i64 xy, .int .i64 xk, .int .i64 xm, .int .i64 xn, .string xs] 43)
  generalize (w).alloc (.cells #[.int .i64 xw, .int .i64 xx, .int .i64 xy, .int .i64 xk, .int .i64 xm, .int .i64 xn, .string xs] 43) = w1 at *
  obtain ⟨gX, hgX⟩ : ∃ g, (w1).heap.size = g := ⟨_, rfl⟩
  have lt_P_X := P.lt
  rw [hgX] at lt_P_X
  have X := Blk.newV hgX 43 #[.int .i64 yw, .int .i64 yx, .int .i64 yy, .int .i64 yk, .int .i64 ym, .int .i64 yn, .string ys]
  have hbn := (Below.refl (w1).heap.size w1).alloc (Nat.le_refl _) (.cells #[.int .i64 yw, .int .i64 yx, .int .i64 yy, .int .i64 yk, .int .i64 ym, .int .i64 yn, .string ys] 43)
  replace hb := hb.step hbn
  replace P := P.step hbn
  clear hbn
  have egX : gP + 1 = gX := szP.symm.trans hgX
  rw [egX]
  clear szP
  generalize (w1).alloc (.cells #[.int .i64 yw, .int .i64 yx, .int .i64 yy, .int .i64 yk, .int .i64 ym, .int .i64 yn, .string ys] 43) = w2 at *
  go_wp2_with fail
  refine (cR _).mono ?_
  rintro e w3 ⟨rfl, hbn⟩
  replace hb := hb.step hbn
  replace P := P.step hbn
  replace X := X.step hbn
  clear hbn
  go_upto_region 2 with fail
  obtain ⟨gR, hgR⟩ : ∃ g, (w3).heap.size = g := ⟨_, rfl⟩
  have lt_P_R := P.lt
  rw [hgR] at lt_P_R
  have lt_X_R := X.lt
  rw [hgR] at lt_X_R
  have R := Blk.newV hgR 51 #[.int .i64 z.c, .int .i64 z.sl, .int .i64 z.r, .int .i64 z.p, .int .i64 z.ar, .int .i64 z.ap, .int .i64 z.k, .int .i64 z.m, .int .i64 z.n, .string z.s]
  have hbn := (Below.refl (w3).heap.size w3).alloc (Nat.le_refl _) (.cells #[.int .i64 z.c, .int .i64 z.sl, .int .i64 z.r, .int .i64 z.p, .int .i64 z.ar, .int .i64 z.ap, .int .i64 z.k, .int .i64 z.m, .int .i64 z.n, .string z.s] 51)
  replace hb := hb.step hbn
  replace P := P.step hbn
  replace X := X.step hbn
  clear hbn
  rw [hgR]
  generalize (w3).alloc (.cells #[.int .i64 z.c, .int .i64 z.sl, .int .i64 z.r, .int .i64 z.p, .int .i64 z.ar, .int .i64 z.ap, .int .i64 z.k, .int .i64 z.m, .int .i64 z.n, .string z.s] 51) = w4 at *
  go_wp2_with fail
  refine (cF _ (HE.out.step hb.out)).mono ?_
  rintro e w5 ⟨rfl, hbn⟩
  replace hb := hb.step hbn
  replace P := P.step hbn
  replace X := X.step hbn
  replace R := R.step hbn
  clear hbn
  have P_0 := P.cell (j := 0) rfl
  have P_1 := P.cell (j := 1) rfl
  have P_2 := P.cell (j := 2) rfl
  have P_3 := P.cell (j := 3) rfl
  have P_4 := P.cell (j := 4) rfl
  have P_5 := P.cell (j := 5) rfl
  have P_6 := P.cell (j := 6) rfl
  have X_0 := X.cell (j := 0) rfl
  have X_1 := X.cell (j := 1) rfl
  have X_2 := X.cell (j := 2) rfl
  have X_3 := X.cell (j := 3) rfl
  have X_4 := X.cell (j := 4) rfl
  have X_5 := X.cell (j := 5) rfl
  have X_6 := X.cell (j := 6) rfl
  go_wp2_with fail
  obtain ⟨gS, hgS⟩ : ∃ g, (w5).heap.size = g := ⟨_, rfl⟩
  have lt_P_S := P.lt
  rw [hgS] at lt_P_S
  have lt_X_S := X.lt
  rw [hgS] at lt_X_S
  have lt_R_S := R.lt
  rw [hgS] at lt_R_S
  have S := Blk.newV hgS 43 #[.int .i64 xw, .int .i64 xx, .int .i64 xy, .int .i64 xk, .int .i64 xm, .int .i64 xn, .string xs, .int .i64 yw, .int .i64 yx, .int .i64 yy, .int .i64 yk, .int .i64 ym, .int .i64 yn, .string ys]
  have hbn := (Below.refl (w5).heap.size w5).alloc (Nat.le_refl _) (.cells #[.int .i64 xw, .int .i64 xx, .int .i64 xy, .int .i64 xk, .int .i64 xm, .int .i64 xn, .string xs, .int .i64 yw, .int .i64 yx, .int .i64 yy, .int .i64 yk, .int .i64 ym, .int .i64 yn, .string ys] 43)
  replace hb := hb.step hbn
  replace P := P.step hbn
  replace P_0 := P.cell (j := 0) rfl
  replace P_1 := P.cell (j := 1) rfl
  replace P_2 := P.cell (j := 2) rfl
  replace P_3 := P.cell (j := 3) rfl
  replace P_4 := P.cell (j := 4) rfl
  replace P_5 := P.cell (j := 5) rfl
  replace P_6 := P.cell (j := 6) rfl
  replace X := X.step hbn
  replace X_0 := X.cell (j := 0) rfl
  replace X_1 := X.cell (j := 1) rfl
  replace X_2 := X.cell (j := 2) rfl
  replace X_3 := X.cell (j := 3) rfl
  replace X_4 := X.cell (j := 4) rfl
  replace X_5 := X.cell (j := 5) rfl
  replace X_6 := X.cell (j := 6) rfl
  replace R := R.step hbn
  clear hbn
  rw [hgS]
  generalize (w5).alloc (.cells #[.int .i64 xw, .int .i64 xx, .int .i64 xy, .int .i64 xk, .int .i64 xm, .int .i64 xn, .string xs, .int .i64 yw, .int .i64 yx, .int .i64 yy, .int .i64 yk, .int .i64 ym, .int .i64 yn, .string ys] 43) = w6 at *
  have c2 : ∀ W, HasAc W (some ⟨gS, 0, none⟩) _ → Calls Tryd.prog 12 #[.slice (some ⟨gS, 0, none⟩) 2 2, .int .i64 2] W _ := fun W hE => few_any [⟨xw, xx, xy, xk, xm, xn, xs⟩, ⟨yw, yx, yy, yk, ym, yn, ys⟩] (some ⟨gS, 0, none⟩) 2 2 W hE (by simp) (by intro e he; simp at he; rcases he with rfl | rfl; exact hx; exact hy)
  rw [hf2] at c2
  refine (c2 _ (two_acts S)).mono ?_
  rintro e w7 ⟨rfl, hbn⟩
  replace hb := hb.step hbn
  replace P := P.step hbn
  replace P_0 := P.cell (j := 0) rfl
  replace P_1 := P.cell (j := 1) rfl
  replace P_2 := P.cell (j := 2) rfl
  replace P_3 := P.cell (j := 3) rfl
  replace P_4 := P.cell (j := 4) rfl
  replace P_5 := P.cell (j := 5) rfl
  replace P_6 := P.cell (j := 6) rfl
  replace X := X.step hbn
  replace X_0 := X.cell (j := 0) rfl
  replace X_1 := X.cell (j := 1) rfl
  replace X_2 := X.cell (j := 2) rfl
  replace X_3 := X.cell (j := 3) rfl
  replace X_4 := X.cell (j := 4) rfl
  replace X_5 := X.cell (j := 5) rfl
  replace X_6 := X.cell (j := 6) rfl
  replace R := R.step hbn
  replace S := S.step hbn
  clear hbn c2
  go_wp2_with fail
  refine (works14_any _ (hT.step hb.out)).mono ?_
  rintro e w8 ⟨rfl, hbn⟩
  replace hb := hb.step hbn
  replace P := P.step hbn
  replace P_0 := P.cell (j := 0) rfl
  replace P_1 := P.cell (j := 1) rfl
  replace P_2 := P.cell (j := 2) rfl
  replace P_3 := P.cell (j := 3) rfl
  replace P_4 := P.cell (j := 4) rfl
  replace P_5 := P.cell (j := 5) rfl
  replace P_6 := P.cell (j := 6) rfl
  replace X := X.step hbn
  replace X_0 := X.cell (j := 0) rfl
  replace X_1 := X.cell (j := 1) rfl
  replace X_2 := X.cell (j := 2) rfl
  replace X_3 := X.cell (j := 3) rfl
  replace X_4 := X.cell (j := 4) rfl
  replace X_5 := X.cell (j := 5) rfl
  replace X_6 := X.cell (j := 6) rfl
  replace R := R.step hbn
  replace S := S.step hbn
  clear hbn
  go_wp2
  go_ret
  exact ⟨rfl, hb⟩
set_option maxRecDepth 100000 in
set_option maxHeartbeats 2000000 in
theorem copies_no (c sl : Int) (l : List Ac) (ao : Option Addr) (cap : Nat) (x y : Ac) (w : World) (hT : Tabs w) (hE : HasAc w ao l) (hl : l.length ≤ 9223372036854775807) (hs : ∀ e, e ∈ l → e.s.size ≤ 9223372036854775807) (hx : x.s.size ≤ 9223372036854775807) (hy : y.s.size ≤ 9223372036854775807) (hf : fewB l 20 = true) (hf2 : fewB [x, y] 2 = true) (h0 : opErr c sl ≠ 0) :
    Calls Tryd.prog 6 #[.int .i64 c, .int .i64 sl, .slice ao l.length cap, acVal x, acVal y] w fun e w' => e = .returned (.bool true) ∧ Below w.heap.size w w' := by
  have cF := fun W hE => few_any l ao cap 20 W hE hl hs
  rw [hf] at cF
  have cR := fun W => refNew14_no c sl W h0
  generalize opErr c sl = E at *
  have hd : (E != 0) = true := by simpa using h0
  unfold refV zA at cR
  simp only at cR
  obtain ⟨N, hN⟩ : ∃ N, l.length = N := ⟨_, rfl⟩
  have hNI : (N : Int) ≤ 9223372036854775807 := by omega
  rw [hN] at cF ⊢
  have HE := Lib.hid hE
  clear hE
  clear hf hs
  obtain ⟨xw, xx, xy, xk, xm, xn, xs⟩ := x
  obtain ⟨yw, yx, yy, yk, ym, yn, ys⟩ := y
  unfold acVal
  simp only at hx hy ⊢
  have hb := From.refl w
  go_enter Tryd.func6, Tryd.ntmps6
  go_upto_region 1 with fail
  obtain ⟨gP, hgP⟩ : ∃ g, (w).heap.size = g := ⟨_, rfl⟩
  have P := Blk.newV hgP 43 #[.int .i64 xw, .int .i64 xx, .int .i64 xy, .int .i64 xk, .int .i64 xm, .int .i64 xn, .string xs]
  have hbn := (Below.refl (w).heap.size w).alloc (Nat.le_refl _) (.cells #[.int .i64 xw, .int .i64 xx, .int .i64 xy, .int .i64 xk, .int .i64 xm, .int .i64 xn, .string xs] 43)
  replace hb := hb.step hbn
  clear hbn
  rw [hgP]
  have szP := alloc_size hgP (.cells #[.int .i64 xw, .int .i64 xx, .int .i64 xy, .int .i64 xk, .int .i64 xm, .int .i64 xn, .string xs] 43)
  generalize (w).alloc (.cells #[.int .i64 xw, .int .i64 xx, .int .i64 xy, .int .i64 xk, .int .i64 xm, .int .i64 xn, .string xs] 43) = w1 at *
  obtain ⟨gX, hgX⟩ : ∃ g, (w1).heap.size = g := ⟨_, rfl⟩
  have lt_P_X := P.lt
  rw [hgX] at lt_P_X
  have X := Blk.newV hgX 43 #[.int .i64 yw, .int .i64 yx, .int .i64 yy, .int .i64 yk, .int .i64 ym, .int .i64 yn, .string ys]
  have hbn := (Below.refl (w1).heap.size w1).alloc (Nat.le_refl _) (.cells #[.int .i64 yw, .int .i64 yx, .int .i64 yy, .int .i64 yk, .int .i64 ym, .int .i64 yn, .string ys] 43)
  replace hb := hb.step hbn
  replace P := P.step hbn
  clear hbn
  have egX : gP + 1 = gX := szP.symm.trans hgX
  rw [egX]
  clear szP
  generalize (w1).alloc (.cells #[.int .i64 yw, .int .i64 yx, .int .i64 yy, .int .i64 yk, .int .i64 ym, .int .i64 yn, .string ys] 43) = w2 at *
  go_wp2_with fail
  refine (cR _).mono ?_
  rintro e w3 ⟨rfl, hbn⟩
  replace hb := hb.step hbn
  replace P := P.step hbn
  replace X := X.step hbn
  clear hbn
  go_upto_region 2 with fail
  obtain ⟨gR, hgR⟩ : ∃ g, (w3).heap.size = g := ⟨_, rfl⟩
  have lt_P_R := P.lt
  rw [hgR] at lt_P_R
  have lt_X_R := X.lt
  rw [hgR] at lt_X_R
  have R := Blk.newV hgR 51 #[.int .i64 0, .int .i64 0, .int .i64 0, .int .i64 0, .int .i64 0, .int .i64 0, .int .i64 0, .int .i64 0, .int .i64 0, .string ⟨#[]⟩]
  have hbn := (Below.refl (w3).heap.size w3).alloc (Nat.le_refl _) (.cells #[.int .i64 0, .int .i64 0, .int .i64 0, .int .i64 0, .int .i64 0, .int .i64 0, .int .i64 0, .int .i64 0, .int .i64 0, .string ⟨#[]⟩] 51)
  replace hb := hb.step hbn
  replace P := P.step hbn
  replace X := X.step hbn
  clear hbn
  rw [hgR]
  generalize (w3).alloc (.cells #[.int .i64 0, .int .i64 0, .int .i64 0, .int .i64 0, .int .i64 0, .int .i64 0, .int .i64 0, .int .i64 0, .int .i64 0, .string ⟨#[]⟩] 51) = w4 at *
  go_wp2_with fail
  refine (cF _ (HE.out.step hb.out)).mono ?_
  rintro e w5 ⟨rfl, hbn⟩
  replace hb := hb.step hbn
  replace P := P.step hbn
  replace X := X.step hbn
  replace R := R.step hbn
  clear hbn
  have P_0 := P.cell (j := 0) rfl
  have P_1 := P.cell (j := 1) rfl
  have P_2 := P.cell (j := 2) rfl
  have P_3 := P.cell (j := 3) rfl
  have P_4 := P.cell (j := 4) rfl
  have P_5 := P.cell (j := 5) rfl
  have P_6 := P.cell (j := 6) rfl
  have X_0 := X.cell (j := 0) rfl
  have X_1 := X.cell (j := 1) rfl
  have X_2 := X.cell (j := 2) rfl
  have X_3 := X.cell (j := 3) rfl
  have X_4 := X.cell (j := 4) rfl
  have X_5 := X.cell (j := 5) rfl
  have X_6 := X.cell (j := 6) rfl
  go_wp2_with fail
  obtain ⟨gS, hgS⟩ : ∃ g, (w5).heap.size = g := ⟨_, rfl⟩
  have lt_P_S := P.lt
  rw [hgS] at lt_P_S
  have lt_X_S := X.lt
  rw [hgS] at lt_X_S
  have lt_R_S := R.lt
  rw [hgS] at lt_R_S
  have S := Blk.newV hgS 43 #[.int .i64 xw, .int .i64 xx, .int .i64 xy, .int .i64 xk, .int .i64 xm, .int .i64 xn, .string xs, .int .i64 yw, .int .i64 yx, .int .i64 yy, .int .i64 yk, .int .i64 ym, .int .i64 yn, .string ys]
  have hbn := (Below.refl (w5).heap.size w5).alloc (Nat.le_refl _) (.cells #[.int .i64 xw, .int .i64 xx, .int .i64 xy, .int .i64 xk, .int .i64 xm, .int .i64 xn, .string xs, .int .i64 yw, .int .i64 yx, .int .i64 yy, .int .i64 yk, .int .i64 ym, .int .i64 yn, .string ys] 43)
  replace hb := hb.step hbn
  replace P := P.step hbn
  replace P_0 := P.cell (j := 0) rfl
  replace P_1 := P.cell (j := 1) rfl
  replace P_2 := P.cell (j := 2) rfl
  replace P_3 := P.cell (j := 3) rfl
  replace P_4 := P.cell (j := 4) rfl
  replace P_5 := P.cell (j := 5) rfl
  replace P_6 := P.cell (j := 6) rfl
  replace X := X.step hbn
  replace X_0 := X.cell (j := 0) rfl
  replace X_1 := X.cell (j := 1) rfl
  replace X_2 := X.cell (j := 2) rfl
  replace X_3 := X.cell (j := 3) rfl
  replace X_4 := X.cell (j := 4) rfl
  replace X_5 := X.cell (j := 5) rfl
  replace X_6 := X.cell (j := 6) rfl
  replace R := R.step hbn
  clear hbn
  rw [hgS]
  generalize (w5).alloc (.cells #[.int .i64 xw, .int .i64 xx, .int .i64 xy, .int .i64 xk, .int .i64 xm, .int .i64 xn, .string xs, .int .i64 yw, .int .i64 yx, .int .i64 yy, .int .i64 yk, .int .i64 ym, .int .i64 yn, .string ys] 43) = w6 at *
  have c2 : ∀ W, HasAc W (some ⟨gS, 0, none⟩) _ → Calls Tryd.prog 12 #[.slice (some ⟨gS, 0, none⟩) 2 2, .int .i64 2] W _ := fun W hE => few_any [⟨xw, xx, xy, xk, xm, xn, xs⟩, ⟨yw, yx, yy, yk, ym, yn, ys⟩] (some ⟨gS, 0, none⟩) 2 2 W hE (by simp) (by intro e he; simp at he; rcases he with rfl | rfl; exact hx; exact hy)
  rw [hf2] at c2
  refine (c2 _ (two_acts S)).mono ?_
  rintro e w7 ⟨rfl, hbn⟩
  replace hb := hb.step hbn
  replace P := P.step hbn
  replace P_0 := P.cell (j := 0) rfl
  replace P_1 := P.cell (j := 1) rfl
  replace P_2 := P.cell (j := 2) rfl
  replace P_3 := P.cell (j := 3) rfl
  replace P_4 := P.cell (j := 4) rfl
  replace P_5 := P.cell (j := 5) rfl
  replace P_6 := P.cell (j := 6) rfl
  replace X := X.step hbn
  replace X_0 := X.cell (j := 0) rfl
  replace X_1 := X.cell (j := 1) rfl
  replace X_2 := X.cell (j := 2) rfl
  replace X_3 := X.cell (j := 3) rfl
  replace X_4 := X.cell (j := 4) rfl
  replace X_5 := X.cell (j := 5) rfl
  replace X_6 := X.cell (j := 6) rfl
  replace R := R.step hbn
  replace S := S.step hbn
  clear hbn c2
  go_wp2_with fail
  refine (works14_any _ (hT.step hb.out)).mono ?_
  rintro e w8 ⟨rfl, hbn⟩
  replace hb := hb.step hbn
  replace P := P.step hbn
  replace P_0 := P.cell (j := 0) rfl
  replace P_1 := P.cell (j := 1) rfl
  replace P_2 := P.cell (j := 2) rfl
  replace P_3 := P.cell (j := 3) rfl
  replace P_4 := P.cell (j := 4) rfl
  replace P_5 := P.cell (j := 5) rfl
  replace P_6 := P.cell (j := 6) rfl
  replace X := X.step hbn
  replace X_0 := X.cell (j := 0) rfl
  replace X_1 := X.cell (j := 1) rfl
  replace X_2 := X.cell (j := 2) rfl
  replace X_3 := X.cell (j := 3) rfl
  replace X_4 := X.cell (j := 4) rfl
  replace X_5 := X.cell (j := 5) rfl
  replace X_6 := X.cell (j := 6) rfl
  replace R := R.step hbn
  replace S := S.step hbn
  clear hbn
  go_wp2
  go_ret
  exact ⟨rfl, hb⟩
set_option maxRecDepth 100000 in
set_option maxHeartbeats 8000000 in
theorem copies_yes (c sl : Int) (l : List Ac) (ao : Option Addr) (cap : Nat) (x y : Ac) (w : World) (hT : Tabs w) (hE : HasAc w ao l) (hl : l.length ≤ 9223372036854775807) (hs : ∀ e, e ∈ l → e.s.size ≤ 9223372036854775807) (hx : x.s.size ≤ 9223372036854775807) (hy : y.s.size ≤ 9223372036854775807) (hf : fewB l 20 = true) (hf2 : fewB [x, y] 2 = true) (h0 : opErr c sl = 0) :
    Calls Tryd.prog 6 #[.int .i64 c, .int .i64 sl, .slice ao l.length cap, acVal x, acVal y] w fun e w' => e = .returned (.bool true) ∧ Below w.heap.size w w' := by
  have cF := fun W hE => few_any l ao cap 20 W hE hl hs
  rw [hf] at cF
  have cN := fun W => new14_ok c sl _ W rfl h0
  have cR := fun W => refNew14_ok c sl W h0
  have hI0 := inv_first h0
  unfold refV at cR
  unfold first14 at hI0 cR
  simp only at cR
  generalize ownerI c sl = o at cN hI0 cR
  obtain ⟨N, hN⟩ : ∃ N, l.length = N := ⟨_, rfl⟩
  have hNI : (N : Int) ≤ 9223372036854775807 := by omega
  rw [hN] at cF ⊢
  have HE := Lib.hid hE
  clear hE
  have HS := Lib.hid hs
  clear hs
  clear hf h0
  obtain ⟨xw, xx, xy, xk, xm, xn, xs⟩ := x
  obtain ⟨yw, yx, yy, yk, ym, yn, ys⟩ := y
  unfold acVal
  simp only at hx hy ⊢
  have hb := From.refl w
  go_enter Tryd.func6, Tryd.ntmps6
  go_upto_region 1 with fail
  obtain ⟨gP, hgP⟩ : ∃ g, (w).heap.size = g := ⟨_, rfl⟩
  have P := Blk.newV hgP 43 #[.int .i64 xw, .int .i64 xx, .int .i64 xy, .int .i64 xk, .int .i64 xm, .int .i64 xn, .string xs]
  have hbn := (Below.refl (w).heap.size w).alloc (Nat.le_refl _) (.cells #[.int .i64 xw, .int .i64 xx, .int .i64 xy, .int .i64 xk, .int .i64 xm, .int .i64 xn, .string xs] 43)
  replace hb := hb.step hbn
  clear hbn
  rw [hgP]
  have szP := alloc_size hgP (.cells #[.int .i64 xw, .int .i64 xx, .int .i64 xy, .int .i64 xk, .int .i64 xm, .int .i64 xn, .string xs] 43)
  generalize (w).alloc (.cells #[.int .i64 xw, .int .i64 xx, .int .i64 xy, .int .i64 xk, .int .i64 xm, .int .i64 xn, .string xs] 43) = w1 at *
  obtain ⟨gX, hgX⟩ : ∃ g, (w1).heap.size = g := ⟨_, rfl⟩
  have lt_P_X := P.lt
  rw [hgX] at lt_P_X
  have X := Blk.newV hgX 43 #[.int .i64 yw, .int .i64 yx, .int .i64 yy, .int .i64 yk, .int .i64 ym, .int .i64 yn, .string ys]
  have hbn := (Below.refl (w1).heap.size w1).alloc (Nat.le_refl _) (.cells #[.int .i64 yw, .int .i64 yx, .int .i64 yy, .int .i64 yk, .int .i64 ym, .int .i64 yn, .string ys] 43)
  replace hb := hb.step hbn
  replace P := P.step hbn
  clear hbn
  have egX : gP + 1 = gX := szP.symm.trans hgX
  rw [egX]
  clear szP
  generalize (w1).alloc (.cells #[.int .i64 yw, .int .i64 yx, .int .i64 yy, .int .i64 yk, .int .i64 ym, .int .i64 yn, .string ys] 43) = w2 at *
  go_wp2_with fail
  refine (cR _).mono ?_
  rintro e w3 ⟨rfl, hbn⟩
  replace hb := hb.step hbn
  replace P := P.step hbn
  replace X := X.step hbn
  clear hbn
  go_upto_region 2 with fail
  obtain ⟨gR, hgR⟩ : ∃ g, (w3).heap.size = g := ⟨_, rfl⟩
  have lt_P_R := P.lt
  rw [hgR] at lt_P_R
  have lt_X_R := X.lt
  rw [hgR] at lt_X_R
  have R := Blk.newV hgR 51 #[.int .i64 c, .int .i64 sl, .int .i64 0, .int .i64 o, .int .i64 (-1), .int .i64 0, .int .i64 0, .int .i64 0, .int .i64 0, .string ⟨#[]⟩]
  have hbn := (Below.refl (w3).heap.size w3).alloc (Nat.le_refl _) (.cells #[.int .i64 c, .int .i64 sl, .int .i64 0, .int .i64 o, .int .i64 (-1), .int .i64 0, .int .i64 0, .int .i64 0, .int .i64 0, .string ⟨#[]⟩] 51)
  replace hb := hb.step hbn
  replace P := P.step hbn
  replace X := X.step hbn
  clear hbn
  rw [hgR]
  generalize (w3).alloc (.cells #[.int .i64 c, .int .i64 sl, .int .i64 0, .int .i64 o, .int .i64 (-1), .int .i64 0, .int .i64 0, .int .i64 0, .int .i64 0, .string ⟨#[]⟩] 51) = w4 at *
  go_wp2_with fail
  refine (cF _ (HE.out.step hb.out)).mono ?_
  rintro e w5 ⟨rfl, hbn⟩
  replace hb := hb.step hbn
  replace P := P.step hbn
  replace X := X.step hbn
  replace R := R.step hbn
  clear hbn
  have P_0 := P.cell (j := 0) rfl
  have P_1 := P.cell (j := 1) rfl
  have P_2 := P.cell (j := 2) rfl
  have P_3 := P.cell (j := 3) rfl
  have P_4 := P.cell (j := 4) rfl
  have P_5 := P.cell (j := 5) rfl
  have P_6 := P.cell (j := 6) rfl
  have X_0 := X.cell (j := 0) rfl
  have X_1 := X.cell (j := 1) rfl
  have X_2 := X.cell (j := 2) rfl
  have X_3 := X.cell (j := 3) rfl
  have X_4 := X.cell (j := 4) rfl
  have X_5 := X.cell (j := 5) rfl
  have X_6 := X.cell (j := 6) rfl
  go_wp2_with fail
  obtain ⟨gS, hgS⟩ : ∃ g, (w5).heap.size = g := ⟨_, rfl⟩
  have lt_P_S := P.lt
  rw [hgS] at lt_P_S
  have lt_X_S := X.lt
  rw [hgS] at lt_X_S
  have lt_R_S := R.lt
  rw [hgS] at lt_R_S
  have S := Blk.newV hgS 43 #[.int .i64 xw, .int .i64 xx, .int .i64 xy, .int .i64 xk, .int .i64 xm, .int .i64 xn, .string xs, .int .i64 yw, .int .i64 yx, .int .i64 yy, .int .i64 yk, .int .i64 ym, .int .i64 yn, .string ys]
  have hbn := (Below.refl (w5).heap.size w5).alloc (Nat.le_refl _) (.cells #[.int .i64 xw, .int .i64 xx, .int .i64 xy, .int .i64 xk, .int .i64 xm, .int .i64 xn, .string xs, .int .i64 yw, .int .i64 yx, .int .i64 yy, .int .i64 yk, .int .i64 ym, .int .i64 yn, .string ys] 43)
  replace hb := hb.step hbn
  replace P := P.step hbn
  replace P_0 := P.cell (j := 0) rfl
  replace P_1 := P.cell (j := 1) rfl
  replace P_2 := P.cell (j := 2) rfl
  replace P_3 := P.cell (j := 3) rfl
  replace P_4 := P.cell (j := 4) rfl
  replace P_5 := P.cell (j := 5) rfl
  replace P_6 := P.cell (j := 6) rfl
  replace X := X.step hbn
  replace X_0 := X.cell (j := 0) rfl
  replace X_1 := X.cell (j := 1) rfl
  replace X_2 := X.cell (j := 2) rfl
  replace X_3 := X.cell (j := 3) rfl
  replace X_4 := X.cell (j := 4) rfl
  replace X_5 := X.cell (j := 5) rfl
  replace X_6 := X.cell (j := 6) rfl
  replace R := R.step hbn
  clear hbn
  rw [hgS]
  generalize (w5).alloc (.cells #[.int .i64 xw, .int .i64 xx, .int .i64 xy, .int .i64 xk, .int .i64 xm, .int .i64 xn, .string xs, .int .i64 yw, .int .i64 yx, .int .i64 yy, .int .i64 yk, .int .i64 ym, .int .i64 yn, .string ys] 43) = w6 at *
  have c2 : ∀ W, HasAc W (some ⟨gS, 0, none⟩) _ → Calls Tryd.prog 12 #[.slice (some ⟨gS, 0, none⟩) 2 2, .int .i64 2] W _ := fun W hE => few_any [⟨xw, xx, xy, xk, xm, xn, xs⟩, ⟨yw, yx, yy, yk, ym, yn, ys⟩] (some ⟨gS, 0, none⟩) 2 2 W hE (by simp) (by intro e he; simp at he; rcases he with rfl | rfl; exact hx; exact hy)
  rw [hf2] at c2
  refine (c2 _ (two_acts S)).mono ?_
  rintro e w7 ⟨rfl, hbn⟩
  replace hb := hb.step hbn
  replace P := P.step hbn
  replace P_0 := P.cell (j := 0) rfl
  replace P_1 := P.cell (j := 1) rfl
  replace P_2 := P.cell (j := 2) rfl
  replace P_3 := P.cell (j := 3) rfl
  replace P_4 := P.cell (j := 4) rfl
  replace P_5 := P.cell (j := 5) rfl
  replace P_6 := P.cell (j := 6) rfl
  replace X := X.step hbn
  replace X_0 := X.cell (j := 0) rfl
  replace X_1 := X.cell (j := 1) rfl
  replace X_2 := X.cell (j := 2) rfl
  replace X_3 := X.cell (j := 3) rfl
  replace X_4 := X.cell (j := 4) rfl
  replace X_5 := X.cell (j := 5) rfl
  replace X_6 := X.cell (j := 6) rfl
  replace R := R.step hbn
  replace S := S.step hbn
  clear hbn c2
  go_wp2_with fail
  refine (cN _).mono ?_
  rintro e w8 ⟨⟨g, rfl, hA, hg⟩, hbn⟩
  have hgw : w.heap.size ≤ g := Nat.le_trans hb.size hg
  have hgS : gS < g := Nat.lt_of_lt_of_le S.lt hg
  replace hb := hb.step hbn
  replace P := P.step hbn
  replace P_0 := P.cell (j := 0) rfl
  replace P_1 := P.cell (j := 1) rfl
  replace P_2 := P.cell (j := 2) rfl
  replace P_3 := P.cell (j := 3) rfl
  replace P_4 := P.cell (j := 4) rfl
  replace P_5 := P.cell (j := 5) rfl
  replace P_6 := P.cell (j := 6) rfl
  replace X := X.step hbn
  replace X_0 := X.cell (j := 0) rfl
  replace X_1 := X.cell (j := 1) rfl
  replace X_2 := X.cell (j := 2) rfl
  replace X_3 := X.cell (j := 3) rfl
  replace X_4 := X.cell (j := 4) rfl
  replace X_5 := X.cell (j := 5) rfl
  replace X_6 := X.cell (j := 6) rfl
  replace R := R.step hbn
  replace S := S.step hbn
  clear hbn hg S
  obtain ⟨B, hB⟩ : ∃ B, w.heap.size = B := ⟨_, rfl⟩
  have hXB : w.heap.size ≤ gR := by omega
  have hgX : gR < g := by omega
  clear cN cR cF
  go_upto_region 6 with fail
  go_loopw [15] (fun i wr => ∃ (j : Nat) (A : Acc), i = .int .i64 j ∧ j ≤ N ∧ AW wr g A ∧ InvA A ∧ Blk wr gR 51 (refL A) ∧ Blk wr gP 43 [.int .i64 xw, .int .i64 xx, .int .i64 xy, .int .i64 xk, .int .i64 xm, .int .i64 xn, .string xs] ∧ Blk wr gX 43 [.int .i64 yw, .int .i64 yx, .int .i64 yy, .int .i64 yk, .int .i64 ym, .int .i64 yn, .string ys] ∧ From w wr) (fun i _ => N - (intOf i).toNat)
  case atStart => exact ⟨0, _, rfl, by omega, hA, hI0, R, P, X, hb⟩
  case round =>
    clear P_0 P_1 P_2 P_3 P_4 P_5 P_6
    clear X_0 X_1 X_2 X_3 X_4 X_5 X_6
    clear hA hI0 R P X hb
    obtain ⟨j, A, rfl, hj, hA, hI, R, P, X, hb⟩ := hrel
    by_cases hlt : j < N
    · obtain ⟨e, he⟩ : ∃ e, l[j]? = some e := ⟨l[j], by simp [hN, hlt]⟩
      have hQ := (HE.out.step hb.out) j e he
      obtain ⟨b, off, rfl, hQ⟩ := hQ
      have hbB : b < B := by
        obtain ⟨b', off', h1, h2⟩ := HE.out j e he
        cases h1
        exact hB ▸ World.block_lt_of_cell? w _ h2.h0
      have hj0 : (0 : Int) ≤ (j : Int) := by omega
      have hj1 : (j : Int) < (N : Int) := by omega
      have hse := HS.out e (List.mem_of_getElem? he)
      have cA := fun W (hW : From w W) (hA : AW W g A) => act14_any g A e W hA hI.c (hT.step hW.out) hse
      have hI2 := act_inv hI e
      unfold actP at cA
      generalize actA A e = A2 at *
      obtain ⟨ew, ex, ey, ek, em, en, es⟩ := e
      unfold refV acVal at cA
      unfold refL at R
      simp only at cA
      have hXg : gR ∉ [g] := by simp; omega
      have R_0 := extA_cell (R.cell (j := 0) rfl)
      have R_1 := extA_cell (R.cell (j := 1) rfl)
      have R_2 := extA_cell (R.cell (j := 2) rfl)
      have R_3 := extA_cell (R.cell (j := 3) rfl)
      have R_4 := extA_cell (R.cell (j := 4) rfl)
      have R_5 := extA_cell (R.cell (j := 5) rfl)
      have R_6 := extA_cell (R.cell (j := 6) rfl)
      have R_7 := extA_cell (R.cell (j := 7) rfl)
      have R_8 := extA_cell (R.cell (j := 8) rfl)
      have R_9 := extA_cell (R.cell (j := 9) rfl)
      have q0 := extA_cell hQ.h0
      have q1 := extA_cell hQ.h1
      have q2 := extA_cell hQ.h2
      have q3 := extA_cell hQ.h3
      have q4 := extA_cell hQ.h4
      have q5 := extA_cell hQ.h5
      have q6 := extA_cell hQ.h6
      simp only at q0 q1 q2 q3 q4 q5 q6
      clear hQ he HS HE
      go_upto_region 8 with fail
      refine wp_region_head (C := ExtA wr) 6 (by kernel_rfl) (by decide) (by kernel_rfl) ⟨rfl, rfl, rfl, Nat.le_refl _, fun _ _ => rfl⟩ ?_
      simp only [List.take_succ_cons, List.take_zero]
      repeat
        (first
          | go_big_quiet_skip
          | (go_big_quiet_want
             go_big_quiet_op
             first
               | go_big_quiet_on
               | (apply Exists.intro
                  refine ⟨fun w' hC => ?_, ?_⟩
                  · (first
                      | with_reducible rfl
                      | fail
                      | (go_simp; done)
                      | (go_simp; with_reducible rfl))
                  go_big_quiet_on)))
      refine wpQuiet_nil ?_
      intro wq hq
      have hAq := hA.step hq
      have hbq := hb.step hq
      have Rq := R.step hq
      have Pq := P.step hq
      have Xq := X.step hq
      change wpAny _ _ _ _ (4 + 1) _ _ _
      refine wpAny_ready (rs := [6]) (by kernel_rfl) (by simp) ?_
      refine AllReady.cons rfl (fun K hK => ?_) AllReady.nil
      go_simp
      refine (cA _ hbq hAq).mono ?_
      rintro e wz ⟨rfl, h7, hK7⟩
      have XT := hK7.blk Rq hXg
      refine hK _ _ ?_
      clear hK K
      refine wpAny_take (i := 7) (v := ?_) rfl (by kernel_rfl) (by kernel_rfl) (by kernel_rfl) (fun _ _ _ h => h) (Or.inl ⟨by kernel_rfl, ?_⟩) ?_
      rotate_left
      · intro W
        go_simp
        try with_reducible rfl
      dsimp only [Act.put]
      refine wpAny_take (i := 8) (v := ?_) rfl (by kernel_rfl) (by kernel_rfl) (by kernel_rfl) (fun _ _ _ h => h) (Or.inl ⟨by kernel_rfl, ?_⟩) ?_
      rotate_left
      · intro W
        go_simp
        try with_reducible rfl
      dsimp only [Act.put]
      refine wpAny_take (i := 9) (v := ?_) rfl (by kernel_rfl) (by kernel_rfl) (by kernel_rfl) (fun _ _ _ h => h) (Or.inl ⟨by kernel_rfl, ?_⟩) ?_
      rotate_left
      · intro W
        go_simp
        try with_reducible rfl
      dsimp only [Act.put]
      clear R_0 R_1 R_2 R_3 R_4 R_5 R_6 R_7 R_8 R_9 q0 q1 q2 q3 q4 q5 q6
      clear hA hb R P X
      have Z := XT
      have Z_0 := Z.cell (j := 0) rfl
      have Z_1 := Z.cell (j := 1) rfl
      have Z_2 := Z.cell (j := 2) rfl
      have Z_3 := Z.cell (j := 3) rfl
      have Z_4 := Z.cell (j := 4) rfl
      have Z_5 := Z.cell (j := 5) rfl
      have Z_6 := Z.cell (j := 6) rfl
      have Z_7 := Z.cell (j := 7) rfl
      have Z_8 := Z.cell (j := 8) rfl
      have Z_9 := Z.cell (j := 9) rfl
      have Zf0 := Z.frozen 0
      have Zf1 := Z.frozen 1
      have Zf2 := Z.frozen 2
      have Zf3 := Z.frozen 3
      have Zf4 := Z.frozen 4
      have Zf5 := Z.frozen 5
      have Zf6 := Z.frozen 6
      have Zf7 := Z.frozen 7
      have Zf8 := Z.frozen 8
      have Zf9 := Z.frozen 9
      have hA := h7
      have hb := hbq.kx hK7 (by simp; omega)
      have P := Pq.kx hK7 (by simp; omega)
      have X := Xq.kx hK7 (by simp; omega)
      refine wpAny_ready (rs := [10]) (by kernel_rfl) (by simp) ?_
      refine AllReady.cons rfl (fun K hK => ?_) AllReady.nil
      go_simp
      have hkn : Kx [gR] wz ((((((((((wz.setCell ⟨gR, 0, none⟩ (.int .i64 A2.c)).setCell ⟨gR, 1, none⟩ (.int .i64 A2.sl)).setCell ⟨gR, 2, none⟩ (.int .i64 A2.r)).setCell ⟨gR, 3, none⟩ (.int .i64 A2.p)).setCell ⟨gR, 4, none⟩ (.int .i64 A2.ar)).setCell ⟨gR, 5, none⟩ (.int .i64 A2.ap)).setCell ⟨gR, 6, none⟩ (.int .i64 A2.k)).setCell ⟨gR, 7, none⟩ (.int .i64 A2.m)).setCell ⟨gR, 8, none⟩ (.int .i64 A2.n)).setCell ⟨gR, 9, none⟩ (.string A2.s)) := Kx.setCells [.int .i64 A2.c, .int .i64 A2.sl, .int .i64 A2.r, .int .i64 A2.p, .int .i64 A2.ar, .int .i64 A2.ap, .int .i64 A2.k, .int .i64 A2.m, .int .i64 A2.n, .string A2.s] 0 _ (Kx.refl _ _) (.inl (by simp))
      replace XT : Blk ((((((((((wz.setCell ⟨gR, 0, none⟩ (.int .i64 A2.c)).setCell ⟨gR, 1, none⟩ (.int .i64 A2.sl)).setCell ⟨gR, 2, none⟩ (.int .i64 A2.r)).setCell ⟨gR, 3, none⟩ (.int .i64 A2.p)).setCell ⟨gR, 4, none⟩ (.int .i64 A2.ar)).setCell ⟨gR, 5, none⟩ (.int .i64 A2.ap)).setCell ⟨gR, 6, none⟩ (.int .i64 A2.k)).setCell ⟨gR, 7, none⟩ (.int .i64 A2.m)).setCell ⟨gR, 8, none⟩ (.int .i64 A2.n)).setCell ⟨gR, 9, none⟩ (.string A2.s)) gR 51 [.int .i64 A2.c, .int .i64 A2.sl, .int .i64 A2.r, .int .i64 A2.p, .int .i64 A2.ar, .int .i64 A2.ap, .int .i64 A2.k, .int .i64 A2.m, .int .i64 A2.n, .string A2.s] := Blk.puts [.int .i64 A2.c, .int .i64 A2.sl, .int .i64 A2.r, .int .i64 A2.p, .int .i64 A2.ar, .int .i64 A2.ap, .int .i64 A2.k, .int .i64 A2.m, .int .i64 A2.n, .string A2.s] XT rfl
      replace hA := hA.kx hkn (by first | (simp; done) | (simp; omega))
      replace hb := hb.kx hkn (by first | (simp; done) | (simp; omega))
      replace P := P.kx hkn (by first | (simp; done) | (simp; omega))
      replace X := X.kx hkn (by first | (simp; done) | (simp; omega))
      clear hkn
      generalize (((((((((wz.setCell ⟨gR, 0, none⟩ (.int .i64 A2.c)).setCell ⟨gR, 1, none⟩ (.int .i64 A2.sl)).setCell ⟨gR, 2, none⟩ (.int .i64 A2.r)).setCell ⟨gR, 3, none⟩ (.int .i64 A2.p)).setCell ⟨gR, 4, none⟩ (.int .i64 A2.ar)).setCell ⟨gR, 5, none⟩ (.int .i64 A2.ap)).setCell ⟨gR, 6, none⟩ (.int .i64 A2.k)).setCell ⟨gR, 7, none⟩ (.int .i64 A2.m)).setCell ⟨gR, 8, none⟩ (.int .i64 A2.n)).setCell ⟨gR, 9, none⟩ (.string A2.s) = ws at *
      refine hK _ _ ?_
      clear hK K
      refine wpAny_done (by kernel_rfl) ?_ _
      go_wp2_with fail
      go_roundw
      case rel => exact ⟨j + 1, A2, by go_num, by omega, hA, hI2, XT, P, X, hb⟩
      case measure => simp [intOf]; omega
    · obtain rfl : j = N := by omega
      have cA2 := fun W (hW : From w W) (hA : AW W g A) => act14_any g A ⟨xw, xx, xy, xk, xm, xn, xs⟩ W hA hI.c (hT.step hW.out) hx
      have hI2 := act_inv hI ⟨xw, xx, xy, xk, xm, xn, xs⟩
      have hc2 := act_c A ⟨xw, xx, xy, xk, xm, xn, xs⟩
      have HC2 := Lib.hid hc2
      clear hc2
      have hI3 := act_inv hI ⟨yw, yx, yy, yk, ym, yn, ys⟩
      unfold actP at cA2
      unfold refV acVal at cA2
      unfold refL at R
      simp only at cA2
      generalize actA A ⟨xw, xx, xy, xk, xm, xn, xs⟩ = A2 at *
      go_wp2_with fail
      refine (copy14_any g A _ hA hI.c).mono ?_
      rintro e w9 ⟨⟨o2, rfl, hO, ho⟩, hbn⟩
      have hgo : g < o2 := Nat.lt_of_lt_of_le hA.lt ho
      replace hb := hb.step hbn
      replace hA := hA.step hbn
      replace R := R.step hbn
      replace P := P.step hbn
      replace X := X.step hbn
      clear hbn ho
      have R_0 := R.cell (j := 0) rfl
      have R_1 := R.cell (j := 1) rfl
      have R_2 := R.cell (j := 2) rfl
      have R_3 := R.cell (j := 3) rfl
      have R_4 := R.cell (j := 4) rfl
      have R_5 := R.cell (j := 5) rfl
      have R_6 := R.cell (j := 6) rfl
      have R_7 := R.cell (j := 7) rfl
      have R_8 := R.cell (j := 8) rfl
      have R_9 := R.cell (j := 9) rfl
      have cS0 := fun W h1 h2 => same14_any g o2 A A W h1 h2 hI.c rfl rfl
      rw [same_self] at cS0
      go_wp2_with fail
      refine (num14_any 0 _).mono ?_
      rintro e wx ⟨rfl, rfl⟩
      go_wp2_with fail
      refine (cS0 _ hA hO).mono ?_
      rintro e w10 ⟨rfl, hbn⟩
      replace hb := hb.step hbn
      replace hA := hA.step hbn
      replace R := R.step hbn
      replace R_0 := R.cell (j := 0) rfl
      replace R_1 := R.cell (j := 1) rfl
      replace R_2 := R.cell (j := 2) rfl
      replace R_3 := R.cell (j := 3) rfl
      replace R_4 := R.cell (j := 4) rfl
      replace R_5 := R.cell (j := 5) rfl
      replace R_6 := R.cell (j := 6) rfl
      replace R_7 := R.cell (j := 7) rfl
      replace R_8 := R.cell (j := 8) rfl
      replace R_9 := R.cell (j := 9) rfl
      replace P := P.step hbn
      replace X := X.step hbn
      replace hO := hO.step hbn
      clear hbn
      go_wp2_with fail
      refine (is14_any o2 A _ hO hI.c hI.good).mono ?_
      rintro e w11 ⟨rfl, hbn⟩
      replace hb := hb.step hbn
      replace hA := hA.step hbn
      replace R := R.step hbn
      replace R_0 := R.cell (j := 0) rfl
      replace R_1 := R.cell (j := 1) rfl
      replace R_2 := R.cell (j := 2) rfl
      replace R_3 := R.cell (j := 3) rfl
      replace R_4 := R.cell (j := 4) rfl
      replace R_5 := R.cell (j := 5) rfl
      replace R_6 := R.cell (j := 6) rfl
      replace R_7 := R.cell (j := 7) rfl
      replace R_8 := R.cell (j := 8) rfl
      replace R_9 := R.cell (j := 9) rfl
      replace P := P.step hbn
      replace X := X.step hbn
      replace hO := hO.step hbn
      clear hbn
      have P_0 := P.cell (j := 0) rfl
      have P_1 := P.cell (j := 1) rfl
      have P_2 := P.cell (j := 2) rfl
      have P_3 := P.cell (j := 3) rfl
      have P_4 := P.cell (j := 4) rfl
      have P_5 := P.cell (j := 5) rfl
      have P_6 := P.cell (j := 6) rfl
      clear cS0
      go_wp2_with fail
      refine (cA2 _ hb hA).mono ?_
      rintro e w12 ⟨rfl, hA, hbn⟩
      replace hb := hb.kx hbn (by first | (simp; done) | (simp; omega))
      replace R := R.kx hbn (by first | (simp; done) | (simp; omega))
      replace R_0 := R.cell (j := 0) rfl
      replace R_1 := R.cell (j := 1) rfl
      replace R_2 := R.cell (j := 2) rfl
      replace R_3 := R.cell (j := 3) rfl
      replace R_4 := R.cell (j := 4) rfl
      replace R_5 := R.cell (j := 5) rfl
      replace R_6 := R.cell (j := 6) rfl
      replace R_7 := R.cell (j := 7) rfl
      replace R_8 := R.cell (j := 8) rfl
      replace R_9 := R.cell (j := 9) rfl
      replace P := P.kx hbn (by first | (simp; done) | (simp; omega))
      replace P_0 := P.cell (j := 0) rfl
      replace P_1 := P.cell (j := 1) rfl
      replace P_2 := P.cell (j := 2) rfl
      replace P_3 := P.cell (j := 3) rfl
      replace P_4 := P.cell (j := 4) rfl
      replace P_5 := P.cell (j := 5) rfl
      replace P_6 := P.cell (j := 6) rfl
      replace X := X.kx hbn (by first | (simp; done) | (simp; omega))
      replace hO := hO.kx hbn (by first | (simp; done) | (simp; omega))
      clear hbn
      clear P_0 P_1 P_2 P_3 P_4 P_5 P_6
      clear P cA2
      go_upto_region 13 with fail
      obtain ⟨gN2, hgN2⟩ : ∃ g, (w12).heap.size = g := ⟨_, rfl⟩
      have lt_R_N2 := R.lt
      rw [hgN2] at lt_R_N2
      have lt_X_N2 := X.lt
      rw [hgN2] at lt_X_N2
      have lt_hO_N2 := hO.lt
      rw [hgN2] at lt_hO_N2
      have lt_hA_N2 := hA.lt
      rw [hgN2] at lt_hA_N2
      have N2 := Blk.newV hgN2 51 #[.int .i64 A2.c, .int .i64 A2.sl, .int .i64 A2.r, .int .i64 A2.p, .int .i64 A2.ar, .int .i64 A2.ap, .int .i64 A2.k, .int .i64 A2.m, .int .i64 A2.n, .string A2.s]
      have hbn := (Below.refl (w12).heap.size w12).alloc (Nat.le_refl _) (.cells #[.int .i64 A2.c, .int .i64 A2.sl, .int .i64 A2.r, .int .i64 A2.p, .int .i64 A2.ar, .int .i64 A2.ap, .int .i64 A2.k, .int .i64 A2.m, .int .i64 A2.n, .string A2.s] 51)
      replace hb := hb.step hbn
      replace R := R.step hbn
      replace R_0 := R.cell (j := 0) rfl
      replace R_1 := R.cell (j := 1) rfl
      replace R_2 := R.cell (j := 2) rfl
      replace R_3 := R.cell (j := 3) rfl
      replace R_4 := R.cell (j := 4) rfl
      replace R_5 := R.cell (j := 5) rfl
      replace R_6 := R.cell (j := 6) rfl
      replace R_7 := R.cell (j := 7) rfl
      replace R_8 := R.cell (j := 8) rfl
      replace R_9 := R.cell (j := 9) rfl
      replace X := X.step hbn
      replace hO := hO.step hbn
      replace hA := hA.step hbn
      clear hbn
      rw [hgN2]
      generalize (w12).alloc (.cells #[.int .i64 A2.c, .int .i64 A2.sl, .int .i64 A2.r, .int .i64 A2.p, .int .i64 A2.ar, .int .i64 A2.ap, .int .i64 A2.k, .int .i64 A2.m, .int .i64 A2.n, .string A2.s] 51) = w13 at *
      have cS1 := fun W h1 h2 => same14_any g o2 A2 A W h1 h2 hI2.c HC2.out.1.symm HC2.out.2.symm
      have cS2 := fun W h1 h2 => same14_any o2 g A A2 W h1 h2 hI.c HC2.out.1 HC2.out.2
      rw [same_symm] at cS2
      have hEQ := fun W => eq_ref14 A2.r A2.p A2.ar A2.ap A2.k A2.m A2.n A2.s A.r A.p A.ar A.ap A.k A.m A.n A.s A2.c A2.sl W
      rw [HC2.out.1, HC2.out.2] at hEQ
      have hN2 := N2
      rw [HC2.out.1, HC2.out.2] at hN2
      unfold sameA at cS1 cS2
      generalize eq8 A2.r A2.p A2.ar A2.ap A2.k A2.m A2.n A2.s A.r A.p A.ar A.ap A.k A.m A.n A.s = V at cS1 cS2 hEQ
      have cS : ∀ (p q : Nat), ((p = g ∧ q = o2) ∨ (p = o2 ∧ q = g)) → ∀ W, AW W g A2 → AW W o2 A → Calls Tryd.prog 22 #[.pointer (some ⟨p, 0, none⟩), .pointer (some ⟨q, 0, none⟩)] W (fun e w' => e = .returned (.bool V) ∧ Below W.heap.size W w') := by
        rintro p q (⟨rfl, rfl⟩ | ⟨rfl, rfl⟩) W h1 h2
        · exact cS1 W h1 h2
        · exact cS2 W h2 h1
      clear cS1 cS2
      clear R_0 R_1 R_2 R_3 R_4 R_5 R_6 R_7 R_8 R_9
      have R_0 := extA_cell (R.cell (j := 0) rfl)
      have R_1 := extA_cell (R.cell (j := 1) rfl)
      have R_2 := extA_cell (R.cell (j := 2) rfl)
      have R_3 := extA_cell (R.cell (j := 3) rfl)
      have R_4 := extA_cell (R.cell (j := 4) rfl)
      have R_5 := extA_cell (R.cell (j := 5) rfl)
      have R_6 := extA_cell (R.cell (j := 6) rfl)
      have R_7 := extA_cell (R.cell (j := 7) rfl)
      have R_8 := extA_cell (R.cell (j := 8) rfl)
      have R_9 := extA_cell (R.cell (j := 9) rfl)
      have hN2_0 := extA_cell (hN2.cell (j := 0) rfl)
      have hN2_1 := extA_cell (hN2.cell (j := 1) rfl)
      have hN2_2 := extA_cell (hN2.cell (j := 2) rfl)
      have hN2_3 := extA_cell (hN2.cell (j := 3) rfl)
      have hN2_4 := extA_cell (hN2.cell (j := 4) rfl)
      have hN2_5 := extA_cell (hN2.cell (j := 5) rfl)
      have hN2_6 := extA_cell (hN2.cell (j := 6) rfl)
      have hN2_7 := extA_cell (hN2.cell (j := 7) rfl)
      have hN2_8 := extA_cell (hN2.cell (j := 8) rfl)
      have hN2_9 := extA_cell (hN2.cell (j := 9) rfl)
      refine wp_region_extB (by kernel_rfl) (by kernel_rfl) ?_
      repeat
        (first
          | go_big_quiet_skip
          | (go_big_quiet_want
             go_big_quiet_op
             first
               | go_big_quiet_on
               | (apply Exists.intro
                  refine ⟨fun w' hC => ?_, ?_⟩
                  · (first
                      | with_reducible rfl
                      | (go_at_call 22; refine (cS _ _ (by first | exact .inl ⟨rfl, rfl⟩ | exact .inr ⟨rfl, rfl⟩) _ (hA.step hC) (hO.step hC)).mono ?_; rintro e w2 ⟨rfl, hb9⟩; exact ⟨rfl, extA_then hC hb9⟩)
                      | (go_simp; done)
                      | (go_simp; with_reducible rfl))
                  go_big_quiet_on)))
      refine wpQuiet_nil ?_
      intro w14 hbn
      replace hb := hb.step hbn
      replace R := R.step hbn
      replace X := X.step hbn
      replace hO := hO.step hbn
      replace hA := hA.step hbn
      replace N2 := N2.step hbn
      clear hbn cS hEQ
      clear R_0 R_1 R_2 R_3 R_4 R_5 R_6 R_7 R_8 R_9
      clear hN2_0 hN2_1 hN2_2 hN2_3 hN2_4 hN2_5 hN2_6 hN2_7 hN2_8 hN2_9
      clear hN2
      have cA3 := fun W (hW : From w W) (hO : AW W o2 A) => act14_any o2 A ⟨yw, yx, yy, yk, ym, yn, ys⟩ W hO hI.c (hT.step hW.out) hy
      unfold actP at cA3
      unfold refV acVal at cA3
      simp only at cA3
      generalize actA A ⟨yw, yx, yy, yk, ym, yn, ys⟩ = A3 at *
      have R_0 := R.cell (j := 0) rfl
      have R_1 := R.cell (j := 1) rfl
      have R_2 := R.cell (j := 2) rfl
      have R_3 := R.cell (j := 3) rfl
      have R_4 := R.cell (j := 4) rfl
      have R_5 := R.cell (j := 5) rfl
      have R_6 := R.cell (j := 6) rfl
      have R_7 := R.cell (j := 7) rfl
      have R_8 := R.cell (j := 8) rfl
      have R_9 := R.cell (j := 9) rfl
      have X_0 := X.cell (j := 0) rfl
      have X_1 := X.cell (j := 1) rfl
      have X_2 := X.cell (j := 2) rfl
      have X_3 := X.cell (j := 3) rfl
      have X_4 := X.cell (j := 4) rfl
      have X_5 := X.cell (j := 5) rfl
      have X_6 := X.cell (j := 6) rfl
      go_wp2_with fail
      refine (cA3 _ hb hO).mono ?_
      rintro e w15 ⟨rfl, hO, hbn⟩
      replace hb := hb.kx hbn (by first | (simp; done) | (simp; omega))
      replace hA := hA.kx hbn (by first | (simp; done) | (simp; omega))
      replace R := R.kx hbn (by first | (simp; done) | (simp; omega))
      replace R_0 := R.cell (j := 0) rfl
      replace R_1 := R.cell (j := 1) rfl
      replace R_2 := R.cell (j := 2) rfl
      replace R_3 := R.cell (j := 3) rfl
      replace R_4 := R.cell (j := 4) rfl
      replace R_5 := R.cell (j := 5) rfl
      replace R_6 := R.cell (j := 6) rfl
      replace R_7 := R.cell (j := 7) rfl
      replace R_8 := R.cell (j := 8) rfl
      replace R_9 := R.cell (j := 9) rfl
      replace X := X.kx hbn (by first | (simp; done) | (simp; omega))
      replace X_0 := X.cell (j := 0) rfl
      replace X_1 := X.cell (j := 1) rfl
      replace X_2 := X.cell (j := 2) rfl
      replace X_3 := X.cell (j := 3) rfl
      replace X_4 := X.cell (j := 4) rfl
      replace X_5 := X.cell (j := 5) rfl
      replace X_6 := X.cell (j := 6) rfl
      replace N2 := N2.kx hbn (by first | (simp; done) | (simp; omega))
      clear hbn
      clear R_0 R_1 R_2 R_3 R_4 R_5 R_6 R_7 R_8 R_9
      clear X_0 X_1 X_2 X_3 X_4 X_5 X_6
      clear R X cA3
      go_upto_region 16 with fail
      obtain ⟨gN3, hgN3⟩ : ∃ g, (w15).heap.size = g := ⟨_, rfl⟩
      have lt_hA_N3 := hA.lt
      rw [hgN3] at lt_hA_N3
      have lt_N2_N3 := N2.lt
      rw [hgN3] at lt_N2_N3
      have lt_hO_N3 := hO.lt
      rw [hgN3] at lt_hO_N3
      have N3 := Blk.newV hgN3 51 #[.int .i64 A3.c, .int .i64 A3.sl, .int .i64 A3.r, .int .i64 A3.p, .int .i64 A3.ar, .int .i64 A3.ap, .int .i64 A3.k, .int .i64 A3.m, .int .i64 A3.n, .string A3.s]
      have hbn := (Below.refl (w15).heap.size w15).alloc (Nat.le_refl _) (.cells #[.int .i64 A3.c, .int .i64 A3.sl, .int .i64 A3.r, .int .i64 A3.p, .int .i64 A3.ar, .int .i64 A3.ap, .int .i64 A3.k, .int .i64 A3.m, .int .i64 A3.n, .string A3.s] 51)
      replace hb := hb.step hbn
      replace hA := hA.step hbn
      replace N2 := N2.step hbn
      replace hO := hO.step hbn
      clear hbn
      rw [hgN3]
      generalize (w15).alloc (.cells #[.int .i64 A3.c, .int .i64 A3.sl, .int .i64 A3.r, .int .i64 A3.p, .int .i64 A3.ar, .int .i64 A3.ap, .int .i64 A3.k, .int .i64 A3.m, .int .i64 A3.n, .string A3.s] 51) = w16 at *
      have N2_0 := N2.cell (j := 0) rfl
      have N2_1 := N2.cell (j := 1) rfl
      have N2_2 := N2.cell (j := 2) rfl
      have N2_3 := N2.cell (j := 3) rfl
      have N2_4 := N2.cell (j := 4) rfl
      have N2_5 := N2.cell (j := 5) rfl
      have N2_6 := N2.cell (j := 6) rfl
      have N2_7 := N2.cell (j := 7) rfl
      have N2_8 := N2.cell (j := 8) rfl
      have N2_9 := N2.cell (j := 9) rfl
      have N3_0 := N3.cell (j := 0) rfl
      have N3_1 := N3.cell (j := 1) rfl
      have N3_2 := N3.cell (j := 2) rfl
      have N3_3 := N3.cell (j := 3) rfl
      have N3_4 := N3.cell (j := 4) rfl
      have N3_5 := N3.cell (j := 5) rfl
      have N3_6 := N3.cell (j := 6) rfl
      have N3_7 := N3.cell (j := 7) rfl
      have N3_8 := N3.cell (j := 8) rfl
      have N3_9 := N3.cell (j := 9) rfl
      go_wp2_with fail
      refine (is14_any g A2 _ hA hI2.c hI2.good).mono ?_
      rintro e w17 ⟨rfl, hbn⟩
      replace hb := hb.step hbn
      replace hA := hA.step hbn
      replace N2 := N2.step hbn
      replace N2_0 := N2.cell (j := 0) rfl
      replace N2_1 := N2.cell (j := 1) rfl
      replace N2_2 := N2.cell (j := 2) rfl
      replace N2_3 := N2.cell (j := 3) rfl
      replace N2_4 := N2.cell (j := 4) rfl
      replace N2_5 := N2.cell (j := 5) rfl
      replace N2_6 := N2.cell (j := 6) rfl
      replace N2_7 := N2.cell (j := 7) rfl
      replace N2_8 := N2.cell (j := 8) rfl
      replace N2_9 := N2.cell (j := 9) rfl
      replace hO := hO.step hbn
      replace N3 := N3.step hbn
      replace N3_0 := N3.cell (j := 0) rfl
      replace N3_1 := N3.cell (j := 1) rfl
      replace N3_2 := N3.cell (j := 2) rfl
      replace N3_3 := N3.cell (j := 3) rfl
      replace N3_4 := N3.cell (j := 4) rfl
      replace N3_5 := N3.cell (j := 5) rfl
      replace N3_6 := N3.cell (j := 6) rfl
      replace N3_7 := N3.cell (j := 7) rfl
      replace N3_8 := N3.cell (j := 8) rfl
      replace N3_9 := N3.cell (j := 9) rfl
      clear hbn
      go_wp2_with fail
      refine (is14_any o2 A3 _ hO hI3.c hI3.good).mono ?_
      rintro e w18 ⟨rfl, hbn⟩
      replace hb := hb.step hbn
      replace hA := hA.step hbn
      replace N2 := N2.step hbn
      replace N2_0 := N2.cell (j := 0) rfl
      replace N2_1 := N2.cell (j := 1) rfl
      replace N2_2 := N2.cell (j := 2) rfl
      replace N2_3 := N2.cell (j := 3) rfl
      replace N2_4 := N2.cell (j := 4) rfl
      replace N2_5 := N2.cell (j := 5) rfl
      replace N2_6 := N2.cell (j := 6) rfl
      replace N2_7 := N2.cell (j := 7) rfl
      replace N2_8 := N2.cell (j := 8) rfl
      replace N2_9 := N2.cell (j := 9) rfl
      replace hO := hO.step hbn
      replace N3 := N3.step hbn
      replace N3_0 := N3.cell (j := 0) rfl
      replace N3_1 := N3.cell (j := 1) rfl
      replace N3_2 := N3.cell (j := 2) rfl
      replace N3_3 := N3.cell (j := 3) rfl
      replace N3_4 := N3.cell (j := 4) rfl
      replace N3_5 := N3.cell (j := 5) rfl
      replace N3_6 := N3.cell (j := 6) rfl
      replace N3_7 := N3.cell (j := 7) rfl
      replace N3_8 := N3.cell (j := 8) rfl
      replace N3_9 := N3.cell (j := 9) rfl
      clear hbn
      go_wp2_with fail
      refine (works14_any _ (hT.step hb.out)).mono ?_
      rintro e w19 ⟨rfl, hbn⟩
      replace hb := hb.step hbn
      replace hA := hA.step hbn
      replace N2 := N2.step hbn
      replace N2_0 := N2.cell (j := 0) rfl
      replace N2_1 := N2.cell (j := 1) rfl
      replace N2_2 := N2.cell (j := 2) rfl
      replace N2_3 := N2.cell (j := 3) rfl
      replace N2_4 := N2.cell (j := 4) rfl
      replace N2_5 := N2.cell (j := 5) rfl
      replace N2_6 := N2.cell (j := 6) rfl
      replace N2_7 := N2.cell (j := 7) rfl
      replace N2_8 := N2.cell (j := 8) rfl
      replace N2_9 := N2.cell (j := 9) rfl
      replace hO := hO.step hbn
      replace N3 := N3.step hbn
      replace N3_0 := N3.cell (j := 0) rfl
      replace N3_1 := N3.cell (j := 1) rfl
      replace N3_2 := N3.cell (j := 2) rfl
      replace N3_3 := N3.cell (j := 3) rfl
      replace N3_4 := N3.cell (j := 4) rfl
      replace N3_5 := N3.cell (j := 5) rfl
      replace N3_6 := N3.cell (j := 6) rfl
      replace N3_7 := N3.cell (j := 7) rfl
      replace N3_8 := N3.cell (j := 8) rfl
      replace N3_9 := N3.cell (j := 9) rfl
      clear hbn
      go_wp2
      go_ret
      exact ⟨rfl, hb⟩
theorem copies_walkx (c sl : Int) (p : Option Addr) (len cap : Nat) (x y : Ac) (w : World) (hT : Tabs w) (h : ∃ l : List Ac, l.length = len ∧ HasAc w p l ∧ (∀ e, e ∈ l → e.s.size ≤ maxLen) ∧ len ≤ maxLen) (hx : x.s.size ≤ maxLen) (hy : y.s.size ≤ maxLen) :
    Calls Tryd.prog 6 #[.int .i64 c, .int .i64 sl, .slice p len cap, acVal x, acVal y] w fun r w' => r = .returned (.bool true) ∧ Below w.heap.size w w' := by
  obtain ⟨l, rfl, hE, hs, hl⟩ := h
  have hl2 : l.length ≤ 9223372036854775807 := by unfold maxLen at hl; omega
  have hs2 : ∀ e, e ∈ l → e.s.size ≤ 9223372036854775807 := fun e he => by have := hs e he; unfold maxLen at this; omega
  have hx2 : x.s.size ≤ 9223372036854775807 := by unfold maxLen at hx; omega
  have hy2 : y.s.size ≤ 9223372036854775807 := by unfold maxLen at hy; omega
  cases hf : fewB l 20
  · exact copies_few c sl l p cap x y w hT hE hl2 hs2 hx2 hy2 hf
  · cases hf2 : fewB [x, y] 2
    · exact copies_two c sl l p cap x y w hT hE hl2 hs2 hx2 hy2 hf hf2
    · by_cases h0 : opErr c sl = 0
      · exact copies_yes c sl l p cap x y w hT hE hl2 hs2 hx2 hy2 hf hf2 h0
      · exact copies_no c sl l p cap x y w hT hE hl2 hs2 hx2 hy2 hf hf2 h0
end Go.Proofs.YtcokbljlgbcpkaaDoor
