
/- Walk of ChatCopies: two talks that go on apart. -/
import Derived.Test.YtndechodaegkiaaDoorChCf
namespace Go.Proofs.YtndechodaegkiaaDoor
open Go.RowKit
theorem off_low {ws : List Nat} {b k : Nat} (h : ∀ x, x ∈ ws → b ≤ x) (hk : k < b) : k ∉ ws := fun e => by have := h k e; omega
theorem off_high {ws : List Nat} {b k : Nat} (h : ∀ x, x ∈ ws → x < b) (hk : b ≤ k) : k ∉ ws := fun e => by have := h k e; omega
theorem TkW.kxs {ws : List Nat} {W W' : World} {base g : Nat} {v : Value} {t : Tk} (h : TkW W base g v t) (hK : Kx ws W W') (hg : g ∉ ws) (hv : ∀ k, v.ownBlock = some k → k ∉ ws) : TkW W' base g v t :=
  h.kx hK (fun x hx => by
    rcases List.mem_cons.1 hx with rfl | hx
    · exact hg
    · exact hv x (by simpa using hx))
set_option maxRecDepth 100000 in
set_option maxHeartbeats 8000000 in
theorem copies_yes (l : List En) (ao : Option Addr) (cap : Nat) (x y : En) (w : World) (hT : Tabs w) (hE : HasE w ao l) (hl : l.length ≤ 9223372036854775807) (hs : ∀ e, e ∈ l → e.s.size ≤ 9223372036854775807) (hx : x.s.size ≤ 9223372036854775807) (hy : y.s.size ≤ 9223372036854775807) (hf : fewB l 30 = true) (hf2 : fewB [x, y] 2 = true) (h0 : (newF tk0 0 l).2 = 0) :
    Calls Tryd.prog 8 #[.slice ao l.length cap, enV x, enV y] w fun e w' => e = .returned (.bool true) ∧ Below w.heap.size w w' := by
  have cF := fun W hE => few_any l ao cap 30 W hE hl
  rw [hf] at cF
  have hl30 := (few_small hf).1
  have hG : Good (newF tk0 0 l).1 := newF_good l 0 tk0 good0
  have cR : ∀ W, HasE W ao l → Calls Tryd.prog 19 #[.slice ao l.length cap] W fun r w' => (∃ sv, r = .returned (.tuple #[.agg #[.int .i64 (newF tk0 0 l).1.sl, sv], .int .i64 0]) ∧ DW w' W.heap.size sv (newF tk0 0 l).1.L) ∧ Below W.heap.size W w' := fun W hW => (refNew_any l ao cap W hW hs hl).mono (by
    intro r w' hr
    unfold dnP at hr
    rw [if_pos h0] at hr
    exact hr)
  have cN : ∀ W, HasE W ao l → Tabs W → Calls Tryd.prog 11 #[.slice ao l.length cap] W fun r w' => (∃ g v, r = .returned (.tuple #[.pointer (some ⟨g, 0, none⟩), .int .i64 0]) ∧ TkW w' W.heap.size g v (newF tk0 0 l).1 ∧ W.heap.size ≤ g) ∧ Below W.heap.size W w' := fun W hW hT => (new_any l ao cap W hW hT hs (by omega)).mono (by
    intro r w' hr
    unfold newP at hr
    rw [if_pos h0] at hr
    exact hr)
  generalize (newF tk0 0 l).1 = t at cR cN hG
  obtain ⟨N, hN⟩ : ∃ N, l.length = N := ⟨_, rfl⟩
  have hNI : (N : Int) ≤ 9223372036854775807 := by omega
  rw [hN] at cF cR cN ⊢
  have HE := Lib.hid hE
  clear hE
  clear hf hs h0 hl30
  obtain ⟨xk, xm, xn, xs⟩ := x
  obtain ⟨yk, ym, yn, ys⟩ := y
  unfold enV enL
  simp only at hx hy ⊢
  have hb := From.refl w
  go_enter Tryd.func8, Tryd.ntmps8
  go_upto_region 1 with fail
  obtain ⟨gP, hgP⟩ : ∃ g, (w).heap.size = g := ⟨_, rfl⟩
  have P := Blk.newV hgP 26 #[.int .i64 xk, .int .i64 xm, .int .i64 xn, .string xs]
  have hbn := (Below.refl (w).heap.size w).alloc (Nat.le_refl _) (.cells #[.int .i64 xk, .int .i64 xm, .int .i64 xn, .string xs] 26)
  replace hb := hb.step hbn
  clear hbn
  rw [hgP]
  have szP := alloc_size hgP (.cells #[.int .i64 xk, .int .i64 xm, .int .i64 xn, .string xs] 26)
  generalize (w).alloc (.cells #[.int .i64 xk, .int .i64 xm, .int .i64 xn, .string xs] 26) = w1 at *
  obtain ⟨gX, hgX⟩ : ∃ g, (w1).heap.size = g := ⟨_, rfl⟩
  have lt_P_X := P.lt
  rw [hgX] at lt_P_X
  have X := Blk.newV hgX 26 #[.int .i64 yk, .int .i64 ym, .int .i64 yn, .string ys]
  have hbn := (Below.refl (w1).heap.size w1).alloc (Nat.le_refl _) (.cells #[.int .i64 yk, .int .i64 ym, .int .i64 yn, .string ys] 26)
  replace hb := hb.step hbn
  replace P := P.step hbn
  clear hbn
  have egX : gP + 1 = gX := szP.symm.trans hgX
  rw [egX]
  clear szP
  generalize (w1).alloc (.cells #[.int .i64 yk, .int .i64 ym, .int .i64 yn, .string ys] 26) = w2 at *
  go_wp2_with fail
  refine (cR _ (HE.out.step hb.out)).mono ?_
  rintro e w3 ⟨⟨sv, rfl, hD⟩, hbn⟩
  obtain ⟨b1, hb1⟩ : ∃ b, w2.heap.size = b := ⟨_, rfl⟩
  have hb1w : b1 ≤ w3.heap.size := by have := hbn.size; omega
  rw [hb1] at hD
  clear hb1
  replace hb := hb.step hbn
  replace P := P.step hbn
  replace X := X.step hbn
  clear hbn cR
  obtain ⟨a, c2, rfl⟩ := hD.sl
  go_upto_region 2 with fail
  obtain ⟨gR, hgR⟩ : ∃ g, (w3).heap.size = g := ⟨_, rfl⟩
  have lt_P_R := P.lt
  rw [hgR] at lt_P_R
  have lt_X_R := X.lt
  rw [hgR] at lt_X_R
  have R := Blk.newV hgR 49 #[.int .i64 t.sl, .slice a t.L.length c2]
  have hbn := (Below.refl (w3).heap.size w3).alloc (Nat.le_refl _) (.cells #[.int .i64 t.sl, .slice a t.L.length c2] 49)
  replace hb := hb.step hbn
  replace P := P.step hbn
  replace X := X.step hbn
  replace hD := hD.step hbn
  clear hbn
  rw [hgR]
  generalize (w3).alloc (.cells #[.int .i64 t.sl, .slice a t.L.length c2] 49) = w4 at *
  go_wp2_with fail
  refine (cF _ (HE.out.step hb.out)).mono ?_
  rintro e w5 ⟨rfl, rfl⟩
  have P_0 := P.cell (j := 0) rfl
  have P_1 := P.cell (j := 1) rfl
  have P_2 := P.cell (j := 2) rfl
  have P_3 := P.cell (j := 3) rfl
  have X_0 := X.cell (j := 0) rfl
  have X_1 := X.cell (j := 1) rfl
  have X_2 := X.cell (j := 2) rfl
  have X_3 := X.cell (j := 3) rfl
  go_wp2_with fail
  obtain ⟨gS, hgS⟩ : ∃ g, (w4).heap.size = g := ⟨_, rfl⟩
  have lt_P_S := P.lt
  rw [hgS] at lt_P_S
  have lt_X_S := X.lt
  rw [hgS] at lt_X_S
  have lt_R_S := R.lt
  rw [hgS] at lt_R_S
  have S := Blk.newV hgS 26 #[.int .i64 xk, .int .i64 xm, .int .i64 xn, .string xs, .int .i64 yk, .int .i64 ym, .int .i64 yn, .string ys]
  have hbn := (Below.refl (w4).heap.size w4).alloc (Nat.le_refl _) (.cells #[.int .i64 xk, .int .i64 xm, .int .i64 xn, .string xs, .int .i64 yk, .int .i64 ym, .int .i64 yn, .string ys] 26)
  replace hb := hb.step hbn
  replace P := P.step hbn
  replace P_0 := P.cell (j := 0) rfl
  replace P_1 := P.cell (j := 1) rfl
  replace P_2 := P.cell (j := 2) rfl
  replace P_3 := P.cell (j := 3) rfl
  replace X := X.step hbn
  replace X_0 := X.cell (j := 0) rfl
  replace X_1 := X.cell (j := 1) rfl
  replace X_2 := X.cell (j := 2) rfl
  replace X_3 := X.cell (j := 3) rfl
  replace hD := hD.step hbn
  replace R := R.step hbn
  clear hbn
  rw [hgS]
  generalize (w4).alloc (.cells #[.int .i64 xk, .int .i64 xm, .int .i64 xn, .string xs, .int .i64 yk, .int .i64 ym, .int .i64 yn, .string ys] 26) = w6 at *
  have c2 : ∀ W, HasE W (some ⟨gS, 0, none⟩) _ → Calls Tryd.prog 15 #[.slice (some ⟨gS, 0, none⟩) 2 2, .int .i64 2] W _ := fun W hE => few_any [⟨xk, xm, xn, xs⟩, ⟨yk, ym, yn, ys⟩] (some ⟨gS, 0, none⟩) 2 2 W hE (by simp)
  rw [hf2] at c2
  go_wp2_with fail
  refine (c2 _ (two_ents S)).mono ?_
  rintro e w7 ⟨rfl, rfl⟩
  clear c2
  clear S cF
  go_wp2_with fail
  refine (cN _ (HE.out.step hb.out) (hT.step hb.out)).mono ?_
  rintro e w8 ⟨⟨g, v, rfl, hW, hg⟩, hbn⟩
  obtain ⟨bT, hbT⟩ : ∃ b, w6.heap.size = b := ⟨_, rfl⟩
  have hRT : gR < bT := hbT ▸ R.lt
  have hwT : w.heap.size ≤ bT := hbT ▸ hb.size
  have hDT : ∀ k, (Value.slice a t.L.length c2).ownBlock = some k → k < bT := fun k hk => hbT ▸ (hD.row.lt k hk).2
  have hb1T : b1 ≤ bT := by have := hbT; omega
  rw [hbT] at hW hg
  replace hb := hb.step hbn
  replace P := P.step hbn
  replace P_0 := P.cell (j := 0) rfl
  replace P_1 := P.cell (j := 1) rfl
  replace P_2 := P.cell (j := 2) rfl
  replace P_3 := P.cell (j := 3) rfl
  replace X := X.step hbn
  replace X_0 := X.cell (j := 0) rfl
  replace X_1 := X.cell (j := 1) rfl
  replace X_2 := X.cell (j := 2) rfl
  replace X_3 := X.cell (j := 3) rfl
  replace hD := hD.step hbn
  replace R := R.step hbn
  clear hbn cN hbT
  have hgT := hW.ge_base hg
  go_wp2_with fail
  refine (copyC_any bT g v t _ hW).mono ?_
  rintro e w9 ⟨⟨o, v2, rfl, hO, ho⟩, hbn⟩
  obtain ⟨bC, hbC⟩ : ∃ b, w8.heap.size = b := ⟨_, rfl⟩
  have hTC := hW.lt
  rw [hbC] at hO ho hTC
  have hTCb : bT ≤ bC := Nat.le_trans (hgT g (by simp)) (Nat.le_of_lt (hTC g (by simp)))
  replace hb := hb.step hbn
  replace P := P.step hbn
  replace P_0 := P.cell (j := 0) rfl
  replace P_1 := P.cell (j := 1) rfl
  replace P_2 := P.cell (j := 2) rfl
  replace P_3 := P.cell (j := 3) rfl
  replace X := X.step hbn
  replace X_0 := X.cell (j := 0) rfl
  replace X_1 := X.cell (j := 1) rfl
  replace X_2 := X.cell (j := 2) rfl
  replace X_3 := X.cell (j := 3) rfl
  replace hD := hD.step hbn
  replace R := R.step hbn
  replace hW := hW.step hbn
  clear hbn hbC
  have hoC := hO.ge_base ho
  have cS0 := fun W h1 h2 => sameC_any bT g bC o v v2 t t W h1 h2
  rw [same_P hG hG, sameT_self] at cS0
  go_wp2_with fail
  refine (num_any 0 _).mono ?_
  rintro e wx ⟨rfl, rfl⟩
  go_wp2_with fail
  refine (cS0 _ hW hO).mono ?_
  rintro e w10 ⟨rfl, hbn⟩
  replace hb := hb.step hbn
  replace P := P.step hbn
  replace P_0 := P.cell (j := 0) rfl
  replace P_1 := P.cell (j := 1) rfl
  replace P_2 := P.cell (j := 2) rfl
  replace P_3 := P.cell (j := 3) rfl
  replace X := X.step hbn
  replace X_0 := X.cell (j := 0) rfl
  replace X_1 := X.cell (j := 1) rfl
  replace X_2 := X.cell (j := 2) rfl
  replace X_3 := X.cell (j := 3) rfl
  replace hD := hD.step hbn
  replace R := R.step hbn
  replace hW := hW.step hbn
  replace hO := hO.step hbn
  clear hbn
  have R_0 := R.cell (j := 0) rfl
  have R_1 := R.cell (j := 1) rfl
  have P_0 := P.cell (j := 0) rfl
  have P_1 := P.cell (j := 1) rfl
  have P_2 := P.cell (j := 2) rfl
  have P_3 := P.cell (j := 3) rfl
  have X_0 := X.cell (j := 0) rfl
  have X_1 := X.cell (j := 1) rfl
  have X_2 := X.cell (j := 2) rfl
  have X_3 := X.cell (j := 3) rfl
  go_wp2_with fail
  refine (is_any bC b1 o v2 (.slice a t.L.length c2) t _ hO hG hD).mono ?_
  rintro e w11 ⟨rfl, hbn⟩
  replace hb := hb.step hbn
  replace P := P.step hbn
  replace P_0 := P.cell (j := 0) rfl
  replace P_1 := P.cell (j := 1) rfl
  replace P_2 := P.cell (j := 2) rfl
  replace P_3 := P.cell (j := 3) rfl
  replace X := X.step hbn
  replace X_0 := X.cell (j := 0) rfl
  replace X_1 := X.cell (j := 1) rfl
  replace X_2 := X.cell (j := 2) rfl
  replace X_3 := X.cell (j := 3) rfl
  replace hD := hD.step hbn
  replace R := R.step hbn
  replace R_0 := R.cell (j := 0) rfl
  replace R_1 := R.cell (j := 1) rfl
  replace hW := hW.step hbn
  replace hO := hO.step hbn
  clear hbn
  clear cS0
  obtain ⟨h11, hh11⟩ : ∃ n, w11.heap.size = n := ⟨_, rfl⟩
  have hC11 : bC ≤ h11 := by have := hO.lt o (by simp); omega
  have hOl : ∀ x, x ∈ o :: v2.ownBlock.toList → x < h11 := hh11 ▸ hO.lt
  have cA := refApply_any b1 t t.sl ⟨xk, xm, xn, xs⟩ (.slice a t.L.length c2) w11 hD (by have := hb.size; omega) hG.few hx (hG.would _)
  have cB := fun W (hW : TkW W bT g v t) (h1 : bT ≤ W.heap.size) (hT : Tabs W) => apply_any bT g v t t.sl ⟨xk, xm, xn, xs⟩ W hW hT h1 hx
  have hGx := hG.next t.sl ⟨xk, xm, xn, xs⟩
  unfold daP at cA
  generalize apT t t.sl ⟨xk, xm, xn, xs⟩ = tx at cA cB hGx
  generalize apX t t.sl ⟨xk, xm, xn, xs⟩ = X1 at cA cB
  generalize apB t t.sl ⟨xk, xm, xn, xs⟩ = B1 at cA cB
  generalize apE t t.sl ⟨xk, xm, xn, xs⟩ = E1 at cA cB
  obtain ⟨x1, x2, ⟨x3, x4, x5, x6⟩⟩ := X1
  unfold enV lnV lnL enL at cA cB
  simp only at cA cB
  go_wp2_with fail
  refine cA.mono ?_
  rintro e w12 ⟨⟨sv2, rfl, hDx, hsx⟩, hbn⟩
  obtain ⟨a3, c3, rfl⟩ := hDx.sl
  rw [hh11] at hsx
  have hxo : ∀ k, (Value.slice a3 tx.L.length c3).ownBlock = some k → k < bT ∨ h11 ≤ k := fun k hk => by
    rcases hsx with e | e
    · exact .inl (hDT k (e ▸ hk))
    · exact .inr (e k hk)
  have h12 : h11 ≤ w12.heap.size := hh11 ▸ hbn.size
  replace hb := hb.step hbn
  replace P := P.step hbn
  replace P_0 := P.cell (j := 0) rfl
  replace P_1 := P.cell (j := 1) rfl
  replace P_2 := P.cell (j := 2) rfl
  replace P_3 := P.cell (j := 3) rfl
  replace X := X.step hbn
  replace X_0 := X.cell (j := 0) rfl
  replace X_1 := X.cell (j := 1) rfl
  replace X_2 := X.cell (j := 2) rfl
  replace X_3 := X.cell (j := 3) rfl
  replace hD := hD.step hbn
  replace R := R.step hbn
  replace R_0 := R.cell (j := 0) rfl
  replace R_1 := R.cell (j := 1) rfl
  replace hW := hW.step hbn
  replace hO := hO.step hbn
  clear hbn cA hsx hh11
  have P_0 := P.cell (j := 0) rfl
  have P_1 := P.cell (j := 1) rfl
  have P_2 := P.cell (j := 2) rfl
  have P_3 := P.cell (j := 3) rfl
  have X_0 := X.cell (j := 0) rfl
  have X_1 := X.cell (j := 1) rfl
  have X_2 := X.cell (j := 2) rfl
  have X_3 := X.cell (j := 3) rfl
  have R_0 := R.cell (j := 0) rfl
  have R_1 := R.cell (j := 1) rfl
  go_upto_region 9 with fail
  obtain ⟨gN1, hgN1⟩ : ∃ g, (w12).heap.size = g := ⟨_, rfl⟩
  have lt_P_N1 := P.lt
  rw [hgN1] at lt_P_N1
  have lt_X_N1 := X.lt
  rw [hgN1] at lt_X_N1
  have lt_R_N1 := R.lt
  rw [hgN1] at lt_R_N1
  have N1 := Blk.newV hgN1 49 #[.int .i64 tx.sl, .slice a3 tx.L.length c3]
  have hbn := (Below.refl (w12).heap.size w12).alloc (Nat.le_refl _) (.cells #[.int .i64 tx.sl, .slice a3 tx.L.length c3] 49)
  replace hb := hb.step hbn
  replace P := P.step hbn
  replace P_0 := P.cell (j := 0) rfl
  replace P_1 := P.cell (j := 1) rfl
  replace P_2 := P.cell (j := 2) rfl
  replace P_3 := P.cell (j := 3) rfl
  replace X := X.step hbn
  replace X_0 := X.cell (j := 0) rfl
  replace X_1 := X.cell (j := 1) rfl
  replace X_2 := X.cell (j := 2) rfl
  replace X_3 := X.cell (j := 3) rfl
  replace R := R.step hbn
  replace R_0 := R.cell (j := 0) rfl
  replace R_1 := R.cell (j := 1) rfl
  replace hD := hD.step hbn
  replace hW := hW.step hbn
  replace hO := hO.step hbn
  replace hDx := hDx.step hbn
  clear hbn
  rw [hgN1]
  have szN1 := alloc_size hgN1 (.cells #[.int .i64 tx.sl, .slice a3 tx.L.length c3] 49)
  generalize (w12).alloc (.cells #[.int .i64 tx.sl, .slice a3 tx.L.length c3] 49) = w13 at *
  obtain ⟨gN2, hgN2⟩ : ∃ g, (w13).heap.size = g := ⟨_, rfl⟩
  have lt_P_N2 := P.lt
  rw [hgN2] at lt_P_N2
  have lt_X_N2 := X.lt
  rw [hgN2] at lt_X_N2
  have lt_R_N2 := R.lt
  rw [hgN2] at lt_R_N2
  have lt_N1_N2 := N1.lt
  rw [hgN2] at lt_N1_N2
  have N2 := Blk.newV hgN2 33 #[.int .i64 x1, .int .i64 x2, .int .i64 x3, .int .i64 x4, .int .i64 x5, .string x6]
  have hbn := (Below.refl (w13).heap.size w13).alloc (Nat.le_refl _) (.cells #[.int .i64 x1, .int .i64 x2, .int .i64 x3, .int .i64 x4, .int .i64 x5, .string x6] 33)
  replace hb := hb.step hbn
  replace P := P.step hbn
  replace P_0 := P.cell (j := 0) rfl
  replace P_1 := P.cell (j := 1) rfl
  replace P_2 := P.cell (j := 2) rfl
  replace P_3 := P.cell (j := 3) rfl
  replace X := X.step hbn
  replace X_0 := X.cell (j := 0) rfl
  replace X_1 := X.cell (j := 1) rfl
  replace X_2 := X.cell (j := 2) rfl
  replace X_3 := X.cell (j := 3) rfl
  replace R := R.step hbn
  replace R_0 := R.cell (j := 0) rfl
  replace R_1 := R.cell (j := 1) rfl
  replace hD := hD.step hbn
  replace hW := hW.step hbn
  replace hO := hO.step hbn
  replace hDx := hDx.step hbn
  replace N1 := N1.step hbn
  clear hbn
  have egN2 : gN1 + 1 = gN2 := szN1.symm.trans hgN2
  rw [egN2]
  clear szN1
  generalize (w13).alloc (.cells #[.int .i64 x1, .int .i64 x2, .int .i64 x3, .int .i64 x4, .int .i64 x5, .string x6] 33) = w14 at *
  clear N2
  have hN1 : h11 ≤ gN1 := by omega
  have hN1l : gN1 < w14.heap.size := N1.lt
  go_wp2_with fail
  refine (cB _ hW (by have := hb.size; omega) (hT.step hb.out)).mono ?_
  rintro e w15 ⟨rfl, v', hWx, hK, hvx⟩
  have hvo : ∀ k, v'.ownBlock = some k → k < bC ∨ h11 ≤ k := fun k hk => by
    rcases hvx with e | ⟨k', e, hk'⟩
    · exact .inl (hTC k (by simp [← e, hk]))
    · rw [e] at hk
      cases hk
      exact .inr (by omega)
  have h15 : h11 ≤ w15.heap.size := by have := hK.size; omega
  clear P_0 P_1 P_2 P_3
  clear X_0 X_1 X_2 X_3
  clear R_0 R_1
  clear P cB hvx hW
  replace R := R.kx hK (off_low hgT hRT)
  replace X := X.kx hK (off_low hgT (by omega))
  replace N1 := N1.kx hK (off_high hTC (by omega))
  replace hD := hD.kx hK (fun k hk => off_low hgT (hDT k hk))
  replace hDx := hDx.kx hK (fun k hk => (hxo k hk).elim (fun h => off_low hgT h) (fun h => off_high hTC (by omega)))
  replace hO := hO.kxs hK (off_high hTC ho) (fun k hk => off_high hTC (hO.row.lt k hk).1)
  replace hb := hb.kx hK (fun x hx => Nat.le_trans hwT (hgT x hx))
  clear hK
  have R_0 := R.cell (j := 0) rfl
  have R_1 := R.cell (j := 1) rfl
  have N1_0 := N1.cell (j := 0) rfl
  have N1_1 := N1.cell (j := 1) rfl
  have hft : t.L.length ≤ 5000 := by have := hG.few; have := hG.top; omega
  have hfx : tx.L.length ≤ 5000 := by have := hGx.few; have := hGx.top; omega
  have cR := fun W hA hB => refSame_any t tx a a3 c2 c3 W hA hB hft hfx
  have cS1 := fun W h1 h2 => sameC_any bT g bC o v' v2 tx t W h1 h2
  have cS2 := fun W h1 h2 => sameC_any bC o bT g v2 v' t tx W h1 h2
  rw [same_P hGx hG, sameT_symm tx t] at cS1
  rw [same_P hG hGx] at cS2
  generalize sameT t tx = V at cR cS1 cS2
  go_wp2_with fail
  refine (cR _ (hasL_own hD.row rfl) (hasL_own hDx.row rfl)).mono ?_
  rintro e w16 ⟨rfl, hbn⟩
  replace hb := hb.step hbn
  replace X := X.step hbn
  replace R := R.step hbn
  replace R_0 := R.cell (j := 0) rfl
  replace R_1 := R.cell (j := 1) rfl
  replace hD := hD.step hbn
  replace hWx := hWx.step hbn
  replace hO := hO.step hbn
  replace hDx := hDx.step hbn
  replace N1 := N1.step hbn
  replace N1_0 := N1.cell (j := 0) rfl
  replace N1_1 := N1.cell (j := 1) rfl
  clear hbn
  go_wp2_with fail
  refine (cS1 _ hWx hO).mono ?_
  rintro e w17 ⟨rfl, hbn⟩
  replace hb := hb.step hbn
  replace X := X.step hbn
  replace R := R.step hbn
  replace R_0 := R.cell (j := 0) rfl
  replace R_1 := R.cell (j := 1) rfl
  replace hD := hD.step hbn
  replace hWx := hWx.step hbn
  replace hO := hO.step hbn
  replace hDx := hDx.step hbn
  replace N1 := N1.step hbn
  replace N1_0 := N1.cell (j := 0) rfl
  replace N1_1 := N1.cell (j := 1) rfl
  clear hbn
  go_wp2_with fail
  refine (cS2 _ hO hWx).mono ?_
  rintro e w18 ⟨rfl, hbn⟩
  replace hb := hb.step hbn
  replace X := X.step hbn
  replace R := R.step hbn
  replace R_0 := R.cell (j := 0) rfl
  replace R_1 := R.cell (j := 1) rfl
  replace hD := hD.step hbn
  replace hWx := hWx.step hbn
  replace hO := hO.step hbn
  replace hDx := hDx.step hbn
  replace N1 := N1.step hbn
  replace N1_0 := N1.cell (j := 0) rfl
  replace N1_1 := N1.cell (j := 1) rfl
  clear hbn
  clear cR cS1 cS2
  obtain ⟨h18, hh18⟩ : ∃ n, w18.heap.size = n := ⟨_, rfl⟩
  have cA := refApply_any b1 t t.sl ⟨yk, ym, yn, ys⟩ (.slice a t.L.length c2) w18 hD (by have := hO.lt o (by simp); omega) hG.few hy (hG.would _)
  have cB := fun W (hW : TkW W bC o v2 t) (h1 : bC ≤ W.heap.size) (hT : Tabs W) => apply_any bC o v2 t t.sl ⟨yk, ym, yn, ys⟩ W hW hT h1 hy
  have hGy := hG.next t.sl ⟨yk, ym, yn, ys⟩
  unfold daP at cA
  generalize apT t t.sl ⟨yk, ym, yn, ys⟩ = ty at cA cB hGy
  generalize apX t t.sl ⟨yk, ym, yn, ys⟩ = Y1 at cA cB
  generalize apB t t.sl ⟨yk, ym, yn, ys⟩ = B2 at cA cB
  generalize apE t t.sl ⟨yk, ym, yn, ys⟩ = E2 at cA cB
  obtain ⟨y1, y2, ⟨y3, y4, y5, y6⟩⟩ := Y1
  unfold enV lnV lnL enL at cA cB
  simp only at cA cB
  have h1118 : h11 ≤ h18 := by have := hO.lt o (by simp); have := N1.lt; omega
  have X_0 := X.cell (j := 0) rfl
  have X_1 := X.cell (j := 1) rfl
  have X_2 := X.cell (j := 2) rfl
  have X_3 := X.cell (j := 3) rfl
  go_wp2_with fail
  refine cA.mono ?_
  rintro e w19 ⟨⟨sv3, rfl, hDy, hsy⟩, hbn⟩
  obtain ⟨a4, c4, rfl⟩ := hDy.sl
  rw [hh18] at hsy
  have hyo : ∀ k, (Value.slice a4 ty.L.length c4).ownBlock = some k → k < bT ∨ h11 ≤ k := fun k hk => by
    rcases hsy with e | e
    · exact .inl (hDT k (e ▸ hk))
    · exact .inr (Nat.le_trans h1118 (e k hk))
  have h19 : h11 ≤ w19.heap.size := by have := hbn.size; omega
  replace hb := hb.step hbn
  replace X := X.step hbn
  replace X_0 := X.cell (j := 0) rfl
  replace X_1 := X.cell (j := 1) rfl
  replace X_2 := X.cell (j := 2) rfl
  replace X_3 := X.cell (j := 3) rfl
  replace R := R.step hbn
  replace R_0 := R.cell (j := 0) rfl
  replace R_1 := R.cell (j := 1) rfl
  replace hD := hD.step hbn
  replace hWx := hWx.step hbn
  replace hO := hO.step hbn
  replace hDx := hDx.step hbn
  replace N1 := N1.step hbn
  replace N1_0 := N1.cell (j := 0) rfl
  replace N1_1 := N1.cell (j := 1) rfl
  clear hbn cA hsy hh18
  clear hD
  go_upto_region 14 with fail
  obtain ⟨gN3, hgN3⟩ : ∃ g, (w19).heap.size = g := ⟨_, rfl⟩
  have lt_X_N3 := X.lt
  rw [hgN3] at lt_X_N3
  have lt_R_N3 := R.lt
  rw [hgN3] at lt_R_N3
  have lt_N1_N3 := N1.lt
  rw [hgN3] at lt_N1_N3
  have N3 := Blk.newV hgN3 49 #[.int .i64 ty.sl, .slice a4 ty.L.length c4]
  have hbn := (Below.refl (w19).heap.size w19).alloc (Nat.le_refl _) (.cells #[.int .i64 ty.sl, .slice a4 ty.L.length c4] 49)
  replace hb := hb.step hbn
  replace X := X.step hbn
  replace X_0 := X.cell (j := 0) rfl
  replace X_1 := X.cell (j := 1) rfl
  replace X_2 := X.cell (j := 2) rfl
  replace X_3 := X.cell (j := 3) rfl
  replace R := R.step hbn
  replace R_0 := R.cell (j := 0) rfl
  replace R_1 := R.cell (j := 1) rfl
  replace hWx := hWx.step hbn
  replace hO := hO.step hbn
  replace hDx := hDx.step hbn
  replace hDy := hDy.step hbn
  replace N1 := N1.step hbn
  replace N1_0 := N1.cell (j := 0) rfl
  replace N1_1 := N1.cell (j := 1) rfl
  clear hbn
  rw [hgN3]
  have szN3 := alloc_size hgN3 (.cells #[.int .i64 ty.sl, .slice a4 ty.L.length c4] 49)
  generalize (w19).alloc (.cells #[.int .i64 ty.sl, .slice a4 ty.L.length c4] 49) = w20 at *
  obtain ⟨gN4, hgN4⟩ : ∃ g, (w20).heap.size = g := ⟨_, rfl⟩
  have lt_X_N4 := X.lt
  rw [hgN4] at lt_X_N4
  have lt_R_N4 := R.lt
  rw [hgN4] at lt_R_N4
  have lt_N1_N4 := N1.lt
  rw [hgN4] at lt_N1_N4
  have lt_N3_N4 := N3.lt
  rw [hgN4] at lt_N3_N4
  have N4 := Blk.newV hgN4 33 #[.int .i64 y1, .int .i64 y2, .int .i64 y3, .int .i64 y4, .int .i64 y5, .string y6]
  have hbn := (Below.refl (w20).heap.size w20).alloc (Nat.le_refl _) (.cells #[.int .i64 y1, .int .i64 y2, .int .i64 y3, .int .i64 y4, .int .i64 y5, .string y6] 33)
  replace hb := hb.step hbn
  replace X := X.step hbn
  replace X_0 := X.cell (j := 0) rfl
  replace X_1 := X.cell (j := 1) rfl
  replace X_2 := X.cell (j := 2) rfl
  replace X_3 := X.cell (j := 3) rfl
  replace R := R.step hbn
  replace R_0 := R.cell (j := 0) rfl
  replace R_1 := R.cell (j := 1) rfl
  replace hWx := hWx.step hbn
  replace hO := hO.step hbn
  replace hDx := hDx.step hbn
  replace hDy := hDy.step hbn
  replace N1 := N1.step hbn
  replace N1_0 := N1.cell (j := 0) rfl
  replace N1_1 := N1.cell (j := 1) rfl
  replace N3 := N3.step hbn
  clear hbn
  have egN4 : gN3 + 1 = gN4 := szN3.symm.trans hgN4
  rw [egN4]
  clear szN3
  generalize (w20).alloc (.cells #[.int .i64 y1, .int .i64 y2, .int .i64 y3, .int .i64 y4, .int .i64 y5, .string y6] 33) = w21 at *
  clear N4
  have hN3 : h11 ≤ gN3 := by omega
  go_wp2_with fail
  refine (cB _ hO (by have := hO.lt o (by simp); omega) (hT.step hb.out)).mono ?_
  rintro e w22 ⟨rfl, v3, hOy, hK, hvy⟩
  clear X_0 X_1 X_2 X_3
  clear R_0 R_1
  clear N1_0 N1_1
  clear R X cB hvy hO
  replace N1 := N1.kx hK (off_high hOl hN1)
  replace N3 := N3.kx hK (off_high hOl hN3)
  replace hDx := hDx.kx hK (fun k hk => (hxo k hk).elim (fun h => off_low hoC (by omega)) (fun h => off_high hOl h))
  replace hDy := hDy.kx hK (fun k hk => (hyo k hk).elim (fun h => off_low hoC (by omega)) (fun h => off_high hOl h))
  replace hWx := hWx.kxs hK (off_low hoC (hTC g (by simp))) (fun k hk => (hvo k hk).elim (fun h => off_low hoC h) (fun h => off_high hOl h))
  replace hb := hb.kx hK (fun x hx => Nat.le_trans hwT (Nat.le_trans hTCb (hoC x hx)))
  clear hK
  have hfy : ty.L.length ≤ 5000 := by have := hGy.few; have := hGy.top; omega
  have cR := fun W hA hB => refSame_any tx ty a3 a4 c3 c4 W hA hB hfx hfy
  have cS := fun W h1 h2 => sameC_any bT g bC o v' v3 tx ty W h1 h2
  rw [same_P hGx hGy] at cS
  generalize sameT tx ty = V2 at cR cS
  have cI : ∀ (p : Nat) (u : Value), ((p = g ∧ u = .agg #[.int .i64 tx.sl, .slice a3 tx.L.length c3]) ∨ (p = o ∧ u = .agg #[.int .i64 ty.sl, .slice a4 ty.L.length c4])) → ∀ W, ExtA w22 W → Calls Tryd.prog 22 #[.pointer (some ⟨p, 0, none⟩), u] W (fun r w' => r = .returned (.bool true) ∧ Below W.heap.size W w') := by
    rintro p u (⟨rfl, rfl⟩ | ⟨rfl, rfl⟩) W hx
    · exact is_any bT b1 p v' _ tx W (hWx.step hx) hGx (hDx.step hx)
    · exact is_any bC b1 p v3 _ ty W (hOy.step hx) hGy (hDy.step hx)
  have N1_0 := extA_cell (N1.cell (j := 0) rfl)
  have N1_1 := extA_cell (N1.cell (j := 1) rfl)
  have N3_0 := extA_cell (N3.cell (j := 0) rfl)
  have N3_1 := extA_cell (N3.cell (j := 1) rfl)
  go_upto_region 15 with fail
  refine wp_region_extB (by kernel_rfl) (by kernel_rfl) ?_
  repeat
    (first
      | go_big_quiet_skip
      | (go_big_quiet_want
         go_big_quiet_op
         first
           | go_big_quiet_on
           | (apply Exists.intro
              refine ⟨fun w' hC => ?_, ?_⟩
              · (first
                  | with_reducible rfl
                  | (go_at_call 22; refine (cI _ _ (by first | exact .inl ⟨rfl, rfl⟩ | exact .inr ⟨rfl, rfl⟩) _ hC).mono ?_; rintro e w2 ⟨rfl, hb9⟩; exact ⟨rfl, extA_then hC hb9⟩) | (go_at_call 28; refine (cS _ (hWx.step hC) (hOy.step hC)).mono ?_; rintro e w2 ⟨rfl, hb9⟩; exact ⟨rfl, extA_then hC hb9⟩) | (go_at_call 30; refine (cR _ (hasL_own (hDx.step hC).row rfl) (hasL_own (hDy.step hC).row rfl)).mono ?_; rintro e w2 ⟨rfl, hb9⟩; exact ⟨rfl, extA_then hC hb9⟩) | (go_at_call 10; refine (works_any _ (hT.step (hb.step hC).out)).mono ?_; rintro e w2 ⟨rfl, hb9⟩; exact ⟨rfl, extA_then hC hb9⟩)
                  | (go_simp; done)
                  | (go_simp; with_reducible rfl))
              go_big_quiet_on)))
  refine wpQuiet_nil ?_
  intro w23 hbn
  replace hb := hb.step hbn
  go_wp2
  go_ret
  exact ⟨rfl, hb⟩
theorem ChatCopies_walkx (q : Option Addr) (len cap : Nat) (x y : En) (w : World) (hT : Tabs w) (h : ∃ l : List En, l.length = len ∧ HasE w q l ∧ (∀ e, e ∈ l → e.s.size ≤ maxLen) ∧ len ≤ maxLen) (hx : x.s.size ≤ maxLen) (hy : y.s.size ≤ maxLen) :
    Calls Tryd.prog 8 #[.slice q len cap, enV x, enV y] w fun r w' => r = .returned (.bool true) ∧ Below w.heap.size w w' := by
  obtain ⟨l, rfl, hE, hs, hl⟩ := h
  have hl2 : l.length ≤ 9223372036854775807 := by unfold maxLen at hl; omega
  have hs2 : ∀ e, e ∈ l → e.s.size ≤ 9223372036854775807 := fun e he => by have := hs e he; unfold maxLen at this; omega
  have hx2 : x.s.size ≤ 9223372036854775807 := by unfold maxLen at hx; omega
  have hy2 : y.s.size ≤ 9223372036854775807 := by unfold maxLen at hy; omega
  cases hf : fewB l 30
  · exact copies_few l q cap x y w hT hE hl2 hs2 hx2 hy2 hf
  · cases hf2 : fewB [x, y] 2
    · exact copies_two l q cap x y w hT hE hl2 hs2 hx2 hy2 hf hf2
    · by_cases h0 : (newF tk0 0 l).2 = 0
      · exact copies_yes l q cap x y w hT hE hl2 hs2 hx2 hy2 hf hf2 h0
      · exact copies_no l q cap x y w hT hE hl2 hs2 hx2 hy2 hf hf2 h0
end Go.Proofs.YtndechodaegkiaaDoor
