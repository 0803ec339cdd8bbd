
/- Walk of ProposerCopies. (Printed by gen/gen_ptf.py.) -/
import Derived.Test.YtcahkcbenanfnaaGreatDoorPsG
import Derived.Test.YtcahkcbenanfnaaGreatDoorPtC
import Derived.Test.YtcahkcbenanfnaaGreatDoorPsI
import Derived.Test.YtcahkcbenanfnaaGreatDoorOpP
namespace Go.Proofs.YtcahkcbenanfnaaGreatDoor
set_option linter.unusedSimpArgs false
set_option linter.unusedVariables false
open Go.RowKit
theorem two_pas {W : World} {b : Nat} {t : TypeId} {x y : Pa} (h : Blk W b t (paL x ++ paL y)) : HasPa W (some ⟨b, 0, none⟩) [x, y] := by
  intro k e he
  refine ⟨b, 0, rfl, ?_⟩
  match k, he with
  | 0, he =>
    obtain rfl : x = e := by simpa using he
    exact ⟨h.cell (j := 0) rfl, h.cell (j := 1) rfl, h.cell (j := 2) rfl, h.cell (j := 3) rfl, h.cell (j := 4) rfl, h.cell (j := 5) rfl, h.cell (j := 6) rfl, h.cell (j := 7) rfl, h.cell (j := 8) rfl, h.cell (j := 9) rfl⟩
  | 1, he =>
    obtain rfl : y = e := by simpa using he
    exact ⟨h.cell (j := 10) rfl, h.cell (j := 11) rfl, h.cell (j := 12) rfl, h.cell (j := 13) rfl, h.cell (j := 14) rfl, h.cell (j := 15) rfl, h.cell (j := 16) rfl, h.cell (j := 17) rfl, h.cell (j := 18) rfl, h.cell (j := 19) rfl⟩
theorem mkA_invB2 (c sl : Int) (own : Bool) (r p k m n : Int) (s : ByteArray) : InvB (mkA c sl own r p k m n s) := by
  unfold InvB mkA
  intro _
  cases own <;> simp [noneE, eq6, ownA, freshA]
set_option maxRecDepth 100000 in
set_option maxHeartbeats 4000000 in
theorem copies15_few (c sl : Int) (own : Bool) (r p k m n : Int) (s : ByteArray) (l : List Pa) (ao : Option Addr) (cap : Nat) (x1 y1 : Pa) (w : World) (hT : Tabs w) (hE : HasPa w ao l) (hl : l.length ≤ 9223372036854775807) (hs : ∀ e, e ∈ l → e.s.size ≤ 9223372036854775807) (hz : s.size ≤ 9223372036854775807) (hx : x1.s.size ≤ 9223372036854775807) (hy : y1.s.size ≤ 9223372036854775807) (hf : fewP l 20 = false) :
    Calls Tryz.prog 4 #[.int .i64 c, .int .i64 sl, .bool own, .agg #[.int .i64 r, .int .i64 p], .agg #[.int .i64 k, .int .i64 m, .int .i64 n, .string s], .slice ao l.length cap, paV x1, paV y1] w fun e w' => e = .returned (.bool true) ∧ Below w.heap.size w w' := by
  have cF := fun W (hW : Below w.heap.size w W) => few15_any l ao cap 20 W (hE.step hW) hl hs
  rw [hf] at cF
  have hzi : (s.size : Int) ≤ 9223372036854775807 := by omega
  obtain ⟨N, hN⟩ : ∃ N, l.length = N := ⟨_, rfl⟩
  rw [hN] at cF ⊢
  clear hf hs hN hl
  obtain ⟨xw, xpl, xar, xap, xk, xm, xn, xs, xx, xy⟩ := x1
  obtain ⟨yw, ypl, yar, yap, yk, ym, yn, ys, yx, yy⟩ := y1
  unfold paV
  simp only at hx hy ⊢
  have hb := From.refl w
  go_enter Tryz.func4, Tryz.ntmps4
  go_upto_region 1 with fail
  obtain ⟨gB, hgB⟩ : ∃ g, (w).heap.size = g := ⟨_, rfl⟩
  have B := Blk.newV hgB 23 #[.int .i64 r, .int .i64 p]
  have hbn := (Below.refl (w).heap.size w).alloc (Nat.le_refl _) (.cells #[.int .i64 r, .int .i64 p] 23)
  replace hb := hb.step hbn
  clear hbn
  rw [hgB]
  have szB := alloc_size hgB (.cells #[.int .i64 r, .int .i64 p] 23)
  generalize (w).alloc (.cells #[.int .i64 r, .int .i64 p] 23) = w1 at *
  obtain ⟨gX, hgX⟩ : ∃ g, (w1).heap.size = g := ⟨_, rfl⟩
  have lt_B_X := B.lt
  rw [hgX] at lt_B_X
  have X := Blk.newV hgX 26 #[.int .i64 k, .int .i64 m, .int .i64 n, .string s]
  have hbn := (Below.refl (w1).heap.size w1).alloc (Nat.le_refl _) (.cells #[.int .i64 k, .int .i64 m, .int .i64 n, .string s] 26)
  replace hb := hb.step hbn
  replace B := B.step hbn
  clear hbn
  have egX : gB + 1 = gX := szB.symm.trans hgX
  rw [egX]
  clear szB
  have szX := alloc_size hgX (.cells #[.int .i64 k, .int .i64 m, .int .i64 n, .string s] 26)
  generalize (w1).alloc (.cells #[.int .i64 k, .int .i64 m, .int .i64 n, .string s] 26) = w2 at *
  obtain ⟨gP, hgP⟩ : ∃ g, (w2).heap.size = g := ⟨_, rfl⟩
  have lt_B_P := B.lt
  rw [hgP] at lt_B_P
  have lt_X_P := X.lt
  rw [hgP] at lt_X_P
  have P := Blk.newV hgP 62 #[.int .i64 xw, .int .i64 xpl, .int .i64 xar, .int .i64 xap, .int .i64 xk, .int .i64 xm, .int .i64 xn, .string xs, .int .i64 xx, .int .i64 xy]
  have hbn := (Below.refl (w2).heap.size w2).alloc (Nat.le_refl _) (.cells #[.int .i64 xw, .int .i64 xpl, .int .i64 xar, .int .i64 xap, .int .i64 xk, .int .i64 xm, .int .i64 xn, .string xs, .int .i64 xx, .int .i64 xy] 62)
  replace hb := hb.step hbn
  replace B := B.step hbn
  replace X := X.step hbn
  clear hbn
  have egP : gX + 1 = gP := szX.symm.trans hgP
  rw [egP]
  clear szX
  have szP := alloc_size hgP (.cells #[.int .i64 xw, .int .i64 xpl, .int .i64 xar, .int .i64 xap, .int .i64 xk, .int .i64 xm, .int .i64 xn, .string xs, .int .i64 xx, .int .i64 xy] 62)
  generalize (w2).alloc (.cells #[.int .i64 xw, .int .i64 xpl, .int .i64 xar, .int .i64 xap, .int .i64 xk, .int .i64 xm, .int .i64 xn, .string xs, .int .i64 xx, .int .i64 xy] 62) = w3 at *
  obtain ⟨gQ, hgQ⟩ : ∃ g, (w3).heap.size = g := ⟨_, rfl⟩
  have lt_B_Q := B.lt
  rw [hgQ] at lt_B_Q
  have lt_X_Q := X.lt
  rw [hgQ] at lt_X_Q
  have lt_P_Q := P.lt
  rw [hgQ] at lt_P_Q
  have Q := Blk.newV hgQ 62 #[.int .i64 yw, .int .i64 ypl, .int .i64 yar, .int .i64 yap, .int .i64 yk, .int .i64 ym, .int .i64 yn, .string ys, .int .i64 yx, .int .i64 yy]
  have hbn := (Below.refl (w3).heap.size w3).alloc (Nat.le_refl _) (.cells #[.int .i64 yw, .int .i64 ypl, .int .i64 yar, .int .i64 yap, .int .i64 yk, .int .i64 ym, .int .i64 yn, .string ys, .int .i64 yx, .int .i64 yy] 62)
  replace hb := hb.step hbn
  replace B := B.step hbn
  replace X := X.step hbn
  replace P := P.step hbn
  clear hbn
  have egQ : gP + 1 = gQ := szP.symm.trans hgQ
  rw [egQ]
  clear szP
  generalize (w3).alloc (.cells #[.int .i64 yw, .int .i64 ypl, .int .i64 yar, .int .i64 yap, .int .i64 yk, .int .i64 ym, .int .i64 yn, .string ys, .int .i64 yx, .int .i64 yy] 62) = w4 at *
  have hBX : gB < gX := by omega
  have hXP : gX < gP := by omega
  have hPQ : gP < gQ := by omega
  have hwB : w.heap.size ≤ gB := by omega
  clear hgB hgX hgP hgQ egX egP egQ
  go_wp2_with fail
  refine (cF _ hb.out).mono ?_
  rintro e w5 ⟨rfl, hbn⟩
  replace hb := hb.step hbn
  replace B := B.step hbn
  replace X := X.step hbn
  replace P := P.step hbn
  replace Q := Q.step hbn
  clear hbn
  go_wp2_with fail
  refine (works15_any _ (hT.step hb.out)).mono ?_
  rintro e w6 ⟨rfl, hbn⟩
  replace hb := hb.step hbn
  replace B := B.step hbn
  replace X := X.step hbn
  replace P := P.step hbn
  replace Q := Q.step hbn
  clear hbn
  go_wp2_with fail
  go_ret
  exact ⟨rfl, hb⟩
set_option maxRecDepth 100000 in
set_option maxHeartbeats 4000000 in
theorem copies15_two (c sl : Int) (own : Bool) (r p k m n : Int) (s : ByteArray) (l : List Pa) (ao : Option Addr) (cap : Nat) (x1 y1 : Pa) (w : World) (hT : Tabs w) (hE : HasPa w ao l) (hl : l.length ≤ 9223372036854775807) (hs : ∀ e, e ∈ l → e.s.size ≤ 9223372036854775807) (hz : s.size ≤ 9223372036854775807) (hx : x1.s.size ≤ 9223372036854775807) (hy : y1.s.size ≤ 9223372036854775807) (hf : fewP l 20 = true) (hf2 : fewP [x1, y1] 2 = false) :
    Calls Tryz.prog 4 #[.int .i64 c, .int .i64 sl, .bool own, .agg #[.int .i64 r, .int .i64 p], .agg #[.int .i64 k, .int .i64 m, .int .i64 n, .string s], .slice ao l.length cap, paV x1, paV y1] w fun e w' => e = .returned (.bool true) ∧ Below w.heap.size w w' := by
  have cF := fun W (hW : Below w.heap.size w W) => few15_any l ao cap 20 W (hE.step hW) hl hs
  rw [hf] at cF
  have hzi : (s.size : Int) ≤ 9223372036854775807 := by omega
  obtain ⟨N, hN⟩ : ∃ N, l.length = N := ⟨_, rfl⟩
  rw [hN] at cF ⊢
  clear hf hs hN hl
  obtain ⟨xw, xpl, xar, xap, xk, xm, xn, xs, xx, xy⟩ := x1
  obtain ⟨yw, ypl, yar, yap, yk, ym, yn, ys, yx, yy⟩ := y1
  unfold paV
  simp only at hx hy ⊢
  have hb := From.refl w
  go_enter Tryz.func4, Tryz.ntmps4
  go_upto_region 1 with fail
  obtain ⟨gB, hgB⟩ : ∃ g, (w).heap.size = g := ⟨_, rfl⟩
  have B := Blk.newV hgB 23 #[.int .i64 r, .int .i64 p]
  have hbn := (Below.refl (w).heap.size w).alloc (Nat.le_refl _) (.cells #[.int .i64 r, .int .i64 p] 23)
  replace hb := hb.step hbn
  clear hbn
  rw [hgB]
  have szB := alloc_size hgB (.cells #[.int .i64 r, .int .i64 p] 23)
  generalize (w).alloc (.cells #[.int .i64 r, .int .i64 p] 23) = w1 at *
  obtain ⟨gX, hgX⟩ : ∃ g, (w1).heap.size = g := ⟨_, rfl⟩
  have lt_B_X := B.lt
  rw [hgX] at lt_B_X
  have X := Blk.newV hgX 26 #[.int .i64 k, .int .i64 m, .int .i64 n, .string s]
  have hbn := (Below.refl (w1).heap.size w1).alloc (Nat.le_refl _) (.cells #[.int .i64 k, .int .i64 m, .int .i64 n, .string s] 26)
  replace hb := hb.step hbn
  replace B := B.step hbn
  clear hbn
  have egX : gB + 1 = gX := szB.symm.trans hgX
  rw [egX]
  clear szB
  have szX := alloc_size hgX (.cells #[.int .i64 k, .int .i64 m, .int .i64 n, .string s] 26)
  generalize (w1).alloc (.cells #[.int .i64 k, .int .i64 m, .int .i64 n, .string s] 26) = w2 at *
  obtain ⟨gP, hgP⟩ : ∃ g, (w2).heap.size = g := ⟨_, rfl⟩
  have lt_B_P := B.lt
  rw [hgP] at lt_B_P
  have lt_X_P := X.lt
  rw [hgP] at lt_X_P
  have P := Blk.newV hgP 62 #[.int .i64 xw, .int .i64 xpl, .int .i64 xar, .int .i64 xap, .int .i64 xk, .int .i64 xm, .int .i64 xn, .string xs, .int .i64 xx, .int .i64 xy]
  have hbn := (Below.refl (w2).heap.size w2).alloc (Nat.le_refl _) (.cells #[.int .i64 xw, .int .i64 xpl, .int .i64 xar, .int .i64 xap, .int .i64 xk, .int .i64 xm, .int .i64 xn, .string xs, .int .i64 xx, .int .i64 xy] 62)
  replace hb := hb.step hbn
  replace B := B.step hbn
  replace X := X.step hbn
  clear hbn
  have egP : gX + 1 = gP := szX.symm.trans hgP
  rw [egP]
  clear szX
  have szP := alloc_size hgP (.cells #[.int .i64 xw, .int .i64 xpl, .int .i64 xar, .int .i64 xap, .int .i64 xk, .int .i64 xm, .int .i64 xn, .string xs, .int .i64 xx, .int .i64 xy] 62)
  generalize (w2).alloc (.cells #[.int .i64 xw, .int .i64 xpl, .int .i64 xar, .int .i64 xap, .int .i64 xk, .int .i64 xm, .int .i64 xn, .string xs, .int .i64 xx, .int .i64 xy] 62) = w3 at *
  obtain ⟨gQ, hgQ⟩ : ∃ g, (w3).heap.size = g := ⟨_, rfl⟩
  have lt_B_Q := B.lt
  rw [hgQ] at lt_B_Q
  have lt_X_Q := X.lt
  rw [hgQ] at lt_X_Q
  have lt_P_Q := P.lt
  rw [hgQ] at lt_P_Q
  have Q := Blk.newV hgQ 62 #[.int .i64 yw, .int .i64 ypl, .int .i64 yar, .int .i64 yap, .int .i64 yk, .int .i64 ym, .int .i64 yn, .string ys, .int .i64 yx, .int .i64 yy]
  have hbn := (Below.refl (w3).heap.size w3).alloc (Nat.le_refl _) (.cells #[.int .i64 yw, .int .i64 ypl, .int .i64 yar, .int .i64 yap, .int .i64 yk, .int .i64 ym, .int .i64 yn, .string ys, .int .i64 yx, .int .i64 yy] 62)
  replace hb := hb.step hbn
  replace B := B.step hbn
  replace X := X.step hbn
  replace P := P.step hbn
  clear hbn
  have egQ : gP + 1 = gQ := szP.symm.trans hgQ
  rw [egQ]
  clear szP
  generalize (w3).alloc (.cells #[.int .i64 yw, .int .i64 ypl, .int .i64 yar, .int .i64 yap, .int .i64 yk, .int .i64 ym, .int .i64 yn, .string ys, .int .i64 yx, .int .i64 yy] 62) = w4 at *
  have hBX : gB < gX := by omega
  have hXP : gX < gP := by omega
  have hPQ : gP < gQ := by omega
  have hwB : w.heap.size ≤ gB := by omega
  clear hgB hgX hgP hgQ egX egP egQ
  go_wp2_with fail
  refine (cF _ hb.out).mono ?_
  rintro e w5 ⟨rfl, hbn⟩
  replace hb := hb.step hbn
  replace B := B.step hbn
  replace X := X.step hbn
  replace P := P.step hbn
  replace Q := Q.step hbn
  clear hbn
  have P_0 := P.cell (j := 0) rfl
  have P_1 := P.cell (j := 1) rfl
  have P_2 := P.cell (j := 2) rfl
  have P_3 := P.cell (j := 3) rfl
  have P_4 := P.cell (j := 4) rfl
  have P_5 := P.cell (j := 5) rfl
  have P_6 := P.cell (j := 6) rfl
  have P_7 := P.cell (j := 7) rfl
  have P_8 := P.cell (j := 8) rfl
  have P_9 := P.cell (j := 9) rfl
  have Q_0 := Q.cell (j := 0) rfl
  have Q_1 := Q.cell (j := 1) rfl
  have Q_2 := Q.cell (j := 2) rfl
  have Q_3 := Q.cell (j := 3) rfl
  have Q_4 := Q.cell (j := 4) rfl
  have Q_5 := Q.cell (j := 5) rfl
  have Q_6 := Q.cell (j := 6) rfl
  have Q_7 := Q.cell (j := 7) rfl
  have Q_8 := Q.cell (j := 8) rfl
  have Q_9 := Q.cell (j := 9) rfl
  go_wp2_with fail
  obtain ⟨gS, hgS⟩ : ∃ g, (w5).heap.size = g := ⟨_, rfl⟩
  have lt_B_S := B.lt
  rw [hgS] at lt_B_S
  have lt_X_S := X.lt
  rw [hgS] at lt_X_S
  have lt_P_S := P.lt
  rw [hgS] at lt_P_S
  have lt_Q_S := Q.lt
  rw [hgS] at lt_Q_S
  have S := Blk.newV hgS 62 #[.int .i64 xw, .int .i64 xpl, .int .i64 xar, .int .i64 xap, .int .i64 xk, .int .i64 xm, .int .i64 xn, .string xs, .int .i64 xx, .int .i64 xy, .int .i64 yw, .int .i64 ypl, .int .i64 yar, .int .i64 yap, .int .i64 yk, .int .i64 ym, .int .i64 yn, .string ys, .int .i64 yx, .int .i64 yy]
  have hbn := (Below.refl (w5).heap.size w5).alloc (Nat.le_refl _) (.cells #[.int .i64 xw, .int .i64 xpl, .int .i64 xar, .int .i64 xap, .int .i64 xk, .int .i64 xm, .int .i64 xn, .string xs, .int .i64 xx, .int .i64 xy, .int .i64 yw, .int .i64 ypl, .int .i64 yar, .int .i64 yap, .int .i64 yk, .int .i64 ym, .int .i64 yn, .string ys, .int .i64 yx, .int .i64 yy] 62)
  replace hb := hb.step hbn
  replace B := B.step hbn
  replace X := X.step hbn
  replace P := P.step hbn
  replace P_0 := P.cell (j := 0) rfl
  replace P_1 := P.cell (j := 1) rfl
  replace P_2 := P.cell (j := 2) rfl
  replace P_3 := P.cell (j := 3) rfl
  replace P_4 := P.cell (j := 4) rfl
  replace P_5 := P.cell (j := 5) rfl
  replace P_6 := P.cell (j := 6) rfl
  replace P_7 := P.cell (j := 7) rfl
  replace P_8 := P.cell (j := 8) rfl
  replace P_9 := P.cell (j := 9) rfl
  replace Q := Q.step hbn
  replace Q_0 := Q.cell (j := 0) rfl
  replace Q_1 := Q.cell (j := 1) rfl
  replace Q_2 := Q.cell (j := 2) rfl
  replace Q_3 := Q.cell (j := 3) rfl
  replace Q_4 := Q.cell (j := 4) rfl
  replace Q_5 := Q.cell (j := 5) rfl
  replace Q_6 := Q.cell (j := 6) rfl
  replace Q_7 := Q.cell (j := 7) rfl
  replace Q_8 := Q.cell (j := 8) rfl
  replace Q_9 := Q.cell (j := 9) rfl
  clear hbn
  rw [hgS]
  generalize (w5).alloc (.cells #[.int .i64 xw, .int .i64 xpl, .int .i64 xar, .int .i64 xap, .int .i64 xk, .int .i64 xm, .int .i64 xn, .string xs, .int .i64 xx, .int .i64 xy, .int .i64 yw, .int .i64 ypl, .int .i64 yar, .int .i64 yap, .int .i64 yk, .int .i64 ym, .int .i64 yn, .string ys, .int .i64 yx, .int .i64 yy] 62) = w6 at *
  have c2 : ∀ W, HasPa W (some ⟨gS, 0, none⟩) _ → Calls Tryz.prog 8 #[.slice (some ⟨gS, 0, none⟩) 2 2, .int .i64 2] W _ := fun W hE => few15_any [⟨xw, xpl, xar, xap, xk, xm, xn, xs, xx, xy⟩, ⟨yw, ypl, yar, yap, yk, ym, yn, ys, yx, yy⟩] (some ⟨gS, 0, none⟩) 2 2 W hE (by simp) (by intro e he; simp at he; rcases he with rfl | rfl; exact hx; exact hy)
  rw [hf2] at c2
  refine (c2 _ (two_pas S)).mono ?_
  rintro e w7 ⟨rfl, hbn⟩
  clear P_0 P_1 P_2 P_3 P_4 P_5 P_6 P_7 P_8 P_9
  clear Q_0 Q_1 Q_2 Q_3 Q_4 Q_5 Q_6 Q_7 Q_8 Q_9
  replace hb := hb.step hbn
  replace B := B.step hbn
  replace X := X.step hbn
  replace P := P.step hbn
  replace Q := Q.step hbn
  replace S := S.step hbn
  clear hbn c2 cF S
  go_wp2_with fail
  refine (works15_any _ (hT.step hb.out)).mono ?_
  rintro e w8 ⟨rfl, hbn⟩
  replace hb := hb.step hbn
  replace B := B.step hbn
  replace X := X.step hbn
  replace P := P.step hbn
  replace Q := Q.step hbn
  clear hbn
  go_wp2_with fail
  go_ret
  exact ⟨rfl, hb⟩
set_option maxRecDepth 100000 in
set_option maxHeartbeats 4000000 in
theorem copies15_long (c sl : Int) (own : Bool) (r p k m n : Int) (s : ByteArray) (l : List Pa) (ao : Option Addr) (cap : Nat) (x1 y1 : Pa) (w : World) (hT : Tabs w) (hE : HasPa w ao l) (hl : l.length ≤ 9223372036854775807) (hs : ∀ e, e ∈ l → e.s.size ≤ 9223372036854775807) (hz : s.size ≤ 9223372036854775807) (hx : x1.s.size ≤ 9223372036854775807) (hy : y1.s.size ≤ 9223372036854775807) (hf : fewP l 20 = true) (hf2 : fewP [x1, y1] 2 = true) (hg : longP s = true) :
    Calls Tryz.prog 4 #[.int .i64 c, .int .i64 sl, .bool own, .agg #[.int .i64 r, .int .i64 p], .agg #[.int .i64 k, .int .i64 m, .int .i64 n, .string s], .slice ao l.length cap, paV x1, paV y1] w fun e w' => e = .returned (.bool true) ∧ Below w.heap.size w w' := by
  have cF := fun W (hW : Below w.heap.size w W) => few15_any l ao cap 20 W (hE.step hW) hl hs
  rw [hf] at cF
  have hzi : (s.size : Int) ≤ 9223372036854775807 := by omega
  obtain ⟨N, hN⟩ : ∃ N, l.length = N := ⟨_, rfl⟩
  rw [hN] at cF ⊢
  clear hf hs hN hl
  have hlong : 300 < (s.size : Int) := by simpa [longP] using hg
  obtain ⟨xw, xpl, xar, xap, xk, xm, xn, xs, xx, xy⟩ := x1
  obtain ⟨yw, ypl, yar, yap, yk, ym, yn, ys, yx, yy⟩ := y1
  unfold paV
  simp only at hx hy ⊢
  have hb := From.refl w
  go_enter Tryz.func4, Tryz.ntmps4
  go_upto_region 1 with fail
  obtain ⟨gB, hgB⟩ : ∃ g, (w).heap.size = g := ⟨_, rfl⟩
  have B := Blk.newV hgB 23 #[.int .i64 r, .int .i64 p]
  have hbn := (Below.refl (w).heap.size w).alloc (Nat.le_refl _) (.cells #[.int .i64 r, .int .i64 p] 23)
  replace hb := hb.step hbn
  clear hbn
  rw [hgB]
  have szB := alloc_size hgB (.cells #[.int .i64 r, .int .i64 p] 23)
  generalize (w).alloc (.cells #[.int .i64 r, .int .i64 p] 23) = w1 at *
  obtain ⟨gX, hgX⟩ : ∃ g, (w1).heap.size = g := ⟨_, rfl⟩
  have lt_B_X := B.lt
  rw [hgX] at lt_B_X
  have X := Blk.newV hgX 26 #[.int .i64 k, .int .i64 m, .int .i64 n, .string s]
  have hbn := (Below.refl (w1).heap.size w1).alloc (Nat.le_refl _) (.cells #[.int .i64 k, .int .i64 m, .int .i64 n, .string s] 26)
  replace hb := hb.step hbn
  replace B := B.step hbn
  clear hbn
  have egX : gB + 1 = gX := szB.symm.trans hgX
  rw [egX]
  clear szB
  have szX := alloc_size hgX (.cells #[.int .i64 k, .int .i64 m, .int .i64 n, .string s] 26)
  generalize (w1).alloc (.cells #[.int .i64 k, .int .i64 m, .int .i64 n, .string s] 26) = w2 at *
  obtain ⟨gP, hgP⟩ : ∃ g, (w2).heap.size = g := ⟨_, rfl⟩
  have lt_B_P := B.lt
  rw [hgP] at lt_B_P
  have lt_X_P := X.lt
  rw [hgP] at lt_X_P
  have P := Blk.newV hgP 62 #[.int .i64 xw, .int .i64 xpl, .int .i64 xar, .int .i64 xap, .int .i64 xk, .int .i64 xm, .int .i64 xn, .string xs, .int .i64 xx, .int .i64 xy]
  have hbn := (Below.refl (w2).heap.size w2).alloc (Nat.le_refl _) (.cells #[.int .i64 xw, .int .i64 xpl, .int .i64 xar, .int .i64 xap, .int .i64 xk, .int .i64 xm, .int .i64 xn, .string xs, .int .i64 xx, .int .i64 xy] 62)
  replace hb := hb.step hbn
  replace B := B.step hbn
  replace X := X.step hbn
  clear hbn
  have egP : gX + 1 = gP := szX.symm.trans hgP
  rw [egP]
  clear szX
  have szP := alloc_size hgP (.cells #[.int .i64 xw, .int .i64 xpl, .int .i64 xar, .int .i64 xap, .int .i64 xk, .int .i64 xm, .int .i64 xn, .string xs, .int .i64 xx, .int .i64 xy] 62)
  generalize (w2).alloc (.cells #[.int .i64 xw, .int .i64 xpl, .int .i64 xar, .int .i64 xap, .int .i64 xk, .int .i64 xm, .int .i64 xn, .string xs, .int .i64 xx, .int .i64 xy] 62) = w3 at *
  obtain ⟨gQ, hgQ⟩ : ∃ g, (w3).heap.size = g := ⟨_, rfl⟩
  have lt_B_Q := B.lt
  rw [hgQ] at lt_B_Q
  have lt_X_Q := X.lt
  rw [hgQ] at lt_X_Q
  have lt_P_Q := P.lt
  rw [hgQ] at lt_P_Q
  have Q := Blk.newV hgQ 62 #[.int .i64 yw, .int .i64 ypl, .int .i64 yar, .int .i64 yap, .int .i64 yk, .int .i64 ym, .int .i64 yn, .string ys, .int .i64 yx, .int .i64 yy]
  have hbn := (Below.refl (w3).heap.size w3).alloc (Nat.le_refl _) (.cells #[.int .i64 yw, .int .i64 ypl, .int .i64 yar, .int .i64 yap, .int .i64 yk, .int .i64 ym, .int .i64 yn, .string ys, .int .i64 yx, .int .i64 yy] 62)
  replace hb := hb.step hbn
  replace B := B.step hbn
  replace X := X.step hbn
  replace P := P.step hbn
  clear hbn
  have egQ : gP + 1 = gQ := szP.symm.trans hgQ
  rw [egQ]
  clear szP
  generalize (w3).alloc (.cells #[.int .i64 yw, .int .i64 ypl, .int .i64 yar, .int .i64 yap, .int .i64 yk, .int .i64 ym, .int .i64 yn, .string ys, .int .i64 yx, .int .i64 yy] 62) = w4 at *
  have hBX : gB < gX := by omega
  have hXP : gX < gP := by omega
  have hPQ : gP < gQ := by omega
  have hwB : w.heap.size ≤ gB := by omega
  clear hgB hgX hgP hgQ egX egP egQ
  go_wp2_with fail
  refine (cF _ hb.out).mono ?_
  rintro e w5 ⟨rfl, hbn⟩
  replace hb := hb.step hbn
  replace B := B.step hbn
  replace X := X.step hbn
  replace P := P.step hbn
  replace Q := Q.step hbn
  clear hbn
  have P_0 := P.cell (j := 0) rfl
  have P_1 := P.cell (j := 1) rfl
  have P_2 := P.cell (j := 2) rfl
  have P_3 := P.cell (j := 3) rfl
  have P_4 := P.cell (j := 4) rfl
  have P_5 := P.cell (j := 5) rfl
  have P_6 := P.cell (j := 6) rfl
  have P_7 := P.cell (j := 7) rfl
  have P_8 := P.cell (j := 8) rfl
  have P_9 := P.cell (j := 9) rfl
  have Q_0 := Q.cell (j := 0) rfl
  have Q_1 := Q.cell (j := 1) rfl
  have Q_2 := Q.cell (j := 2) rfl
  have Q_3 := Q.cell (j := 3) rfl
  have Q_4 := Q.cell (j := 4) rfl
  have Q_5 := Q.cell (j := 5) rfl
  have Q_6 := Q.cell (j := 6) rfl
  have Q_7 := Q.cell (j := 7) rfl
  have Q_8 := Q.cell (j := 8) rfl
  have Q_9 := Q.cell (j := 9) rfl
  go_wp2_with fail
  obtain ⟨gS, hgS⟩ : ∃ g, (w5).heap.size = g := ⟨_, rfl⟩
  have lt_B_S := B.lt
  rw [hgS] at lt_B_S
  have lt_X_S := X.lt
  rw [hgS] at lt_X_S
  have lt_P_S := P.lt
  rw [hgS] at lt_P_S
  have lt_Q_S := Q.lt
  rw [hgS] at lt_Q_S
  have S := Blk.newV hgS 62 #[.int .i64 xw, .int .i64 xpl, .int .i64 xar, .int .i64 xap, .int .i64 xk, .int .i64 xm, .int .i64 xn, .string xs, .int .i64 xx, .int .i64 xy, .int .i64 yw, .int .i64 ypl, .int .i64 yar, .int .i64 yap, .int .i64 yk, .int .i64 ym, .int .i64 yn, .string ys, .int .i64 yx, .int .i64 yy]
  have hbn := (Below.refl (w5).heap.size w5).alloc (Nat.le_refl _) (.cells #[.int .i64 xw, .int .i64 xpl, .int .i64 xar, .int .i64 xap, .int .i64 xk, .int .i64 xm, .int .i64 xn, .string xs, .int .i64 xx, .int .i64 xy, .int .i64 yw, .int .i64 ypl, .int .i64 yar, .int .i64 yap, .int .i64 yk, .int .i64 ym, .int .i64 yn, .string ys, .int .i64 yx, .int .i64 yy] 62)
  replace hb := hb.step hbn
  replace B := B.step hbn
  replace X := X.step hbn
  replace P := P.step hbn
  replace P_0 := P.cell (j := 0) rfl
  replace P_1 := P.cell (j := 1) rfl
  replace P_2 := P.cell (j := 2) rfl
  replace P_3 := P.cell (j := 3) rfl
  replace P_4 := P.cell (j := 4) rfl
  replace P_5 := P.cell (j := 5) rfl
  replace P_6 := P.cell (j := 6) rfl
  replace P_7 := P.cell (j := 7) rfl
  replace P_8 := P.cell (j := 8) rfl
  replace P_9 := P.cell (j := 9) rfl
  replace Q := Q.step hbn
  replace Q_0 := Q.cell (j := 0) rfl
  replace Q_1 := Q.cell (j := 1) rfl
  replace Q_2 := Q.cell (j := 2) rfl
  replace Q_3 := Q.cell (j := 3) rfl
  replace Q_4 := Q.cell (j := 4) rfl
  replace Q_5 := Q.cell (j := 5) rfl
  replace Q_6 := Q.cell (j := 6) rfl
  replace Q_7 := Q.cell (j := 7) rfl
  replace Q_8 := Q.cell (j := 8) rfl
  replace Q_9 := Q.cell (j := 9) rfl
  clear hbn
  rw [hgS]
  generalize (w5).alloc (.cells #[.int .i64 xw, .int .i64 xpl, .int .i64 xar, .int .i64 xap, .int .i64 xk, .int .i64 xm, .int .i64 xn, .string xs, .int .i64 xx, .int .i64 xy, .int .i64 yw, .int .i64 ypl, .int .i64 yar, .int .i64 yap, .int .i64 yk, .int .i64 ym, .int .i64 yn, .string ys, .int .i64 yx, .int .i64 yy] 62) = w6 at *
  have c2 : ∀ W, HasPa W (some ⟨gS, 0, none⟩) _ → Calls Tryz.prog 8 #[.slice (some ⟨gS, 0, none⟩) 2 2, .int .i64 2] W _ := fun W hE => few15_any [⟨xw, xpl, xar, xap, xk, xm, xn, xs, xx, xy⟩, ⟨yw, ypl, yar, yap, yk, ym, yn, ys, yx, yy⟩] (some ⟨gS, 0, none⟩) 2 2 W hE (by simp) (by intro e he; simp at he; rcases he with rfl | rfl; exact hx; exact hy)
  rw [hf2] at c2
  refine (c2 _ (two_pas S)).mono ?_
  rintro e w7 ⟨rfl, hbn⟩
  clear P_0 P_1 P_2 P_3 P_4 P_5 P_6 P_7 P_8 P_9
  clear Q_0 Q_1 Q_2 Q_3 Q_4 Q_5 Q_6 Q_7 Q_8 Q_9
  replace hb := hb.step hbn
  replace B := B.step hbn
  replace X := X.step hbn
  replace P := P.step hbn
  replace Q := Q.step hbn
  replace S := S.step hbn
  clear hbn c2 cF S
  have X_0 := X.cell (j := 0) rfl
  have X_1 := X.cell (j := 1) rfl
  have X_2 := X.cell (j := 2) rfl
  have X_3 := X.cell (j := 3) rfl
  go_wp2_with fail
  refine (works15_any _ (hT.step hb.out)).mono ?_
  rintro e w8 ⟨rfl, hbn⟩
  replace hb := hb.step hbn
  replace B := B.step hbn
  replace X := X.step hbn
  replace P := P.step hbn
  replace Q := Q.step hbn
  clear hbn
  go_wp2_with fail
  go_ret
  exact ⟨rfl, hb⟩
set_option maxRecDepth 100000 in
set_option maxHeartbeats 4000000 in
theorem copies15_no (c sl : Int) (own : Bool) (r p k m n : Int) (s : ByteArray) (l : List Pa) (ao : Option Addr) (cap : Nat) (x1 y1 : Pa) (w : World) (hT : Tabs w) (hE : HasPa w ao l) (hl : l.length ≤ 9223372036854775807) (hs : ∀ e, e ∈ l → e.s.size ≤ 9223372036854775807) (hz : s.size ≤ 9223372036854775807) (hx : x1.s.size ≤ 9223372036854775807) (hy : y1.s.size ≤ 9223372036854775807) (hf : fewP l 20 = true) (hf2 : fewP [x1, y1] 2 = true) (hg : longP s = false) (h0 : mkE c sl own r p k m n s ≠ 0) :
    Calls Tryz.prog 4 #[.int .i64 c, .int .i64 sl, .bool own, .agg #[.int .i64 r, .int .i64 p], .agg #[.int .i64 k, .int .i64 m, .int .i64 n, .string s], .slice ao l.length cap, paV x1, paV y1] w fun e w' => e = .returned (.bool true) ∧ Below w.heap.size w w' := by
  have cF := fun W (hW : Below w.heap.size w W) => few15_any l ao cap 20 W (hE.step hW) hl hs
  rw [hf] at cF
  have hzi : (s.size : Int) ≤ 9223372036854775807 := by omega
  obtain ⟨N, hN⟩ : ∃ N, l.length = N := ⟨_, rfl⟩
  rw [hN] at cF ⊢
  have hshort : ¬ 300 < (s.size : Int) := by simpa [longP] using hg
  have cMk := fun W hW => made_no c sl own r p k m n s W hW hz h0
  have hp0 : zP.pr.length = 9 := rfl
  have ha0 : zP.ac.length = 9 := rfl
  obtain ⟨A0, hA0⟩ : ∃ A0, zP = A0 := ⟨_, rfl⟩
  simp only [hA0] at cMk hp0 ha0
  clear hA0 h0 hg
  unfold qV at cMk
  clear hf hs hN hl
  obtain ⟨xw, xpl, xar, xap, xk, xm, xn, xs, xx, xy⟩ := x1
  obtain ⟨yw, ypl, yar, yap, yk, ym, yn, ys, yx, yy⟩ := y1
  unfold paV
  simp only at hx hy ⊢
  have hb := From.refl w
  go_enter Tryz.func4, Tryz.ntmps4
  go_upto_region 1 with fail
  obtain ⟨gB, hgB⟩ : ∃ g, (w).heap.size = g := ⟨_, rfl⟩
  have B := Blk.newV hgB 23 #[.int .i64 r, .int .i64 p]
  have hbn := (Below.refl (w).heap.size w).alloc (Nat.le_refl _) (.cells #[.int .i64 r, .int .i64 p] 23)
  replace hb := hb.step hbn
  clear hbn
  rw [hgB]
  have szB := alloc_size hgB (.cells #[.int .i64 r, .int .i64 p] 23)
  generalize (w).alloc (.cells #[.int .i64 r, .int .i64 p] 23) = w1 at *
  obtain ⟨gX, hgX⟩ : ∃ g, (w1).heap.size = g := ⟨_, rfl⟩
  have lt_B_X := B.lt
  rw [hgX] at lt_B_X
  have X := Blk.newV hgX 26 #[.int .i64 k, .int .i64 m, .int .i64 n, .string s]
  have hbn := (Below.refl (w1).heap.size w1).alloc (Nat.le_refl _) (.cells #[.int .i64 k, .int .i64 m, .int .i64 n, .string s] 26)
  replace hb := hb.step hbn
  replace B := B.step hbn
  clear hbn
  have egX : gB + 1 = gX := szB.symm.trans hgX
  rw [egX]
  clear szB
  have szX := alloc_size hgX (.cells #[.int .i64 k, .int .i64 m, .int .i64 n, .string s] 26)
  generalize (w1).alloc (.cells #[.int .i64 k, .int .i64 m, .int .i64 n, .string s] 26) = w2 at *
  obtain ⟨gP, hgP⟩ : ∃ g, (w2).heap.size = g := ⟨_, rfl⟩
  have lt_B_P := B.lt
  rw [hgP] at lt_B_P
  have lt_X_P := X.lt
  rw [hgP] at lt_X_P
  have P := Blk.newV hgP 62 #[.int .i64 xw, .int .i64 xpl, .int .i64 xar, .int .i64 xap, .int .i64 xk, .int .i64 xm, .int .i64 xn, .string xs, .int .i64 xx, .int .i64 xy]
  have hbn := (Below.refl (w2).heap.size w2).alloc (Nat.le_refl _) (.cells #[.int .i64 xw, .int .i64 xpl, .int .i64 xar, .int .i64 xap, .int .i64 xk, .int .i64 xm, .int .i64 xn, .string xs, .int .i64 xx, .int .i64 xy] 62)
  replace hb := hb.step hbn
  replace B := B.step hbn
  replace X := X.step hbn
  clear hbn
  have egP : gX + 1 = gP := szX.symm.trans hgP
  rw [egP]
  clear szX
  have szP := alloc_size hgP (.cells #[.int .i64 xw, .int .i64 xpl, .int .i64 xar, .int .i64 xap, .int .i64 xk, .int .i64 xm, .int .i64 xn, .string xs, .int .i64 xx, .int .i64 xy] 62)
  generalize (w2).alloc (.cells #[.int .i64 xw, .int .i64 xpl, .int .i64 xar, .int .i64 xap, .int .i64 xk, .int .i64 xm, .int .i64 xn, .string xs, .int .i64 xx, .int .i64 xy] 62) = w3 at *
  obtain ⟨gQ, hgQ⟩ : ∃ g, (w3).heap.size = g := ⟨_, rfl⟩
  have lt_B_Q := B.lt
  rw [hgQ] at lt_B_Q
  have lt_X_Q := X.lt
  rw [hgQ] at lt_X_Q
  have lt_P_Q := P.lt
  rw [hgQ] at lt_P_Q
  have Q := Blk.newV hgQ 62 #[.int .i64 yw, .int .i64 ypl, .int .i64 yar, .int .i64 yap, .int .i64 yk, .int .i64 ym, .int .i64 yn, .string ys, .int .i64 yx, .int .i64 yy]
  have hbn := (Below.refl (w3).heap.size w3).alloc (Nat.le_refl _) (.cells #[.int .i64 yw, .int .i64 ypl, .int .i64 yar, .int .i64 yap, .int .i64 yk, .int .i64 ym, .int .i64 yn, .string ys, .int .i64 yx, .int .i64 yy] 62)
  replace hb := hb.step hbn
  replace B := B.step hbn
  replace X := X.step hbn
  replace P := P.step hbn
  clear hbn
  have egQ : gP + 1 = gQ := szP.symm.trans hgQ
  rw [egQ]
  clear szP
  generalize (w3).alloc (.cells #[.int .i64 yw, .int .i64 ypl, .int .i64 yar, .int .i64 yap, .int .i64 yk, .int .i64 ym, .int .i64 yn, .string ys, .int .i64 yx, .int .i64 yy] 62) = w4 at *
  have hBX : gB < gX := by omega
  have hXP : gX < gP := by omega
  have hPQ : gP < gQ := by omega
  have hwB : w.heap.size ≤ gB := by omega
  clear hgB hgX hgP hgQ egX egP egQ
  go_wp2_with fail
  refine (cF _ hb.out).mono ?_
  rintro e w5 ⟨rfl, hbn⟩
  replace hb := hb.step hbn
  replace B := B.step hbn
  replace X := X.step hbn
  replace P := P.step hbn
  replace Q := Q.step hbn
  clear hbn
  have P_0 := P.cell (j := 0) rfl
  have P_1 := P.cell (j := 1) rfl
  have P_2 := P.cell (j := 2) rfl
  have P_3 := P.cell (j := 3) rfl
  have P_4 := P.cell (j := 4) rfl
  have P_5 := P.cell (j := 5) rfl
  have P_6 := P.cell (j := 6) rfl
  have P_7 := P.cell (j := 7) rfl
  have P_8 := P.cell (j := 8) rfl
  have P_9 := P.cell (j := 9) rfl
  have Q_0 := Q.cell (j := 0) rfl
  have Q_1 := Q.cell (j := 1) rfl
  have Q_2 := Q.cell (j := 2) rfl
  have Q_3 := Q.cell (j := 3) rfl
  have Q_4 := Q.cell (j := 4) rfl
  have Q_5 := Q.cell (j := 5) rfl
  have Q_6 := Q.cell (j := 6) rfl
  have Q_7 := Q.cell (j := 7) rfl
  have Q_8 := Q.cell (j := 8) rfl
  have Q_9 := Q.cell (j := 9) rfl
  go_wp2_with fail
  obtain ⟨gS, hgS⟩ : ∃ g, (w5).heap.size = g := ⟨_, rfl⟩
  have lt_B_S := B.lt
  rw [hgS] at lt_B_S
  have lt_X_S := X.lt
  rw [hgS] at lt_X_S
  have lt_P_S := P.lt
  rw [hgS] at lt_P_S
  have lt_Q_S := Q.lt
  rw [hgS] at lt_Q_S
  have S := Blk.newV hgS 62 #[.int .i64 xw, .int .i64 xpl, .int .i64 xar, .int .i64 xap, .int .i64 xk, .int .i64 xm, .int .i64 xn, .string xs, .int .i64 xx, .int .i64 xy, .int .i64 yw, .int .i64 ypl, .int .i64 yar, .int .i64 yap, .int .i64 yk, .int .i64 ym, .int .i64 yn, .string ys, .int .i64 yx, .int .i64 yy]
  have hbn := (Below.refl (w5).heap.size w5).alloc (Nat.le_refl _) (.cells #[.int .i64 xw, .int .i64 xpl, .int .i64 xar, .int .i64 xap, .int .i64 xk, .int .i64 xm, .int .i64 xn, .string xs, .int .i64 xx, .int .i64 xy, .int .i64 yw, .int .i64 ypl, .int .i64 yar, .int .i64 yap, .int .i64 yk, .int .i64 ym, .int .i64 yn, .string ys, .int .i64 yx, .int .i64 yy] 62)
  replace hb := hb.step hbn
  replace B := B.step hbn
  replace X := X.step hbn
  replace P := P.step hbn
  replace P_0 := P.cell (j := 0) rfl
  replace P_1 := P.cell (j := 1) rfl
  replace P_2 := P.cell (j := 2) rfl
  replace P_3 := P.cell (j := 3) rfl
  replace P_4 := P.cell (j := 4) rfl
  replace P_5 := P.cell (j := 5) rfl
  replace P_6 := P.cell (j := 6) rfl
  replace P_7 := P.cell (j := 7) rfl
  replace P_8 := P.cell (j := 8) rfl
  replace P_9 := P.cell (j := 9) rfl
  replace Q := Q.step hbn
  replace Q_0 := Q.cell (j := 0) rfl
  replace Q_1 := Q.cell (j := 1) rfl
  replace Q_2 := Q.cell (j := 2) rfl
  replace Q_3 := Q.cell (j := 3) rfl
  replace Q_4 := Q.cell (j := 4) rfl
  replace Q_5 := Q.cell (j := 5) rfl
  replace Q_6 := Q.cell (j := 6) rfl
  replace Q_7 := Q.cell (j := 7) rfl
  replace Q_8 := Q.cell (j := 8) rfl
  replace Q_9 := Q.cell (j := 9) rfl
  clear hbn
  rw [hgS]
  generalize (w5).alloc (.cells #[.int .i64 xw, .int .i64 xpl, .int .i64 xar, .int .i64 xap, .int .i64 xk, .int .i64 xm, .int .i64 xn, .string xs, .int .i64 xx, .int .i64 xy, .int .i64 yw, .int .i64 ypl, .int .i64 yar, .int .i64 yap, .int .i64 yk, .int .i64 ym, .int .i64 yn, .string ys, .int .i64 yx, .int .i64 yy] 62) = w6 at *
  have c2 : ∀ W, HasPa W (some ⟨gS, 0, none⟩) _ → Calls Tryz.prog 8 #[.slice (some ⟨gS, 0, none⟩) 2 2, .int .i64 2] W _ := fun W hE => few15_any [⟨xw, xpl, xar, xap, xk, xm, xn, xs, xx, xy⟩, ⟨yw, ypl, yar, yap, yk, ym, yn, ys, yx, yy⟩] (some ⟨gS, 0, none⟩) 2 2 W hE (by simp) (by intro e he; simp at he; rcases he with rfl | rfl; exact hx; exact hy)
  rw [hf2] at c2
  refine (c2 _ (two_pas S)).mono ?_
  rintro e w7 ⟨rfl, hbn⟩
  clear P_0 P_1 P_2 P_3 P_4 P_5 P_6 P_7 P_8 P_9
  clear Q_0 Q_1 Q_2 Q_3 Q_4 Q_5 Q_6 Q_7 Q_8 Q_9
  replace hb := hb.step hbn
  replace B := B.step hbn
  replace X := X.step hbn
  replace P := P.step hbn
  replace Q := Q.step hbn
  replace S := S.step hbn
  clear hbn c2 cF S
  have B_0 := B.cell (j := 0) rfl
  have B_1 := B.cell (j := 1) rfl
  have X_0 := X.cell (j := 0) rfl
  have X_1 := X.cell (j := 1) rfl
  have X_2 := X.cell (j := 2) rfl
  have X_3 := X.cell (j := 3) rfl
  go_upto_region 3 with fail
  apply wp_region_lit
  refine wpList_pure (v := ?_) rfl ?_ ?_
  rotate_left
  · go_simp
    try with_reducible rfl
  dsimp only [Act.put]
  refine wpList_pure (v := ?_) rfl ?_ ?_
  rotate_left
  · go_simp
    try with_reducible rfl
  dsimp only [Act.put]
  refine wpList_pure (v := ?_) rfl ?_ ?_
  rotate_left
  · go_simp
    try with_reducible rfl
  dsimp only [Act.put]
  refine wpList_pure (v := ?_) rfl ?_ ?_
  rotate_left
  · go_simp
    try with_reducible rfl
  dsimp only [Act.put]
  refine wpList_pure (v := ?_) rfl ?_ ?_
  rotate_left
  · go_simp
    try with_reducible rfl
  dsimp only [Act.put]
  refine wpList_plain rfl fun K hK => ?_
  go_simp
  refine (cMk _ (hT.step hb.out)).mono ?_
  rintro e w8 ⟨rfl, hbn⟩
  refine hK _ _ ?_
  clear hK K cMk X_0 X_1 X_2 X_3 B_0 B_1 B X hshort hzi
  replace hb := hb.step hbn
  replace P := P.step hbn
  replace Q := Q.step hbn
  clear hbn
  refine wpList_pure (v := ?_) rfl ?_ ?_
  rotate_left
  · go_simp
    try with_reducible rfl
  dsimp only [Act.put]
  refine wpList_pure (v := ?_) rfl ?_ ?_
  rotate_left
  · go_simp
    try with_reducible rfl
  dsimp only [Act.put]
  refine wpList_pure (v := ?_) rfl ?_ ?_
  rotate_left
  · go_simp
    try with_reducible rfl
  dsimp only [Act.put]
  refine wpList_pure (v := ?_) rfl ?_ ?_
  rotate_left
  · go_simp
    try with_reducible rfl
  dsimp only [Act.put]
  refine wpList_plain rfl fun K hK => ?_
  go_simp
  obtain ⟨gW, hgW⟩ : ∃ g, w8.heap.size = g := ⟨_, rfl⟩
  have O := Blk.newV hgW 35 #[.int .i64 0, .int .i64 0, .int .i64 0, .int .i64 0, .int .i64 0, .int .i64 0, .int .i64 0, .int .i64 0, .string ⟨#[]⟩, .bool false, .bool false, .bool false, .bool false, .bool false, .bool false, .bool false, .bool false, .bool false, .bool false, .bool false, .bool false, .bool false, .bool false, .bool false, .bool false, .bool false, .bool false, .int .i64 0, .int .i64 0, .int .i64 0, .int .i64 0, .int .i64 0, .string ⟨#[]⟩, .int .i64 0, .int .i64 0]
  have hbn := (Below.refl w8.heap.size w8).alloc (Nat.le_refl _) (.cells #[.int .i64 0, .int .i64 0, .int .i64 0, .int .i64 0, .int .i64 0, .int .i64 0, .int .i64 0, .int .i64 0, .string ⟨#[]⟩, .bool false, .bool false, .bool false, .bool false, .bool false, .bool false, .bool false, .bool false, .bool false, .bool false, .bool false, .bool false, .bool false, .bool false, .bool false, .bool false, .bool false, .bool false, .int .i64 0, .int .i64 0, .int .i64 0, .int .i64 0, .int .i64 0, .string ⟨#[]⟩, .int .i64 0, .int .i64 0] 35)
  have hwgW : w.heap.size ≤ gW := by have := hb.size; omega
  have lgWP := P.lt
  rw [hgW] at lgWP
  have lgWQ := Q.lt
  rw [hgW] at lgWQ
  replace hb := hb.step hbn
  replace P := P.step hbn
  replace Q := Q.step hbn
  refine hK _ _ ?_
  clear hK K hbn
  rw [hgW]
  generalize w8.alloc (.cells #[.int .i64 0, .int .i64 0, .int .i64 0, .int .i64 0, .int .i64 0, .int .i64 0, .int .i64 0, .int .i64 0, .string ⟨#[]⟩, .bool false, .bool false, .bool false, .bool false, .bool false, .bool false, .bool false, .bool false, .bool false, .bool false, .bool false, .bool false, .bool false, .bool false, .bool false, .bool false, .bool false, .bool false, .int .i64 0, .int .i64 0, .int .i64 0, .int .i64 0, .int .i64 0, .string ⟨#[]⟩, .int .i64 0, .int .i64 0] 35) = w9 at *
  refine wpList_pure (v := ?_) rfl ?_ ?_
  rotate_left
  · go_simp
    try with_reducible rfl
  dsimp only [Act.put]
  refine wpList_store_rowTo rfl 35 (.tmp 18) (.tmp 51) rfl rfl gW (qL A0).toArray (by kernel_rfl) (by kernel_rfl) _ _ O (qinfo hp0 ha0) (by rw [qsize hp0 ha0]; rfl) (qone _) ?_
  have hkn := kx_row w9 gW (qL A0).toArray
  replace O := O.row (qL A0)
  replace hb := hb.kx hkn (by simp; omega)
  replace P := P.kx hkn (by simp; omega)
  replace Q := Q.kx hkn (by simp; omega)
  generalize w9.setRow gW (qL A0).toArray = wk at *
  clear hkn hgW
  replace O : QW wk gW A0 := ⟨O, hp0, ha0⟩
  refine wpList_pure (v := ?_) rfl ?_ ?_
  rotate_left
  · go_simp
    try with_reducible rfl
  dsimp only [Act.put]
  refine wpList_nil ?_
  go_wp2_with fail
  refine (works15_any _ (hT.step hb.out)).mono ?_
  rintro e w10 ⟨rfl, hbn⟩
  replace hb := hb.step hbn
  clear hbn
  go_wp2_with fail
  go_ret
  exact ⟨rfl, hb⟩
set_option maxRecDepth 100000 in
set_option maxHeartbeats 16000000 in
theorem copies15_yes (c sl : Int) (own : Bool) (r p k m n : Int) (s : ByteArray) (l : List Pa) (ao : Option Addr) (cap : Nat) (x1 y1 : Pa) (w : World) (hT : Tabs w) (hE : HasPa w ao l) (hl : l.length ≤ 9223372036854775807) (hs : ∀ e, e ∈ l → e.s.size ≤ 9223372036854775807) (hz : s.size ≤ 9223372036854775807) (hx : x1.s.size ≤ 9223372036854775807) (hy : y1.s.size ≤ 9223372036854775807) (hf : fewP l 20 = true) (hf2 : fewP [x1, y1] 2 = true) (hg : longP s = false) (h0 : mkE c sl own r p k m n s = 0) :
    Calls Tryz.prog 4 #[.int .i64 c, .int .i64 sl, .bool own, .agg #[.int .i64 r, .int .i64 p], .agg #[.int .i64 k, .int .i64 m, .int .i64 n, .string s], .slice ao l.length cap, paV x1, paV y1] w fun e w' => e = .returned (.bool true) ∧ Below w.heap.size w w' := by
  have cF := fun W (hW : Below w.heap.size w W) => few15_any l ao cap 20 W (hE.step hW) hl hs
  rw [hf] at cF
  have hzi : (s.size : Int) ≤ 9223372036854775807 := by omega
  obtain ⟨N, hN⟩ : ∃ N, l.length = N := ⟨_, rfl⟩
  rw [hN] at cF ⊢
  have hl20 := (fewP_small hf).1
  rw [hN] at hl20
  have hshort : ¬ 300 < (s.size : Int) := by simpa [longP] using hg
  have cMk := fun W hW => made_ok c sl own r p k m n s W hW hz h0
  have hI0 := mkA_inv h0
  have hB0 := mkA_invB2 c sl own r p k m n s
  obtain ⟨hp0, ha0⟩ := mkA_len c sl own r p k m n s
  obtain ⟨A0, hA0⟩ : ∃ A0, mkA c sl own r p k m n s = A0 := ⟨_, rfl⟩
  simp only [hA0] at cMk hI0 hB0 hp0 ha0
  clear hA0 h0 hg
  unfold qV at cMk
  have HS := Lib.hid hs
  clear hs
  have HN := Lib.hid hN
  clear hN
  clear hf
  obtain ⟨xw, xpl, xar, xap, xk, xm, xn, xs, xx, xy⟩ := x1
  obtain ⟨yw, ypl, yar, yap, yk, ym, yn, ys, yx, yy⟩ := y1
  unfold paV
  simp only at hx hy ⊢
  have hb := From.refl w
  go_enter Tryz.func4, Tryz.ntmps4
  go_upto_region 1 with fail
  obtain ⟨gB, hgB⟩ : ∃ g, (w).heap.size = g := ⟨_, rfl⟩
  have B := Blk.newV hgB 23 #[.int .i64 r, .int .i64 p]
  have hbn := (Below.refl (w).heap.size w).alloc (Nat.le_refl _) (.cells #[.int .i64 r, .int .i64 p] 23)
  replace hb := hb.step hbn
  clear hbn
  rw [hgB]
  have szB := alloc_size hgB (.cells #[.int .i64 r, .int .i64 p] 23)
  generalize (w).alloc (.cells #[.int .i64 r, .int .i64 p] 23) = w1 at *
  obtain ⟨gX, hgX⟩ : ∃ g, (w1).heap.size = g := ⟨_, rfl⟩
  have lt_B_X := B.lt
  rw [hgX] at lt_B_X
  have X := Blk.newV hgX 26 #[.int .i64 k, .int .i64 m, .int .i64 n, .string s]
  have hbn := (Below.refl (w1).heap.size w1).alloc (Nat.le_refl _) (.cells #[.int .i64 k, .int .i64 m, .int .i64 n, .string s] 26)
  replace hb := hb.step hbn
  replace B := B.step hbn
  clear hbn
  have egX : gB + 1 = gX := szB.symm.trans hgX
  rw [egX]
  clear szB
  have szX := alloc_size hgX (.cells #[.int .i64 k, .int .i64 m, .int .i64 n, .string s] 26)
  generalize (w1).alloc (.cells #[.int .i64 k, .int .i64 m, .int .i64 n, .string s] 26) = w2 at *
  obtain ⟨gP, hgP⟩ : ∃ g, (w2).heap.size = g := ⟨_, rfl⟩
  have lt_B_P := B.lt
  rw [hgP] at lt_B_P
  have lt_X_P := X.lt
  rw [hgP] at lt_X_P
  have P := Blk.newV hgP 62 #[.int .i64 xw, .int .i64 xpl, .int .i64 xar, .int .i64 xap, .int .i64 xk, .int .i64 xm, .int .i64 xn, .string xs, .int .i64 xx, .int .i64 xy]
  have hbn := (Below.refl (w2).heap.size w2).alloc (Nat.le_refl _) (.cells #[.int .i64 xw, .int .i64 xpl, .int .i64 xar, .int .i64 xap, .int .i64 xk, .int .i64 xm, .int .i64 xn, .string xs, .int .i64 xx, .int .i64 xy] 62)
  replace hb := hb.step hbn
  replace B := B.step hbn
  replace X := X.step hbn
  clear hbn
  have egP : gX + 1 = gP := szX.symm.trans hgP
  rw [egP]
  clear szX
  have szP := alloc_size hgP (.cells #[.int .i64 xw, .int .i64 xpl, .int .i64 xar, .int .i64 xap, .int .i64 xk, .int .i64 xm, .int .i64 xn, .string xs, .int .i64 xx, .int .i64 xy] 62)
  generalize (w2).alloc (.cells #[.int .i64 xw, .int .i64 xpl, .int .i64 xar, .int .i64 xap, .int .i64 xk, .int .i64 xm, .int .i64 xn, .string xs, .int .i64 xx, .int .i64 xy] 62) = w3 at *
  obtain ⟨gQ, hgQ⟩ : ∃ g, (w3).heap.size = g := ⟨_, rfl⟩
  have lt_B_Q := B.lt
  rw [hgQ] at lt_B_Q
  have lt_X_Q := X.lt
  rw [hgQ] at lt_X_Q
  have lt_P_Q := P.lt
  rw [hgQ] at lt_P_Q
  have Q := Blk.newV hgQ 62 #[.int .i64 yw, .int .i64 ypl, .int .i64 yar, .int .i64 yap, .int .i64 yk, .int .i64 ym, .int .i64 yn, .string ys, .int .i64 yx, .int .i64 yy]
  have hbn := (Below.refl (w3).heap.size w3).alloc (Nat.le_refl _) (.cells #[.int .i64 yw, .int .i64 ypl, .int .i64 yar, .int .i64 yap, .int .i64 yk, .int .i64 ym, .int .i64 yn, .string ys, .int .i64 yx, .int .i64 yy] 62)
  replace hb := hb.step hbn
  replace B := B.step hbn
  replace X := X.step hbn
  replace P := P.step hbn
  clear hbn
  have egQ : gP + 1 = gQ := szP.symm.trans hgQ
  rw [egQ]
  clear szP
  generalize (w3).alloc (.cells #[.int .i64 yw, .int .i64 ypl, .int .i64 yar, .int .i64 yap, .int .i64 yk, .int .i64 ym, .int .i64 yn, .string ys, .int .i64 yx, .int .i64 yy] 62) = w4 at *
  have hBX : gB < gX := by omega
  have hXP : gX < gP := by omega
  have hPQ : gP < gQ := by omega
  have hwB : w.heap.size ≤ gB := by omega
  clear hgB hgX hgP hgQ egX egP egQ
  go_wp2_with fail
  refine (cF _ hb.out).mono ?_
  rintro e w5 ⟨rfl, hbn⟩
  replace hb := hb.step hbn
  replace B := B.step hbn
  replace X := X.step hbn
  replace P := P.step hbn
  replace Q := Q.step hbn
  clear hbn
  have P_0 := P.cell (j := 0) rfl
  have P_1 := P.cell (j := 1) rfl
  have P_2 := P.cell (j := 2) rfl
  have P_3 := P.cell (j := 3) rfl
  have P_4 := P.cell (j := 4) rfl
  have P_5 := P.cell (j := 5) rfl
  have P_6 := P.cell (j := 6) rfl
  have P_7 := P.cell (j := 7) rfl
  have P_8 := P.cell (j := 8) rfl
  have P_9 := P.cell (j := 9) rfl
  have Q_0 := Q.cell (j := 0) rfl
  have Q_1 := Q.cell (j := 1) rfl
  have Q_2 := Q.cell (j := 2) rfl
  have Q_3 := Q.cell (j := 3) rfl
  have Q_4 := Q.cell (j := 4) rfl
  have Q_5 := Q.cell (j := 5) rfl
  have Q_6 := Q.cell (j := 6) rfl
  have Q_7 := Q.cell (j := 7) rfl
  have Q_8 := Q.cell (j := 8) rfl
  have Q_9 := Q.cell (j := 9) rfl
  go_wp2_with fail
  obtain ⟨gS, hgS⟩ : ∃ g, (w5).heap.size = g := ⟨_, rfl⟩
  have lt_B_S := B.lt
  rw [hgS] at lt_B_S
  have lt_X_S := X.lt
  rw [hgS] at lt_X_S
  have lt_P_S := P.lt
  rw [hgS] at lt_P_S
  have lt_Q_S := Q.lt
  rw [hgS] at lt_Q_S
  have S := Blk.newV hgS 62 #[.int .i64 xw, .int .i64 xpl, .int .i64 xar, .int .i64 xap, .int .i64 xk, .int .i64 xm, .int .i64 xn, .string xs, .int .i64 xx, .int .i64 xy, .int .i64 yw, .int .i64 ypl, .int .i64 yar, .int .i64 yap, .int .i64 yk, .int .i64 ym, .int .i64 yn, .string ys, .int .i64 yx, .int .i64 yy]
  have hbn := (Below.refl (w5).heap.size w5).alloc (Nat.le_refl _) (.cells #[.int .i64 xw, .int .i64 xpl, .int .i64 xar, .int .i64 xap, .int .i64 xk, .int .i64 xm, .int .i64 xn, .string xs, .int .i64 xx, .int .i64 xy, .int .i64 yw, .int .i64 ypl, .int .i64 yar, .int .i64 yap, .int .i64 yk, .int .i64 ym, .int .i64 yn, .string ys, .int .i64 yx, .int .i64 yy] 62)
  replace hb := hb.step hbn
  replace B := B.step hbn
  replace X := X.step hbn
  replace P := P.step hbn
  replace P_0 := P.cell (j := 0) rfl
  replace P_1 := P.cell (j := 1) rfl
  replace P_2 := P.cell (j := 2) rfl
  replace P_3 := P.cell (j := 3) rfl
  replace P_4 := P.cell (j := 4) rfl
  replace P_5 := P.cell (j := 5) rfl
  replace P_6 := P.cell (j := 6) rfl
  replace P_7 := P.cell (j := 7) rfl
  replace P_8 := P.cell (j := 8) rfl
  replace P_9 := P.cell (j := 9) rfl
  replace Q := Q.step hbn
  replace Q_0 := Q.cell (j := 0) rfl
  replace Q_1 := Q.cell (j := 1) rfl
  replace Q_2 := Q.cell (j := 2) rfl
  replace Q_3 := Q.cell (j := 3) rfl
  replace Q_4 := Q.cell (j := 4) rfl
  replace Q_5 := Q.cell (j := 5) rfl
  replace Q_6 := Q.cell (j := 6) rfl
  replace Q_7 := Q.cell (j := 7) rfl
  replace Q_8 := Q.cell (j := 8) rfl
  replace Q_9 := Q.cell (j := 9) rfl
  clear hbn
  rw [hgS]
  generalize (w5).alloc (.cells #[.int .i64 xw, .int .i64 xpl, .int .i64 xar, .int .i64 xap, .int .i64 xk, .int .i64 xm, .int .i64 xn, .string xs, .int .i64 xx, .int .i64 xy, .int .i64 yw, .int .i64 ypl, .int .i64 yar, .int .i64 yap, .int .i64 yk, .int .i64 ym, .int .i64 yn, .string ys, .int .i64 yx, .int .i64 yy] 62) = w6 at *
  have c2 : ∀ W, HasPa W (some ⟨gS, 0, none⟩) _ → Calls Tryz.prog 8 #[.slice (some ⟨gS, 0, none⟩) 2 2, .int .i64 2] W _ := fun W hE => few15_any [⟨xw, xpl, xar, xap, xk, xm, xn, xs, xx, xy⟩, ⟨yw, ypl, yar, yap, yk, ym, yn, ys, yx, yy⟩] (some ⟨gS, 0, none⟩) 2 2 W hE (by simp) (by intro e he; simp at he; rcases he with rfl | rfl; exact hx; exact hy)
  rw [hf2] at c2
  refine (c2 _ (two_pas S)).mono ?_
  rintro e w7 ⟨rfl, hbn⟩
  clear P_0 P_1 P_2 P_3 P_4 P_5 P_6 P_7 P_8 P_9
  clear Q_0 Q_1 Q_2 Q_3 Q_4 Q_5 Q_6 Q_7 Q_8 Q_9
  replace hb := hb.step hbn
  replace B := B.step hbn
  replace X := X.step hbn
  replace P := P.step hbn
  replace Q := Q.step hbn
  replace S := S.step hbn
  clear hbn c2 cF S
  have B_0 := B.cell (j := 0) rfl
  have B_1 := B.cell (j := 1) rfl
  have X_0 := X.cell (j := 0) rfl
  have X_1 := X.cell (j := 1) rfl
  have X_2 := X.cell (j := 2) rfl
  have X_3 := X.cell (j := 3) rfl
  go_upto_region 3 with fail
  apply wp_region_lit
  refine wpList_pure (v := ?_) rfl ?_ ?_
  rotate_left
  · go_simp
    try with_reducible rfl
  dsimp only [Act.put]
  refine wpList_pure (v := ?_) rfl ?_ ?_
  rotate_left
  · go_simp
    try with_reducible rfl
  dsimp only [Act.put]
  refine wpList_pure (v := ?_) rfl ?_ ?_
  rotate_left
  · go_simp
    try with_reducible rfl
  dsimp only [Act.put]
  refine wpList_pure (v := ?_) rfl ?_ ?_
  rotate_left
  · go_simp
    try with_reducible rfl
  dsimp only [Act.put]
  refine wpList_pure (v := ?_) rfl ?_ ?_
  rotate_left
  · go_simp
    try with_reducible rfl
  dsimp only [Act.put]
  refine wpList_plain rfl fun K hK => ?_
  go_simp
  refine (cMk _ (hT.step hb.out)).mono ?_
  rintro e w8 ⟨⟨g, rfl, hP, hg⟩, hbn⟩
  have hgw : w.heap.size ≤ g := Nat.le_trans hb.size hg
  have hQg : gQ < g := Nat.lt_of_lt_of_le Q.lt hg
  refine hK _ _ ?_
  clear hK K cMk X_0 X_1 X_2 X_3 B_0 B_1 B X hshort hzi hg
  replace hb := hb.step hbn
  replace P := P.step hbn
  replace Q := Q.step hbn
  clear hbn
  refine wpList_pure (v := ?_) rfl ?_ ?_
  rotate_left
  · go_simp
    try with_reducible rfl
  dsimp only [Act.put]
  refine wpList_pure (v := ?_) rfl ?_ ?_
  rotate_left
  · go_simp
    try with_reducible rfl
  dsimp only [Act.put]
  refine wpList_pure (v := ?_) rfl ?_ ?_
  rotate_left
  · go_simp
    try with_reducible rfl
  dsimp only [Act.put]
  refine wpList_pure (v := ?_) rfl ?_ ?_
  rotate_left
  · go_simp
    try with_reducible rfl
  dsimp only [Act.put]
  refine wpList_plain rfl fun K hK => ?_
  go_simp
  obtain ⟨gW, hgW⟩ : ∃ g, w8.heap.size = g := ⟨_, rfl⟩
  have O := Blk.newV hgW 35 #[.int .i64 0, .int .i64 0, .int .i64 0, .int .i64 0, .int .i64 0, .int .i64 0, .int .i64 0, .int .i64 0, .string ⟨#[]⟩, .bool false, .bool false, .bool false, .bool false, .bool false, .bool false, .bool false, .bool false, .bool false, .bool false, .bool false, .bool false, .bool false, .bool false, .bool false, .bool false, .bool false, .bool false, .int .i64 0, .int .i64 0, .int .i64 0, .int .i64 0, .int .i64 0, .string ⟨#[]⟩, .int .i64 0, .int .i64 0]
  have hbn := (Below.refl w8.heap.size w8).alloc (Nat.le_refl _) (.cells #[.int .i64 0, .int .i64 0, .int .i64 0, .int .i64 0, .int .i64 0, .int .i64 0, .int .i64 0, .int .i64 0, .string ⟨#[]⟩, .bool false, .bool false, .bool false, .bool false, .bool false, .bool false, .bool false, .bool false, .bool false, .bool false, .bool false, .bool false, .bool false, .bool false, .bool false, .bool false, .bool false, .bool false, .int .i64 0, .int .i64 0, .int .i64 0, .int .i64 0, .int .i64 0, .string ⟨#[]⟩, .int .i64 0, .int .i64 0] 35)
  have hwgW : w.heap.size ≤ gW := by have := hb.size; omega
  have lgWP := P.lt
  rw [hgW] at lgWP
  have lgWQ := Q.lt
  rw [hgW] at lgWQ
  have lgWhP := hP.lt
  rw [hgW] at lgWhP
  replace hb := hb.step hbn
  replace P := P.step hbn
  replace Q := Q.step hbn
  replace hP := hP.step hbn
  refine hK _ _ ?_
  clear hK K hbn
  rw [hgW]
  generalize w8.alloc (.cells #[.int .i64 0, .int .i64 0, .int .i64 0, .int .i64 0, .int .i64 0, .int .i64 0, .int .i64 0, .int .i64 0, .string ⟨#[]⟩, .bool false, .bool false, .bool false, .bool false, .bool false, .bool false, .bool false, .bool false, .bool false, .bool false, .bool false, .bool false, .bool false, .bool false, .bool false, .bool false, .bool false, .bool false, .int .i64 0, .int .i64 0, .int .i64 0, .int .i64 0, .int .i64 0, .string ⟨#[]⟩, .int .i64 0, .int .i64 0] 35) = w9 at *
  refine wpList_pure (v := ?_) rfl ?_ ?_
  rotate_left
  · go_simp
    try with_reducible rfl
  dsimp only [Act.put]
  refine wpList_store_rowTo rfl 35 (.tmp 18) (.tmp 51) rfl rfl gW (qL A0).toArray (by kernel_rfl) (by kernel_rfl) _ _ O (qinfo hp0 ha0) (by rw [qsize hp0 ha0]; rfl) (qone _) ?_
  have hkn := kx_row w9 gW (qL A0).toArray
  replace O := O.row (qL A0)
  replace hb := hb.kx hkn (by simp; omega)
  replace P := P.kx hkn (by simp; omega)
  replace Q := Q.kx hkn (by simp; omega)
  replace hP := hP.kx hkn (by simp; omega)
  generalize w9.setRow gW (qL A0).toArray = wk at *
  clear hkn hgW
  replace O : QW wk gW A0 := ⟨O, hp0, ha0⟩
  refine wpList_pure (v := ?_) rfl ?_ ?_
  rotate_left
  · go_simp
    try with_reducible rfl
  dsimp only [Act.put]
  refine wpList_nil ?_
  go_wp2_with fail
  go_loopw [20] (fun i wr => ∃ (j : Nat) (A : Prp), i = .int .i64 j ∧ j ≤ N ∧ PW wr g A ∧ InvP A ∧ InvB A ∧ QW wr gW A ∧ Blk wr gP 62 [.int .i64 xw, .int .i64 xpl, .int .i64 xar, .int .i64 xap, .int .i64 xk, .int .i64 xm, .int .i64 xn, .string xs, .int .i64 xx, .int .i64 xy] ∧ Blk wr gQ 62 [.int .i64 yw, .int .i64 ypl, .int .i64 yar, .int .i64 yap, .int .i64 yk, .int .i64 ym, .int .i64 yn, .string ys, .int .i64 yx, .int .i64 yy] ∧ From w wr) (fun i _ => N - (intOf i).toNat)
  case atStart => exact ⟨0, A0, rfl, by omega, hP, hI0, hB0, O, P, Q, hb⟩
  case round =>
    clear hP hI0 hB0 O P Q hb
    obtain ⟨j, A, rfl, hj, hP, hI, hB, O, P, Q, hb⟩ := hrel
    have hpA := O.2.1
    have haA := O.2.2
    have hi1 := qinfo hpA haA
    by_cases hlt : j < N
    · have hNl := HN.out
      obtain ⟨e, he⟩ : ∃ e, l[j]? = some e := ⟨l[j], by simp [hNl, hlt]⟩
      have hQ := (hE.step hb.out) j e he
      obtain ⟨b, off, rfl, hQ⟩ := hQ
      have hj0 : (0 : Int) ≤ (j : Int) := by omega
      have hj1 : (j : Int) < (N : Int) := by omega
      have hse := HS.out e (List.mem_of_getElem? he)
      have cA := fun W (hW : From w W) (hA : PW W g A) => act15_any g A e W hA hI hB (hT.step hW.out) hse
      have hI2 := hI.act e
      have hB2 := hB.act e
      obtain ⟨A2, hA2⟩ : ∃ A2, actP A e = A2 := ⟨_, rfl⟩
      simp only [hA2] at cA hI2 hB2
      clear hA2
      obtain ⟨ew, epl, ear, eap, ek, em, en, es, ex, ey⟩ := e
      unfold qV at cA
      simp only at cA
      have hWg : gW ∉ [g] := by simp; omega
      have hPg : gP ∉ [g] := by simp; omega
      have hQgn : gQ ∉ [g] := by simp; omega
      have hO2 : ∀ W, ExtA wr W → W.heap[gW]? = some (.cells (qL A).toArray 35 (0, 0)) := fun W h => (O.step h).1
      have q0 := extA_cell hQ.h0
      have q1 := extA_cell hQ.h1
      have q2 := extA_cell hQ.h2
      have q3 := extA_cell hQ.h3
      have q4 := extA_cell hQ.h4
      have q5 := extA_cell hQ.h5
      have q6 := extA_cell hQ.h6
      have q7 := extA_cell hQ.h7
      have q8 := extA_cell hQ.h8
      have q9 := extA_cell hQ.h9
      simp only at q0 q1 q2 q3 q4 q5 q6 q7 q8 q9
      clear hQ he HS hE hNl HN
      go_upto_region 9 with fail
      refine wp_region_head (C := ExtA wr) 6 (by kernel_rfl) (by decide) (by kernel_rfl) ⟨rfl, rfl, rfl, Nat.le_refl _, fun _ _ => rfl⟩ ?_
      simp only [List.take_succ_cons, List.take_zero]
      repeat
        (first
          | go_big_quiet_skip
          | (go_big_quiet_want
             first
               | ((first
                    | refine quiet_load_row 35 (.tmp 18) rfl gW (by kernel_rfl) _ _ _ hO2 Tryz.underlying35 rfl hi1 ?_
                    | refine quiet_load_row 35 (.tmp 22) rfl gN (by kernel_rfl) _ _ _ hN2 Tryz.underlying35 rfl hi2 ?_)
                  simp only [Act.put, List.setIfInBounds_toArray, List.set_cons_succ, List.set_cons_zero]
                  go_big_quiet_on)
               | (go_big_quiet_op
                  first
                    | go_big_quiet_on
                    | (apply Exists.intro
                       refine ⟨fun w' hC9 => ?_, ?_⟩
                       · (first
                           | with_reducible rfl
                           | fail
                           | (go_simp; done)
                           | (go_simp; with_reducible rfl))
                       go_big_quiet_on))))
      refine wpQuiet_nil ?_
      intro wq hq
      have hPq := hP.step hq
      have hbq := hb.step hq
      have Oq := O.step hq
      have Pq := P.step hq
      have Qq := Q.step hq
      change wpAny _ _ _ _ (4 + 1) _ _ _
      refine wpAny_ready (rs := [6]) (by kernel_rfl) (by simp) ?_
      refine AllReady.cons rfl (fun K hK => ?_) AllReady.nil
      go_simp
      refine (cA _ hbq hPq).mono ?_
      rintro e wz ⟨rfl, h7, hK7⟩
      have XT := hK7.blk Oq.1 hWg
      refine hK _ _ ?_
      clear hK K
      refine wpAny_take (i := 7) (v := ?_) rfl (by kernel_rfl) (by kernel_rfl) (by kernel_rfl) (fun _ _ _ h => h) (Or.inl ⟨by kernel_rfl, ?_⟩) ?_
      rotate_left
      · intro W
        go_simp
        try with_reducible rfl
      dsimp only [Act.put]
      refine wpAny_take (i := 8) (v := ?_) rfl (by kernel_rfl) (by kernel_rfl) (by kernel_rfl) (fun _ _ _ h => h) (Or.inl ⟨by kernel_rfl, ?_⟩) ?_
      rotate_left
      · intro W
        go_simp
        try with_reducible rfl
      dsimp only [Act.put]
      refine wpAny_take (i := 9) (v := ?_) rfl (by kernel_rfl) (by kernel_rfl) (by kernel_rfl) (fun _ _ _ h => h) (Or.inl ⟨by kernel_rfl, ?_⟩) ?_
      rotate_left
      · intro W
        go_simp
        try with_reducible rfl
      dsimp only [Act.put]
      clear q0 q1 q2 q3 q4 q5 q6 q7 q8 q9 hO2
      clear hP hb O P Q
      have hb := hbq.kx hK7 (by simp; omega)
      have P := Pq.kx hK7 hPg
      have Q := Qq.kx hK7 hQgn
      refine wpAny_ready (rs := [10]) (by kernel_rfl) (by simp) ?_
      refine AllReady.cons rfl (fun K hK => ?_) AllReady.nil
      refine step_store_row rfl 35 (.tmp 18) (.tmp 73) rfl rfl gW (qL A2).toArray (by kernel_rfl) (by kernel_rfl) _ _ XT (qinfo h7.2.1 h7.2.2) (by rw [qsize h7.2.1 h7.2.2, qsize hpA haA]) (qone _) ?_
      have hkn := kx_row wz gW (qL A2).toArray
      replace XT := XT.row (qL A2)
      replace h7 := h7.kx hkn (by simp; omega)
      replace hb := hb.kx hkn (by simp; omega)
      replace P := P.kx hkn (by simp; omega)
      replace Q := Q.kx hkn (by simp; omega)
      refine hK _ _ ?_
      clear hkn
      clear hK K
      refine wpAny_done (by kernel_rfl) ?_ _
      go_wp2_with fail
      go_roundw
      case rel => exact ⟨j + 1, A2, by go_num, by omega, h7, hI2, hB2, ⟨XT, h7.2.1, h7.2.2⟩, P, Q, hb⟩
      case measure => simp [intOf]; omega
    · obtain rfl : j = N := by omega
      have cA2 := fun W (hW : From w W) (hA : PW W g A) => act15_any g A ⟨xw, xpl, xar, xap, xk, xm, xn, xs, xx, xy⟩ W hA hI hB (hT.step hW.out) hx
      have hI2 := hI.act ⟨xw, xpl, xar, xap, xk, xm, xn, xs, xx, xy⟩
      have hI3 := hI.act ⟨yw, ypl, yar, yap, yk, ym, yn, ys, yx, yy⟩
      obtain ⟨A2, hA2⟩ : ∃ A2, actP A ⟨xw, xpl, xar, xap, xk, xm, xn, xs, xx, xy⟩ = A2 := ⟨_, rfl⟩
      obtain ⟨A3, hA3⟩ : ∃ A3, actP A ⟨yw, ypl, yar, yap, yk, ym, yn, ys, yx, yy⟩ = A3 := ⟨_, rfl⟩
      simp only [hA2] at cA2 hI2
      simp only [hA3] at hI3
      have cQ0 := fun W => rstate_any A W hpA haA
      have hl0 := plK_votes0 hpA haA
      unfold qV at cA2 cQ0
      (try simp only at cA2)
      go_wp2_with fail
      refine (copy15_any g A _ hP hI.ne).mono ?_
      rintro e w9 ⟨⟨o2, rfl, C, ho⟩, hbn⟩
      have hgo : g < o2 := Nat.lt_of_lt_of_le hP.lt ho
      have hWo : gW < o2 := Nat.lt_of_lt_of_le O.lt ho
      have hwo : w.heap.size ≤ o2 := by have := hb.size; omega
      replace hb := hb.step hbn
      replace hP := hP.step hbn
      replace O := O.step hbn
      replace P := P.step hbn
      replace Q := Q.step hbn
      clear hbn ho
      go_upto_region 11 with fail
      have cS0 := fun W h1 h2 => same15_any g o2 A A W h1 h2 hI.ne hI.ne
      rw [eqP_refl] at cS0
      have hO2 : ∀ W, Kx [] w9 W → W.heap[gW]? = some (.cells (qL A).toArray 35 (0, 0)) := fun W h => (h.blk O.1 (by simp))
      refine wp_region_held (S := Kx [] w9) (by kernel_rfl) ?_
      have hst : Below (w9).heap.size w9 { w9 with drawn := (w9).drawn + 1 } := ⟨rfl, rfl, rfl, Nat.le_refl _, fun _ _ => rfl⟩
      have hS : (Kx [] w9) { w9 with drawn := (w9).drawn + 1 } := by first | exact ⟨rfl, rfl, rfl, Nat.le_refl _, fun _ _ _ => rfl⟩ | exact ⟨rfl, rfl, rfl, Nat.le_refl _, fun _ _ => rfl⟩ | exact hS0
      replace hb := hb.step hst
      replace hP := hP.step hst
      replace C := C.step hst
      replace O := O.step hst
      replace P := P.step hst
      replace Q := Q.step hst
      clear hst
      generalize ({ w9 with drawn := (w9).drawn + 1 } : World) = wq at *
      refine wpAnyH_take (i := 0) (v := ?_) rfl (by kernel_rfl) (by kernel_rfl) (by kernel_rfl) (fun _ _ _ h => h) (Or.inl ⟨by kernel_rfl, ?_⟩) hS ?_
      rotate_left
      · intro W hSW
        go_simp
        try with_reducible rfl
      dsimp only [Act.put]
      refine wpAnyH_take (i := 1) (v := ?_) rfl (by kernel_rfl) (by kernel_rfl) (by kernel_rfl) (fun _ _ _ h => h) (Or.inl ⟨by kernel_rfl, ?_⟩) hS ?_
      rotate_left
      · intro W hSW
        go_simp
        try with_reducible rfl
      dsimp only [Act.put]
      refine wpAnyH_take (i := 2) (v := ?_) rfl (by kernel_rfl) (by kernel_rfl) (by kernel_rfl) (fun _ _ _ h => h) (Or.inl ⟨by kernel_rfl, ?_⟩) hS ?_
      rotate_left
      · intro W hSW
        go_simp
        try with_reducible rfl
      dsimp only [Act.put]
      refine wpAnyH_take (i := 3) (v := ?_) rfl (by kernel_rfl) (by kernel_rfl) (by kernel_rfl) (fun _ _ _ h => h) (Or.inl ⟨by kernel_rfl, ?_⟩) hS ?_
      rotate_left
      · intro W hSW
        go_simp
        try with_reducible rfl
      dsimp only [Act.put]
      refine wpAnyH_take (i := 4) (v := ?_) rfl (by kernel_rfl) (by kernel_rfl) (by kernel_rfl) (fun _ _ _ h => h) (Or.inl ⟨by kernel_rfl, ?_⟩) hS ?_
      rotate_left
      · intro W hSW
        go_simp
        try with_reducible rfl
      dsimp only [Act.put]
      refine wpAnyH_ready (rs := [5]) (by kernel_rfl) (by simp) ?_
      refine AllReadyH.cons rfl (fun K hK => ?_) AllReadyH.nil
      go_simp
      refine (cS0 _ hP C).mono ?_
      rintro e wa ⟨rfl, hbn⟩
      replace hb := hb.step hbn
      replace hP := hP.step hbn
      replace C := C.step hbn
      replace O := O.step hbn
      replace P := P.step hbn
      replace Q := Q.step hbn
      refine hK.out _ _ (hS.step hbn) (fun hS => ?_)
      clear hbn cS0
      clear hK K
      refine wpAnyH_take (i := 6) (v := ?_) rfl (by kernel_rfl) (by kernel_rfl) (by kernel_rfl) (fun _ _ _ h => h) (Or.inl ⟨by kernel_rfl, ?_⟩) hS ?_
      rotate_left
      · intro W hSW
        go_simp
        try with_reducible rfl
      dsimp only [Act.put]
      refine wpAnyH_take (i := 7) (v := ?_) rfl (by kernel_rfl) (by kernel_rfl) (by kernel_rfl) (fun _ _ _ h => h) (Or.inl ⟨by kernel_rfl, ?_⟩) hS ?_
      rotate_left
      · intro W hSW
        go_simp
        try with_reducible rfl
      dsimp only [Act.put]
      refine wpAnyH_take (i := 8) (v := ?_) rfl (by kernel_rfl) (by kernel_rfl) (by kernel_rfl) (fun _ _ _ h => h) (Or.inl ⟨by kernel_rfl, ?_⟩) hS ?_
      rotate_left
      · intro W hSW
        go_simp
        try with_reducible rfl
      dsimp only [Act.put]
      refine wpAnyH_take (i := 9) (v := ?_) rfl (by kernel_rfl) (by kernel_rfl) (by kernel_rfl) (fun _ _ _ h => h) (Or.inl ⟨by kernel_rfl, ?_⟩) hS ?_
      rotate_left
      · intro W hSW
        go_simp
        try with_reducible rfl
      dsimp only [Act.put]
      refine wpAnyH_take (i := 11) (v := .agg (qL A).toArray) rfl (by kernel_rfl) (by kernel_rfl) (by kernel_rfl) (fun _ _ _ h => h) (yields_load_row (by kernel_rfl) 35 (.tmp 18) rfl gW (by kernel_rfl) _ _ _ hO2 Tryz.underlying35 rfl hi1) hS ?_
      dsimp only [Act.put]
      refine wpAnyH_ready (rs := [10]) (by kernel_rfl) (by simp) ?_
      refine AllReadyH.cons rfl (fun K hK => ?_) AllReadyH.nil
      go_simp
      refine (state_any o2 A _ C hI.ne).mono ?_
      rintro e wb ⟨⟨va, rfl, hR1⟩, hbn⟩
      have hi5 := hR1.intS
      replace hb := hb.step hbn
      replace hP := hP.step hbn
      replace C := C.step hbn
      replace O := O.step hbn
      replace P := P.step hbn
      replace Q := Q.step hbn
      refine hK.out _ _ (hS.step hbn) (fun hS => ?_)
      clear hbn hR1
      clear hK K
      refine wpAnyH_ready (rs := [12]) (by kernel_rfl) (by simp) ?_
      refine AllReadyH.cons rfl (fun K hK => ?_) AllReadyH.nil
      go_simp
      refine (cQ0 _).mono ?_
      rintro e we ⟨⟨vb, rfl, hR1⟩, hbn⟩
      have hi6 := hR1.intS
      replace hi5 := hi5.step hbn
      replace hb := hb.step hbn
      replace hP := hP.step hbn
      replace C := C.step hbn
      replace O := O.step hbn
      replace P := P.step hbn
      replace Q := Q.step hbn
      refine hK.out _ _ (hS.step hbn) (fun hS => ?_)
      clear hbn hR1 cQ0
      clear hK K
      refine wpAnyH_ready (rs := [13]) (by kernel_rfl) (by simp) ?_
      refine AllReadyH.cons rfl (fun K hK => ?_) AllReadyH.nil
      go_simp
      refine (rsame_any A va vb (plK 0 (votesP A)) hl0 _ hi5 hi6).mono ?_
      rintro e wf ⟨rfl, hbn⟩
      replace hb := hb.step hbn
      replace hP := hP.step hbn
      replace C := C.step hbn
      replace O := O.step hbn
      replace P := P.step hbn
      replace Q := Q.step hbn
      refine hK.out _ _ (hS.step hbn) (fun hS => ?_)
      clear hbn hi5 hi6
      clear hK K
      refine wpAnyH_take (i := 14) (v := ?_) rfl (by kernel_rfl) (by kernel_rfl) (by kernel_rfl) (fun _ _ _ h => h) (Or.inl ⟨by kernel_rfl, ?_⟩) hS ?_
      rotate_left
      · intro W hSW
        go_simp
        try with_reducible rfl
      dsimp only [Act.put]
      refine wpAnyH_take (i := 15) (v := ?_) rfl (by kernel_rfl) (by kernel_rfl) (by kernel_rfl) (fun _ _ _ h => h) (Or.inl ⟨by kernel_rfl, ?_⟩) hS ?_
      rotate_left
      · intro W hSW
        go_simp
        try with_reducible rfl
      dsimp only [Act.put]
      refine wpAnyH_done (by kernel_rfl) ?_ _
      clear hO2 hl0 hS
      have P_0 := P.cell (j := 0) rfl
      have P_1 := P.cell (j := 1) rfl
      have P_2 := P.cell (j := 2) rfl
      have P_3 := P.cell (j := 3) rfl
      have P_4 := P.cell (j := 4) rfl
      have P_5 := P.cell (j := 5) rfl
      have P_6 := P.cell (j := 6) rfl
      have P_7 := P.cell (j := 7) rfl
      have P_8 := P.cell (j := 8) rfl
      have P_9 := P.cell (j := 9) rfl
      go_upto_region 13 with fail
      apply wp_region_lit
      refine wpList_pure (v := ?_) rfl ?_ ?_
      rotate_left
      · go_simp
        try with_reducible rfl
      dsimp only [Act.put]
      refine wpList_load_row rfl 35 (.tmp 18) rfl gW (by kernel_rfl) _ _ (0, 0) _ O.1 Tryz.underlying35 rfl (qinfo hpA haA) ?_
      dsimp only [Act.put]
      refine wpList_pure (v := ?_) rfl ?_ ?_
      rotate_left
      · go_simp
        try with_reducible rfl
      dsimp only [Act.put]
      refine wpList_plain rfl fun K hK => ?_
      go_simp
      refine (cA2 _ hb hP).mono ?_
      rintro e wg ⟨rfl, hP2, hk⟩
      replace hb := hb.kx hk (by simp; omega)
      replace C := C.kx hk (by simp; omega)
      replace O := O.kx hk (by simp; omega)
      replace Q := Q.kx hk (by simp; omega)
      refine hK _ _ ?_
      clear hK K hk cA2 P_0 P_1 P_2 P_3 P_4 P_5 P_6 P_7 P_8 P_9 P hP
      have hp2 := hP2.2.1
      have ha2 := hP2.2.2
      refine wpList_pure (v := ?_) rfl ?_ ?_
      rotate_left
      · go_simp
        try with_reducible rfl
      dsimp only [Act.put]
      refine wpList_pure (v := ?_) rfl ?_ ?_
      rotate_left
      · go_simp
        try with_reducible rfl
      dsimp only [Act.put]
      refine wpList_pure (v := ?_) rfl ?_ ?_
      rotate_left
      · go_simp
        try with_reducible rfl
      dsimp only [Act.put]
      refine wpList_plain rfl fun K hK => ?_
      go_simp
      obtain ⟨gN, hgN⟩ : ∃ g, wg.heap.size = g := ⟨_, rfl⟩
      have M := Blk.newV hgN 35 #[.int .i64 0, .int .i64 0, .int .i64 0, .int .i64 0, .int .i64 0, .int .i64 0, .int .i64 0, .int .i64 0, .string ⟨#[]⟩, .bool false, .bool false, .bool false, .bool false, .bool false, .bool false, .bool false, .bool false, .bool false, .bool false, .bool false, .bool false, .bool false, .bool false, .bool false, .bool false, .bool false, .bool false, .int .i64 0, .int .i64 0, .int .i64 0, .int .i64 0, .int .i64 0, .string ⟨#[]⟩, .int .i64 0, .int .i64 0]
      have hbn := (Below.refl wg.heap.size wg).alloc (Nat.le_refl _) (.cells #[.int .i64 0, .int .i64 0, .int .i64 0, .int .i64 0, .int .i64 0, .int .i64 0, .int .i64 0, .int .i64 0, .string ⟨#[]⟩, .bool false, .bool false, .bool false, .bool false, .bool false, .bool false, .bool false, .bool false, .bool false, .bool false, .bool false, .bool false, .bool false, .bool false, .bool false, .bool false, .bool false, .bool false, .int .i64 0, .int .i64 0, .int .i64 0, .int .i64 0, .int .i64 0, .string ⟨#[]⟩, .int .i64 0, .int .i64 0] 35)
      have hwgN : w.heap.size ≤ gN := by have := hb.size; omega
      have lgNhP2 := hP2.lt
      rw [hgN] at lgNhP2
      have lgNC := C.lt
      rw [hgN] at lgNC
      have lgNO := O.lt
      rw [hgN] at lgNO
      have lgNQ := Q.lt
      rw [hgN] at lgNQ
      replace hb := hb.step hbn
      replace hP2 := hP2.step hbn
      replace C := C.step hbn
      replace O := O.step hbn
      replace Q := Q.step hbn
      refine hK _ _ ?_
      clear hK K hbn
      rw [hgN]
      generalize wg.alloc (.cells #[.int .i64 0, .int .i64 0, .int .i64 0, .int .i64 0, .int .i64 0, .int .i64 0, .int .i64 0, .int .i64 0, .string ⟨#[]⟩, .bool false, .bool false, .bool false, .bool false, .bool false, .bool false, .bool false, .bool false, .bool false, .bool false, .bool false, .bool false, .bool false, .bool false, .bool false, .bool false, .bool false, .bool false, .int .i64 0, .int .i64 0, .int .i64 0, .int .i64 0, .int .i64 0, .string ⟨#[]⟩, .int .i64 0, .int .i64 0] 35) = wh at *
      refine wpList_store_rowTo rfl 35 (.tmp 22) (.tmp 98) rfl rfl gN (qL A2).toArray (by kernel_rfl) (by kernel_rfl) _ _ M (qinfo hp2 ha2) (by rw [qsize hp2 ha2]; rfl) (qone _) ?_
      have hkn := kx_row wh gN (qL A2).toArray
      replace M := M.row (qL A2)
      replace hb := hb.kx hkn (by simp; omega)
      replace hP2 := hP2.kx hkn (by simp; omega)
      replace C := C.kx hkn (by simp; omega)
      replace O := O.kx hkn (by simp; omega)
      replace Q := Q.kx hkn (by simp; omega)
      generalize wh.setRow gN (qL A2).toArray = wi at *
      clear hkn hgN
      replace M : QW wi gN A2 := ⟨M, hp2, ha2⟩
      refine wpList_pure (v := ?_) rfl ?_ ?_
      rotate_left
      · go_simp
        try with_reducible rfl
      dsimp only [Act.put]
      refine wpList_nil ?_
      go_upto_region 14 with fail
      have hEQ := fun W => eql_ref15 A2 A hp2 ha2 hpA haA W
      have cS1 := fun W h1 h2 => same15_any g o2 A2 A W h1 h2 hI2.ne hI.ne
      have cS2 := fun W h1 h2 => same15_any o2 g A A2 W h1 h2 hI.ne hI2.ne
      rw [eqP_comm A A2] at cS2
      obtain ⟨V, hV⟩ : ∃ V, eqP A2 A = V := ⟨_, rfl⟩
      simp only [hV] at hEQ cS1 cS2
      clear hV
      have cS : ∀ (p q : Nat), ((p = g ∧ q = o2) ∨ (p = o2 ∧ q = g)) → ∀ W, PW W g A2 → PW W o2 A → Calls Tryz.prog 19 #[.pointer (some ⟨p, 0, none⟩), .pointer (some ⟨q, 0, none⟩)] W (fun e w' => e = .returned (.bool V) ∧ Below W.heap.size W w') := by
        rintro p q (⟨rfl, rfl⟩ | ⟨rfl, rfl⟩) W h1 h2
        · exact cS1 W h1 h2
        · exact cS2 W h2 h1
      clear cS1 cS2
      have hO2 : ∀ W, ExtA wi W → W.heap[gW]? = some (.cells (qL A).toArray 35 (0, 0)) := fun W h => (O.step h).1
      have hN2 : ∀ W, ExtA wi W → W.heap[gN]? = some (.cells (qL A2).toArray 35 (0, 0)) := fun W h => (M.step h).1
      have hi2 := qinfo hp2 ha2
      simp only [List.setIfInBounds_toArray, List.set_cons_succ, List.set_cons_zero]
      refine wp_region_extB (by kernel_rfl) (by kernel_rfl) ?_
      repeat
        (first
          | go_big_quiet_skip
          | (go_big_quiet_want
             first
               | ((first
                    | refine quiet_load_row 35 (.tmp 18) rfl gW (by kernel_rfl) _ _ _ hO2 Tryz.underlying35 rfl hi1 ?_
                    | refine quiet_load_row 35 (.tmp 22) rfl gN (by kernel_rfl) _ _ _ hN2 Tryz.underlying35 rfl hi2 ?_)
                  simp only [Act.put, List.setIfInBounds_toArray, List.set_cons_succ, List.set_cons_zero]
                  go_big_quiet_on)
               | (go_big_quiet_op
                  first
                    | go_big_quiet_on
                    | (apply Exists.intro
                       refine ⟨fun w' hC9 => ?_, ?_⟩
                       · (first
                           | with_reducible rfl
                           | (go_at_call 19; refine (cS _ _ (by first | exact .inl ⟨rfl, rfl⟩ | exact .inr ⟨rfl, rfl⟩) _ (hP2.step hC9) (C.step hC9)).mono ?_; rintro e w2 ⟨rfl, hb9⟩; exact ⟨rfl, extA_then hC9 hb9⟩)
                           | (go_simp; done)
                           | (go_simp; with_reducible rfl))
                       go_big_quiet_on))))
      refine wpQuiet_nil ?_
      intro wj hbn
      replace hb := hb.step hbn
      replace hP2 := hP2.step hbn
      replace C := C.step hbn
      replace O := O.step hbn
      replace Q := Q.step hbn
      replace M := M.step hbn
      clear hbn cS hEQ hO2 hN2
      have cA3 := fun W (hW : From w W) (hA : PW W o2 A) => act15_any o2 A ⟨yw, ypl, yar, yap, yk, ym, yn, ys, yx, yy⟩ W hA hI hB (hT.step hW.out) hy
      simp only [hA3] at cA3
      unfold qV at cA3
      (try simp only at cA3)
      have Q_0 := Q.cell (j := 0) rfl
      have Q_1 := Q.cell (j := 1) rfl
      have Q_2 := Q.cell (j := 2) rfl
      have Q_3 := Q.cell (j := 3) rfl
      have Q_4 := Q.cell (j := 4) rfl
      have Q_5 := Q.cell (j := 5) rfl
      have Q_6 := Q.cell (j := 6) rfl
      have Q_7 := Q.cell (j := 7) rfl
      have Q_8 := Q.cell (j := 8) rfl
      have Q_9 := Q.cell (j := 9) rfl
      go_upto_region 16 with fail
      apply wp_region_lit
      refine wpList_pure (v := ?_) rfl ?_ ?_
      rotate_left
      · go_simp
        try with_reducible rfl
      dsimp only [Act.put]
      refine wpList_load_row rfl 35 (.tmp 18) rfl gW (by kernel_rfl) _ _ (0, 0) _ O.1 Tryz.underlying35 rfl (qinfo hpA haA) ?_
      dsimp only [Act.put]
      refine wpList_pure (v := ?_) rfl ?_ ?_
      rotate_left
      · go_simp
        try with_reducible rfl
      dsimp only [Act.put]
      refine wpList_plain rfl fun K hK => ?_
      go_simp
      refine (cA3 _ hb C).mono ?_
      rintro e wl ⟨rfl, C3, hk⟩
      replace hb := hb.kx hk (by simp; omega)
      replace hP2 := hP2.kx hk (by simp; omega)
      replace M := M.kx hk (by simp; omega)
      refine hK _ _ ?_
      clear hK K hk cA3 Q_0 Q_1 Q_2 Q_3 Q_4 Q_5 Q_6 Q_7 Q_8 Q_9 Q C O
      have hp3 := C3.2.1
      have ha3 := C3.2.2
      refine wpList_pure (v := ?_) rfl ?_ ?_
      rotate_left
      · go_simp
        try with_reducible rfl
      dsimp only [Act.put]
      refine wpList_pure (v := ?_) rfl ?_ ?_
      rotate_left
      · go_simp
        try with_reducible rfl
      dsimp only [Act.put]
      refine wpList_pure (v := ?_) rfl ?_ ?_
      rotate_left
      · go_simp
        try with_reducible rfl
      dsimp only [Act.put]
      refine wpList_plain rfl fun K hK => ?_
      go_simp
      obtain ⟨gL, hgL⟩ : ∃ g, wl.heap.size = g := ⟨_, rfl⟩
      have L := Blk.newV hgL 35 #[.int .i64 0, .int .i64 0, .int .i64 0, .int .i64 0, .int .i64 0, .int .i64 0, .int .i64 0, .int .i64 0, .string ⟨#[]⟩, .bool false, .bool false, .bool false, .bool false, .bool false, .bool false, .bool false, .bool false, .bool false, .bool false, .bool false, .bool false, .bool false, .bool false, .bool false, .bool false, .bool false, .bool false, .int .i64 0, .int .i64 0, .int .i64 0, .int .i64 0, .int .i64 0, .string ⟨#[]⟩, .int .i64 0, .int .i64 0]
      have hbn := (Below.refl wl.heap.size wl).alloc (Nat.le_refl _) (.cells #[.int .i64 0, .int .i64 0, .int .i64 0, .int .i64 0, .int .i64 0, .int .i64 0, .int .i64 0, .int .i64 0, .string ⟨#[]⟩, .bool false, .bool false, .bool false, .bool false, .bool false, .bool false, .bool false, .bool false, .bool false, .bool false, .bool false, .bool false, .bool false, .bool false, .bool false, .bool false, .bool false, .bool false, .int .i64 0, .int .i64 0, .int .i64 0, .int .i64 0, .int .i64 0, .string ⟨#[]⟩, .int .i64 0, .int .i64 0] 35)
      have hwgL : w.heap.size ≤ gL := by have := hb.size; omega
      have lgLhP2 := hP2.lt
      rw [hgL] at lgLhP2
      have lgLC3 := C3.lt
      rw [hgL] at lgLC3
      have lgLM := M.lt
      rw [hgL] at lgLM
      replace hb := hb.step hbn
      replace hP2 := hP2.step hbn
      replace C3 := C3.step hbn
      replace M := M.step hbn
      refine hK _ _ ?_
      clear hK K hbn
      rw [hgL]
      generalize wl.alloc (.cells #[.int .i64 0, .int .i64 0, .int .i64 0, .int .i64 0, .int .i64 0, .int .i64 0, .int .i64 0, .int .i64 0, .string ⟨#[]⟩, .bool false, .bool false, .bool false, .bool false, .bool false, .bool false, .bool false, .bool false, .bool false, .bool false, .bool false, .bool false, .bool false, .bool false, .bool false, .bool false, .bool false, .bool false, .int .i64 0, .int .i64 0, .int .i64 0, .int .i64 0, .int .i64 0, .string ⟨#[]⟩, .int .i64 0, .int .i64 0] 35) = wm at *
      refine wpList_store_rowTo rfl 35 (.tmp 24) (.tmp 125) rfl rfl gL (qL A3).toArray (by kernel_rfl) (by kernel_rfl) _ _ L (qinfo hp3 ha3) (by rw [qsize hp3 ha3]; rfl) (qone _) ?_
      have hkn := kx_row wm gL (qL A3).toArray
      replace L := L.row (qL A3)
      replace hb := hb.kx hkn (by simp; omega)
      replace hP2 := hP2.kx hkn (by simp; omega)
      replace C3 := C3.kx hkn (by simp; omega)
      replace M := M.kx hkn (by simp; omega)
      generalize wm.setRow gL (qL A3).toArray = wn at *
      clear hkn hgL
      replace L : QW wn gL A3 := ⟨L, hp3, ha3⟩
      refine wpList_pure (v := ?_) rfl ?_ ?_
      rotate_left
      · go_simp
        try with_reducible rfl
      dsimp only [Act.put]
      refine wpList_nil ?_
      go_upto_region 17 with fail
      have cQ2 := fun W => rstate_any A2 W hp2 ha2
      have cQ3 := fun W => rstate_any A3 W hp3 ha3
      have hl2 := plK_votes0 hp2 ha2
      have hl3 := plK_votes0 hp3 ha3
      have hi3 := qinfo hp3 ha3
      unfold qV at cQ2 cQ3
      have hN2 : ∀ W, Kx [] wn W → W.heap[gN]? = some (.cells (qL A2).toArray 35 (0, 0)) := fun W h => (h.blk M.1 (by simp))
      have hL2 : ∀ W, Kx [] wn W → W.heap[gL]? = some (.cells (qL A3).toArray 35 (0, 0)) := fun W h => (h.blk L.1 (by simp))
      refine wp_region_held (S := Kx [] wn) (by kernel_rfl) ?_
      have hst : Below (wn).heap.size wn { wn with drawn := (wn).drawn + 1 } := ⟨rfl, rfl, rfl, Nat.le_refl _, fun _ _ => rfl⟩
      have hS : (Kx [] wn) { wn with drawn := (wn).drawn + 1 } := by first | exact ⟨rfl, rfl, rfl, Nat.le_refl _, fun _ _ _ => rfl⟩ | exact ⟨rfl, rfl, rfl, Nat.le_refl _, fun _ _ => rfl⟩ | exact hS0
      replace hb := hb.step hst
      replace hP2 := hP2.step hst
      replace C3 := C3.step hst
      clear hst
      generalize ({ wn with drawn := (wn).drawn + 1 } : World) = wq at *
      refine wpAnyH_take (i := 0) (v := ?_) rfl (by kernel_rfl) (by kernel_rfl) (by kernel_rfl) (fun _ _ _ h => h) (Or.inl ⟨by kernel_rfl, ?_⟩) hS ?_
      rotate_left
      · intro W hSW
        go_simp
        try with_reducible rfl
      dsimp only [Act.put]
      refine wpAnyH_take (i := 1) (v := ?_) rfl (by kernel_rfl) (by kernel_rfl) (by kernel_rfl) (fun _ _ _ h => h) (Or.inl ⟨by kernel_rfl, ?_⟩) hS ?_
      rotate_left
      · intro W hSW
        go_simp
        try with_reducible rfl
      dsimp only [Act.put]
      refine wpAnyH_take (i := 2) (v := ?_) rfl (by kernel_rfl) (by kernel_rfl) (by kernel_rfl) (fun _ _ _ h => h) (Or.inl ⟨by kernel_rfl, ?_⟩) hS ?_
      rotate_left
      · intro W hSW
        go_simp
        try with_reducible rfl
      dsimp only [Act.put]
      refine wpAnyH_take (i := 4) (v := .agg (qL A2).toArray) rfl (by kernel_rfl) (by kernel_rfl) (by kernel_rfl) (fun _ _ _ h => h) (yields_load_row (by kernel_rfl) 35 (.tmp 22) rfl gN (by kernel_rfl) _ _ _ hN2 Tryz.underlying35 rfl hi2) hS ?_
      dsimp only [Act.put]
      refine wpAnyH_ready (rs := [3]) (by kernel_rfl) (by simp) ?_
      refine AllReadyH.cons rfl (fun K hK => ?_) AllReadyH.nil
      go_simp
      refine (state_any g A2 _ hP2 hI2.ne).mono ?_
      rintro e wo ⟨⟨va, rfl, hR1⟩, hbn⟩
      have hi5 := hR1.intS
      replace hb := hb.step hbn
      replace hP2 := hP2.step hbn
      replace C3 := C3.step hbn
      refine hK.out _ _ (hS.step hbn) (fun hS => ?_)
      clear hbn hR1
      clear hK K
      refine wpAnyH_ready (rs := [5]) (by kernel_rfl) (by simp) ?_
      refine AllReadyH.cons rfl (fun K hK => ?_) AllReadyH.nil
      go_simp
      refine (cQ2 _).mono ?_
      rintro e wp ⟨⟨vb, rfl, hR1⟩, hbn⟩
      have hi6 := hR1.intS
      replace hi5 := hi5.step hbn
      replace hb := hb.step hbn
      replace hP2 := hP2.step hbn
      replace C3 := C3.step hbn
      refine hK.out _ _ (hS.step hbn) (fun hS => ?_)
      clear hbn hR1 cQ2
      clear hK K
      refine wpAnyH_ready (rs := [6]) (by kernel_rfl) (by simp) ?_
      refine AllReadyH.cons rfl (fun K hK => ?_) AllReadyH.nil
      go_simp
      refine (rsame_any A2 va vb (plK 0 (votesP A2)) hl2 _ hi5 hi6).mono ?_
      rintro e wr2 ⟨rfl, hbn⟩
      replace hb := hb.step hbn
      replace hP2 := hP2.step hbn
      replace C3 := C3.step hbn
      refine hK.out _ _ (hS.step hbn) (fun hS => ?_)
      clear hbn hi5 hi6
      clear hK K
      refine wpAnyH_take (i := 7) (v := ?_) rfl (by kernel_rfl) (by kernel_rfl) (by kernel_rfl) (fun _ _ _ h => h) (Or.inl ⟨by kernel_rfl, ?_⟩) hS ?_
      rotate_left
      · intro W hSW
        go_simp
        try with_reducible rfl
      dsimp only [Act.put]
      refine wpAnyH_take (i := 8) (v := ?_) rfl (by kernel_rfl) (by kernel_rfl) (by kernel_rfl) (fun _ _ _ h => h) (Or.inl ⟨by kernel_rfl, ?_⟩) hS ?_
      rotate_left
      · intro W hSW
        go_simp
        try with_reducible rfl
      dsimp only [Act.put]
      refine wpAnyH_take (i := 9) (v := ?_) rfl (by kernel_rfl) (by kernel_rfl) (by kernel_rfl) (fun _ _ _ h => h) (Or.inl ⟨by kernel_rfl, ?_⟩) hS ?_
      rotate_left
      · intro W hSW
        go_simp
        try with_reducible rfl
      dsimp only [Act.put]
      refine wpAnyH_take (i := 11) (v := .agg (qL A3).toArray) rfl (by kernel_rfl) (by kernel_rfl) (by kernel_rfl) (fun _ _ _ h => h) (yields_load_row (by kernel_rfl) 35 (.tmp 24) rfl gL (by kernel_rfl) _ _ _ hL2 Tryz.underlying35 rfl hi3) hS ?_
      dsimp only [Act.put]
      refine wpAnyH_ready (rs := [10]) (by kernel_rfl) (by simp) ?_
      refine AllReadyH.cons rfl (fun K hK => ?_) AllReadyH.nil
      go_simp
      refine (state_any o2 A3 _ C3 hI3.ne).mono ?_
      rintro e ws2 ⟨⟨vc, rfl, hR1⟩, hbn⟩
      have hi5 := hR1.intS
      replace hb := hb.step hbn
      replace hP2 := hP2.step hbn
      replace C3 := C3.step hbn
      refine hK.out _ _ (hS.step hbn) (fun hS => ?_)
      clear hbn hR1
      clear hK K
      refine wpAnyH_ready (rs := [12]) (by kernel_rfl) (by simp) ?_
      refine AllReadyH.cons rfl (fun K hK => ?_) AllReadyH.nil
      go_simp
      refine (cQ3 _).mono ?_
      rintro e wt ⟨⟨vd, rfl, hR1⟩, hbn⟩
      have hi6 := hR1.intS
      replace hi5 := hi5.step hbn
      replace hb := hb.step hbn
      replace hP2 := hP2.step hbn
      replace C3 := C3.step hbn
      refine hK.out _ _ (hS.step hbn) (fun hS => ?_)
      clear hbn hR1 cQ3
      clear hK K
      refine wpAnyH_ready (rs := [13]) (by kernel_rfl) (by simp) ?_
      refine AllReadyH.cons rfl (fun K hK => ?_) AllReadyH.nil
      go_simp
      refine (rsame_any A3 vc vd (plK 0 (votesP A3)) hl3 _ hi5 hi6).mono ?_
      rintro e wu ⟨rfl, hbn⟩
      replace hb := hb.step hbn
      replace hP2 := hP2.step hbn
      replace C3 := C3.step hbn
      refine hK.out _ _ (hS.step hbn) (fun hS => ?_)
      clear hbn hi5 hi6
      clear hK K
      refine wpAnyH_take (i := 14) (v := ?_) rfl (by kernel_rfl) (by kernel_rfl) (by kernel_rfl) (fun _ _ _ h => h) (Or.inl ⟨by kernel_rfl, ?_⟩) hS ?_
      rotate_left
      · intro W hSW
        go_simp
        try with_reducible rfl
      dsimp only [Act.put]
      refine wpAnyH_take (i := 15) (v := ?_) rfl (by kernel_rfl) (by kernel_rfl) (by kernel_rfl) (fun _ _ _ h => h) (Or.inl ⟨by kernel_rfl, ?_⟩) hS ?_
      rotate_left
      · intro W hSW
        go_simp
        try with_reducible rfl
      dsimp only [Act.put]
      refine wpAnyH_ready (rs := [16]) (by kernel_rfl) (by simp) ?_
      refine AllReadyH.cons rfl (fun K hK => ?_) AllReadyH.nil
      go_simp
      refine (works15_any _ (hT.step hb.out)).mono ?_
      rintro e wv ⟨rfl, hbn⟩
      replace hb := hb.step hbn
      replace hP2 := hP2.step hbn
      replace C3 := C3.step hbn
      refine hK.out _ _ (hS.step hbn) (fun hS => ?_)
      clear hbn
      clear hK K
      refine wpAnyH_take (i := 17) (v := ?_) rfl (by kernel_rfl) (by kernel_rfl) (by kernel_rfl) (fun _ _ _ h => h) (Or.inl ⟨by kernel_rfl, ?_⟩) hS ?_
      rotate_left
      · intro W hSW
        go_simp
        try with_reducible rfl
      dsimp only [Act.put]
      refine wpAnyH_ready (rs := [18]) (by kernel_rfl) (by simp) ?_
      refine AllReadyH.cons rfl (fun K hK => ?_) AllReadyH.nil
      go_simp
      refine hK.out _ _ (hS) (fun hS => ?_)
      clear hK K
      refine wpAnyH_done (by kernel_rfl) ?_ _
      go_wp2
      go_ret
      exact ⟨rfl, hb⟩
theorem copies15_walkx (c sl : Int) (own : Bool) (r p : Int) (z : Int × Int × Int × ByteArray) (q : Option Addr) (len cap : Nat) (x y : Pa) (w : World) (hT : Tabs w) (hz : z.2.2.2.size ≤ maxLen) (h : ∃ l : List Pa, l.length = len ∧ HasPa w q l ∧ (∀ e, e ∈ l → e.s.size ≤ maxLen) ∧ len ≤ maxLen) (hx : x.s.size ≤ maxLen) (hy : y.s.size ≤ maxLen) :
    Calls Tryz.prog 4 #[.int .i64 c, .int .i64 sl, .bool own, .agg #[.int .i64 r, .int .i64 p], .agg #[.int .i64 z.1, .int .i64 z.2.1, .int .i64 z.2.2.1, .string z.2.2.2], .slice q len cap, paV x, paV y] w fun r w' => r = .returned (.bool true) ∧ Below w.heap.size w w' := by
  obtain ⟨l, rfl, hE, hs, hl⟩ := h
  have hl2 : l.length ≤ 9223372036854775807 := by unfold maxLen at hl; omega
  have hz2 : z.2.2.2.size ≤ 9223372036854775807 := by unfold maxLen at hz; omega
  have hs2 : ∀ e, e ∈ l → e.s.size ≤ 9223372036854775807 := fun e he => by have := hs e he; unfold maxLen at this; omega
  have hx2 : x.s.size ≤ 9223372036854775807 := by unfold maxLen at hx; omega
  have hy2 : y.s.size ≤ 9223372036854775807 := by unfold maxLen at hy; omega
  cases hf : fewP l 20
  · exact copies15_few c sl own r p z.1 z.2.1 z.2.2.1 z.2.2.2 l q cap x y w hT hE hl2 hs2 hz2 hx2 hy2 hf
  · cases hf2 : fewP [x, y] 2
    · exact copies15_two c sl own r p z.1 z.2.1 z.2.2.1 z.2.2.2 l q cap x y w hT hE hl2 hs2 hz2 hx2 hy2 hf hf2
    · cases hg : longP z.2.2.2
      · by_cases h0 : mkE c sl own r p z.1 z.2.1 z.2.2.1 z.2.2.2 = 0
        · exact copies15_yes c sl own r p z.1 z.2.1 z.2.2.1 z.2.2.2 l q cap x y w hT hE hl2 hs2 hz2 hx2 hy2 hf hf2 hg h0
        · exact copies15_no c sl own r p z.1 z.2.1 z.2.2.1 z.2.2.2 l q cap x y w hT hE hl2 hs2 hz2 hx2 hy2 hf hf2 hg h0
      · exact copies15_long c sl own r p z.1 z.2.1 z.2.2.1 z.2.2.2 l q cap x y w hT hE hl2 hs2 hz2 hx2 hy2 hf hf2 hg
end Go.Proofs.YtcahkcbenanfnaaGreatDoor
