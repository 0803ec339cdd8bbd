
/- WheelCopies. -/
import Derived.Test.YtfdfmmmfklodgaaWiF
namespace Go.Proofs.Ytfdfmmmfklodgaa
set_option linter.unusedSimpArgs false
set_option linter.unusedVariables false
open Go.RowKit
theorem WhV.of {W : World} {xs : List Nat} {g : Nat} {now : Int} {L : List (Int × Int)} (h : WhV W xs g now L) : ∃ sb ba, WhW W xs g now L sb ba := h
theorem same_any (xs1 : List Nat) (g1 : Nat) (n1 : Int) (l1 : List (Int × Int)) (xs2 : List Nat) (g2 : Nat) (n2 : Int) (l2 : List (Int × Int)) (w : World) (h1 : WhV w xs1 g1 n1 l1) (h2 : WhV w xs2 g2 n2 l2) (G1 : GoodW n1 l1) (G2 : GoodW n2 l2) :
    Calls Try.prog 25 #[.pointer (some ⟨g1, 0, none⟩), .pointer (some ⟨g2, 0, none⟩)] w fun e w' => e = .returned (.bool (sameW n1 l1 n2 l2)) ∧ Below w.heap.size w w' := by
  obtain ⟨sb1, ba1, h1⟩ := h1
  obtain ⟨sb2, ba2, h2⟩ := h2
  exact same_wh xs1 g1 n1 l1 sb1 ba1 xs2 g2 n2 l2 sb2 ba2 w h1 h2 G1.ord G2.ord
theorem copy_any (xs : List Nat) (g : Nat) (now : Int) (L : List (Int × Int)) (w : World) (h : WhV w xs g now L) :
    Calls Try.prog 26 #[.pointer (some ⟨g, 0, none⟩)] w fun e w' => (∃ gc xs', e = .returned (.pointer (some ⟨gc, 0, none⟩)) ∧ WhV w' xs' gc now L ∧ ∀ x, x ∈ xs' → w.heap.size ≤ x) ∧ Below w.heap.size w w' := by
  obtain ⟨sb, ba, h⟩ := h
  exact copy_wh xs g now L sb ba w h
theorem sameW_comm (n1 n2 : Int) (l1 l2 : List (Int × Int)) : sameW n1 l1 n2 l2 = sameW n2 l2 n1 l1 := by
  unfold sameW
  rw [Bool.eq_iff_iff]
  simp
  constructor <;> rintro ⟨rfl, rfl⟩ <;> exact ⟨rfl, rfl⟩
theorem sameW_self (n : Int) (l : List (Int × Int)) : sameW n l n l = true := by simp [sameW]
/-- Two calls as they lie in a block of their own. -/
theorem hasA_two {w : World} {b : Nat} {x1 y1 z1 x2 y2 z2 : Int} (h : Blk w b 32 [.int .i64 x1, .int .i64 y1, .int .i64 z1, .int .i64 x2, .int .i64 y2, .int .i64 z2]) (h1 : wf64 y1) (h2 : wf64 y2) : HasA w (some ⟨b, 0, none⟩) 2 := by
  intro k hk
  match k, hk with
  | 0, _ => exact ⟨b, 0, x1, y1, z1, rfl, h.cell (j := 0) rfl, h.cell (j := 1) rfl, h.cell (j := 2) rfl, h1⟩
  | 1, _ => exact ⟨b, 0, x2, y2, z2, rfl, h.cell (j := 3) rfl, h.cell (j := 4) rfl, h.cell (j := 5) rfl, h2⟩
theorem hasA_one {w : World} {b : Nat} {x1 y1 z1 : Int} (h : Blk w b 32 [.int .i64 x1, .int .i64 y1, .int .i64 z1]) (h1 : wf64 y1) : HasA w (some ⟨b, 0, none⟩) 1 := by
  intro k hk
  match k, hk with
  | 0, _ => exact ⟨b, 0, x1, y1, z1, rfl, h.cell (j := 0) rfl, h.cell (j := 1) rfl, h.cell (j := 2) rfl, h1⟩
set_option maxRecDepth 100000 in
set_option maxHeartbeats 8000000 in
theorem copies_some (ao : Option Addr) (n c0 : Nat) (x y z x2 y2 z2 : Int) (w : World) (hA : HasA w ao n) (hn : n ≤ 9223372036854775807) (h30 : n ≤ 30) (hy : wf64 y) (hy2 : wf64 y2) :
    Calls Try.prog 8 #[.slice ao n c0, .agg #[.int .i64 x, .int .i64 y, .int .i64 z], .agg #[.int .i64 x2, .int .i64 y2, .int .i64 z2]] w (WorksP w) := by
  have n0 : (0 : Int) ≤ (n : Int) := by omega
  have n1 : (n : Int) ≤ 30 := by omega
  have hb := From.refl w
  go_enter Try.func8, Try.ntmps8
  go_upto_region 1 with fail
  obtain ⟨gX, hgX⟩ : ∃ g, (w).heap.size = g := ⟨_, rfl⟩
  have X := Blk.newV hgX 32 #[.int .i64 x, .int .i64 y, .int .i64 z]
  have hbn := (Below.refl (w).heap.size w).alloc (Nat.le_refl _) (.cells #[.int .i64 x, .int .i64 y, .int .i64 z] 32)
  replace hb := hb.step hbn
  replace hA := hA.step hbn
  clear hbn
  rw [hgX]
  have szX := alloc_size hgX (.cells #[.int .i64 x, .int .i64 y, .int .i64 z] 32)
  generalize (w).alloc (.cells #[.int .i64 x, .int .i64 y, .int .i64 z] 32) = wa at *
  obtain ⟨gY, hgY⟩ : ∃ g, (wa).heap.size = g := ⟨_, rfl⟩
  have lt_X_Y := X.lt
  rw [hgY] at lt_X_Y
  have Y := Blk.newV hgY 32 #[.int .i64 x2, .int .i64 y2, .int .i64 z2]
  have hbn := (Below.refl (wa).heap.size wa).alloc (Nat.le_refl _) (.cells #[.int .i64 x2, .int .i64 y2, .int .i64 z2] 32)
  replace hb := hb.step hbn
  replace hA := hA.step hbn
  replace X := X.step hbn
  clear hbn
  have egY : gX + 1 = gY := szX.symm.trans hgY
  rw [egY]
  clear szX
  generalize (wa).alloc (.cells #[.int .i64 x2, .int .i64 y2, .int .i64 z2] 32) = wb at *
  have hbw : From w wb := hb
  have X_0 := X.cell (j := 0) rfl
  have X_1 := X.cell (j := 1) rfl
  have X_2 := X.cell (j := 2) rfl
  have Y_0 := Y.cell (j := 0) rfl
  have Y_1 := Y.cell (j := 1) rfl
  have Y_2 := Y.cell (j := 2) rfl
  clear hgX hgY egY
  go_wp2_with fail
  refine (small_any ao n c0 hn _ hA).mono ?_
  rintro e _ ⟨⟨b1, rfl⟩, rfl⟩
  cases b1
  · go_wp2_with fail
    refine (works_any _).mono ?_
    rintro e w1 ⟨rfl, hb9⟩
    go_wp2_with fail
    go_ret
    exact ⟨rfl, hb.step hb9⟩
  go_wp2_with fail
  clear X_0 X_1 X_2
  clear Y_0 Y_1 Y_2
  clear hbw
  obtain ⟨gZ, hgZ⟩ : ∃ g, (wb).heap.size = g := ⟨_, rfl⟩
  have lt_X_Z := X.lt
  rw [hgZ] at lt_X_Z
  have lt_Y_Z := Y.lt
  rw [hgZ] at lt_Y_Z
  have Z := Blk.newV hgZ 32 #[.int .i64 x, .int .i64 y, .int .i64 z, .int .i64 x2, .int .i64 y2, .int .i64 z2]
  have hbn := (Below.refl (wb).heap.size wb).alloc (Nat.le_refl _) (.cells #[.int .i64 x, .int .i64 y, .int .i64 z, .int .i64 x2, .int .i64 y2, .int .i64 z2] 32)
  replace hb := hb.step hbn
  replace hA := hA.step hbn
  replace X := X.step hbn
  replace Y := Y.step hbn
  clear hbn
  rw [hgZ]
  generalize (wb).alloc (.cells #[.int .i64 x, .int .i64 y, .int .i64 z, .int .i64 x2, .int .i64 y2, .int .i64 z2] 32) = wc at *
  refine (small_any _ 2 2 (by omega) _ (hasA_two Z hy hy2)).mono ?_
  rintro e _ ⟨⟨b2, rfl⟩, rfl⟩
  clear Z lt_X_Z lt_Y_Z hgZ
  cases b2
  · go_wp2_with fail
    refine (works_any _).mono ?_
    rintro e w1 ⟨rfl, hb9⟩
    go_wp2_with fail
    go_ret
    exact ⟨rfl, hb.step hb9⟩
  go_wp2_with fail
  refine (played_any ao n c0 hn _ hA).mono ?_
  rintro e w1 ⟨g, now, L, a, c, xs, rfl, hP, hx, hbn⟩
  have hcw := hb.size
  have hXc := X.lt
  have hYc := Y.lt
  have hXx : gX ∉ xs := fun hm => by have := hx _ hm; omega
  have hYx : gY ∉ xs := fun hm => by have := hx _ hm; omega
  replace hx : Hid (∀ k, k ∈ xs → w.heap.size ≤ k) := Lib.hid (fun k hk => Nat.le_trans hcw (hx k hk))
  replace hb := hb.step hbn
  replace hA := hA.step hbn
  replace X := X.step hbn
  replace Y := Y.step hbn
  clear hbn hA hcw hXc hYc
  obtain ⟨hV, hG, hR, hnx⟩ := hP
  have hll := hG.len
  replace hnx := Lib.hid hnx
  have cC := fun W h => copy_any xs g now L W h
  have cS := fun W ys gc h1 h2 => same_any xs g now L ys gc now L W h1 h2 hG hG
  rw [sameW_self] at cS
  have cI := fun W ys gc (h1 : WhV W ys gc now L) h2 => is_any ys gc now a c L W h1 hG h2
  have cA := fun W h1 h2 => act_own xs g now L a c x y z hy W ⟨h1, hG, h2, hnx.out⟩
  have cB := fun W ys gc h1 h2 h3 => act_own ys gc now L a c x2 y2 z2 hy2 W ⟨h1, hG, h2, h3⟩
  have cR := fun W now2 a2 c2 L2 h1 h2 h3 => refSame_any now a c L now2 a2 c2 L2 W h1 h2 (by omega) h3
  unfold ActQ at cA cB
  obtain ⟨N, hN⟩ : ∃ N, L.length = N := ⟨_, rfl⟩
  rw [hN] at hR hnx hll cI cA cB cR ⊢
  clear hN
  have hRw := Lib.hid hR.ge
  have hxw := Lib.hid hV.lt
  have hw1 := hb.size
  go_upto_region 4 with fail
  obtain ⟨gQ, hgQ⟩ : ∃ g, (w1).heap.size = g := ⟨_, rfl⟩
  have lt_X_Q := X.lt
  rw [hgQ] at lt_X_Q
  have lt_Y_Q := Y.lt
  rw [hgQ] at lt_Y_Q
  have Q := Blk.newV hgQ 28 #[.int .i64 now, .slice a N c]
  have hbn := (Below.refl (w1).heap.size w1).alloc (Nat.le_refl _) (.cells #[.int .i64 now, .slice a N c] 28)
  replace hb := hb.step hbn
  replace X := X.step hbn
  replace Y := Y.step hbn
  replace hV := hV.step hbn
  replace hR := hR.step hbn
  clear hbn
  rw [hgQ]
  generalize (w1).alloc (.cells #[.int .i64 now, .slice a N c] 28) = w2 at *
  have hQ1 : w1.heap.size ≤ gQ := by omega
  have hQ2 := Q.lt
  clear hgQ
  go_wp2_with fail
  refine (cC _ hV).mono ?_
  rintro e w3 ⟨⟨gc, ys, rfl, hC, hys⟩, hbn⟩
  clear cC
  replace hb := hb.step hbn
  replace X := X.step hbn
  replace Y := Y.step hbn
  replace hV := hV.step hbn
  replace hR := hR.step hbn
  replace Q := Q.step hbn
  clear hbn
  have hyx := Lib.hid (show ∀ k, k ∈ ys → k ∉ xs from fun k hk hm => by have := hys k hk; have := hxw.out k hm; omega)
  have hay := Lib.hid (show ∀ k, (Value.slice a N c).ownBlock = some k → k ∉ ys from fun k hk hm => by have := hys k hm; have := (hRw.out k hk).2; omega)
  have hXy : gX ∉ ys := fun hm => by have := hys _ hm; omega
  have hYy : gY ∉ ys := fun hm => by have := hys _ hm; omega
  have hQy : gQ ∉ ys := fun hm => by have := hys _ hm; omega
  have hQx : gQ ∉ xs := fun hm => by have := hxw.out _ hm; omega
  have hyw := Lib.hid (show ∀ k, k ∈ ys → w.heap.size ≤ k from fun k hk => by have := hys k hk; omega)
  clear hys
  go_wp2_with fail
  refine (cS _ ys gc hV hC).mono ?_
  rintro e w4 ⟨rfl, hbn⟩
  replace hb := hb.step hbn
  replace X := X.step hbn
  replace Y := Y.step hbn
  replace hV := hV.step hbn
  replace hR := hR.step hbn
  replace Q := Q.step hbn
  replace hC := hC.step hbn
  clear hbn
  have Q_0 := Q.cell (j := 0) rfl
  have Q_1 := Q.cell (j := 1) rfl
  go_wp2_with fail
  refine (cI _ ys gc hC hR).mono ?_
  rintro e w5 ⟨rfl, hbn⟩
  replace hb := hb.step hbn
  replace X := X.step hbn
  replace Y := Y.step hbn
  replace hV := hV.step hbn
  replace hR := hR.step hbn
  replace Q := Q.step hbn
  replace Q_0 := Q.cell (j := 0) rfl
  replace Q_1 := Q.cell (j := 1) rfl
  replace hC := hC.step hbn
  clear hbn
  have X_0 := X.cell (j := 0) rfl
  have X_1 := X.cell (j := 1) rfl
  have X_2 := X.cell (j := 2) rfl
  go_wp2_with fail
  refine (cA _ hV hR).mono ?_
  clear cA cS cI
  rintro e w6 ⟨now2, L2, a2, c2, xs2, rfl, ⟨hV2, hG2, hR2, -⟩, hgr, hk, hfo⟩
  have hCl := Lib.hid hC.lt
  have hx2y := Lib.hid (show ∀ k, k ∈ xs2 → k ∉ ys from fun k hk hm => by
    rcases hgr.2 k hk with h1 | h1
    · exact hyx.out k hm h1
    · have := hCl.out k hm; omega)
  have hay2 := Lib.hid (show ∀ k, (Value.slice a2 L2.length c2).ownBlock = some k → k ∉ ys from fun k hk hm => by
    rcases hfo k hk with h1 | h1
    · exact hay.out k h1 hm
    · have := hCl.out k hm; omega)
  have hl2 := hG2.len
  replace hC := hC.kx hk hyx.out
  replace hR := hR.kx hk hnx.out
  replace Y := Y.kx hk hYx
  replace Q := Q.kx hk hQx
  replace hb := hb.kx hk hx.out
  clear hgr hk hfo hCl hnx hyx hx hXx hYx hQx hV X hRw hxw
  clear Q_0 Q_1
  clear X_0 X_1 X_2
  replace cR := fun W h1 h2 => cR W now2 a2 c2 L2 h1 h2 (by omega)
  have cS := fun W h1 h2 => same_any xs2 g now2 L2 ys gc now L W h1 h2 hG2 hG
  have cS2 := fun W h1 h2 => same_any ys gc now L xs2 g now2 L2 W h1 h2 hG hG2
  rw [sameW_comm now2 now] at cS
  have cI := fun W h1 h2 => is_any xs2 g now2 a2 c2 L2 W h1 hG2 h2
  obtain ⟨R, hRe⟩ : ∃ R, sameW now L now2 L2 = R := ⟨_, rfl⟩
  rw [hRe] at cR cS cS2
  clear hRe
  obtain ⟨N2, hN2⟩ : ∃ N2, L2.length = N2 := ⟨_, rfl⟩
  rw [hN2] at hR2 cR cI hay2 ⊢
  clear hN2
  have hCl := Lib.hid hC.lt
  go_upto_region 8 with fail
  obtain ⟨gM, hgM⟩ : ∃ g, (w6).heap.size = g := ⟨_, rfl⟩
  have lt_Y_M := Y.lt
  rw [hgM] at lt_Y_M
  have lt_Q_M := Q.lt
  rw [hgM] at lt_Q_M
  have M := Blk.newV hgM 28 #[.int .i64 now2, .slice a2 N2 c2]
  have hbn := (Below.refl (w6).heap.size w6).alloc (Nat.le_refl _) (.cells #[.int .i64 now2, .slice a2 N2 c2] 28)
  replace hb := hb.step hbn
  replace hC := hC.step hbn
  replace hR := hR.step hbn
  replace Y := Y.step hbn
  replace Q := Q.step hbn
  replace hV2 := hV2.step hbn
  replace hR2 := hR2.step hbn
  clear hbn
  rw [hgM]
  generalize (w6).alloc (.cells #[.int .i64 now2, .slice a2 N2 c2] 28) = w7 at *
  have hMy : gM ∉ ys := fun hm => by have := hCl.out _ hm; omega
  clear hCl hgM
  have Q_0 := Q.cell (j := 0) rfl
  have Q_1 := Q.cell (j := 1) rfl
  have M_0 := M.cell (j := 0) rfl
  have M_1 := M.cell (j := 1) rfl
  go_wp2_with fail
  refine (cR _ hR hR2).mono ?_
  rintro e w8 ⟨rfl, hbn⟩
  replace hb := hb.step hbn
  replace hC := hC.step hbn
  replace hR := hR.step hbn
  replace Y := Y.step hbn
  replace Q := Q.step hbn
  replace Q_0 := Q.cell (j := 0) rfl
  replace Q_1 := Q.cell (j := 1) rfl
  replace hV2 := hV2.step hbn
  replace hR2 := hR2.step hbn
  replace M := M.step hbn
  replace M_0 := M.cell (j := 0) rfl
  replace M_1 := M.cell (j := 1) rfl
  clear hbn
  clear cR
  clear Q_0 Q_1
  clear M_0 M_1
  cases R
  · skip
    have Y_0 := Y.cell (j := 0) rfl
    have Y_1 := Y.cell (j := 1) rfl
    have Y_2 := Y.cell (j := 2) rfl
    have Q_0 := Q.cell (j := 0) rfl
    have Q_1 := Q.cell (j := 1) rfl
    have M_0 := M.cell (j := 0) rfl
    have M_1 := M.cell (j := 1) rfl
    go_wp2_with fail
    refine (cS _ hV2 hC).mono ?_
    rintro e w9 ⟨rfl, hbn⟩
    replace hb := hb.step hbn
    replace hC := hC.step hbn
    replace hR := hR.step hbn
    replace Y := Y.step hbn
    replace Y_0 := Y.cell (j := 0) rfl
    replace Y_1 := Y.cell (j := 1) rfl
    replace Y_2 := Y.cell (j := 2) rfl
    replace Q := Q.step hbn
    replace Q_0 := Q.cell (j := 0) rfl
    replace Q_1 := Q.cell (j := 1) rfl
    replace hV2 := hV2.step hbn
    replace hR2 := hR2.step hbn
    replace M := M.step hbn
    replace M_0 := M.cell (j := 0) rfl
    replace M_1 := M.cell (j := 1) rfl
    clear hbn
    go_wp2_with fail
    refine (cS2 _ hC hV2).mono ?_
    rintro e wd ⟨rfl, hbn⟩
    replace hb := hb.step hbn
    replace hC := hC.step hbn
    replace hR := hR.step hbn
    replace Y := Y.step hbn
    replace Y_0 := Y.cell (j := 0) rfl
    replace Y_1 := Y.cell (j := 1) rfl
    replace Y_2 := Y.cell (j := 2) rfl
    replace Q := Q.step hbn
    replace Q_0 := Q.cell (j := 0) rfl
    replace Q_1 := Q.cell (j := 1) rfl
    replace hV2 := hV2.step hbn
    replace hR2 := hR2.step hbn
    replace M := M.step hbn
    replace M_0 := M.cell (j := 0) rfl
    replace M_1 := M.cell (j := 1) rfl
    clear hbn
    clear cS cS2
    go_wp2_with fail
    refine (cB _ ys gc hC hR hay.out).mono ?_
    clear cB
    rintro e we ⟨now3, L3, a3, c3, ys3, rfl, ⟨hV3, hG3, hR3, -⟩, -, hk, -⟩
    replace hV2 := hV2.kx hk hx2y.out
    replace hR2 := hR2.kx hk hay2.out
    replace M := M.kx hk hMy
    replace hb := hb.kx hk hyw.out
    clear hk hyw hx2y hay2 hay hXy hYy hQy hMy hC hR Y Q
    clear Y_0 Y_1 Y_2
    clear Q_0 Q_1
    clear M_0 M_1
    have cJ := fun W h1 h2 => is_any ys3 gc now3 a3 c3 L3 W h1 hG3 h2
    obtain ⟨N3, hN3⟩ : ∃ N3, L3.length = N3 := ⟨_, rfl⟩
    rw [hN3] at hR3 cJ ⊢
    clear hN3
    go_upto_region 12 with fail
    obtain ⟨gO, hgO⟩ : ∃ g, (we).heap.size = g := ⟨_, rfl⟩
    have lt_M_O := M.lt
    rw [hgO] at lt_M_O
    have O := Blk.newV hgO 28 #[.int .i64 now3, .slice a3 N3 c3]
    have hbn := (Below.refl (we).heap.size we).alloc (Nat.le_refl _) (.cells #[.int .i64 now3, .slice a3 N3 c3] 28)
    replace hb := hb.step hbn
    replace hV2 := hV2.step hbn
    replace hR2 := hR2.step hbn
    replace hV3 := hV3.step hbn
    replace hR3 := hR3.step hbn
    replace M := M.step hbn
    clear hbn
    rw [hgO]
    generalize (we).alloc (.cells #[.int .i64 now3, .slice a3 N3 c3] 28) = wf at *
    clear hgO lt_M_O
    have O_0 := O.cell (j := 0) rfl
    have O_1 := O.cell (j := 1) rfl
    have M_0 := M.cell (j := 0) rfl
    have M_1 := M.cell (j := 1) rfl
    go_wp2_with fail
    refine (cI _ hV2 hR2).mono ?_
    rintro e wg ⟨rfl, hbn⟩
    replace hb := hb.step hbn
    replace hV2 := hV2.step hbn
    replace hR2 := hR2.step hbn
    replace hV3 := hV3.step hbn
    replace hR3 := hR3.step hbn
    replace M := M.step hbn
    replace M_0 := M.cell (j := 0) rfl
    replace M_1 := M.cell (j := 1) rfl
    replace O := O.step hbn
    replace O_0 := O.cell (j := 0) rfl
    replace O_1 := O.cell (j := 1) rfl
    clear hbn
    go_wp2_with fail
    refine (cJ _ hV3 hR3).mono ?_
    rintro e wh ⟨rfl, hbn⟩
    replace hb := hb.step hbn
    replace hV2 := hV2.step hbn
    replace hR2 := hR2.step hbn
    replace hV3 := hV3.step hbn
    replace hR3 := hR3.step hbn
    replace M := M.step hbn
    replace M_0 := M.cell (j := 0) rfl
    replace M_1 := M.cell (j := 1) rfl
    replace O := O.step hbn
    replace O_0 := O.cell (j := 0) rfl
    replace O_1 := O.cell (j := 1) rfl
    clear hbn
    clear O_0 O_1
    clear M_0 M_1
    go_wp2_with fail
    refine (works_any _).mono ?_
    rintro e wi ⟨rfl, hb9⟩
    go_wp2_with fail
    go_ret
    exact ⟨rfl, hb.step hb9⟩
  · skip
    have Y_0 := Y.cell (j := 0) rfl
    have Y_1 := Y.cell (j := 1) rfl
    have Y_2 := Y.cell (j := 2) rfl
    have Q_0 := Q.cell (j := 0) rfl
    have Q_1 := Q.cell (j := 1) rfl
    have M_0 := M.cell (j := 0) rfl
    have M_1 := M.cell (j := 1) rfl
    go_wp2_with fail
    refine (cS _ hV2 hC).mono ?_
    rintro e w9 ⟨rfl, hbn⟩
    replace hb := hb.step hbn
    replace hC := hC.step hbn
    replace hR := hR.step hbn
    replace Y := Y.step hbn
    replace Y_0 := Y.cell (j := 0) rfl
    replace Y_1 := Y.cell (j := 1) rfl
    replace Y_2 := Y.cell (j := 2) rfl
    replace Q := Q.step hbn
    replace Q_0 := Q.cell (j := 0) rfl
    replace Q_1 := Q.cell (j := 1) rfl
    replace hV2 := hV2.step hbn
    replace hR2 := hR2.step hbn
    replace M := M.step hbn
    replace M_0 := M.cell (j := 0) rfl
    replace M_1 := M.cell (j := 1) rfl
    clear hbn
    go_wp2_with fail
    refine (cS2 _ hC hV2).mono ?_
    rintro e wd ⟨rfl, hbn⟩
    replace hb := hb.step hbn
    replace hC := hC.step hbn
    replace hR := hR.step hbn
    replace Y := Y.step hbn
    replace Y_0 := Y.cell (j := 0) rfl
    replace Y_1 := Y.cell (j := 1) rfl
    replace Y_2 := Y.cell (j := 2) rfl
    replace Q := Q.step hbn
    replace Q_0 := Q.cell (j := 0) rfl
    replace Q_1 := Q.cell (j := 1) rfl
    replace hV2 := hV2.step hbn
    replace hR2 := hR2.step hbn
    replace M := M.step hbn
    replace M_0 := M.cell (j := 0) rfl
    replace M_1 := M.cell (j := 1) rfl
    clear hbn
    clear cS cS2
    go_wp2_with fail
    refine (cB _ ys gc hC hR hay.out).mono ?_
    clear cB
    rintro e we ⟨now3, L3, a3, c3, ys3, rfl, ⟨hV3, hG3, hR3, -⟩, -, hk, -⟩
    replace hV2 := hV2.kx hk hx2y.out
    replace hR2 := hR2.kx hk hay2.out
    replace M := M.kx hk hMy
    replace hb := hb.kx hk hyw.out
    clear hk hyw hx2y hay2 hay hXy hYy hQy hMy hC hR Y Q
    clear Y_0 Y_1 Y_2
    clear Q_0 Q_1
    clear M_0 M_1
    have cJ := fun W h1 h2 => is_any ys3 gc now3 a3 c3 L3 W h1 hG3 h2
    obtain ⟨N3, hN3⟩ : ∃ N3, L3.length = N3 := ⟨_, rfl⟩
    rw [hN3] at hR3 cJ ⊢
    clear hN3
    go_upto_region 12 with fail
    obtain ⟨gO, hgO⟩ : ∃ g, (we).heap.size = g := ⟨_, rfl⟩
    have lt_M_O := M.lt
    rw [hgO] at lt_M_O
    have O := Blk.newV hgO 28 #[.int .i64 now3, .slice a3 N3 c3]
    have hbn := (Below.refl (we).heap.size we).alloc (Nat.le_refl _) (.cells #[.int .i64 now3, .slice a3 N3 c3] 28)
    replace hb := hb.step hbn
    replace hV2 := hV2.step hbn
    replace hR2 := hR2.step hbn
    replace hV3 := hV3.step hbn
    replace hR3 := hR3.step hbn
    replace M := M.step hbn
    clear hbn
    rw [hgO]
    generalize (we).alloc (.cells #[.int .i64 now3, .slice a3 N3 c3] 28) = wf at *
    clear hgO lt_M_O
    have O_0 := O.cell (j := 0) rfl
    have O_1 := O.cell (j := 1) rfl
    have M_0 := M.cell (j := 0) rfl
    have M_1 := M.cell (j := 1) rfl
    go_wp2_with fail
    refine (cI _ hV2 hR2).mono ?_
    rintro e wg ⟨rfl, hbn⟩
    replace hb := hb.step hbn
    replace hV2 := hV2.step hbn
    replace hR2 := hR2.step hbn
    replace hV3 := hV3.step hbn
    replace hR3 := hR3.step hbn
    replace M := M.step hbn
    replace M_0 := M.cell (j := 0) rfl
    replace M_1 := M.cell (j := 1) rfl
    replace O := O.step hbn
    replace O_0 := O.cell (j := 0) rfl
    replace O_1 := O.cell (j := 1) rfl
    clear hbn
    go_wp2_with fail
    refine (cJ _ hV3 hR3).mono ?_
    rintro e wh ⟨rfl, hbn⟩
    replace hb := hb.step hbn
    replace hV2 := hV2.step hbn
    replace hR2 := hR2.step hbn
    replace hV3 := hV3.step hbn
    replace hR3 := hR3.step hbn
    replace M := M.step hbn
    replace M_0 := M.cell (j := 0) rfl
    replace M_1 := M.cell (j := 1) rfl
    replace O := O.step hbn
    replace O_0 := O.cell (j := 0) rfl
    replace O_1 := O.cell (j := 1) rfl
    clear hbn
    clear O_0 O_1
    clear M_0 M_1
    go_wp2_with fail
    refine (works_any _).mono ?_
    rintro e wi ⟨rfl, hb9⟩
    go_wp2_with fail
    go_ret
    exact ⟨rfl, hb.step hb9⟩
theorem WheelCopies_walk (ao : Option Addr) (n c0 : Nat) (e1 e2 : Int × Int × Int) (w : World) (hA : HasA w ao n ∧ n ≤ 9223372036854775807) (h1 : wf64 e1.2.1) (h2 : wf64 e2.2.1) :
    Calls Try.prog 8 #[.slice ao n c0, .agg #[.int .i64 e1.1, .int .i64 e1.2.1, .int .i64 e1.2.2], .agg #[.int .i64 e2.1, .int .i64 e2.2.1, .int .i64 e2.2.2]] w (WorksP w) := by
  obtain ⟨hA, hn⟩ := hA
  obtain ⟨x, y, z⟩ := e1
  obtain ⟨x2, y2, z2⟩ := e2
  simp only at h1 h2 ⊢
  by_cases h30 : n ≤ 30
  · exact copies_some ao n c0 x y z x2 y2 z2 w hA hn h30 h1 h2
  · have n1 : (30 : Int) < (n : Int) := by omega
    clear hA
    have hb := From.refl w
    go_enter Try.func8, Try.ntmps8
    go_upto_region 1 with fail
    obtain ⟨gX, hgX⟩ : ∃ g, (w).heap.size = g := ⟨_, rfl⟩
    have X := Blk.newV hgX 32 #[.int .i64 x, .int .i64 y, .int .i64 z]
    have hbn := (Below.refl (w).heap.size w).alloc (Nat.le_refl _) (.cells #[.int .i64 x, .int .i64 y, .int .i64 z] 32)
    replace hb := hb.step hbn
    clear hbn
    rw [hgX]
    have szX := alloc_size hgX (.cells #[.int .i64 x, .int .i64 y, .int .i64 z] 32)
    generalize (w).alloc (.cells #[.int .i64 x, .int .i64 y, .int .i64 z] 32) = wa at *
    obtain ⟨gY, hgY⟩ : ∃ g, (wa).heap.size = g := ⟨_, rfl⟩
    have lt_X_Y := X.lt
    rw [hgY] at lt_X_Y
    have Y := Blk.newV hgY 32 #[.int .i64 x2, .int .i64 y2, .int .i64 z2]
    have hbn := (Below.refl (wa).heap.size wa).alloc (Nat.le_refl _) (.cells #[.int .i64 x2, .int .i64 y2, .int .i64 z2] 32)
    replace hb := hb.step hbn
    replace X := X.step hbn
    clear hbn
    have egY : gX + 1 = gY := szX.symm.trans hgY
    rw [egY]
    clear szX
    generalize (wa).alloc (.cells #[.int .i64 x2, .int .i64 y2, .int .i64 z2] 32) = wb at *
    go_wp2_with fail
    refine (works_any _).mono ?_
    rintro e w1 ⟨rfl, hb9⟩
    go_wp2_with fail
    go_ret
    exact ⟨rfl, hb.step hb9⟩
end Go.Proofs.Ytfdfmmmfklodgaa
