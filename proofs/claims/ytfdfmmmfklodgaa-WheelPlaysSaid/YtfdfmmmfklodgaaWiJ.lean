
/- WheelLeaves. -/
import Derived.Test.YtfdfmmmfklodgaaWiI
namespace Go.Proofs.Ytfdfmmmfklodgaa
set_option linter.unusedSimpArgs false
set_option linter.unusedVariables false
open Go.RowKit
attribute [local go_sem] Oper.semAt_some
set_option maxRecDepth 100000 in
set_option maxHeartbeats 8000000 in
theorem leaves_some (ao : Option Addr) (n c0 : Nat) (m x y z : Int) (w : World) (hA : HasA w ao n) (hn : n ≤ 9223372036854775807) (h30 : n ≤ 30) (hy : wf64 y) :
    Calls Try.prog 5 #[.slice ao n c0, .int .i64 m, .agg #[.int .i64 x, .int .i64 y, .int .i64 z]] w (WorksP w) := by
  refine callsIn_wide (n := 3).1 ?_
  have n0 : (0 : Int) ≤ (n : Int) := by omega
  have n1 : (n : Int) ≤ 30 := by omega
  have hb := From.refl w
  have heq := eql_seq
  refine callsIn_of_wp_marks Try.func5 rfl trivial ?_ rfl
  simp only [Try.ntmps5, List.size_toArray, List.length_cons, List.length_nil, Nat.reduceAdd, Nat.reduceSub, Array.replicate_succ, Array.replicate_zero, List.push_toArray, List.append_toArray, List.nil_append, List.cons_append]
  refine (wpIn_wide (n := 3)).2 ?_
  go_upto_region 1 with fail
  obtain ⟨gM, hgM⟩ : ∃ g, (w).heap.size = g := ⟨_, rfl⟩
  have M := Blk.newV hgM 3 #[.int .i64 m]
  have hbn := (Below.refl (w).heap.size w).alloc (Nat.le_refl _) (.cells #[.int .i64 m] 3)
  replace hb := hb.step hbn
  replace hA := hA.step hbn
  clear hbn
  rw [hgM]
  have szM := alloc_size hgM (.cells #[.int .i64 m] 3)
  generalize (w).alloc (.cells #[.int .i64 m] 3) = w1 at *
  obtain ⟨gX, hgX⟩ : ∃ g, (w1).heap.size = g := ⟨_, rfl⟩
  have lt_M_X := M.lt
  rw [hgX] at lt_M_X
  have X := Blk.newV hgX 32 #[.int .i64 x, .int .i64 y, .int .i64 z]
  have hbn := (Below.refl (w1).heap.size w1).alloc (Nat.le_refl _) (.cells #[.int .i64 x, .int .i64 y, .int .i64 z] 32)
  replace hb := hb.step hbn
  replace hA := hA.step hbn
  replace M := M.step hbn
  clear hbn
  have egX : gM + 1 = gX := szM.symm.trans hgX
  rw [egX]
  clear szM
  have szX := alloc_size hgX (.cells #[.int .i64 x, .int .i64 y, .int .i64 z] 32)
  generalize (w1).alloc (.cells #[.int .i64 x, .int .i64 y, .int .i64 z] 32) = w2 at *
  obtain ⟨gR, hgR⟩ : ∃ g, (w2).heap.size = g := ⟨_, rfl⟩
  have lt_M_R := M.lt
  rw [hgR] at lt_M_R
  have lt_X_R := X.lt
  rw [hgR] at lt_X_R
  have R := Blk.newV hgR 4 #[.bool false]
  have hbn := (Below.refl (w2).heap.size w2).alloc (Nat.le_refl _) (.cells #[.bool false] 4)
  replace hb := hb.step hbn
  replace hA := hA.step hbn
  replace M := M.step hbn
  replace X := X.step hbn
  clear hbn
  have egR : gX + 1 = gR := szX.symm.trans hgR
  rw [egR]
  clear szX
  generalize (w2).alloc (.cells #[.bool false] 4) = w3 at *
  have hbw3 := hb.size
  have hwM : w.heap.size ≤ gM := by omega
  have hwR : w.heap.size ≤ gR := by omega
  have X_0 := X.cell (j := 0) rfl
  have X_1 := X.cell (j := 1) rfl
  have X_2 := X.cell (j := 2) rfl
  clear hgM hgX hgR egX egR
  go_wp2_with fail
  refine (small_any ao n c0 hn _ hA).mono ?_
  rintro e _ ⟨⟨b1, rfl⟩, rfl⟩
  cases b1
  · go_wp2_with fail
    refine (works_any _).mono ?_
    rintro e w4 ⟨rfl, hb9⟩
    have hb9 : Below w3.heap.size w3 w4 := hb9
    replace hb := hb.step hb9
    replace hA := hA.step hb9
    replace M := M.step hb9
    replace X := X.step hb9
    replace R := R.step hb9
    have r0 := R.cell (j := 0) rfl
    have f0 := R.frozen 0
    have R2 := R.set 0 (.bool true)
    have r2 := R2.cell (j := 0) rfl
    go_wp2_with fail
    have hb8 := hb.out.setCell (p := ⟨gR, 0, none⟩) (by show w.heap.size ≤ gR; omega) (.bool true)
    exact leaves_list w.heap.size [] rfl (fun D' h => by simp at h) (by simp) (v := .bool true) (fun W' hbW hcW => by
      have G1' : Blk W' gR 4 [.bool true] := hcW _ _ R2 rfl
      have r10 := G1'.cell (j := 0) rfl
      exact ⟨by simp [results, Try.results5, go_sem, r10], rfl, hb8.trans hbW⟩)
  go_wp2_with fail
  clear X_0 X_1 X_2
  obtain ⟨gZ, hgZ⟩ : ∃ g, (w3).heap.size = g := ⟨_, rfl⟩
  have lt_X_Z := X.lt
  rw [hgZ] at lt_X_Z
  have lt_R_Z := R.lt
  rw [hgZ] at lt_R_Z
  have lt_M_Z := M.lt
  rw [hgZ] at lt_M_Z
  have Z := Blk.newV hgZ 32 #[.int .i64 x, .int .i64 y, .int .i64 z]
  have hbn := (Below.refl (w3).heap.size w3).alloc (Nat.le_refl _) (.cells #[.int .i64 x, .int .i64 y, .int .i64 z] 32)
  replace hb := hb.step hbn
  replace hA := hA.step hbn
  replace X := X.step hbn
  replace R := R.step hbn
  replace M := M.step hbn
  clear hbn
  rw [hgZ]
  generalize (w3).alloc (.cells #[.int .i64 x, .int .i64 y, .int .i64 z] 32) = w4 at *
  refine (small_any _ 1 1 (by omega) _ (hasA_one Z hy)).mono ?_
  rintro e _ ⟨⟨b2, rfl⟩, rfl⟩
  clear Z lt_X_Z lt_R_Z lt_M_Z hgZ
  cases b2
  · go_wp2_with fail
    refine (works_any _).mono ?_
    rintro e w5 ⟨rfl, hb9⟩
    have hb9 : Below w4.heap.size w4 w5 := hb9
    replace hb := hb.step hb9
    replace hA := hA.step hb9
    replace X := X.step hb9
    replace R := R.step hb9
    replace M := M.step hb9
    have r0 := R.cell (j := 0) rfl
    have f0 := R.frozen 0
    have R2 := R.set 0 (.bool true)
    have r2 := R2.cell (j := 0) rfl
    go_wp2_with fail
    have hb8 := hb.out.setCell (p := ⟨gR, 0, none⟩) (by show w.heap.size ≤ gR; omega) (.bool true)
    exact leaves_list w.heap.size [] rfl (fun D' h => by simp at h) (by simp) (v := .bool true) (fun W' hbW hcW => by
      have G1' : Blk W' gR 4 [.bool true] := hcW _ _ R2 rfl
      have r10 := G1'.cell (j := 0) rfl
      exact ⟨by simp [results, Try.results5, go_sem, r10], rfl, hb8.trans hbW⟩)
  go_wp2_with fail
  refine (played_any ao n c0 hn _ hA).mono ?_
  rintro e w5 ⟨g, now, L, a, c, xs, rfl, hP, hx, hbn⟩
  have hcw := hb.size
  have hXc := X.lt
  have hRc := R.lt
  have hMc := M.lt
  have hXx : gX ∉ xs := fun hm => by have := hx _ hm; omega
  have hRx : gR ∉ xs := fun hm => by have := hx _ hm; omega
  have hMx : gM ∉ xs := fun hm => by have := hx _ hm; omega
  replace hx : Hid (∀ k, k ∈ xs → w.heap.size ≤ k) := Lib.hid (fun k hk => Nat.le_trans hcw (hx k hk))
  replace hb := hb.step hbn
  replace hA := hA.step hbn
  replace X := X.step hbn
  replace R := R.step hbn
  replace M := M.step hbn
  clear hbn hA hcw hXc hRc hMc
  obtain ⟨hV, hG, hR, hnx⟩ := hP
  have hll := hG.len
  replace hnx := Lib.hid hnx
  have hge := Lib.hid hR.ge
  have hxw := Lib.hid hV.lt
  have cA := fun W h1 h2 => act_any xs g now L a c x y z hy W ⟨h1, hG, h2, hnx.out⟩
  have cF := fun W h => allF_any xs g now L W h hG
  have cX := fun W b ao c h1 h2 => all_xs b ao c L W h1 h2 (by omega)
  unfold ActP at cA
  obtain ⟨N, hN⟩ : ∃ N, L.length = N := ⟨_, rfl⟩
  rw [hN] at hR hnx hll cA hge cX ⊢
  have HN := Lib.hid hN
  clear hN
  go_upto_region 4 with fail
  obtain ⟨gQ, hgQ⟩ : ∃ g, (w5).heap.size = g := ⟨_, rfl⟩
  have lt_X_Q := X.lt
  rw [hgQ] at lt_X_Q
  have lt_M_Q := M.lt
  rw [hgQ] at lt_M_Q
  have lt_R_Q := R.lt
  rw [hgQ] at lt_R_Q
  have Q := Blk.newV hgQ 28 #[.int .i64 now, .slice a N c]
  have hbn := (Below.refl (w5).heap.size w5).alloc (Nat.le_refl _) (.cells #[.int .i64 now, .slice a N c] 28)
  replace hb := hb.step hbn
  replace X := X.step hbn
  replace M := M.step hbn
  replace R := R.step hbn
  replace hV := hV.step hbn
  replace hR := hR.step hbn
  clear hbn
  rw [hgQ]
  generalize (w5).alloc (.cells #[.int .i64 now, .slice a N c] 28) = w6 at *
  have hQx : gQ ∉ xs := fun hm => by have := hxw.out _ hm; omega
  have hx6 := Lib.hid hV.lt
  have hQ5 : w5.heap.size ≤ gQ := by omega
  clear hgQ
  go_wp2_with fail
  refine (cF _ hV).mono ?_
  rintro e w7 ⟨b, rfl, hSq, hbn⟩
  unfold DueF
  replace hb := hb.step hbn
  replace X := X.step hbn
  replace M := M.step hbn
  replace R := R.step hbn
  replace hV := hV.step hbn
  replace hR := hR.step hbn
  replace Q := Q.step hbn
  clear cF
  clear hbn
  have Q_0 := Q.cell (j := 0) rfl
  have Q_1 := Q.cell (j := 1) rfl
  have X_0 := X.cell (j := 0) rfl
  have X_1 := X.cell (j := 1) rfl
  have X_2 := X.cell (j := 2) rfl
  go_wp2_with fail
  refine (cA _ hV hR).mono ?_
  clear cA
  rintro e w8 ⟨now2, L2, a2, c2, xs2, rfl, -, -, hk⟩
  replace hSq := hSq.kx hk hx6.out
  replace hR := hR.kx hk hnx.out
  replace M := M.kx hk hMx
  replace R := R.kx hk hRx
  replace Q := Q.kx hk hQx
  replace hb := hb.kx hk hx.out
  clear hk hnx hx6 hXx hRx hMx hQx hx hV X hxw
  clear X_0 X_1 X_2
  clear Q_0 Q_1
  obtain ⟨N2, hN2⟩ : ∃ N2, L2.length = N2 := ⟨_, rfl⟩
  rw [hN2]
  clear hN2
  go_upto_region 6 with fail
  obtain ⟨gO, hgO⟩ : ∃ g, (w8).heap.size = g := ⟨_, rfl⟩
  have lt_M_O := M.lt
  rw [hgO] at lt_M_O
  have lt_R_O := R.lt
  rw [hgO] at lt_R_O
  have lt_Q_O := Q.lt
  rw [hgO] at lt_Q_O
  have O := Blk.newV hgO 28 #[.int .i64 now2, .slice a2 N2 c2]
  have hbn := (Below.refl (w8).heap.size w8).alloc (Nat.le_refl _) (.cells #[.int .i64 now2, .slice a2 N2 c2] 28)
  replace hb := hb.step hbn
  replace M := M.step hbn
  replace R := R.step hbn
  replace hR := hR.step hbn
  replace Q := Q.step hbn
  replace hSq := hSq.step hbn
  clear hbn
  rw [hgO]
  generalize (w8).alloc (.cells #[.int .i64 now2, .slice a2 N2 c2] 28) = w9 at *
  clear hgO lt_M_O lt_R_O lt_Q_O O
  obtain ⟨ao2, c3, hBx, hHas, hbb, hrow⟩ := hSq
  rw [HN.out] at hBx
  have hseq := cX w9 b ao2 c3 hBx hHas
  have hrl := row_lt hrow
  clear hBx hHas hbb hrow cX
  have hMR : gM < gR := by omega
  have hRQ : gR < gQ := by omega
  have hQ9 := Q.lt
  clear lt_M_R lt_X_R lt_M_X lt_X_Q lt_M_Q lt_R_Q
  go_wp2_with fail
  refine (wpIn_wide (n := 3)).1 ?_
  have hwB := hb.size
  have hs9 := From.refl w9
  have HSQ : Hid (∀ W, From w9 W → SeqXs Try.prog 37 #[.pointer (some ⟨b, 0, none⟩)] dueEnc L (Kb (rowS ao2)) W) := Lib.hid (fun W h => hseq.later h)
  clear hseq
  refine wpIn_loop_rounds 3 ?_
  rw [roundsIn_succ]
  gi_wp2
  obtain ⟨gT, hgT⟩ : ∃ g, (w9).heap.size = g := ⟨_, rfl⟩
  have lt_M_T := M.lt
  rw [hgT] at lt_M_T
  have lt_R_T := R.lt
  rw [hgT] at lt_R_T
  have lt_Q_T := Q.lt
  rw [hgT] at lt_Q_T
  have T := Blk.newV hgT 3 #[.int .i64 0]
  have hbn := (Below.refl (w9).heap.size w9).alloc (Nat.le_refl _) (.cells #[.int .i64 0] 3)
  replace hb := hb.step hbn
  replace M := M.step hbn
  replace R := R.step hbn
  replace hR := hR.step hbn
  replace Q := Q.step hbn
  replace hs9 := hs9.step hbn
  clear hbn
  rw [hgT]
  have szT := alloc_size hgT (.cells #[.int .i64 0] 3)
  generalize (w9).alloc (.cells #[.int .i64 0] 3) = wt at *
  obtain ⟨gC, hgC⟩ : ∃ g, (wt).heap.size = g := ⟨_, rfl⟩
  have lt_M_C := M.lt
  rw [hgC] at lt_M_C
  have lt_R_C := R.lt
  rw [hgC] at lt_R_C
  have lt_Q_C := Q.lt
  rw [hgC] at lt_Q_C
  have lt_T_C := T.lt
  rw [hgC] at lt_T_C
  have C := Blk.newV hgC 3 #[.int .i64 0]
  have hbn := (Below.refl (wt).heap.size wt).alloc (Nat.le_refl _) (.cells #[.int .i64 0] 3)
  replace hb := hb.step hbn
  replace M := M.step hbn
  replace R := R.step hbn
  replace hR := hR.step hbn
  replace Q := Q.step hbn
  replace hs9 := hs9.step hbn
  replace T := T.step hbn
  clear hbn
  have egC : gT + 1 = gC := szT.symm.trans hgC
  rw [egC]
  clear szT
  generalize (wt).alloc (.cells #[.int .i64 0] 3) = wc at *
  have hrT : ∀ z, w9.heap.size ≤ z → ¬ rowS ao2 z := fun z hz h => by have := hrl z h; omega
  have h9T : w9.heap.size ≤ gT := by omega
  have hQT : gQ < gT := by omega
  clear hgT hgC lt_M_T lt_R_T lt_Q_T lt_M_C lt_R_C lt_Q_C egC
  apply wpIn_range_xsA 37 #[.pointer (some ⟨b, 0, none⟩)] rfl enters_All (rowS ao2) (HSQ.out wc hs9) (fun k hk => Nat.lt_of_lt_of_le (hrl k hk) hs9.size) (Below.refl _ _) (fun _ => rfl)
    (fun k W => (k = 0 ∨ (k : Int) < m) ∧ Kx [gC] wc W ∧ Blk W gC 3 [.int .i64 k])
    (fun c k W => (c = .exit 2 ∧ m ≤ k ∧ (k = 1 ∨ (k : Int) ≤ m)) ∧ Kx [gC] wc W ∧ Blk W gC 3 [.int .i64 k])
    ((ownFrom_pure _ _).and ((ownFrom_kx _ _).and ((blk_own gC 3 (fun k : Nat => [.int .i64 k])).from _)))
    (fun c => (ownFrom_pure _ _).and ((ownFrom_kx _ _).and ((blk_own gC 3 (fun k : Nat => [.int .i64 k])).from _)))
    ⟨.inl rfl, Kx.refl _ _, C⟩ (ob := fun x => .cells #[.int .i64 x.2, .int .i64 x.1] 50)
  case hassign =>
    intro l d x W K hd hK
    dsimp only [dueEnc]
    gi_wp2
    exact hK
  case hbody =>
    rintro l k d x W hx ⟨hk, hK, I2⟩ hd hWd hsW
    have hXB : Blk W d 50 [.int .i64 x.2, .int .i64 x.1] := hWd
    have Q2 := Q.kx hK (by simp; omega)
    have T2 := T.kx hK (by simp; omega)
    have M2 := M.kx hK (by simp; omega)
    have hR2 := hR.kx hK (fun j hj hm => by have := (hge.out j hj).2; simp at hm; omega)
    have hkN : k < N := by have := (List.getElem?_eq_some_iff.1 hx).1; have := HN.out; omega
    obtain ⟨b3, off, rfl, d0, d1⟩ := hR2.has.2.1 k x hx
    have d0 := extA_cell d0
    have d1 := extA_cell d1
    have q1 := extA_cell (Q2.cell (j := 1) rfl)
    have x0 := extA_cell (hXB.cell (j := 0) rfl)
    have x1 := extA_cell (hXB.cell (j := 1) rfl)
    have i0 := extA_cell (I2.cell (j := 0) rfl)
    have hne := fun W => ne_due x.2 x.1 x.2 x.1 W
    rw [show (!(decide (x.2 = x.2 ∧ x.1 = x.1))) = false by simp] at hne
    have k0 : (0 : Int) ≤ (k : Int) := by omega
    have k1 : (k : Int) < (N : Int) := by omega
    have k2 : (k : Int) ≤ 5000 := by omega
    have kb : decide (N ≤ k) = false := by simp; omega
    have HX := Lib.hid hx
    clear hWd hXB hx hR hR2 Q2
    gi_upto_region 14 with fail
    refine wpIn_region_extR (by kernel_rfl) (by kernel_rfl) (by kernel_rfl) ?_
    repeat
      (first
        | go_big_quiet_skip
        | (go_big_quiet_want
           go_big_quiet_op
           first
             | go_big_quiet_on
             | (apply Exists.intro
                refine ⟨fun w' hC => ?_, ?_⟩
                · (first
                    | with_reducible rfl
                    | fail
                    | (go_simp; done)
                    | (go_simp; with_reducible rfl))
                go_big_quiet_on)))
    refine wpQuiet_nil ?_
    intro w10 hbn
    have I3 := I2.step hbn
    have i1 := I3.cell (j := 0) rfl
    have f1 := I3.frozen 0
    have t0 := (T2.step hbn).cell (j := 0) rfl
    have m0 := (M2.step hbn).cell (j := 0) rfl
    clear d0 d1 q1 x0 x1 i0 hne T2 M2
    by_cases hmk : m ≤ (k : Int) + 1
    · gi_wp2
      rw [show (k : Int) + 1 = ((k + 1 : Nat) : Int) by omega]
      have hkk : Kx [gC] w10 (w10.setCell ⟨gC, 0, none⟩ (.int .i64 ((k + 1 : Nat) : Int))) := (Kx.refl _ _).setCell (.inl (by simp)) _
      have I4 := I3.set 0 (.int .i64 ((k + 1 : Nat) : Int))
      exact ⟨((keeps_below hbn).trans (KeepsOthers.setCell _ _ _)).from _, ⟨rfl, by omega, by omega⟩, (hK.step hbn).trans hkk, I4⟩
    · gi_wp2
      rw [show (k : Int) + 1 = ((k + 1 : Nat) : Int) by omega]
      have hkk : Kx [gC] w10 (w10.setCell ⟨gC, 0, none⟩ (.int .i64 ((k + 1 : Nat) : Int))) := (Kx.refl _ _).setCell (.inl (by simp)) _
      have I4 := I3.set 0 (.int .i64 ((k + 1 : Nat) : Int))
      exact ⟨((keeps_below hbn).trans (KeepsOthers.setCell _ _ _)).from _, ((Kb.refl _ _).below hbn (fun j hj => by have := hrl j hj; have := hs9.size; omega)).setCell (hrT _ (by show w9.heap.size ≤ gC; omega)) _, by omega, (hK.step hbn).trans hkk, I4⟩
  case' hdone =>
    rintro D W hD ⟨hk, hK, I2⟩ hDf0
    obtain ⟨nn, hnn⟩ : ∃ nn, L.length = nn := ⟨_, rfl⟩
    have hNn : N = nn := by have := HN.out; omega
    rw [hnn] at I2 hk
    have hmn : ∀ mx : Int, (if 1 < m then m else 1) = mx → (if mx < (N : Int) then mx else (N : Int)) = (nn : Int) := by intro mx h; split at h <;> split <;> omega
    clear hk hnn hNn
  case' hstop =>
    rintro D c k W hD hk ⟨⟨rfl, hk1, hk2⟩, hK, I2⟩ hDf0
    have hkN : k < N := by have := HN.out; omega
    obtain ⟨nn, hnn⟩ : ∃ nn, k + 1 = nn := ⟨_, rfl⟩
    have hmn : ∀ mx : Int, (if 1 < m then m else 1) = mx → (if mx < (N : Int) then mx else (N : Int)) = (nn : Int) := by intro mx h; split at h <;> split <;> omega
    rw [hnn] at I2
    clear hk hk1 hk2 hnn hkN
  all_goals
    have hDd : Dfr D W := hDf0
    have hDw : w.heap.size ≤ D := by have := hb.size; omega
    have hwC : w9.heap.size ≤ gC := by omega
    clear hDf0
    replace M := M.kx hK (by simp; omega)
    replace R := R.kx hK (by simp; omega)
    replace Q := Q.kx hK (by simp; omega)
    replace T := T.kx hK (by simp; omega)
    replace hR := hR.kx hK (fun j hj hm => by have := (hge.out j hj).2; simp at hm; omega)
    replace hb := hb.kx hK (fun x hx => by simp at hx; omega)
    replace hs9 := hs9.kx hK (fun x hx => by simp at hx; omega)
    clear hK C
    obtain ⟨mx, hmx⟩ : ∃ mx : Int, (if 1 < m then m else 1) = mx := ⟨_, rfl⟩
    have hmn := hmn mx hmx
    have q1 := Q.cell (j := 1) rfl
    have t0 := T.cell (j := 0) rfl
    have m0 := M.cell (j := 0) rfl
    have i0 := I2.cell (j := 0) rfl
    gi_wp2
    clear q1 t0 m0 i0 hmx hmn T I2
    rw [roundsIn_succ]
    gi_wp2
    have hDl : D < W.heap.size := (Array.getElem?_eq_some_iff.1 hDd).1
    have hW9 := hs9.size
    obtain ⟨gT, hgT⟩ : ∃ g, (W).heap.size = g := ⟨_, rfl⟩
    have lt_M_T := M.lt
    rw [hgT] at lt_M_T
    have lt_R_T := R.lt
    rw [hgT] at lt_R_T
    have lt_Q_T := Q.lt
    rw [hgT] at lt_Q_T
    have T := Blk.newV hgT 3 #[.int .i64 1]
    have hbn := (Below.refl (W).heap.size W).alloc (Nat.le_refl _) (.cells #[.int .i64 1] 3)
    replace hb := hb.step hbn
    replace M := M.step hbn
    replace R := R.step hbn
    replace hR := hR.step hbn
    replace Q := Q.step hbn
    replace hs9 := hs9.step hbn
    replace hDd := hDd.step hbn
    clear hbn
    rw [hgT]
    have szT := alloc_size hgT (.cells #[.int .i64 1] 3)
    generalize (W).alloc (.cells #[.int .i64 1] 3) = wt at *
    obtain ⟨gC, hgC⟩ : ∃ g, (wt).heap.size = g := ⟨_, rfl⟩
    have lt_M_C := M.lt
    rw [hgC] at lt_M_C
    have lt_R_C := R.lt
    rw [hgC] at lt_R_C
    have lt_Q_C := Q.lt
    rw [hgC] at lt_Q_C
    have lt_T_C := T.lt
    rw [hgC] at lt_T_C
    have C := Blk.newV hgC 3 #[.int .i64 0]
    have hbn := (Below.refl (wt).heap.size wt).alloc (Nat.le_refl _) (.cells #[.int .i64 0] 3)
    replace hb := hb.step hbn
    replace M := M.step hbn
    replace R := R.step hbn
    replace hR := hR.step hbn
    replace Q := Q.step hbn
    replace hs9 := hs9.step hbn
    replace hDd := hDd.step hbn
    replace T := T.step hbn
    clear hbn
    have egC : gT + 1 = gC := szT.symm.trans hgC
    rw [egC]
    clear szT
    generalize (wt).alloc (.cells #[.int .i64 0] 3) = wc2 at *
    have h9T : w9.heap.size ≤ gT := by omega
    have hDT : D < gT := by omega
    clear hgT hgC lt_M_T lt_R_T lt_Q_T lt_M_C lt_R_C lt_Q_C egC hDl
    apply wpIn_range_xsA 37 #[.pointer (some ⟨b, 0, none⟩)] rfl enters_All (rowS ao2) (HSQ.out wc2 hs9) (fun k hk => Nat.lt_of_lt_of_le (hrl k hk) hs9.size) (Below.refl _ _) (fun _ => rfl)
      (fun k W => Kx [gC] wc2 W ∧ Blk W gC 3 [.int .i64 k])
      (fun _ _ _ => False)
      ((ownFrom_kx _ _).and ((blk_own gC 3 (fun k : Nat => [.int .i64 k])).from _))
      (fun _ _ _ _ _ h _ _ => h)
      ⟨Kx.refl _ _, C⟩ (ob := fun x => .cells #[.int .i64 x.2, .int .i64 x.1] 50)
    case hassign =>
      intro l d x W K hd hK
      dsimp only [dueEnc]
      gi_wp2
      exact hK
    case hbody =>
      rintro l k d x W hx ⟨hK, I2⟩ hd hWd hsW
      have hXB : Blk W d 50 [.int .i64 x.2, .int .i64 x.1] := hWd
      have Q2 := Q.kx hK (by simp; omega)
      have T2 := T.kx hK (by simp; omega)
      have M2 := M.kx hK (by simp; omega)
      have hR2 := hR.kx hK (fun j hj hm => by have := (hge.out j hj).2; simp at hm; omega)
      have hkN : k < N := by have := (List.getElem?_eq_some_iff.1 hx).1; have := HN.out; omega
      obtain ⟨b3, off, rfl, d0, d1⟩ := hR2.has.2.1 k x hx
      have d0 := extA_cell d0
      have d1 := extA_cell d1
      have q1 := extA_cell (Q2.cell (j := 1) rfl)
      have x0 := extA_cell (hXB.cell (j := 0) rfl)
      have x1 := extA_cell (hXB.cell (j := 1) rfl)
      have i0 := extA_cell (I2.cell (j := 0) rfl)
      have hne := fun W => ne_due x.2 x.1 x.2 x.1 W
      rw [show (!(decide (x.2 = x.2 ∧ x.1 = x.1))) = false by simp] at hne
      have k0 : (0 : Int) ≤ (k : Int) := by omega
      have k1 : (k : Int) < (N : Int) := by omega
      have k2 : (k : Int) ≤ 5000 := by omega
      have kb : decide (N ≤ k) = false := by simp; omega
      have HX := Lib.hid hx
      clear hWd hXB hx hR hR2 Q2
      gi_upto_region 14 with fail
      refine wpIn_region_extR (by kernel_rfl) (by kernel_rfl) (by kernel_rfl) ?_
      repeat
        (first
          | go_big_quiet_skip
          | (go_big_quiet_want
             go_big_quiet_op
             first
               | go_big_quiet_on
               | (apply Exists.intro
                  refine ⟨fun w' hC => ?_, ?_⟩
                  · (first
                      | with_reducible rfl
                      | fail
                      | (go_simp; done)
                      | (go_simp; with_reducible rfl))
                  go_big_quiet_on)))
      refine wpQuiet_nil ?_
      intro w10 hbn
      have I3 := I2.step hbn
      have i1 := I3.cell (j := 0) rfl
      have f1 := I3.frozen 0
      have t0 := (T2.step hbn).cell (j := 0) rfl
      have m0 := (M2.step hbn).cell (j := 0) rfl
      clear d0 d1 q1 x0 x1 i0 hne T2 M2
      gi_wp2
      rw [show (k : Int) + 1 = ((k + 1 : Nat) : Int) by omega]
      have hkk : Kx [gC] w10 (w10.setCell ⟨gC, 0, none⟩ (.int .i64 ((k + 1 : Nat) : Int))) := (Kx.refl _ _).setCell (.inl (by simp)) _
      have I4 := I3.set 0 (.int .i64 ((k + 1 : Nat) : Int))
      exact ⟨((keeps_below hbn).trans (KeepsOthers.setCell _ _ _)).from _, ((Kb.refl _ _).below hbn (fun j hj => by have := hrl j hj; have := hs9.size; omega)).setCell (hrT _ (by show w9.heap.size ≤ gC; omega)) _, (hK.step hbn).trans hkk, I4⟩
    case hstop =>
      rintro E c k W hE hk h
      exact h.elim
    case hdone =>
      rintro E V hE ⟨hK, I2⟩ hEf0
      have hEd : Dfr E V := hEf0
      have hEw : w.heap.size ≤ E := by have := hb.size; omega
      have hDE : D < E := by have := T.lt; omega
      clear hEf0
      rw [HN.out] at I2
      replace R := R.kx hK (by simp; omega)
      replace Q := Q.kx hK (by simp; omega)
      replace T := T.kx hK (by simp; omega)
      replace hb := hb.kx hK (fun x hx => by simp at hx; omega)
      replace hDd := hDd.kx hK (by simp; omega)
      clear hK C M hR hs9
      have q1 := Q.cell (j := 1) rfl
      have t0 := T.cell (j := 0) rfl
      have i0 := I2.cell (j := 0) rfl
      gi_wp2
      clear q1 t0 i0 T I2 Q
      rw [roundsIn_succ]
      gi_wp2_with fail
      obtain ⟨gT, hgT⟩ : ∃ g, (V).heap.size = g := ⟨_, rfl⟩
      have lt_R_T := R.lt
      rw [hgT] at lt_R_T
      have T := Blk.newV hgT 3 #[.int .i64 2]
      have hbn := (Below.refl (V).heap.size V).alloc (Nat.le_refl _) (.cells #[.int .i64 2] 3)
      replace hb := hb.step hbn
      replace R := R.step hbn
      replace hDd := hDd.step hbn
      replace hEd := hEd.step hbn
      clear hbn
      rw [hgT]
      generalize (V).alloc (.cells #[.int .i64 2] 3) = wv at *
      clear hgT lt_R_T T
      go_wp2_with fail
      refine (works_any _).mono ?_
      rintro e wz ⟨rfl, hb9⟩
      have hb9 : Below wv.heap.size wv wz := hb9
      replace hb := hb.step hb9
      replace R := R.step hb9
      replace hDd := hDd.step hb9
      replace hEd := hEd.step hb9
      have r0 := R.cell (j := 0) rfl
      have f0 := R.frozen 0
      have R2 := R.set 0 (.bool true)
      have hb8 := hb.out.setCell (p := ⟨gR, 0, none⟩) (by show w.heap.size ≤ gR; omega) (.bool true)
      have hD10 := (KeepsOthers.setCell wz ⟨gR, 0, none⟩ (.bool true)).same D _ hDd rfl
      have hE10 := (KeepsOthers.setCell wz ⟨gR, 0, none⟩ (.bool true)).same E _ hEd rfl
      go_wp2_with fail
      exact leaves_two w.heap.size E D rfl hE10 hD10 hEw hDw (by omega) (v := .bool true) (fun W' hbW hcW => by
        have G1' : Blk W' gR 4 [.bool true] := hcW _ _ R2 rfl
        have r10 := G1'.cell (j := 0) rfl
        exact ⟨by simp [results, Try.results5, go_sem, r10], rfl, hb8.trans hbW⟩)
theorem WheelLeaves_walk (ao : Option Addr) (n c0 : Nat) (m : Int) (e : Int × Int × Int) (w : World) (hA : HasA w ao n ∧ n ≤ 9223372036854775807) (h1 : wf64 e.2.1) :
    Calls Try.prog 5 #[.slice ao n c0, .int .i64 m, .agg #[.int .i64 e.1, .int .i64 e.2.1, .int .i64 e.2.2]] w (WorksP w) := by
  obtain ⟨hA, hn⟩ := hA
  obtain ⟨x, y, z⟩ := e
  simp only at h1 ⊢
  by_cases h30 : n ≤ 30
  · exact leaves_some ao n c0 m x y z w hA hn h30 h1
  · refine callsIn_wide (n := 3).1 ?_
    have n1 : (30 : Int) < (n : Int) := by omega
    clear hA
    have hb := From.refl w
    refine callsIn_of_wp_marks Try.func5 rfl trivial ?_ rfl
    simp only [Try.ntmps5, List.size_toArray, List.length_cons, List.length_nil, Nat.reduceAdd, Nat.reduceSub, Array.replicate_succ, Array.replicate_zero, List.push_toArray, List.append_toArray, List.nil_append, List.cons_append]
    refine (wpIn_wide (n := 3)).2 ?_
    go_upto_region 1 with fail
    obtain ⟨gM, hgM⟩ : ∃ g, (w).heap.size = g := ⟨_, rfl⟩
    have M := Blk.newV hgM 3 #[.int .i64 m]
    have hbn := (Below.refl (w).heap.size w).alloc (Nat.le_refl _) (.cells #[.int .i64 m] 3)
    replace hb := hb.step hbn
    clear hbn
    rw [hgM]
    have szM := alloc_size hgM (.cells #[.int .i64 m] 3)
    generalize (w).alloc (.cells #[.int .i64 m] 3) = w1 at *
    obtain ⟨gX, hgX⟩ : ∃ g, (w1).heap.size = g := ⟨_, rfl⟩
    have lt_M_X := M.lt
    rw [hgX] at lt_M_X
    have X := Blk.newV hgX 32 #[.int .i64 x, .int .i64 y, .int .i64 z]
    have hbn := (Below.refl (w1).heap.size w1).alloc (Nat.le_refl _) (.cells #[.int .i64 x, .int .i64 y, .int .i64 z] 32)
    replace hb := hb.step hbn
    replace M := M.step hbn
    clear hbn
    have egX : gM + 1 = gX := szM.symm.trans hgX
    rw [egX]
    clear szM
    have szX := alloc_size hgX (.cells #[.int .i64 x, .int .i64 y, .int .i64 z] 32)
    generalize (w1).alloc (.cells #[.int .i64 x, .int .i64 y, .int .i64 z] 32) = w2 at *
    obtain ⟨gR, hgR⟩ : ∃ g, (w2).heap.size = g := ⟨_, rfl⟩
    have lt_M_R := M.lt
    rw [hgR] at lt_M_R
    have lt_X_R := X.lt
    rw [hgR] at lt_X_R
    have R := Blk.newV hgR 4 #[.bool false]
    have hbn := (Below.refl (w2).heap.size w2).alloc (Nat.le_refl _) (.cells #[.bool false] 4)
    replace hb := hb.step hbn
    replace M := M.step hbn
    replace X := X.step hbn
    clear hbn
    have egR : gX + 1 = gR := szX.symm.trans hgR
    rw [egR]
    clear szX
    generalize (w2).alloc (.cells #[.bool false] 4) = w3 at *
    have hwR : w.heap.size ≤ gR := by omega
    clear hgM hgX hgR egX egR
    go_wp2_with fail
    refine (works_any _).mono ?_
    rintro e w4 ⟨rfl, hb9⟩
    have hb9 : Below w3.heap.size w3 w4 := hb9
    replace hb := hb.step hb9
    replace M := M.step hb9
    replace X := X.step hb9
    replace R := R.step hb9
    have r0 := R.cell (j := 0) rfl
    have f0 := R.frozen 0
    have R2 := R.set 0 (.bool true)
    have r2 := R2.cell (j := 0) rfl
    go_wp2_with fail
    have hb8 := hb.out.setCell (p := ⟨gR, 0, none⟩) (by show w.heap.size ≤ gR; omega) (.bool true)
    exact leaves_list w.heap.size [] rfl (fun D' h => by simp at h) (by simp) (v := .bool true) (fun W' hbW hcW => by
      have G1' : Blk W' gR 4 [.bool true] := hcW _ _ R2 rfl
      have r10 := G1'.cell (j := 0) rfl
      exact ⟨by simp [results, Try.results5, go_sem, r10], rfl, hb8.trans hbW⟩)
end Go.Proofs.Ytfdfmmmfklodgaa
