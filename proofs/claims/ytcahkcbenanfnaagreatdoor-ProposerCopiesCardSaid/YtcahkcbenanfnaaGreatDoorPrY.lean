
/- The document's proposer: State. -/
import Derived.Test.YtcahkcbenanfnaaGreatDoorPrV
import Derived.Deep.CutRange
import Derived.OwnWalk
namespace Go.Proofs.YtcahkcbenanfnaaGreatDoor
set_option linter.unusedSimpArgs false
set_option linter.unusedVariables false
open Go.RowKit
theorem pl_step (hs : List Bool) (k : Nat) (xs L : List Int) (hk : k < hs.length) (h : xs ++ plK k (hs.drop k) = L) :
    (hs.getD k false = true → (xs ++ [(k : Int)]) ++ plK (k + 1 : Nat) (hs.drop (k + 1)) = L) ∧ (hs.getD k false = false → xs ++ plK (k + 1 : Nat) (hs.drop (k + 1)) = L) := by
  rw [List.drop_eq_getElem_cons hk] at h
  have he : hs.getD k false = hs[k] := by simp [hk]
  rw [he]
  constructor
  · intro h1
    rw [h1] at h
    simp only [plK] at h
    rw [← h]
    simp
  · intro h1
    rw [h1] at h
    simp only [plK] at h
    exact h
theorem info_int : (Tryz.prog.info? 3).map (fun i => (i.zero, i.size, i.bytes)) = some (some (.int .i64 0), 1, 8) := by kernel_rfl
set_option maxRecDepth 100000 in
set_option maxHeartbeats 4000000 in
theorem rstate_any (A : Prp) (w : World) (hp : A.pr.length = 9) (ha : A.ac.length = 9) :
    Calls Tryz.prog 21 #[qV A] w fun e w' => (∃ v, e = .returned (ppV A v) ∧ RowI w' w.heap.size v (plK 0 (votesP A))) ∧ Below w.heap.size w w' := by
  have hV := votes_len hp ha
  have hv : votesP A = if A.ph = 1 then A.pr else A.ac := rfl
  unfold ppV
  generalize votesP A = hs at *
  obtain ⟨LL, hLL⟩ : ∃ LL, plK 0 hs = LL := ⟨_, rfl⟩
  rw [hLL]
  have hb := From.refl w
  unfold qV
  go_enter Tryz.func21, Tryz.ntmps21
  go_upto_region 1 with fail
  obtain ⟨gP, hgP⟩ : ∃ g, (w).heap.size = g := ⟨_, rfl⟩
  have P := Blk.newV hgP 35 (qL A).toArray
  have hbn := (Below.refl (w).heap.size w).alloc (Nat.le_refl _) (.cells (qL A).toArray 35)
  replace hb := hb.step hbn
  clear hbn
  rw [hgP]
  have szP := alloc_size hgP (.cells (qL A).toArray 35)
  generalize (w).alloc (.cells (qL A).toArray 35) = w1 at *
  obtain ⟨gR, hgR⟩ : ∃ g, (w1).heap.size = g := ⟨_, rfl⟩
  have lt_P_R := P.lt
  rw [hgR] at lt_P_R
  have R := Blk.newV hgR 55 #[.int .i64 0, .int .i64 0, .int .i64 0, .int .i64 0, .int .i64 0, .int .i64 0, .string ⟨#[]⟩, .slice none 0 0, .int .i64 0, .int .i64 0]
  have hbn := (Below.refl (w1).heap.size w1).alloc (Nat.le_refl _) (.cells #[.int .i64 0, .int .i64 0, .int .i64 0, .int .i64 0, .int .i64 0, .int .i64 0, .string ⟨#[]⟩, .slice none 0 0, .int .i64 0, .int .i64 0] 55)
  replace hb := hb.step hbn
  replace P := P.step hbn
  clear hbn
  have egR : gP + 1 = gR := szP.symm.trans hgR
  rw [egR]
  clear szP
  generalize (w1).alloc (.cells #[.int .i64 0, .int .i64 0, .int .i64 0, .int .i64 0, .int .i64 0, .int .i64 0, .string ⟨#[]⟩, .slice none 0 0, .int .i64 0, .int .i64 0] 55) = w2 at *
  have hwR : w.heap.size ≤ gR := by omega
  have hwP : w.heap.size ≤ gP := by omega
  have hPR : gP ≠ gR := by omega
  clear hgP hgR egR
  replace P : QW w2 gP A := ⟨by simpa using P, hp, ha⟩
  obtain ⟨b0, b1, b2, b3, b4, b5, b6, b7, b8, hac⟩ := nine ha
  obtain ⟨a0, a1, a2, a3, a4, a5, a6, a7, a8, hpr⟩ := nine hp
  have c0 := P.qac 0 (by omega)
  have c1 := P.qac 1 (by omega)
  have c2 := P.qac 2 (by omega)
  have c3 := P.qac 3 (by omega)
  have c4 := P.qac 4 (by omega)
  have c5 := P.qac 5 (by omega)
  have c6 := P.qac 6 (by omega)
  have c7 := P.qac 7 (by omega)
  have c8 := P.qac 8 (by omega)
  rw [hac] at c0 c1 c2 c3 c4 c5 c6 c7 c8
  simp only [List.getD_cons_zero, List.getD_cons_succ] at c0 c1 c2 c3 c4 c5 c6 c7 c8
  go_upto_region 2 with fail
  clear c0 c1 c2 c3 c4 c5 c6 c7 c8
  obtain ⟨gV, hgV⟩ : ∃ g, (w2).heap.size = g := ⟨_, rfl⟩
  have lt_P_V := P.lt
  rw [hgV] at lt_P_V
  have lt_R_V := R.lt
  rw [hgV] at lt_R_V
  have V := Blk.newV hgV 31 #[.bool b0, .bool b1, .bool b2, .bool b3, .bool b4, .bool b5, .bool b6, .bool b7, .bool b8]
  have hbn := (Below.refl (w2).heap.size w2).alloc (Nat.le_refl _) (.cells #[.bool b0, .bool b1, .bool b2, .bool b3, .bool b4, .bool b5, .bool b6, .bool b7, .bool b8] 31)
  replace hb := hb.step hbn
  replace P := P.step hbn
  replace R := R.step hbn
  clear hbn
  rw [hgV]
  generalize (w2).alloc (.cells #[.bool b0, .bool b1, .bool b2, .bool b3, .bool b4, .bool b5, .bool b6, .bool b7, .bool b8] 31) = w3 at *
  obtain ⟨B1, hB1⟩ : ∃ B1, (A.ph == 1) = B1 := ⟨_, rfl⟩
  have p4 := P.q4
  go_upto_if 10 with fail
  clear p4
  go_cut [10] from 11 (fun v wx => QW wx gP A ∧ Blk wx gR 55 [.int .i64 0, .int .i64 0, .int .i64 0, .int .i64 0, .int .i64 0, .int .i64 0, .string ⟨#[]⟩, .slice none 0 0, .int .i64 0, .int .i64 0] ∧ Blk wx gV 31 (hs.map Value.bool) ∧ From w wx)
  case first =>
    by_cases h1 : A.ph = 1
    · obtain rfl : true = B1 := by rw [← hB1, h1]; rfl
      rw [if_pos h1] at hv
      clear h1 hB1
      have c0 := P.qpr 0 (by omega)
      have c1 := P.qpr 1 (by omega)
      have c2 := P.qpr 2 (by omega)
      have c3 := P.qpr 3 (by omega)
      have c4 := P.qpr 4 (by omega)
      have c5 := P.qpr 5 (by omega)
      have c6 := P.qpr 6 (by omega)
      have c7 := P.qpr 7 (by omega)
      have c8 := P.qpr 8 (by omega)
      rw [hpr] at c0 c1 c2 c3 c4 c5 c6 c7 c8
      simp only [List.getD_cons_zero, List.getD_cons_succ] at c0 c1 c2 c3 c4 c5 c6 c7 c8
      have V_0 := V.cell (j := 0) rfl
      have V_1 := V.cell (j := 1) rfl
      have V_2 := V.cell (j := 2) rfl
      have V_3 := V.cell (j := 3) rfl
      have V_4 := V.cell (j := 4) rfl
      have V_5 := V.cell (j := 5) rfl
      have V_6 := V.cell (j := 6) rfl
      have V_7 := V.cell (j := 7) rfl
      have V_8 := V.cell (j := 8) rfl
      have Vf0 := V.frozen 0
      have Vf1 := V.frozen 1
      have Vf2 := V.frozen 2
      have Vf3 := V.frozen 3
      have Vf4 := V.frozen 4
      have Vf5 := V.frozen 5
      have Vf6 := V.frozen 6
      have Vf7 := V.frozen 7
      have Vf8 := V.frozen 8
      go_wp2_with fail
      go_meet
      case rel =>
        clear V_0 V_1 V_2 V_3 V_4 V_5 V_6 V_7 V_8
        clear Vf0 Vf1 Vf2 Vf3 Vf4 Vf5 Vf6 Vf7 Vf8
        have hkn : Kx [gV] w3 (((((((((w3.setCell ⟨gV, 0, none⟩ (.bool a0)).setCell ⟨gV, 1, none⟩ (.bool a1)).setCell ⟨gV, 2, none⟩ (.bool a2)).setCell ⟨gV, 3, none⟩ (.bool a3)).setCell ⟨gV, 4, none⟩ (.bool a4)).setCell ⟨gV, 5, none⟩ (.bool a5)).setCell ⟨gV, 6, none⟩ (.bool a6)).setCell ⟨gV, 7, none⟩ (.bool a7)).setCell ⟨gV, 8, none⟩ (.bool a8)) := Kx.setCells [.bool a0, .bool a1, .bool a2, .bool a3, .bool a4, .bool a5, .bool a6, .bool a7, .bool a8] 0 _ (Kx.refl _ _) (.inl (by simp))
        have V9 : Blk (((((((((w3.setCell ⟨gV, 0, none⟩ (.bool a0)).setCell ⟨gV, 1, none⟩ (.bool a1)).setCell ⟨gV, 2, none⟩ (.bool a2)).setCell ⟨gV, 3, none⟩ (.bool a3)).setCell ⟨gV, 4, none⟩ (.bool a4)).setCell ⟨gV, 5, none⟩ (.bool a5)).setCell ⟨gV, 6, none⟩ (.bool a6)).setCell ⟨gV, 7, none⟩ (.bool a7)).setCell ⟨gV, 8, none⟩ (.bool a8)) gV 31 [.bool a0, .bool a1, .bool a2, .bool a3, .bool a4, .bool a5, .bool a6, .bool a7, .bool a8] := Blk.puts [.bool a0, .bool a1, .bool a2, .bool a3, .bool a4, .bool a5, .bool a6, .bool a7, .bool a8] V rfl
        have P9 : QW (((((((((w3.setCell ⟨gV, 0, none⟩ (.bool a0)).setCell ⟨gV, 1, none⟩ (.bool a1)).setCell ⟨gV, 2, none⟩ (.bool a2)).setCell ⟨gV, 3, none⟩ (.bool a3)).setCell ⟨gV, 4, none⟩ (.bool a4)).setCell ⟨gV, 5, none⟩ (.bool a5)).setCell ⟨gV, 6, none⟩ (.bool a6)).setCell ⟨gV, 7, none⟩ (.bool a7)).setCell ⟨gV, 8, none⟩ (.bool a8)) gP A := P.kx hkn (by simp; omega)
        have R9 := R.kx hkn (by simp; omega)
        have hb9 := hb.kx hkn (by simp; omega)
        rw [hv, hpr]
        exact ⟨P9, R9, V9, hb9⟩
    · obtain rfl : false = B1 := by rw [← hB1]; simp [h1]
      rw [if_neg h1] at hv
      go_wp2_with fail
      go_meet
      case rel =>
        rw [hv, hac]
        exact ⟨P, R, V, hb⟩
  case' rest =>
    obtain ⟨P, R, V, hb⟩ := hcut
    clear hv hac hpr hB1
    have p2 := P.q2
    have p3 := P.q3
    have p4 := P.q4
    have p5 := P.q5
    have p6 := P.q6
    have p7 := P.q7
    have p8 := P.q8
    have p33 := P.q33
    have p34 := P.q34
    go_upto_region 4 with fail
    go_upto_region 5 with fail
    clear p2 p3 p4 p5 p6 p7 p8 p33 p34
    obtain ⟨gS, hgS⟩ : ∃ g, (wc).heap.size = g := ⟨_, rfl⟩
    have lt_P_S := P.lt
    rw [hgS] at lt_P_S
    have lt_R_S := R.lt
    rw [hgS] at lt_R_S
    have lt_V_S := V.lt
    rw [hgS] at lt_V_S
    have S := Blk.newV hgS 55 #[.int .i64 A.ph, .int .i64 A.r, .int .i64 A.p, .int .i64 A.k, .int .i64 A.m, .int .i64 A.n, .string A.s, .slice none 0 0, .int .i64 A.ur, .int .i64 A.up]
    have hbn := (Below.refl (wc).heap.size wc).alloc (Nat.le_refl _) (.cells #[.int .i64 A.ph, .int .i64 A.r, .int .i64 A.p, .int .i64 A.k, .int .i64 A.m, .int .i64 A.n, .string A.s, .slice none 0 0, .int .i64 A.ur, .int .i64 A.up] 55)
    replace hb := hb.step hbn
    replace P := P.step hbn
    replace R := R.step hbn
    replace V := V.step hbn
    clear hbn
    rw [hgS]
    generalize (wc).alloc (.cells #[.int .i64 A.ph, .int .i64 A.r, .int .i64 A.p, .int .i64 A.k, .int .i64 A.m, .int .i64 A.n, .string A.s, .slice none 0 0, .int .i64 A.ur, .int .i64 A.up] 55) = w5 at *
    clear P
    obtain ⟨i0, hi, hz0, hz1, hz2⟩ := info_parts info_int
    have hown0 : World.ownsRow w5 (gS + 1) 3 1 (.slice none 0 0) 0 (intsL []) := World.ownsRow_nil _ _ _ _
    go_wp2_with fail
    go_loopw [5] (fun j wr => ∃ (k : Nat) (v : Value) (xs : List Int), j = .int .i64 k ∧ k ≤ 9 ∧ xs.length ≤ k ∧ World.ownsRow wr (gS + 1) 3 1 v xs.length (intsL xs) ∧ Hid (xs ++ plK k (hs.drop k) = LL) ∧ Blk wr gV 31 (hs.map Value.bool) ∧ Blk wr gS 55 [.int .i64 A.ph, .int .i64 A.r, .int .i64 A.p, .int .i64 A.k, .int .i64 A.m, .int .i64 A.n, .string A.s, v, .int .i64 A.ur, .int .i64 A.up] ∧ Blk wr gR 55 [.int .i64 0, .int .i64 0, .int .i64 0, .int .i64 0, .int .i64 0, .int .i64 0, .string ⟨#[]⟩, .slice none 0 0, .int .i64 0, .int .i64 0] ∧ From w wr) (fun j _ => 9 - (intOf j).toNat)
    case atStart => exact ⟨0, _, [], rfl, by omega, by simp, hown0, Lib.hid (by simpa using hLL), V, S, R, hb⟩
    clear V S R hb hown0
    case' round =>
      obtain ⟨k, v, xs, rfl, hk, hxl, hown, hPL, V, S, R, hb⟩ := hrel
      have k0 : (0 : Int) ≤ (k : Int) := by omega
      by_cases hlt : k < 9
      · have k9 : (k : Int) < 9 := by omega
        obtain ⟨hyes, hno⟩ := pl_step hs k xs LL (by omega) hPL.out
        have cV := V.cell (j := k) (v := .bool (hs.getD k false)) (by
          have hkl : k < hs.length := by omega
          simp [hkl])
        cases hd : hs.getD k false
        · rw [hd] at cV
          have h2 := hno hd
          clear hyes hno hd
          go_wp2_with fail
          go_roundw
          case rel => exact ⟨k + 1, v, xs, by go_num, by omega, by omega, hown, Lib.hid h2, V, S, R, hb⟩
          case measure => simp [intOf]; omega
        · rw [hd] at cV
          have h2 := hyes hd
          clear hyes hno hd
          have hl1 : (xs ++ [(k : Int)]).length = xs.length + 1 := by simp
          have s7 := S.cell (j := 7) rfl
          have hwS : gS + 1 ≤ wr.heap.size := S.lt
          have hv9 : ∀ q, v.ownBlock = some q → gS + 1 ≤ q := fun q hq => (row_ge15 hown q hq).1
          go_wp2_with (at_builtin; refine wpList_append_own _ rfl _ _ 53 rfl (gS + 1) 3 i0 (.int .i64 0) 1 8 Tryz.underlying53 hi hz0 hz1 hz2 rfl (by decide) _ _ _ rfl (World.ownsRow.alloc hown _) ⟨wr.heap.size, 0, none⟩ 1 1 [.int .i64 k] rfl rfl (cell_one_new _ _ _) (by simp [Value.oneCell']) (by unfold maxLen; omega) (by omega) (by simp; omega) ?_)
          intro v' w1 hown' hgrow _
          have hk1 : Kx v.ownBlock.toList wr w1 := ((Kx.refl _ wr).alloc _).grown hgrow (fun q e => .inl (by simp [e]))
          have hge : ∀ q, q ∈ v.ownBlock.toList → gS + 1 ≤ q := fun q hq => hv9 q (by simpa using hq)
          replace S := S.kx hk1 (fun h => by have := hge _ h; omega)
          replace V := V.kx hk1 (fun h => by have := hge _ h; omega)
          replace R := R.kx hk1 (fun h => by have := hge _ h; omega)
          replace hb := hb.kx hk1 (fun q hq => by have := hge q hq; omega)
          obtain ⟨a2, c2, rfl⟩ := ownsRow_succ hown'
          clear s7
          have s7 := S.cell (j := 7) rfl
          have f7 := S.frozen 7
          have hkn : Kx [gS] w1 (w1.setCell ⟨gS, 7, none⟩ (.slice (some ⟨a2, 0, none⟩) (xs.length + 1) c2)) := (Kx.refl _ w1).setCell (p := ⟨gS, 7, none⟩) (.inl (by simp)) _
          have S2 := S.set 7 (.slice (some ⟨a2, 0, none⟩) (xs.length + 1) c2)
          have hown2 := row_kx (n := xs.length + 1) hown' hkn (fun q hq => by have := (row_ge15 hown' q hq).1; simp; omega)
          have V2 := V.kx hkn (by simp; omega)
          have R2 := R.kx hkn (by simp; omega)
          have hb2 := hb.kx hkn (by simp; omega)
          have hown3 : World.ownsRow (w1.setCell ⟨gS, 7, none⟩ (.slice (some ⟨a2, 0, none⟩) (xs.length + 1) c2)) (gS + 1) 3 1 (.slice (some ⟨a2, 0, none⟩) (xs.length + 1) c2) (xs ++ [(k : Int)]).length (intsL (xs ++ [(k : Int)])) := by
            rw [hl1]
            simpa [intsL] using hown2
          clear hown hown' hown2 hgrow hk1 hge S V R hb hkn hv9
          go_wp2_with fail
          go_roundw
          case rel => exact ⟨k + 1, _, xs ++ [(k : Int)], by go_num, by omega, by rw [hl1]; omega, hown3, Lib.hid h2, V2, S2, R2, hb2⟩
          case measure => simp [intOf]; omega
      · obtain rfl : k = 9 := by omega
        have hfin : xs = LL := by
          have := hPL.out
          rw [List.drop_eq_nil_of_le (by omega)] at this
          simpa [plK] using this
        subst hfin
        have hown1 : RowI wr (gS + 1) v xs := hown
        obtain ⟨av, cv, rfl⟩ := RowI.form hown1
        have S_0 := S.cell (j := 0) rfl
        have S_1 := S.cell (j := 1) rfl
        have S_2 := S.cell (j := 2) rfl
        have S_3 := S.cell (j := 3) rfl
        have S_4 := S.cell (j := 4) rfl
        have S_5 := S.cell (j := 5) rfl
        have S_6 := S.cell (j := 6) rfl
        have S_7 := S.cell (j := 7) rfl
        have S_8 := S.cell (j := 8) rfl
        have S_9 := S.cell (j := 9) rfl
        have R_0 := R.cell (j := 0) rfl
        have R_1 := R.cell (j := 1) rfl
        have R_2 := R.cell (j := 2) rfl
        have R_3 := R.cell (j := 3) rfl
        have R_4 := R.cell (j := 4) rfl
        have R_5 := R.cell (j := 5) rfl
        have R_6 := R.cell (j := 6) rfl
        have R_7 := R.cell (j := 7) rfl
        have R_8 := R.cell (j := 8) rfl
        have R_9 := R.cell (j := 9) rfl
        have Rf0 := R.frozen 0
        have Rf1 := R.frozen 1
        have Rf2 := R.frozen 2
        have Rf3 := R.frozen 3
        have Rf4 := R.frozen 4
        have Rf5 := R.frozen 5
        have Rf6 := R.frozen 6
        have Rf7 := R.frozen 7
        have Rf8 := R.frozen 8
        have Rf9 := R.frozen 9
        go_wp2_with fail
        (try simp only [Exit.inBlock, Exit.then])
        clear R_0 R_1 R_2 R_3 R_4 R_5 R_6 R_7 R_8 R_9
        clear Rf0 Rf1 Rf2 Rf3 Rf4 Rf5 Rf6 Rf7 Rf8 Rf9
        have hwS : w.heap.size ≤ gS + 1 := by omega
        have hown5 : RowI wr w.heap.size (.slice av xs.length cv) xs := row_low15 hown1 hwS
        have hnR : ∀ q, (Value.slice av xs.length cv).ownBlock = some q → q ∉ [gR] := fun q hq => by have := (row_ge15 hown1 q hq).1; simp; omega
        have hkn : Kx [gR] wr ((((((((((wr.setCell ⟨gR, 0, none⟩ (.int .i64 A.ph)).setCell ⟨gR, 1, none⟩ (.int .i64 A.r)).setCell ⟨gR, 2, none⟩ (.int .i64 A.p)).setCell ⟨gR, 3, none⟩ (.int .i64 A.k)).setCell ⟨gR, 4, none⟩ (.int .i64 A.m)).setCell ⟨gR, 5, none⟩ (.int .i64 A.n)).setCell ⟨gR, 6, none⟩ (.string A.s)).setCell ⟨gR, 7, none⟩ (.slice av xs.length cv)).setCell ⟨gR, 8, none⟩ (.int .i64 A.ur)).setCell ⟨gR, 9, none⟩ (.int .i64 A.up)) := Kx.setCells [.int .i64 A.ph, .int .i64 A.r, .int .i64 A.p, .int .i64 A.k, .int .i64 A.m, .int .i64 A.n, .string A.s, .slice av xs.length cv, .int .i64 A.ur, .int .i64 A.up] 0 _ (Kx.refl _ _) (.inl (by simp))
        replace R : Blk ((((((((((wr.setCell ⟨gR, 0, none⟩ (.int .i64 A.ph)).setCell ⟨gR, 1, none⟩ (.int .i64 A.r)).setCell ⟨gR, 2, none⟩ (.int .i64 A.p)).setCell ⟨gR, 3, none⟩ (.int .i64 A.k)).setCell ⟨gR, 4, none⟩ (.int .i64 A.m)).setCell ⟨gR, 5, none⟩ (.int .i64 A.n)).setCell ⟨gR, 6, none⟩ (.string A.s)).setCell ⟨gR, 7, none⟩ (.slice av xs.length cv)).setCell ⟨gR, 8, none⟩ (.int .i64 A.ur)).setCell ⟨gR, 9, none⟩ (.int .i64 A.up)) gR 55 [.int .i64 A.ph, .int .i64 A.r, .int .i64 A.p, .int .i64 A.k, .int .i64 A.m, .int .i64 A.n, .string A.s, .slice av xs.length cv, .int .i64 A.ur, .int .i64 A.up] := Blk.puts [.int .i64 A.ph, .int .i64 A.r, .int .i64 A.p, .int .i64 A.k, .int .i64 A.m, .int .i64 A.n, .string A.s, .slice av xs.length cv, .int .i64 A.ur, .int .i64 A.up] R rfl
        replace hb := hb.kx hkn (by first | (simp; done) | (simp; omega))
        generalize (((((((((wr.setCell ⟨gR, 0, none⟩ (.int .i64 A.ph)).setCell ⟨gR, 1, none⟩ (.int .i64 A.r)).setCell ⟨gR, 2, none⟩ (.int .i64 A.p)).setCell ⟨gR, 3, none⟩ (.int .i64 A.k)).setCell ⟨gR, 4, none⟩ (.int .i64 A.m)).setCell ⟨gR, 5, none⟩ (.int .i64 A.n)).setCell ⟨gR, 6, none⟩ (.string A.s)).setCell ⟨gR, 7, none⟩ (.slice av xs.length cv)).setCell ⟨gR, 8, none⟩ (.int .i64 A.ur)).setCell ⟨gR, 9, none⟩ (.int .i64 A.up) = w9 at *
        have hown6 : RowI w9 w.heap.size (.slice av xs.length cv) xs := row_kx (n := xs.length) hown5 hkn hnR
        have R_0 := R.cell (j := 0) rfl
        have R_1 := R.cell (j := 1) rfl
        have R_2 := R.cell (j := 2) rfl
        have R_3 := R.cell (j := 3) rfl
        have R_4 := R.cell (j := 4) rfl
        have R_5 := R.cell (j := 5) rfl
        have R_6 := R.cell (j := 6) rfl
        have R_7 := R.cell (j := 7) rfl
        have R_8 := R.cell (j := 8) rfl
        have R_9 := R.cell (j := 9) rfl
        refine bodyPost_ret (v := .agg #[.int .i64 A.ph, .int .i64 A.r, .int .i64 A.p, .int .i64 A.k, .int .i64 A.m, .int .i64 A.n, .string A.s, .slice av xs.length cv, .int .i64 A.ur, .int .i64 A.up]) ?_ rfl ⟨⟨_, rfl, hown6⟩, hb⟩
        rw [r_cell1 rfl]
        go_simp
end Go.Proofs.YtcahkcbenanfnaaGreatDoor
