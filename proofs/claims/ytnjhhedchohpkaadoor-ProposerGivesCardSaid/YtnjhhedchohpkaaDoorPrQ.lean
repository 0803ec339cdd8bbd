
/- Walk of ProposerGives: the owner's; joined. -/
import Derived.Test.YtnjhhedchohpkaaDoorPrP
namespace Go.Proofs.YtnjhhedchohpkaaDoor
set_option linter.unusedSimpArgs false
set_option linter.unusedVariables false
open Go.RowKit


set_option maxRecDepth 100000 in
set_option maxHeartbeats 16000000 in
theorem gives_yes_true (c sl : Int) (r p k m n : Int) (s : ByteArray) (l : List Pa) (ao : Option Addr) (cap : Nat) (w : World) (hT : Tabs w) (hE : HasPa w ao l) (hl : l.length ≤ 9223372036854775807) (hs : ∀ e, e ∈ l → e.s.size ≤ 9223372036854775807) (hz : s.size ≤ 9223372036854775807) (hf : fewP l 40 = true) (hg : longP s = false) (h0 : mkE c sl true r p k m n s = 0) :
    Calls Tryd.prog 3 #[.int .i64 c, .int .i64 sl, .bool true, .agg #[.int .i64 r, .int .i64 p], .agg #[.int .i64 k, .int .i64 m, .int .i64 n, .string s], .slice ao l.length cap] w fun e w' => e = .returned (.bool true) ∧ Below w.heap.size w w' := by
  have cF := fun W (hW : Below w.heap.size w W) => few15_any l ao cap 40 W (hE.step hW) hl hs
  rw [hf] at cF
  have hshort : ¬ 300 < (s.size : Int) := by simpa [longP] using hg
  have hl40 := (fewP_small hf).1
  have hzi : (s.size : Int) ≤ 9223372036854775807 := by omega
  obtain ⟨N, hN⟩ : ∃ N, l.length = N := ⟨_, rfl⟩
  rw [hN] at cF hl40 ⊢
  clear hf hg
  have HS := Lib.hid hs
  clear hs
  have HN := Lib.hid hN
  clear hN
  have hb := From.refl w
  obtain ⟨h0, hq⟩ := mk_zero h0
  have cA := fun W hW => own_ok c sl k m n s W hz hW h0 hq
  have hI0 := InvP.own (o := ownerI c sl) (k := k) (m := m) (n := n) (s := s) h0
  have hK0 : Keep true l k m n s 0 (ownA c sl (ownerI c sl) k m n s) := ⟨rfl, Int.le_refl 2⟩
  generalize ownA c sl (ownerI c sl) k m n s = A0 at *
  go_enter Tryd.func3, Tryd.ntmps3
  go_upto_region 1 with fail
  obtain ⟨gB, hgB⟩ : ∃ g, (w).heap.size = g := ⟨_, rfl⟩
  have B := Blk.newV hgB 23 #[.int .i64 r, .int .i64 p]
  have hbn := (Below.refl (w).heap.size w).alloc (Nat.le_refl _) (.cells #[.int .i64 r, .int .i64 p] 23)
  replace hb := hb.step hbn
  clear hbn
  rw [hgB]
  have szB := alloc_size hgB (.cells #[.int .i64 r, .int .i64 p] 23)
  generalize (w).alloc (.cells #[.int .i64 r, .int .i64 p] 23) = w1 at *
  obtain ⟨gX, hgX⟩ : ∃ g, (w1).heap.size = g := ⟨_, rfl⟩
  have lt_B_X := B.lt
  rw [hgX] at lt_B_X
  have X := Blk.newV hgX 26 #[.int .i64 k, .int .i64 m, .int .i64 n, .string s]
  have hbn := (Below.refl (w1).heap.size w1).alloc (Nat.le_refl _) (.cells #[.int .i64 k, .int .i64 m, .int .i64 n, .string s] 26)
  replace hb := hb.step hbn
  replace B := B.step hbn
  clear hbn
  have egX : gB + 1 = gX := szB.symm.trans hgX
  rw [egX]
  clear szB
  generalize (w1).alloc (.cells #[.int .i64 k, .int .i64 m, .int .i64 n, .string s] 26) = w2 at *
  have hwX : w.heap.size ≤ gX := by omega
  have hwB : w.heap.size ≤ gB := by omega
  clear hgB hgX egX
  have B_0 := B.cell (j := 0) rfl
  have B_1 := B.cell (j := 1) rfl
  have X_0 := X.cell (j := 0) rfl
  have X_1 := X.cell (j := 1) rfl
  have X_2 := X.cell (j := 2) rfl
  have X_3 := X.cell (j := 3) rfl
  go_wp2_with fail
  refine (cF _ hb.out).mono ?_
  rintro e w3 ⟨rfl, hbn⟩
  replace hb := hb.step hbn
  replace B := B.step hbn
  replace B_0 := B.cell (j := 0) rfl
  replace B_1 := B.cell (j := 1) rfl
  replace X := X.step hbn
  replace X_0 := X.cell (j := 0) rfl
  replace X_1 := X.cell (j := 1) rfl
  replace X_2 := X.cell (j := 2) rfl
  replace X_3 := X.cell (j := 3) rfl
  clear hbn
  have hB3 := 0
  go_wp2_with fail
  refine (ask_some c sl r p _).mono ?_
  rintro e w4 ⟨⟨v4, E4, rfl⟩, hbn⟩
  replace hb := hb.step hbn
  replace B := B.step hbn
  replace B_0 := B.cell (j := 0) rfl
  replace B_1 := B.cell (j := 1) rfl
  replace X := X.step hbn
  replace X_0 := X.cell (j := 0) rfl
  replace X_1 := X.cell (j := 1) rfl
  replace X_2 := X.cell (j := 2) rfl
  replace X_3 := X.cell (j := 3) rfl
  clear hbn
  go_wp2_with fail
  refine (cA _ (hT.step hb.out)).mono ?_
  rintro e w5 ⟨⟨g, rfl, hP, hg⟩, hbn⟩
  have hz3 := hb.size
  have hX3 := X.lt
  replace hb := hb.step hbn
  replace B := B.step hbn
  replace B_0 := B.cell (j := 0) rfl
  replace B_1 := B.cell (j := 1) rfl
  replace X := X.step hbn
  replace X_0 := X.cell (j := 0) rfl
  replace X_1 := X.cell (j := 1) rfl
  replace X_2 := X.cell (j := 2) rfl
  replace X_3 := X.cell (j := 3) rfl
  clear hbn cA
  have hgw : w.heap.size ≤ g := by omega
  have hgX : gX ≠ g := by omega
  clear hg
  go_wp2_with fail
  refine (num15_any 0 _).mono ?_
  rintro e wx ⟨rfl, rfl⟩
  clear hB3
  go_upto_region 8 with fail
  go_wp2_with fail
  go_loopw [15] (fun u wr => ∃ (j : Nat) (A : Prp), u = .int .i64 j ∧ j ≤ N ∧ PW wr g A ∧ InvP A ∧ Hid (Keep true l k m n s j A) ∧ Blk wr gX 26 [.int .i64 k, .int .i64 m, .int .i64 n, .string s] ∧ From w wr) (fun u _ => N - (intOf u).toNat)
  case atStart => exact ⟨0, _, rfl, by omega, hP, hI0, Lib.hid hK0, X, hb⟩
  clear hP hI0 hK0 X hb
  case' round =>
    obtain ⟨j, A, rfl, hj, hP, hI, hKp, X, hb⟩ := hrel
    have j0 : (0 : Int) ≤ (j : Int) := by omega
    by_cases hlt : j < N
    · have j1 : (j : Int) < (N : Int) := by omega
      obtain ⟨e, he⟩ : ∃ e, l[j]? = some e := ⟨_, List.getElem?_eq_getElem (by have := HN.out; omega)⟩
      obtain ⟨hm1, hm2, hm3, hm4⟩ := act_mono A hI e
      have hI2 := hI.act e
      have hK2 := hKp.out.act hI he
      obtain ⟨A2, hA2⟩ : ∃ A2, actP A e = A2 := ⟨_, rfl⟩
      rw [hA2] at hm1 hm2 hm3 hm4 hI2 hK2
      have hse := HS.out e (List.mem_of_getElem? he)
      have hltb := hE.lt he
      go_wp2_with fail
      refine (state_any g A _ hP hI.ne).mono ?_
      rintro e9 w1 ⟨⟨v, rfl, hR⟩, hbn⟩
      obtain ⟨av, cv, rfl⟩ := hR.form
      generalize (plK 0 (votesP A)).length = nv at *
      replace hb := hb.step hbn
      replace hP := hP.step hbn
      replace X := X.step hbn
      replace X_0 := X.cell (j := 0) rfl
      replace X_1 := X.cell (j := 1) rfl
      replace X_2 := X.cell (j := 2) rfl
      replace X_3 := X.cell (j := 3) rfl
      clear hbn hR
      unfold ppV
      go_upto_region 12 with fail
      obtain ⟨gS, hgS⟩ : ∃ g, (w1).heap.size = g := ⟨_, rfl⟩
      have lt_hP_S := hP.lt
      rw [hgS] at lt_hP_S
      have lt_X_S := X.lt
      rw [hgS] at lt_X_S
      have S := Blk.newV hgS 40 #[.int .i64 A.ph, .int .i64 A.r, .int .i64 A.p, .int .i64 A.k, .int .i64 A.m, .int .i64 A.n, .string A.s, .slice av nv cv, .int .i64 A.ur, .int .i64 A.up]
      have hbn := (Below.refl (w1).heap.size w1).alloc (Nat.le_refl _) (.cells #[.int .i64 A.ph, .int .i64 A.r, .int .i64 A.p, .int .i64 A.k, .int .i64 A.m, .int .i64 A.n, .string A.s, .slice av nv cv, .int .i64 A.ur, .int .i64 A.up] 40)
      replace hb := hb.step hbn
      replace hP := hP.step hbn
      replace X := X.step hbn
      replace X_0 := X.cell (j := 0) rfl
      replace X_1 := X.cell (j := 1) rfl
      replace X_2 := X.cell (j := 2) rfl
      replace X_3 := X.cell (j := 3) rfl
      clear hbn
      rw [hgS]
      generalize (w1).alloc (.cells #[.int .i64 A.ph, .int .i64 A.r, .int .i64 A.p, .int .i64 A.k, .int .i64 A.m, .int .i64 A.n, .string A.s, .slice av nv cv, .int .i64 A.ur, .int .i64 A.up] 40) = w2 at *
      obtain ⟨b, off, rfl, hQ⟩ := (hE.step hb.out) j e he
      have hbl := hltb b off rfl
      have hba := fun W => ne_ballot A2.r A2.p A.r A.p W
      have hq2 : eq2 A2.r A2.p A.r A.p = true := by unfold eq2; simp [hm3, hm4]
      simp only [hq2] at hba
      have hph : ¬ A2.ph < A.ph := by omega
      have hgS : gS ≠ g := by omega
      clear hm3 hm4 hq2 hm1 hgS
      have hgS : gS ≠ g := by have := lt_hP_S; omega
      obtain ⟨ew, pl, ar, ap, ek, em, en, es, ex, ey⟩ := e
      have q0 := hQ.h0
      have q1 := hQ.h1
      have q2 := hQ.h2
      have q3 := hQ.h3
      have q4 := hQ.h4
      have q5 := hQ.h5
      have q6 := hQ.h6
      have q7 := hQ.h7
      have q8 := hQ.h8
      have q9 := hQ.h9
      simp only at q1 q2 q3 q4 q5 q6 q7 q8 q9
      simp only at q0 hse
      unfold actP at hA2
      simp only at hA2
      clear hQ he hKp hltb
      by_cases hw0 : ew = 0
      · subst hw0
        simp only [if_true] at hA2
        have cA := fun W (hP : PW W g A) (hb : From w W) => prom_any g A pl ar ap ek em en es W hP hI hse (hT.step hb.out)
        rw [hA2] at cA
        generalize prV A pl ar ap ek em en es = V at *
        generalize prE A pl ar ap ek em en es = E at *
        go_upto_region 15 with fail
        replace q1 := extA_cell q1
        replace q2 := extA_cell q2
        replace q3 := extA_cell q3
        replace q4 := extA_cell q4
        replace q5 := extA_cell q5
        replace q6 := extA_cell q6
        replace q7 := extA_cell q7
        replace q8 := extA_cell q8
        replace q9 := extA_cell q9
        refine wp_region_head (C := ExtA w2) 11 (by kernel_rfl) (by decide) (by kernel_rfl) ⟨rfl, rfl, rfl, Nat.le_refl _, fun _ _ => rfl⟩ ?_
        simp only [List.take_succ_cons, List.take_zero]
        repeat
          (first
            | go_big_quiet_skip
            | (go_big_quiet_want
               go_big_quiet_op
               first
                 | go_big_quiet_on
                 | (apply Exists.intro
                    refine ⟨fun w' hC9 => ?_, ?_⟩
                    · (first
                        | with_reducible rfl
                        | fail
                        | (go_simp; done)
                        | (go_simp; with_reducible rfl))
                    go_big_quiet_on)))
        refine wpQuiet_nil ?_
        intro wq hq
        replace hb := hb.step hq
        replace hP := hP.step hq
        replace S := S.step hq
        replace X := X.step hq
        change wpAny _ _ _ _ (0 + 1) _ _ _
        refine wpAny_ready (rs := [11]) (by kernel_rfl) (by simp) ?_
        refine AllReady.cons rfl (fun K hK => ?_) AllReady.nil
        go_simp
        refine (cA _ hP hb).mono ?_
        rintro e w3 ⟨rfl, hP2, hk⟩
        refine hK _ _ ?_
        clear hK K
        refine wpAny_done (by kernel_rfl) ?_ _
        replace hb := hb.kx hk (by simp; omega)
        replace S := S.kx hk (by simp; omega)
        replace X := X.kx hk (by simp; omega)
        clear hk hP q1 q2 q3 q4 q5 q6 q7 q8 q9 cA
        go_wp2_with fail
        refine (state_any g A2 _ hP2 hI2.ne).mono ?_
        rintro e w5 ⟨⟨v2, rfl, hR2⟩, hbn⟩
        obtain ⟨av2, cv2, rfl⟩ := hR2.form
        generalize (plK 0 (votesP A2)).length = nv2 at *
        replace hb := hb.step hbn
        replace S := S.step hbn
        replace X := X.step hbn
        replace X_0 := X.cell (j := 0) rfl
        replace X_1 := X.cell (j := 1) rfl
        replace X_2 := X.cell (j := 2) rfl
        replace X_3 := X.cell (j := 3) rfl
        replace hP2 := hP2.step hbn
        clear hbn hR2
        unfold ppV
        go_upto_region 19 with fail
        obtain ⟨gS2, hgS2⟩ : ∃ g, (w5).heap.size = g := ⟨_, rfl⟩
        have lt_S_S2 := S.lt
        rw [hgS2] at lt_S_S2
        have lt_X_S2 := X.lt
        rw [hgS2] at lt_X_S2
        have S2 := Blk.newV hgS2 40 #[.int .i64 A2.ph, .int .i64 A2.r, .int .i64 A2.p, .int .i64 A2.k, .int .i64 A2.m, .int .i64 A2.n, .string A2.s, .slice av2 nv2 cv2, .int .i64 A2.ur, .int .i64 A2.up]
        have hbn := (Below.refl (w5).heap.size w5).alloc (Nat.le_refl _) (.cells #[.int .i64 A2.ph, .int .i64 A2.r, .int .i64 A2.p, .int .i64 A2.k, .int .i64 A2.m, .int .i64 A2.n, .string A2.s, .slice av2 nv2 cv2, .int .i64 A2.ur, .int .i64 A2.up] 40)
        replace hb := hb.step hbn
        replace S := S.step hbn
        replace X := X.step hbn
        replace X_0 := X.cell (j := 0) rfl
        replace X_1 := X.cell (j := 1) rfl
        replace X_2 := X.cell (j := 2) rfl
        replace X_3 := X.cell (j := 3) rfl
        replace hP2 := hP2.step hbn
        clear hbn
        rw [hgS2]
        generalize (w5).alloc (.cells #[.int .i64 A2.ph, .int .i64 A2.r, .int .i64 A2.p, .int .i64 A2.k, .int .i64 A2.m, .int .i64 A2.n, .string A2.s, .slice av2 nv2 cv2, .int .i64 A2.ur, .int .i64 A2.up] 40) = w6 at *
        have S_0 := S.cell (j := 0) rfl
        have S_1 := S.cell (j := 1) rfl
        have S_2 := S.cell (j := 2) rfl
        have S_3 := S.cell (j := 3) rfl
        have S_4 := S.cell (j := 4) rfl
        have S_5 := S.cell (j := 5) rfl
        have S_6 := S.cell (j := 6) rfl
        have S_7 := S.cell (j := 7) rfl
        have S_8 := S.cell (j := 8) rfl
        have S_9 := S.cell (j := 9) rfl
        have S2_0 := S2.cell (j := 0) rfl
        have S2_1 := S2.cell (j := 1) rfl
        have S2_2 := S2.cell (j := 2) rfl
        have S2_3 := S2.cell (j := 3) rfl
        have S2_4 := S2.cell (j := 4) rfl
        have S2_5 := S2.cell (j := 5) rfl
        have S2_6 := S2.cell (j := 6) rfl
        have S2_7 := S2.cell (j := 7) rfl
        have S2_8 := S2.cell (j := 8) rfl
        have S2_9 := S2.cell (j := 9) rfl
        by_cases h2 : 2 ≤ A.ph
        · have hse := hm2 h2
          have hne := fun W => ne_entry A2.k A2.m A2.n A2.s A.k A.m A.n A.s W
          have hq4 : eq4 A2.k A2.m A2.n A2.s A.k A.m A.n A.s = true := by
            unfold entP at hse
            simp only [Prod.mk.injEq] at hse
            obtain ⟨e1, e2, e3, e4⟩ := hse
            unfold eq4
            rw [e1, e2, e3, e4]
            simp
          simp only [hq4] at hne
          clear hse hm2 hq4
          go_wp2_with fail
          go_roundw
          case rel => exact ⟨j + 1, A2, by go_num, by omega, hP2, hI2, Lib.hid hK2, X, hb⟩
          case measure => simp [intOf]; omega
        · clear hm2
          go_wp2_with fail
          go_roundw
          case rel => exact ⟨j + 1, A2, by go_num, by omega, hP2, hI2, Lib.hid hK2, X, hb⟩
          case measure => simp [intOf]; omega
      · rw [if_neg hw0] at hA2
        by_cases hw1 : ew = 1
        · subst hw1
          simp only [if_true] at hA2
          have cA := fun W (hP : PW W g A) => acc_any g A pl W hP hI
          rw [hA2] at cA
          generalize acVv A pl = V at *
          generalize acE A pl = E at *
          go_wp2_with fail
          refine (cA _ hP).mono ?_
          rintro e w3 ⟨rfl, hP2, hk⟩
          replace hb := hb.kx hk (by simp; omega)
          replace S := S.kx hk (by simp; omega)
          replace X := X.kx hk (by simp; omega)
          clear hk hP q1 q2 q3 q4 q5 q6 q7 q8 q9 cA
          go_wp2_with fail
          refine (state_any g A2 _ hP2 hI2.ne).mono ?_
          rintro e w5 ⟨⟨v2, rfl, hR2⟩, hbn⟩
          obtain ⟨av2, cv2, rfl⟩ := hR2.form
          generalize (plK 0 (votesP A2)).length = nv2 at *
          replace hb := hb.step hbn
          replace S := S.step hbn
          replace X := X.step hbn
          replace X_0 := X.cell (j := 0) rfl
          replace X_1 := X.cell (j := 1) rfl
          replace X_2 := X.cell (j := 2) rfl
          replace X_3 := X.cell (j := 3) rfl
          replace hP2 := hP2.step hbn
          clear hbn hR2
          unfold ppV
          go_upto_region 19 with fail
          obtain ⟨gS2, hgS2⟩ : ∃ g, (w5).heap.size = g := ⟨_, rfl⟩
          have lt_S_S2 := S.lt
          rw [hgS2] at lt_S_S2
          have lt_X_S2 := X.lt
          rw [hgS2] at lt_X_S2
          have S2 := Blk.newV hgS2 40 #[.int .i64 A2.ph, .int .i64 A2.r, .int .i64 A2.p, .int .i64 A2.k, .int .i64 A2.m, .int .i64 A2.n, .string A2.s, .slice av2 nv2 cv2, .int .i64 A2.ur, .int .i64 A2.up]
          have hbn := (Below.refl (w5).heap.size w5).alloc (Nat.le_refl _) (.cells #[.int .i64 A2.ph, .int .i64 A2.r, .int .i64 A2.p, .int .i64 A2.k, .int .i64 A2.m, .int .i64 A2.n, .string A2.s, .slice av2 nv2 cv2, .int .i64 A2.ur, .int .i64 A2.up] 40)
          replace hb := hb.step hbn
          replace S := S.step hbn
          replace X := X.step hbn
          replace X_0 := X.cell (j := 0) rfl
          replace X_1 := X.cell (j := 1) rfl
          replace X_2 := X.cell (j := 2) rfl
          replace X_3 := X.cell (j := 3) rfl
          replace hP2 := hP2.step hbn
          clear hbn
          rw [hgS2]
          generalize (w5).alloc (.cells #[.int .i64 A2.ph, .int .i64 A2.r, .int .i64 A2.p, .int .i64 A2.k, .int .i64 A2.m, .int .i64 A2.n, .string A2.s, .slice av2 nv2 cv2, .int .i64 A2.ur, .int .i64 A2.up] 40) = w6 at *
          have S_0 := S.cell (j := 0) rfl
          have S_1 := S.cell (j := 1) rfl
          have S_2 := S.cell (j := 2) rfl
          have S_3 := S.cell (j := 3) rfl
          have S_4 := S.cell (j := 4) rfl
          have S_5 := S.cell (j := 5) rfl
          have S_6 := S.cell (j := 6) rfl
          have S_7 := S.cell (j := 7) rfl
          have S_8 := S.cell (j := 8) rfl
          have S_9 := S.cell (j := 9) rfl
          have S2_0 := S2.cell (j := 0) rfl
          have S2_1 := S2.cell (j := 1) rfl
          have S2_2 := S2.cell (j := 2) rfl
          have S2_3 := S2.cell (j := 3) rfl
          have S2_4 := S2.cell (j := 4) rfl
          have S2_5 := S2.cell (j := 5) rfl
          have S2_6 := S2.cell (j := 6) rfl
          have S2_7 := S2.cell (j := 7) rfl
          have S2_8 := S2.cell (j := 8) rfl
          have S2_9 := S2.cell (j := 9) rfl
          by_cases h2 : 2 ≤ A.ph
          · have hse := hm2 h2
            have hne := fun W => ne_entry A2.k A2.m A2.n A2.s A.k A.m A.n A.s W
            have hq4 : eq4 A2.k A2.m A2.n A2.s A.k A.m A.n A.s = true := by
              unfold entP at hse
              simp only [Prod.mk.injEq] at hse
              obtain ⟨e1, e2, e3, e4⟩ := hse
              unfold eq4
              rw [e1, e2, e3, e4]
              simp
            simp only [hq4] at hne
            clear hse hm2 hq4
            go_wp2_with fail
            go_roundw
            case rel => exact ⟨j + 1, A2, by go_num, by omega, hP2, hI2, Lib.hid hK2, X, hb⟩
            case measure => simp [intOf]; omega
          · clear hm2
            go_wp2_with fail
            go_roundw
            case rel => exact ⟨j + 1, A2, by go_num, by omega, hP2, hI2, Lib.hid hK2, X, hb⟩
            case measure => simp [intOf]; omega
        · rw [if_neg hw1] at hA2
          have cA := fun W (hP : PW W g A) (hb : From w W) => ref_any g A pl ex ey W hP hI
          rw [hA2] at cA
          generalize rfV A pl ex ey = V at *
          generalize rfE A pl ex ey = E at *
          go_upto_region 13 with fail
          replace q1 := extA_cell q1
          replace q2 := extA_cell q2
          replace q3 := extA_cell q3
          replace q4 := extA_cell q4
          replace q5 := extA_cell q5
          replace q6 := extA_cell q6
          replace q7 := extA_cell q7
          replace q8 := extA_cell q8
          replace q9 := extA_cell q9
          refine wp_region_head (C := ExtA w2) 11 (by kernel_rfl) (by decide) (by kernel_rfl) ⟨rfl, rfl, rfl, Nat.le_refl _, fun _ _ => rfl⟩ ?_
          simp only [List.take_succ_cons, List.take_zero]
          repeat
            (first
              | go_big_quiet_skip
              | (go_big_quiet_want
                 go_big_quiet_op
                 first
                   | go_big_quiet_on
                   | (apply Exists.intro
                      refine ⟨fun w' hC9 => ?_, ?_⟩
                      · (first
                          | with_reducible rfl
                          | fail
                          | (go_simp; done)
                          | (go_simp; with_reducible rfl))
                      go_big_quiet_on)))
          refine wpQuiet_nil ?_
          intro wq hq
          replace hb := hb.step hq
          replace hP := hP.step hq
          replace S := S.step hq
          replace X := X.step hq
          change wpAny _ _ _ _ (0 + 1) _ _ _
          refine wpAny_ready (rs := [11]) (by kernel_rfl) (by simp) ?_
          refine AllReady.cons rfl (fun K hK => ?_) AllReady.nil
          go_simp
          refine (cA _ hP hb).mono ?_
          rintro e w3 ⟨rfl, hP2, hk⟩
          refine hK _ _ ?_
          clear hK K
          refine wpAny_done (by kernel_rfl) ?_ _
          replace hb := hb.kx hk (by simp; omega)
          replace S := S.kx hk (by simp; omega)
          replace X := X.kx hk (by simp; omega)
          clear hk hP q1 q2 q3 q4 q5 q6 q7 q8 q9 cA
          go_wp2_with fail
          refine (state_any g A2 _ hP2 hI2.ne).mono ?_
          rintro e w5 ⟨⟨v2, rfl, hR2⟩, hbn⟩
          obtain ⟨av2, cv2, rfl⟩ := hR2.form
          generalize (plK 0 (votesP A2)).length = nv2 at *
          replace hb := hb.step hbn
          replace S := S.step hbn
          replace X := X.step hbn
          replace X_0 := X.cell (j := 0) rfl
          replace X_1 := X.cell (j := 1) rfl
          replace X_2 := X.cell (j := 2) rfl
          replace X_3 := X.cell (j := 3) rfl
          replace hP2 := hP2.step hbn
          clear hbn hR2
          unfold ppV
          go_upto_region 19 with fail
          obtain ⟨gS2, hgS2⟩ : ∃ g, (w5).heap.size = g := ⟨_, rfl⟩
          have lt_S_S2 := S.lt
          rw [hgS2] at lt_S_S2
          have lt_X_S2 := X.lt
          rw [hgS2] at lt_X_S2
          have S2 := Blk.newV hgS2 40 #[.int .i64 A2.ph, .int .i64 A2.r, .int .i64 A2.p, .int .i64 A2.k, .int .i64 A2.m, .int .i64 A2.n, .string A2.s, .slice av2 nv2 cv2, .int .i64 A2.ur, .int .i64 A2.up]
          have hbn := (Below.refl (w5).heap.size w5).alloc (Nat.le_refl _) (.cells #[.int .i64 A2.ph, .int .i64 A2.r, .int .i64 A2.p, .int .i64 A2.k, .int .i64 A2.m, .int .i64 A2.n, .string A2.s, .slice av2 nv2 cv2, .int .i64 A2.ur, .int .i64 A2.up] 40)
          replace hb := hb.step hbn
          replace S := S.step hbn
          replace X := X.step hbn
          replace X_0 := X.cell (j := 0) rfl
          replace X_1 := X.cell (j := 1) rfl
          replace X_2 := X.cell (j := 2) rfl
          replace X_3 := X.cell (j := 3) rfl
          replace hP2 := hP2.step hbn
          clear hbn
          rw [hgS2]
          generalize (w5).alloc (.cells #[.int .i64 A2.ph, .int .i64 A2.r, .int .i64 A2.p, .int .i64 A2.k, .int .i64 A2.m, .int .i64 A2.n, .string A2.s, .slice av2 nv2 cv2, .int .i64 A2.ur, .int .i64 A2.up] 40) = w6 at *
          have S_0 := S.cell (j := 0) rfl
          have S_1 := S.cell (j := 1) rfl
          have S_2 := S.cell (j := 2) rfl
          have S_3 := S.cell (j := 3) rfl
          have S_4 := S.cell (j := 4) rfl
          have S_5 := S.cell (j := 5) rfl
          have S_6 := S.cell (j := 6) rfl
          have S_7 := S.cell (j := 7) rfl
          have S_8 := S.cell (j := 8) rfl
          have S_9 := S.cell (j := 9) rfl
          have S2_0 := S2.cell (j := 0) rfl
          have S2_1 := S2.cell (j := 1) rfl
          have S2_2 := S2.cell (j := 2) rfl
          have S2_3 := S2.cell (j := 3) rfl
          have S2_4 := S2.cell (j := 4) rfl
          have S2_5 := S2.cell (j := 5) rfl
          have S2_6 := S2.cell (j := 6) rfl
          have S2_7 := S2.cell (j := 7) rfl
          have S2_8 := S2.cell (j := 8) rfl
          have S2_9 := S2.cell (j := 9) rfl
          by_cases h2 : 2 ≤ A.ph
          · have hse := hm2 h2
            have hne := fun W => ne_entry A2.k A2.m A2.n A2.s A.k A.m A.n A.s W
            have hq4 : eq4 A2.k A2.m A2.n A2.s A.k A.m A.n A.s = true := by
              unfold entP at hse
              simp only [Prod.mk.injEq] at hse
              obtain ⟨e1, e2, e3, e4⟩ := hse
              unfold eq4
              rw [e1, e2, e3, e4]
              simp
            simp only [hq4] at hne
            clear hse hm2 hq4
            go_wp2_with fail
            go_roundw
            case rel => exact ⟨j + 1, A2, by go_num, by omega, hP2, hI2, Lib.hid hK2, X, hb⟩
            case measure => simp [intOf]; omega
          · clear hm2
            go_wp2_with fail
            go_roundw
            case rel => exact ⟨j + 1, A2, by go_num, by omega, hP2, hI2, Lib.hid hK2, X, hb⟩
            case measure => simp [intOf]; omega
    · obtain rfl : N = j := by omega
      go_wp2_with fail
      refine (state_any g A _ hP hI.ne).mono ?_
      rintro e9 w1 ⟨⟨v, rfl, hR⟩, hbn⟩
      obtain ⟨av, cv, rfl⟩ := hR.form
      generalize (plK 0 (votesP A)).length = nv at *
      replace hb := hb.step hbn
      replace hP := hP.step hbn
      replace X := X.step hbn
      replace X_0 := X.cell (j := 0) rfl
      replace X_1 := X.cell (j := 1) rfl
      replace X_2 := X.cell (j := 2) rfl
      replace X_3 := X.cell (j := 3) rfl
      clear hbn hR
      unfold ppV
      go_upto_region 22 with fail
      obtain ⟨gS, hgS⟩ : ∃ g, (w1).heap.size = g := ⟨_, rfl⟩
      have lt_hP_S := hP.lt
      rw [hgS] at lt_hP_S
      have lt_X_S := X.lt
      rw [hgS] at lt_X_S
      have S := Blk.newV hgS 40 #[.int .i64 A.ph, .int .i64 A.r, .int .i64 A.p, .int .i64 A.k, .int .i64 A.m, .int .i64 A.n, .string A.s, .slice av nv cv, .int .i64 A.ur, .int .i64 A.up]
      have hbn := (Below.refl (w1).heap.size w1).alloc (Nat.le_refl _) (.cells #[.int .i64 A.ph, .int .i64 A.r, .int .i64 A.p, .int .i64 A.k, .int .i64 A.m, .int .i64 A.n, .string A.s, .slice av nv cv, .int .i64 A.ur, .int .i64 A.up] 40)
      replace hb := hb.step hbn
      replace hP := hP.step hbn
      replace X := X.step hbn
      replace X_0 := X.cell (j := 0) rfl
      replace X_1 := X.cell (j := 1) rfl
      replace X_2 := X.cell (j := 2) rfl
      replace X_3 := X.cell (j := 3) rfl
      clear hbn
      rw [hgS]
      generalize (w1).alloc (.cells #[.int .i64 A.ph, .int .i64 A.r, .int .i64 A.p, .int .i64 A.k, .int .i64 A.m, .int .i64 A.n, .string A.s, .slice av nv cv, .int .i64 A.ur, .int .i64 A.up] 40) = w2 at *
      have hKp := hKp.out
      simp only [Keep, if_true] at hKp
      have he1 := fun W => eq_entry A.k A.m A.n A.s k m n s W
      have hV1 : eq4 A.k A.m A.n A.s k m n s = true := by
        have q := hKp.1
        unfold entP at q
        simp only [Prod.mk.injEq] at q
        obtain ⟨e1, e2, e3, e4⟩ := q
        rw [e1, e2, e3, e4]
        simp [eq4]
      simp only [hV1] at he1
      have S_0 := S.cell (j := 0) rfl
      have S_1 := S.cell (j := 1) rfl
      have S_2 := S.cell (j := 2) rfl
      have S_3 := S.cell (j := 3) rfl
      have S_4 := S.cell (j := 4) rfl
      have S_5 := S.cell (j := 5) rfl
      have S_6 := S.cell (j := 6) rfl
      have S_7 := S.cell (j := 7) rfl
      have S_8 := S.cell (j := 8) rfl
      have S_9 := S.cell (j := 9) rfl
      have X_0 := X.cell (j := 0) rfl
      have X_1 := X.cell (j := 1) rfl
      have X_2 := X.cell (j := 2) rfl
      have X_3 := X.cell (j := 3) rfl
      have hF0 : true = true := rfl
      clear hKp hV1
      go_upto_region 23 with fail
      clear S_0 S_1 S_2 S_3 S_4 S_5 S_6 S_7 S_8 S_9
      clear X_0 X_1 X_2 X_3
      go_wp2_with fail
      go_loopw [19, 20] (fun u19 u20 wr2 => ∃ (i : Nat) (T : Bool), u20 = .int .i64 i ∧ u19 = .bool T ∧ i ≤ N ∧ Hid (T = true) ∧ Blk wr2 gS 40 [.int .i64 A.ph, .int .i64 A.r, .int .i64 A.p, .int .i64 A.k, .int .i64 A.m, .int .i64 A.n, .string A.s, .slice av nv cv, .int .i64 A.ur, .int .i64 A.up] ∧ From w wr2) (fun _ u _ => N - (intOf u).toNat)
      case atStart => exact ⟨0, _, rfl, rfl, by omega, Lib.hid (by first | exact hF0 | rfl), S, hb⟩
      case' round =>
        clear S hb hF0 X hP
        obtain ⟨i, T, rfl, rfl, hi, hF, S, hb⟩ := hrel
        have i0 : (0 : Int) ≤ (i : Int) := by omega
        cases T
        case true =>
          by_cases hi1 : i < N
          · have i1 : (i : Int) < (N : Int) := by omega
            clear hF
            go_wp2_with fail
            refine (works15_any _ (hT.step hb.out)).mono ?_
            rintro e w9 ⟨rfl, hbn⟩
            replace hb := hb.step hbn
            replace S := S.step hbn
            clear hbn
            go_wp2_with fail
            go_ret
            exact ⟨rfl, hb⟩
          · have i1 : ¬ (i : Int) < (N : Int) := by omega
            clear hF
            go_wp2_with fail
            refine (works15_any _ (hT.step hb.out)).mono ?_
            rintro e w9 ⟨rfl, hbn⟩
            replace hb := hb.step hbn
            replace S := S.step hbn
            clear hbn
            go_wp2_with fail
            go_ret
            exact ⟨rfl, hb⟩
        case false =>
          exact absurd hF.out (by decide)
theorem gives_walk (c sl : Int) (own : Bool) (r p k m n : Int) (s : ByteArray) (x : Option Addr) (len cap : Nat) (w : World) (hT : Tabs w) (hz : s.size ≤ maxLen) (h : ∃ l : List Pa, l.length = len ∧ HasPa w x l ∧ (∀ e, e ∈ l → e.s.size ≤ maxLen) ∧ len ≤ maxLen) :
    Calls Tryd.prog 3 #[.int .i64 c, .int .i64 sl, .bool own, .agg #[.int .i64 r, .int .i64 p], .agg #[.int .i64 k, .int .i64 m, .int .i64 n, .string s], .slice x len cap] w fun r w' => r = .returned (.bool true) ∧ Below w.heap.size w w' := by
  obtain ⟨l, rfl, hE, hs, hl⟩ := h
  have hl2 : l.length ≤ 9223372036854775807 := by unfold maxLen at hl; omega
  have hz2 : s.size ≤ 9223372036854775807 := by unfold maxLen at hz; omega
  have hs2 : ∀ e, e ∈ l → e.s.size ≤ 9223372036854775807 := fun e he => by have := hs e he; unfold maxLen at this; omega
  cases hf : fewP l 40
  · exact gives_few c sl own r p k m n s l x cap w hT hE hl2 hs2 hz2 hf rfl
  · cases hg : longP s
    · cases own
      · by_cases h0 : mkE c sl false r p k m n s = 0
        · exact gives_yes_false c sl r p k m n s l x cap w hT hE hl2 hs2 hz2 hf hg h0
        · exact gives_no_false c sl r p k m n s l x cap w hT hE hl2 hs2 hz2 hf hg h0
      · by_cases h0 : mkE c sl true r p k m n s = 0
        · exact gives_yes_true c sl r p k m n s l x cap w hT hE hl2 hs2 hz2 hf hg h0
        · exact gives_no_true c sl r p k m n s l x cap w hT hE hl2 hs2 hz2 hf hg h0
    · exact gives_long c sl own r p k m n s l x cap w hT hE hl2 hs2 hz2 hf hg
theorem gives_walkx (c sl : Int) (own : Bool) (r p : Int) (z : Int × Int × Int × ByteArray) (x : Option Addr) (len cap : Nat) (w : World) (hT : Tabs w) (hz : z.2.2.2.size ≤ maxLen) (h : ∃ l : List Pa, l.length = len ∧ HasPa w x l ∧ (∀ e, e ∈ l → e.s.size ≤ maxLen) ∧ len ≤ maxLen) :
    Calls Tryd.prog 3 #[.int .i64 c, .int .i64 sl, .bool own, .agg #[.int .i64 r, .int .i64 p], .agg #[.int .i64 z.1, .int .i64 z.2.1, .int .i64 z.2.2.1, .string z.2.2.2], .slice x len cap] w fun r w' => r = .returned (.bool true) ∧ Below w.heap.size w w' :=
  gives_walk c sl own r p z.1 z.2.1 z.2.2.1 z.2.2.2 x len cap w hT hz h
end Go.Proofs.YtnjhhedchohpkaaDoor
