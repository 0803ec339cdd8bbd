
/- DiskLasts. -/
import Derived.Test.YtceoehjjebkgpaaDkQ
import Derived.Test.YtceoehjjebkgpaaDkY
import Derived.Test.YtceoehjjebkgpaaDlF
namespace Go.Proofs.Ytceoehjjebkgpaa
set_option linter.unusedSimpArgs false
set_option linter.unusedVariables false
open Go.RowKit Go.Maps
theorem ha7_no (e : A7) : True := trivial
theorem read_bytes {W : World} {ao : Option Addr} {b : BL} (h : BySl W ao b) (n : Nat) (cap : Nat) : BySl W ao (b.take n) := h.pre n
set_option maxRecDepth 100000 in
set_option maxHeartbeats 8000000 in
theorem DiskLasts_walk (ao : Option Addr) (n c : Nat) (po : Option Addr) (np cp : Nat) (qo : Option Addr) (nq cq : Nat) (w : World) (hL : ∃ l : List A7, l.length = n ∧ HasA7 w ao l ∧ (∀ e, e ∈ l → FitA e) ∧ n ≤ 9223372036854775807)
    (hP : ∃ l : List Int, l.length = np ∧ HasInt w po l ∧ np ≤ 9223372036854775807) (hQ : ∃ l : List Int, l.length = nq ∧ HasInt w qo l ∧ nq ≤ 9223372036854775807) :
    Calls Try.prog 5 #[.slice ao n c, .slice po np cp, .slice qo nq cq] w fun e w' => e = .returned (.bool true) ∧ Below w.heap.size w w' := by
  obtain ⟨l, hln, hl, hfit, hnl⟩ := hL
  obtain ⟨p1, hp1n, hp1, hnp⟩ := hP
  obtain ⟨p2, hp2n, hp2, hnq⟩ := hQ
  have cF := few07_any l ao c 30 w hl (by omega) hfit
  rw [hln] at cF
  cases hf : fewA l 30
  · rw [hf] at cF
    go_enter Try.func5, Try.ntmps5
    go_wp2_with fail
    refine (cF).mono ?_
    rintro e _ ⟨rfl, rfl⟩
    go_wp2_with fail
    refine (works07_any _).mono ?_
    rintro e w1 ⟨rfl, hb⟩
    go_wp2_with fail
    go_ret
    exact ⟨rfl, hb⟩
  obtain ⟨hl30, hsm⟩ := fewA_small hf
  rw [hf] at cF
  by_cases ha0 : 20 < np
  · have n1 : (20 : Int) < (np : Int) := by omega
    go_enter Try.func5, Try.ntmps5
    go_wp2_with fail
    refine (cF).mono ?_
    rintro e _ ⟨rfl, rfl⟩
    go_wp2_with fail
    refine (works07_any _).mono ?_
    rintro e w1 ⟨rfl, hb⟩
    go_wp2_with fail
    go_ret
    exact ⟨rfl, hb⟩
  have n1 : ¬ (20 : Int) < (np : Int) := by omega
  by_cases ha4 : 20 < nq
  · have n2 : (20 : Int) < (nq : Int) := by omega
    go_enter Try.func5, Try.ntmps5
    go_wp2_with fail
    refine (cF).mono ?_
    rintro e _ ⟨rfl, rfl⟩
    go_wp2_with fail
    refine (works07_any _).mono ?_
    rintro e w1 ⟨rfl, hb⟩
    go_wp2_with fail
    go_ret
    exact ⟨rfl, hb⟩
  have n2 : ¬ (20 : Int) < (nq : Int) := by omega
  have hb := From.refl w
  have hs2 : ∀ (e : A7), e ∈ l → okS e.nm ∧ okS e.to ∧ e.y.length ≤ 16777216 ∧ e.pk.length ≤ 20 ∧ (-9223372036854775808 ≤ e.n ∧ e.n ≤ 9223372036854775807) := fun e he => by
    obtain ⟨h1, h2, h3, h4⟩ := hsm e he
    exact ⟨by unfold okS maxLen; omega, by unfold okS maxLen; omega, by omega, h4, (hfit e he).nb⟩
  rw [hln] at hl30
  have hn30 : n ≤ 30 := by omega
  clear hf hsm hfit hnl hl30
  go_enter Try.func5, Try.ntmps5
  go_wp2_with fail
  refine (cF).mono ?_
  rintro e _ ⟨rfl, rfl⟩
  clear cF
  go_wp2_with fail
  refine (dnew_any 60 _ (by decide) (by decide)).mono ?_
  rintro e w2 ⟨⟨d, mb, rfl, h, hwd, hwm⟩, hbn⟩
  replace hb := hb.step hbn
  clear hbn
  have hI : LastI ⟨60, false, 0, false⟩ [] 0 := ⟨⟨by show (0 : Int) ≤ 60; decide, by show (60 : Int) ≤ 16777216; decide, by show (0 : Int) ≤ 60; decide, by show 0 ≤ 900; decide, fun p hp => (by cases hp), by show (0 : Int) ≤ 0; decide, by show (0 : Int) ≤ 9223372036854775807; decide⟩, rfl, Nat.le_refl _, fun p hp => (by cases hp), fun p hp => (by cases hp)⟩
  go_wp2_with fail
  refine (num07_any _ _).mono ?_
  rintro e wx ⟨rfl, rfl⟩
  go_wp2_with fail
  have hwk := Lib.hid (And.intro hwd hwm)
  clear hwd hwm
  go_loopw [7, 9] (fun dv i wr => ∃ (j : Nat) (d mb : Nat) (D : Ds) (L : FMap), i = .int .i64 j ∧ j ≤ n ∧ dv = .pointer (some ⟨d, 0, none⟩) ∧ Hid (w.heap.size ≤ d ∧ w.heap.size ≤ mb) ∧ Hid (From w wr) ∧ Hid (DkW wr d mb D L) ∧ Hid (LastI D L j)) (fun _ i _ => n - (intOf i).toNat)
  case atStart => exact ⟨0, d, mb, _, _, rfl, by omega, rfl, hwk, Lib.hid hb, Lib.hid h, Lib.hid hI⟩
  case round =>
    clear hb h hI hwk
    obtain ⟨j, d, mb, D, L, rfl, hj, rfl, hwk, hb, h, hI⟩ := hrel
    replace hb := hb.out
    replace h := h.out
    replace hI := hI.out
    have hj0 : (0 : Int) ≤ (j : Int) := by omega
    have hk2 : ∀ x, x ∈ [d, mb] → w.heap.size ≤ x := by have := hwk.out; simp; omega
    have hk1 : ∀ x, x ∈ [d] → w.heap.size ≤ x := by have := hwk.out; simp; omega
    have hnd : (L.map (·.1)).Nodup := MapG.nodup h.map
    have hr1 : 1 ≤ D.room := by rw [hI.r]; decide
    by_cases hlt : j < n
    · have hj1 : (j : Int) < (n : Int) := by omega
      have hdw := h.lt
      have hmw := h.ltb
      obtain ⟨x, hx⟩ : ∃ x, l[j]? = some x := ⟨l[j], by simp [hln, hlt]⟩
      obtain ⟨o1, o2, o3, o4, o5⟩ := hs2 x (List.mem_of_getElem? hx)
      obtain ⟨b, off, rfl, -⟩ := hl j x hx
      go_wp2_with fail
      refine (dcopy_any d mb D L wr h).mono ?_
      rintro e w3 ⟨⟨c2, mc, rfl, hC, hwc, hwm⟩, hbn⟩
      replace hb := hb.step hbn
      replace h := h.step hbn
      clear hbn
      obtain ⟨b2, off2, hbb, hX⟩ := (hl.step hb.out) j x hx
      cases hbb
      have q0 := hX.h0
      have q1 := hX.h1
      have q2 := hX.h2
      have q3 := hX.h3
      have q4 := hX.h4
      have q5 := hX.h5
      have q6 := hX.h6
      have q7 := hX.h7
      have hd3 := h.lt
      have hm3 := h.ltb
      clear hx
      cases hcr : x.crash
      · rw [hcr] at q6
        cases hst : x.stop
        · rw [hst] at q5
          go_wp2_with fail
          refine (step07_any d mb D L x w3 h hI.g o1 o2 hX.hy o3).mono ?_
          rintro e w5 ⟨r, D', L', rfl, hrb, h5, hkn, hR⟩
          replace hb := hb.kx hkn hk2
          have hI2 := last_step hI (by omega) hR
          have hC5 : DkW w5 c2 mc D L := hC.kx hkn (by simp; omega) (by simp; omega) (fun p hp g hg => by
            rcases hC.con p hp with ⟨h1, -⟩ | ⟨g', h1, h2⟩
            · rw [h1] at hg; cases hg
            · rw [h1] at hg
              cases hg
              have e1 := h2.ne_blk h.blk
              have e2 := h2.ne_map h.map
              simp only [List.mem_cons, List.not_mem_nil, or_false, not_or]
              exact ⟨e1, e2⟩)
          rcases hR with ⟨h1, h2, rfl, rfl⟩ | ⟨rfl, -⟩ | ⟨rfl, -⟩
          · have e1 : (r == 0) = false := by simpa using h1
            have e2 : (r == 172) = false := by simpa using h2
            have cS := fun W (hW : Below w5.heap.size w5 W) => dsame_any c2 mc d mb _ _ _ W (hC5.step hW) (h5.step hW) rfl hI.g.k (fun p hp => ⟨p.2, getG_mem hnd hp, same_file _⟩)
            replace h := h5
            clear hkn hI o1 o2 o3 q0 q1 q2 q3 q4 q5 q6 q7 hX hst hcr hC5 h5 hC
            go_wp2_with fail
            refine (num07_any _ _).mono ?_
            rintro e wx ⟨rfl, rfl⟩
            go_wp2_with fail
            refine (cS _ (Below.refl _ _)).mono ?_
            rintro e w6 ⟨rfl, hbn⟩
            replace hb := hb.step hbn
            replace h := h.step hbn
            go_wp2_with fail
            go_roundw
            case rel => exact ⟨j + 1, d, mb, D', L', by go_num, by omega, by go_num, Lib.hid hwk.out, Lib.hid hb, Lib.hid h, Lib.hid hI2⟩
            case measure => simp [intOf]; omega
          · replace h := h5
            clear hkn hI o1 o2 o3 q0 q1 q2 q3 q4 q5 q6 q7 hX hst hcr hC5 h5 hC
            go_wp2_with fail
            refine (num07_any _ _).mono ?_
            rintro e wx ⟨rfl, rfl⟩
            go_wp2_with fail
            go_roundw
            case rel => exact ⟨j + 1, d, mb, D', L', by go_num, by omega, by go_num, Lib.hid hwk.out, Lib.hid hb, Lib.hid h, Lib.hid hI2⟩
            case measure => simp [intOf]; omega
          · replace h := h5
            clear hkn hI o1 o2 o3 q0 q1 q2 q3 q4 q5 q6 q7 hX hst hcr hC5 h5 hC
            go_wp2_with fail
            refine (num07_any _ _).mono ?_
            rintro e wx ⟨rfl, rfl⟩
            go_wp2_with fail
            go_roundw
            case rel => exact ⟨j + 1, d, mb, D', L', by go_num, by omega, by go_num, Lib.hid hwk.out, Lib.hid hb, Lib.hid h, Lib.hid hI2⟩
            case measure => simp [intOf]; omega
        · rw [hst] at q5
          go_wp2_with fail
          refine (stop_q d mb D L x.n w3 h).mono ?_
          rintro e w5 ⟨r, D', rfl, h5, hkn, hr, ha⟩
          replace hb := hb.kx hkn hk1
          have hI2 : LastI D' L (j + 1) := ⟨⟨by rw [hr]; exact hI.g.r1, by rw [hr]; exact hI.g.r2, by rw [hr]; exact hI.g.u, hI.g.n, hI.g.k, by have := hI.g.a1; omega, by have := hI.g.a2; omega⟩, by rw [hr]; exact hI.r, by have := hI.n; omega, hI.s, hI.m⟩
          replace h := h5
          clear hkn hI o1 o2 o3 q0 q1 q2 q3 q4 q5 q6 q7 hX hst hcr h5 hC
          go_wp2_with fail
          go_roundw
          case rel => exact ⟨j + 1, d, mb, D', L, by go_num, by omega, by go_num, Lib.hid hwk.out, Lib.hid hb, Lib.hid h, Lib.hid hI2⟩
          case measure => simp [intOf]; omega
      · rw [hcr] at q6
        go_wp2_with fail
        refine (dcrash_any d mb D L x.po x.pk x.cp w3 h hI.g hr1 hI.s hX.hp (by omega)).mono ?_
        rintro e w5 ⟨⟨d2, rfl, hd2, mb2, hm2, h5⟩, hbn⟩
        have hI2 := last_crash hI hnd x.pk
        have hsz := hb.size
        have hwk2 : w.heap.size ≤ d2 ∧ w.heap.size ≤ mb2 := by omega
        replace hb := hb.step hbn
        replace h := h5
        have hI3 : LastI ⟨D.room, false, 0, false⟩ (crM x.pk (srt L) L.length) (j + 1) := ⟨hI2.g, hI2.r, by have := hI2.n; omega, hI2.s, hI2.m⟩
        clear hbn hI o1 o2 o3 q0 q1 q2 q3 q4 q5 q6 q7 hX hcr h5 hC hI2
        go_wp2_with fail
        go_roundw
        case rel => exact ⟨j + 1, d2, mb2, _, _, by go_num, by omega, by go_num, Lib.hid hwk2, Lib.hid hb, Lib.hid h, Lib.hid hI3⟩
        case measure => simp [intOf]; omega
    · obtain rfl : j = n := by omega
      have hln2 := hI.n
      have I1 := last_crash hI hnd p1
      have hC1l : (crM p1 (srt L) L.length).length = L.length := crM_size (srt_nodup hnd) (by rw [srt_len]; omega)
      obtain ⟨xs, hxs⟩ : ∃ xs, srt L = xs := ⟨_, rfl⟩
      have hxl : xs.length = L.length := by rw [← hxs, srt_len]
      have hxn : (xs.map (·.1)).Nodup := by rw [← hxs]; exact srt_nodup hnd
      have hxm : ∀ p ∈ xs, p ∈ L := fun p hp => (srt_perm L).mem_iff.1 (by rw [hxs]; exact hp)
      have cC := dcrash_any d mb D L po p1 cp wr h hI.g hr1 hI.s (hp1.step hb) (by omega)
      rw [hp1n] at cC
      rw [hxs] at cC I1 hC1l
      obtain ⟨C1, hC1⟩ : ∃ C1, crM p1 xs L.length = C1 := ⟨_, rfl⟩
      have hfull : ∀ p ∈ C1, (p.2.b.length : Int) = p.2.s := fun p hp => by
        rw [← hC1] at hp
        obtain ⟨i, y, h1, h2, rfl⟩ := crM_mem hp
        exact (crF_len (hI.s y (hxm y (List.mem_of_getElem? h2)))).1
      have hget : ∀ (i : Nat) y, xs[i]? = some y → getG C1 y.1 = some (crF p1 i y) := fun i y hi => by
        rw [← hC1]
        exact crM_get hxn (by have := (List.getElem?_eq_some_iff.1 hi).1; omega) hi
      rw [hC1] at cC I1 hC1l
      have hfacts : Hid (∀ (i : Nat) y, xs[i]? = some y → nmB y.1 = true ∧ fileE L y.1 = 0 ∧ fileM L y.1 = y.2 ∧ fileE C1 y.1 = 0 ∧ fileM C1 y.1 = crF p1 i y) := Lib.hid (fun i y hi => by
        have hy := hxm y (List.mem_of_getElem? hi)
        have hm := hI.m y hy
        have g1 : getG L y.1 = some y.2 := getG_mem hnd hy
        have g2 := hget i y hi
        exact ⟨hm, by simp [fileE, hm, g1], by simp [fileM, hm, g1], by simp [fileE, hm, g2], by simp [fileM, hm, g2]⟩)
      go_wp2_with fail
      refine cC.mono ?_
      rintro e w3 ⟨⟨c1, rfl, hwc, mc, hwm, h1⟩, hbn⟩
      replace hb := hb.step hbn
      replace h := h.step hbn
      clear hbn cC
      have hn1 : (C1.map (·.1)).Nodup := MapG.nodup h1.map
      have cX := dcrash_any c1 mc _ C1 qo p2 cq w3 h1 I1.g hr1 I1.s (hp2.step hb) (by omega)
      rw [hp2n] at cX
      have I2 := last_crash I1 hn1 p2
      have hC2l : (crM p2 (srt C1) C1.length).length = C1.length := crM_size (srt_nodup hn1) (by rw [srt_len]; omega)
      have hagain : ∀ p ∈ C1, ∃ m2, getG (crM p2 (srt C1) C1.length) p.1 = some m2 ∧ SameF p.2 m2 := fun p hp => by
        have hp3 := (srt_perm C1).mem_iff.2 hp
        obtain ⟨i, hi, e⟩ := List.getElem_of_mem hp3
        have hi2 : (srt C1)[i]? = some p := by rw [List.getElem?_eq_getElem hi, e]
        obtain ⟨s1, m1⟩ := p
        have := crF_again (picks := p2) (k := i) (s := s1) (hfull _ hp)
        exact ⟨_, crM_get (srt_nodup hn1) (by rw [srt_len] at hi; exact hi) hi2, this.1, this.2⟩
      obtain ⟨C2, hC2⟩ : ∃ C2, crM p2 (srt C1) C1.length = C2 := ⟨_, rfl⟩
      rw [hC2] at cX I2 hC2l hagain
      go_wp2_with fail
      refine cX.mono ?_
      rintro e w4 ⟨⟨c2, rfl, hwc2, mc2, hwm2, h2⟩, hbn⟩
      replace hb := hb.step hbn
      replace h := h.step hbn
      replace h1 := h1.step hbn
      clear hbn cX
      go_wp2_with fail
      refine (dnames_any d mb D L w4 h (by omega) hI.g.k).mono ?_
      rintro e w5 ⟨⟨v, rfl, hS⟩, hbn⟩
      rw [hxs] at hS
      obtain ⟨so, sc, rfl, hSc⟩ := id hS
      have hsl : (xs.map (·.1)).length = L.length := by rw [List.length_map, hxl]
      rw [hsl]
      replace hb := hb.step hbn
      replace h := h.step hbn
      replace h1 := h1.step hbn
      replace h2 := h2.step hbn
      clear hbn
      go_wp2_with fail
      refine (num07_any _ _).mono ?_
      rintro e wx ⟨rfl, rfl⟩
      go_wp2_with fail
      refine (num07_any _ _).mono ?_
      rintro e wx ⟨rfl, rfl⟩
      go_wp2_with fail
      refine (dsame_any c1 mc c2 mc2 _ C1 C2 _ h1 h2 hC2l.symm I1.g.k hagain).mono ?_
      rintro e w6 ⟨rfl, hbn⟩
      replace hb := hb.step hbn
      replace h := h.step hbn
      replace h1 := h1.step hbn
      replace hS := hS.step hbn
      clear hbn
      go_wp2_with fail
      refine (dnames_any c1 mc _ C1 _ h1 (by omega) I1.g.k).mono ?_
      rintro e w7 ⟨⟨v, rfl, hS1⟩, hbn⟩
      obtain ⟨so1, sc1, rfl, -⟩ := hS1
      have hsl1 : ((srt C1).map (·.1)).length = L.length := by rw [List.length_map, srt_len, hC1l]
      rw [hsl1]
      replace hb := hb.step hbn
      replace h := h.step hbn
      replace h1 := h1.step hbn
      replace hS := hS.step hbn
      clear hbn
      go_wp2_with fail
      refine (ddead_any c1 mc _ C1 _ h1).mono ?_
      rintro e wx ⟨rfl, rfl⟩
      go_wp2_with fail
      rw [hsl] at hS
      have hG := hI.g
      have hG1 := I1.g
      have hsur := Lib.hid hI.s
      have hxm2 := Lib.hid hxm
      obtain ⟨N, hN⟩ : ∃ N, L.length = N := ⟨_, rfl⟩
      have hN9 : N ≤ 900 := by have := hG.n; omega
      rw [hN] at hxl hS ⊢
      clear h2 hC2 hC2l hagain I2 hget hfull hC1l hC1 hSc hI I1 hnd hn1 hxs hxn hxm hsl hsl1 hlt hj0
      go_loopw [17] (fun i W => ∃ k : Nat, i = .int .i64 k ∧ k ≤ N ∧ Hid (From w W) ∧ Hid (DkW W d mb D L) ∧ Hid (DkW W c1 mc ⟨D.room, false, 0, false⟩ C1) ∧ Hid (StrR W w4.heap.size (.slice so N sc) (xs.map (·.1)))) (fun i _ => N - (intOf i).toNat)
      case atStart => exact ⟨0, rfl, by omega, Lib.hid hb, Lib.hid h, Lib.hid h1, Lib.hid hS⟩
      case round =>
        clear hb h h1 hS
        obtain ⟨k, rfl, hkN, hb, h, h1, hS⟩ := hrel
        replace hb := hb.out
        replace h := h.out
        replace h1 := h1.out
        replace hS := hS.out
        have hk0 : (0 : Int) ≤ (k : Int) := by omega
        by_cases hlt : k < N
        · have hk1 : (k : Int) < (N : Int) := by omega
          obtain ⟨x, hx⟩ : ∃ x, xs[k]? = some x := ⟨xs[k], List.getElem?_eq_getElem (by omega)⟩
          obtain ⟨g1, g2, g3, g4, g5⟩ := hfacts.out k x hx
          have hxL := hxm2.out x (List.mem_of_getElem? hx)
          have hcl := crF_len (picks := p1) (k := k) (hsur.out x hxL)
          have hcn := crN_bd (picks := p1) (k := k) (hsur.out x hxL)
          have hb1 : (crF p1 k x).b = x.2.b.take (crF p1 k x).b.length := by
            simp only [crF]
            rw [List.length_take, ← List.take_eq_take_min]
          have hs0 := (hsur.out x hxL).1
          have hsN : x.2.s ≤ (crF p1 k x).b.length := by
            have : (crF p1 k x).s = crN p1 k x := rfl
            omega
          obtain ⟨s, hs⟩ : ∃ s, x.1 = s := ⟨_, rfl⟩
          obtain ⟨so2, sc2, hv2, hC⟩ := id hS
          obtain ⟨g, hao, hgb, hcell⟩ := hC k x.1 (by rw [List.getElem?_map, hx]; rfl)
          injection hv2 with e1 e2 e3
          subst e1 hao
          rw [hs] at g1 g2 g3 g4 g5 hcell
          have hok := nm_ok g1
          have cR := fun W hW => dread_any2 d mb D L s W hW hG hok
          have cR1 := fun W hW => dread_any c1 mc ⟨D.room, false, 0, false⟩ C1 s W hW hG1 hok
          have cS := fun W hW => dsure_any d mb D L s W hW hok
          simp only [g2, g3] at cR cS
          simp only [g4, g5] at cR1
          generalize crF p1 k x = m1 at *
          obtain ⟨m, hm⟩ : ∃ m, x.2 = m := ⟨_, rfl⟩
          rw [hm] at cR cS hcl hcn hs0 hsN hb1
          clear hC hxL hx e2 e3 g1 g2 g3 g4 g5
          go_wp2_with fail
          refine (cR _ h).mono ?_
          rintro e w8 ⟨⟨ao2, c2, rfl, hB2, hcc⟩, hbn⟩
          replace hb := hb.step hbn
          replace h := h.step hbn
          replace h1 := h1.step hbn
          replace hS := hS.step hbn
          replace hcell := (hbn.cell (World.block_lt_of_cell? _ _ hcell)).trans hcell
          clear hbn cR
          go_wp2_with fail
          refine (cS _ h).mono ?_
          rintro e w9 ⟨rfl, hbn⟩
          replace hb := hb.step hbn
          replace h := h.step hbn
          replace h1 := h1.step hbn
          replace hS := hS.step hbn
          replace hB2 := hB2.step hbn
          replace hcell := (hbn.cell (World.block_lt_of_cell? _ _ hcell)).trans hcell
          clear hbn cS
          go_wp2_with fail
          refine (cR1 _ h1).mono ?_
          rintro e w10 ⟨⟨ao3, c3, rfl, hB3⟩, hbn⟩
          replace hb := hb.step hbn
          replace h := h.step hbn
          replace h1 := h1.step hbn
          replace hS := hS.step hbn
          replace hB2 := hB2.step hbn
          clear hbn cR1 hcell
          obtain ⟨Z, hZ⟩ : ∃ Z, m1.b.length = Z := ⟨_, rfl⟩
          rw [hZ] at hb1 hcl hsN ⊢
          obtain ⟨Y, hY⟩ : ∃ Y, m.b.length = Y := ⟨_, rfl⟩
          rw [hY] at hcl hcn hcc ⊢
          have hZY := hcl.2
          have hT : BySl w10 ao2 (m.b.take Z) := hB2.pre Z
          rw [← hb1] at hT
          have cv1 : ∀ W, ExtA w10 W → ∀ c, (convert 22 9 (.slice ao2 Z c)).run Try.prog W = .ok (.string (mkS m1.b)) W := fun W hW c => by
            have := bySl_back (hT.step hW) c
            rw [hZ] at this
            exact this
          have cv2 : ∀ W, ExtA w10 W → (convert 22 9 (.slice ao3 Z c3)).run Try.prog W = .ok (.string (mkS m1.b)) W := fun W hW => by
            have := bySl_back (hB3.step hW) c3
            rw [hZ] at this
            exact this
          obtain ⟨sy, hsy⟩ : ∃ sy, mkS m1.b = sy := ⟨_, rfl⟩
          rw [hsy] at cv1 cv2
          obtain ⟨ss, hss⟩ : ∃ ss, m.s = ss := ⟨_, rfl⟩
          rw [hss] at hcn hs0 hsN ⊢
          have n3 : decide ((Z : Int) < ss) = false := decide_eq_false (by omega)
          have n7 : decide (Y < Z) = false := decide_eq_false (by omega)
          have n4 : decide ((Y : Int) < (Z : Int)) = false := decide_eq_false (by omega)
          have n5 : (0 : Int) ≤ (Z : Int) := by omega
          have n6 : (Z : Int) ≤ (c2 : Int) := by omega
          clear hsN hs0 hss hsy hT hb1 hB2 hB3 hcl hcn hY hZ hZY hm hs hxm2 hcc
          go_upto_region 28 with fail
          refine wp_region_extB (by kernel_rfl) (by kernel_rfl) ?_
          repeat
            (first
              | go_big_quiet_skip
              | (go_big_quiet_want
                 go_big_quiet_op
                 first
                   | go_big_quiet_on
                   | (apply Exists.intro
                      refine ⟨fun w' hC9 => ?_, ?_⟩
                      · (first
                          | with_reducible rfl
                          | (go_at_call 11; refine (num07_any _ _).mono ?_; rintro e w2 ⟨rfl, rfl⟩; exact ⟨rfl, hC9⟩)
                          | (go_simp; done)
                          | (go_simp; with_reducible rfl))
                      go_big_quiet_on)))
          refine wpQuiet_nil ?_
          intro w11 hq
          replace hb := hb.step hq
          replace h := h.step hq
          replace h1 := h1.step hq
          replace hS := hS.step hq
          clear hq cv1 cv2
          go_wp2_with fail
          go_roundw
          case rel => exact ⟨k + 1, by go_num, by omega, Lib.hid hb, Lib.hid h, Lib.hid h1, Lib.hid hS⟩
          case measure => simp [intOf]; omega
        · obtain rfl : k = N := by omega
          clear h h1 hS
          go_wp2_with fail
          refine (works07_any _).mono ?_
          rintro e w9 ⟨rfl, hb9⟩
          replace hb := hb.step hb9
          go_wp2_with fail
          go_ret
          exact ⟨rfl, hb.out⟩
end Go.Proofs.Ytceoehjjebkgpaa
