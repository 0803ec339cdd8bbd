
/- Walk of LearnerStays. -/
import Derived.Test.YtcahkcbenanfnaaDoorLnI
namespace Go.Proofs.YtcahkcbenanfnaaDoor
set_option linter.unusedSimpArgs false
set_option linter.unusedVariables false
open Go.RowKit Go.Maps
set_option maxRecDepth 100000 in
set_option maxHeartbeats 2000000 in
theorem stays_few (c sl : Int) (l : List La) (ao : Option Addr) (cap : Nat) (w : World) (hT : Tabs w) (hE : HasLa w ao l) (hl : l.length ≤ 9223372036854775807) (hs : ∀ e, e ∈ l → e.s.size ≤ 9223372036854775807) (hf : fewL l 40 = false) :
    Calls Tryd.prog 3 #[.int .i64 c, .int .i64 sl, .slice ao l.length cap] w fun e w' => e = .returned (.bool true) ∧ Below w.heap.size w w' := by
  have cF := fun W (hW : Below w.heap.size w W) => few16_any l ao cap 40 W (hE.step hW) hl hs
  rw [hf] at cF
  clear hf hE hs
  have hb := From.refl w
  go_enter Tryd.func3, Tryd.ntmps3
  go_wp2_with fail
  refine (cF _ hb.out).mono ?_
  rintro e w1 ⟨rfl, hbn⟩
  replace hb := hb.step hbn
  clear hbn
  go_wp2_with fail
  refine (works16_any _ (hT.step hb)).mono ?_
  rintro e w2 ⟨rfl, hbn⟩
  replace hb := hb.step hbn
  clear hbn
  go_wp2_with fail
  go_ret
  exact ⟨rfl, hb⟩
set_option maxRecDepth 100000 in
set_option maxHeartbeats 2000000 in
theorem stays_no (c sl : Int) (l : List La) (ao : Option Addr) (cap : Nat) (w : World) (hT : Tabs w) (hE : HasLa w ao l) (hl : l.length ≤ 9223372036854775807) (hs : ∀ e, e ∈ l → e.s.size ≤ 9223372036854775807) (hf : fewL l 40 = true) (h0 : opErr c sl ≠ 0) :
    Calls Tryd.prog 3 #[.int .i64 c, .int .i64 sl, .slice ao l.length cap] w fun e w' => e = .returned (.bool true) ∧ Below w.heap.size w w' := by
  have cF := fun W (hW : Below w.heap.size w W) => few16_any l ao cap 40 W (hE.step hW) hl hs
  rw [hf] at cF
  have cA := fun W => new16_no c sl W h0
  have h2 : ((opErr c sl) != 0) = true := by simpa using h0
  generalize opErr c sl = E at *
  clear hf hE hs
  have hb := From.refl w
  go_enter Tryd.func3, Tryd.ntmps3
  go_wp2_with fail
  refine (cF _ hb.out).mono ?_
  rintro e w1 ⟨rfl, hbn⟩
  replace hb := hb.step hbn
  clear hbn
  go_wp2_with fail
  refine (cA _).mono ?_
  rintro e w3 ⟨rfl, hbn⟩
  replace hb := hb.step hbn
  clear hbn
  go_wp2_with fail
  refine (num16_any E _).mono ?_
  rintro e wx ⟨rfl, rfl⟩
  go_wp2_with fail
  refine (works16_any _ (hT.step hb)).mono ?_
  rintro e w2 ⟨rfl, hbn⟩
  replace hb := hb.step hbn
  clear hbn
  go_wp2_with fail
  go_ret
  exact ⟨rfl, hb⟩
set_option maxRecDepth 100000 in
set_option maxHeartbeats 8000000 in
theorem stays_yes (c sl : Int) (l : List La) (ao : Option Addr) (cap : Nat) (w : World) (hT : Tabs w) (hE : HasLa w ao l) (hl : l.length ≤ 9223372036854775807) (hs : ∀ e, e ∈ l → e.s.size ≤ 9223372036854775807) (hf : fewL l 40 = true) (h0 : opErr c sl = 0) :
    Calls Tryd.prog 3 #[.int .i64 c, .int .i64 sl, .slice ao l.length cap] w fun e w' => e = .returned (.bool true) ∧ Below w.heap.size w w' := by
  have cF := fun W (hW : Below w.heap.size w W) => few16_any l ao cap 40 W (hE.step hW) hl hs
  rw [hf] at cF
  have hl40 := (fewL_small hf).1
  have cA := fun W => new16_ok c sl W h0
  have hG0 : GoodL (newA c sl) [] := ⟨h0, fun x h => by cases h⟩
  generalize newA c sl = A0 at *
  obtain ⟨N, hN⟩ : ∃ N, l.length = N := ⟨_, rfl⟩
  rw [hN] at cF hl40 ⊢
  clear hf h0
  have HS := Lib.hid hs
  clear hs
  have HN := Lib.hid hN
  clear hN
  have hb := From.refl w
  go_enter Tryd.func3, Tryd.ntmps3
  go_wp2_with fail
  refine (cF _ hb.out).mono ?_
  rintro e w1 ⟨rfl, hbn⟩
  replace hb := hb.step hbn
  clear hbn
  go_wp2_with fail
  refine (cA _).mono ?_
  rintro e w2 ⟨⟨g, b, rfl, h, hg, hbb⟩, hbn⟩
  have hsz1 := hb.size
  replace hb := hb.step hbn
  clear hbn cA cF
  have hwg : w.heap.size ≤ g := by omega
  have hwb : w.heap.size ≤ b := by omega
  clear hg hbb hsz1
  go_wp2_with fail
  refine (num16_any 0 _).mono ?_
  rintro e wx ⟨rfl, rfl⟩
  go_wp2_with fail
  go_loopw [9] (fun u wr => ∃ (j : Nat) (A : Lrn) (L : HMap), u = .int .i64 j ∧ j ≤ N ∧ LW wr g b A L ∧ GoodL A L ∧ L.length ≤ j ∧ From w wr) (fun u _ => N - (intOf u).toNat)
  case atStart => exact ⟨0, _, _, rfl, by omega, h, hG0, Nat.le_refl _, hb⟩
  clear h hG0 hb
  case' round =>
    obtain ⟨j, A, L, rfl, hj, h, hG, hLj, hb⟩ := hrel
    have j0 : (0 : Int) ≤ (j : Int) := by omega
    by_cases hlt : j < N
    · have j1 : (j : Int) < (N : Int) := by omega
      obtain ⟨e, he⟩ : ∃ e, l[j]? = some e := ⟨_, List.getElem?_eq_getElem (by have := HN.out; omega)⟩
      have hse := HS.out e (List.mem_of_getElem? he)
      have hltb := hE.lt he
      go_wp2_with fail
      refine (chosen_at g b A L _ h hG.ne).mono ?_
      rintro e w3 ⟨rfl, hbn⟩
      replace hb := hb.step hbn
      replace h := h.step hbn
      clear hbn
      unfold kV
      go_upto_region 10 with fail
      have hlg := h.lt
      have hlb := h.ltb
      obtain ⟨gX, hgX⟩ : ∃ g, (w3).heap.size = g := ⟨_, rfl⟩
      have X := Blk.newV hgX 33 #[.int .i64 A.k, .int .i64 A.m, .int .i64 A.n, .string A.s]
      have hbn := (Below.refl (w3).heap.size w3).alloc (Nat.le_refl _) (.cells #[.int .i64 A.k, .int .i64 A.m, .int .i64 A.n, .string A.s] 33)
      replace hb := hb.step hbn
      replace h := h.step hbn
      clear hbn
      rw [hgX]
      generalize (w3).alloc (.cells #[.int .i64 A.k, .int .i64 A.m, .int .i64 A.n, .string A.s] 33) = w4 at *
      rw [hgX] at hlg hlb
      obtain ⟨ba, off, rfl, hQ⟩ := (hE.step hb.out) j e he
      have hbl := hltb ba off rfl
      obtain ⟨ew, pl, er, ep, ek, em, en, es⟩ := e
      have q0 := hQ.h0
      have q1 := hQ.h1
      have q2 := hQ.h2
      have q3 := hQ.h3
      have q4 := hQ.h4
      have q5 := hQ.h5
      have q6 := hQ.h6
      have q7 := hQ.h7
      simp only at q0 q1 q2 q3 q4 q5 q6 q7 hse
      clear hQ he hltb
      by_cases hw0 : ew = 0
      · subst hw0
        have cA := fun W hW => hear_any g b A L pl er ep ek em en es W hW hG hse
        have hst := hear_stays A L pl er ep ek em en es
        have hG2 := hG.hear pl er ep ek em en es
        have hL2 := heL_len A L pl er ep ek em en es
        unfold bV kV at cA
        generalize heV A L pl er ep ek em en es = V at *
        generalize heE A L pl er ep ek em en es = E at *
        generalize heA A L pl er ep ek em en es = A2 at *
        generalize heL A L pl er ep ek em en es = L2 at *
        go_upto_region 14 with fail
        replace q1 := extA_cell q1
        replace q2 := extA_cell q2
        replace q3 := extA_cell q3
        replace q4 := extA_cell q4
        replace q5 := extA_cell q5
        replace q6 := extA_cell q6
        replace q7 := extA_cell q7
        have hLm : L.length < maxLen := Nat.lt_of_le_of_lt (show L.length ≤ 40 by omega) (of_decide_eq_true (by kernel_rfl))
        refine wp_region_head (C := ExtA w4) 16 (by kernel_rfl) (by decide) (by kernel_rfl) ⟨rfl, rfl, rfl, Nat.le_refl _, fun _ _ => rfl⟩ ?_
        simp only [List.take_succ_cons, List.take_zero]
        repeat
          (first
            | go_big_quiet_skip
            | (go_big_quiet_want
               go_big_quiet_op
               first
                 | go_big_quiet_on
                 | (apply Exists.intro
                    refine ⟨fun w' hC9 => ?_, ?_⟩
                    · (first
                        | with_reducible rfl
                        | fail
                        | (go_simp; done)
                        | (go_simp; with_reducible rfl))
                    go_big_quiet_on)))
        refine wpQuiet_nil ?_
        intro wq hq
        replace hb := hb.step hq
        replace h := h.step hq
        replace X := X.step hq
        change wpAny _ _ _ _ (4 + 1) _ _ _
        refine wpAny_ready (rs := [16]) (by kernel_rfl) (by simp) ?_
        refine AllReady.cons rfl (fun K hK => ?_) AllReady.nil
        go_simp
        refine (cA _ h (hT.step hb) hLm).mono ?_
        rintro e w8 ⟨⟨rfl, h2⟩, hk⟩
        refine hK _ _ ?_
        clear hK K
        refine wpAny_take (i := 17) (v := ?_) rfl (by kernel_rfl) (by kernel_rfl) (by kernel_rfl) (fun _ _ _ h => h) (Or.inl ⟨by kernel_rfl, ?_⟩) ?_
        rotate_left
        · intro W
          go_simp
          try with_reducible rfl
        dsimp only [Act.put]
        refine wpAny_take (i := 18) (v := ?_) rfl (by kernel_rfl) (by kernel_rfl) (by kernel_rfl) (fun _ _ _ h => h) (Or.inl ⟨by kernel_rfl, ?_⟩) ?_
        rotate_left
        · intro W
          go_simp
          try with_reducible rfl
        dsimp only [Act.put]
        refine wpAny_take (i := 19) (v := ?_) rfl (by kernel_rfl) (by kernel_rfl) (by kernel_rfl) (fun _ _ _ h => h) (Or.inl ⟨by kernel_rfl, ?_⟩) ?_
        rotate_left
        · intro W
          go_simp
          try with_reducible rfl
        dsimp only [Act.put]
        refine wpAny_ready (rs := [20]) (by kernel_rfl) (by simp) ?_
        refine AllReady.cons rfl (fun K hK => ?_) AllReady.nil
        go_simp
        refine hK _ _ ?_
        clear hK K
        refine wpAny_done (by kernel_rfl) ?_ _
        clear q0 q1 q2 q3 q4 q5 q6 q7 cA h
        replace hb := hb.kx hk (by first | (simp; done) | (simp; omega))
        replace X := X.kx hk (by first | (simp; done) | (simp; omega))
        clear hk
        have h := h2
        clear h2
        obtain ⟨hs1, hs2⟩ := hst
        go_wp2_with fail
        refine (chosen_at g b A2 L2 _ h hG2.ne).mono ?_
        rintro e w5 ⟨rfl, hbn⟩
        replace hb := hb.step hbn
        replace h := h.step hbn
        replace X := X.step hbn
        clear hbn
        unfold kV
        go_upto_region 18 with fail
        obtain ⟨gY, hgY⟩ : ∃ g, (w5).heap.size = g := ⟨_, rfl⟩
        have lt_h_Y := h.lt
        rw [hgY] at lt_h_Y
        have lt_X_Y := X.lt
        rw [hgY] at lt_X_Y
        have Y := Blk.newV hgY 33 #[.int .i64 A2.k, .int .i64 A2.m, .int .i64 A2.n, .string A2.s]
        have hbn := (Below.refl (w5).heap.size w5).alloc (Nat.le_refl _) (.cells #[.int .i64 A2.k, .int .i64 A2.m, .int .i64 A2.n, .string A2.s] 33)
        replace hb := hb.step hbn
        replace h := h.step hbn
        replace X := X.step hbn
        clear hbn
        rw [hgY]
        generalize (w5).alloc (.cells #[.int .i64 A2.k, .int .i64 A2.m, .int .i64 A2.n, .string A2.s] 33) = w6 at *
        have X_0 := X.cell (j := 0) rfl
        have X_1 := X.cell (j := 1) rfl
        have X_2 := X.cell (j := 2) rfl
        have X_3 := X.cell (j := 3) rfl
        have Y_0 := Y.cell (j := 0) rfl
        have Y_1 := Y.cell (j := 1) rfl
        have Y_2 := Y.cell (j := 2) rfl
        have Y_3 := Y.cell (j := 3) rfl
        cases hi : A.is
        · rw [hi] at hs2
          cases hi2 : A2.is
          · rw [hi2] at hs2
            obtain rfl : V = false := by simpa using hs2
            clear hs1 hs2
            go_wp2_with fail
            go_roundw
            case rel => exact ⟨j + 1, A2, L2, by go_num, by omega, h, hG2, by omega, hb⟩
            case measure => simp [intOf]; omega
          · rw [hi2] at hs2
            obtain rfl : V = true := by simpa using hs2
            clear hs1 hs2
            go_wp2_with fail
            go_roundw
            case rel => exact ⟨j + 1, A2, L2, by go_num, by omega, h, hG2, by omega, hb⟩
            case measure => simp [intOf]; omega
        · have h3 := hs1 hi
          subst h3
          rw [hi] at hs2
          obtain rfl : V = false := by simpa using hs2
          have hne := fun W => ne_entry A2.k A2.m A2.n A2.s A2.k A2.m A2.n A2.s W
          have hq4 : eq4 A2.k A2.m A2.n A2.s A2.k A2.m A2.n A2.s = true := by unfold eq4; simp
          simp only [hq4] at hne
          clear hs1 hs2 hq4
          go_wp2_with fail
          go_roundw
          case rel => exact ⟨j + 1, A2, L2, by go_num, by omega, h, hG2, by omega, hb⟩
          case measure => simp [intOf]; omega
      · by_cases hw1 : ew = 1
        · subst hw1
          have cA := fun W hW => told_any g b A L ek em en es W hW hG hse
          have hst := told_stays A ek em en es
          have hG2 := hG.told ek em en es
          unfold kV at cA
          generalize teV A ek em en es = V at *
          generalize teE A ek em en es = E at *
          generalize teA A ek em en es = A2 at *
          obtain ⟨L2, hLE⟩ : ∃ L2, L = L2 := ⟨_, rfl⟩
          rw [hLE] at cA hG2 hLj
          rw [hLE] at h
          go_wp2_with fail
          refine (cA _ h (hT.step hb)).mono ?_
          rintro e w8 ⟨⟨rfl, h2⟩, hbn⟩
          replace hb := hb.kx hbn (by first | (simp; done) | (simp; omega))
          replace X := X.kx hbn (by first | (simp; done) | (simp; omega))
          clear hbn
          clear q0 q1 q2 q3 q4 q5 q6 q7 cA hLE hG h
          have h := h2
          clear h2
          obtain ⟨hs1, hs2⟩ := hst
          go_wp2_with fail
          refine (chosen_at g b A2 L2 _ h hG2.ne).mono ?_
          rintro e w5 ⟨rfl, hbn⟩
          replace hb := hb.step hbn
          replace h := h.step hbn
          replace X := X.step hbn
          clear hbn
          unfold kV
          go_upto_region 18 with fail
          obtain ⟨gY, hgY⟩ : ∃ g, (w5).heap.size = g := ⟨_, rfl⟩
          have lt_h_Y := h.lt
          rw [hgY] at lt_h_Y
          have lt_X_Y := X.lt
          rw [hgY] at lt_X_Y
          have Y := Blk.newV hgY 33 #[.int .i64 A2.k, .int .i64 A2.m, .int .i64 A2.n, .string A2.s]
          have hbn := (Below.refl (w5).heap.size w5).alloc (Nat.le_refl _) (.cells #[.int .i64 A2.k, .int .i64 A2.m, .int .i64 A2.n, .string A2.s] 33)
          replace hb := hb.step hbn
          replace h := h.step hbn
          replace X := X.step hbn
          clear hbn
          rw [hgY]
          generalize (w5).alloc (.cells #[.int .i64 A2.k, .int .i64 A2.m, .int .i64 A2.n, .string A2.s] 33) = w6 at *
          have X_0 := X.cell (j := 0) rfl
          have X_1 := X.cell (j := 1) rfl
          have X_2 := X.cell (j := 2) rfl
          have X_3 := X.cell (j := 3) rfl
          have Y_0 := Y.cell (j := 0) rfl
          have Y_1 := Y.cell (j := 1) rfl
          have Y_2 := Y.cell (j := 2) rfl
          have Y_3 := Y.cell (j := 3) rfl
          cases hi : A.is
          · rw [hi] at hs2
            cases hi2 : A2.is
            · rw [hi2] at hs2
              obtain rfl : V = false := by simpa using hs2
              clear hs1 hs2
              go_wp2_with fail
              go_roundw
              case rel => exact ⟨j + 1, A2, L2, by go_num, by omega, h, hG2, by omega, hb⟩
              case measure => simp [intOf]; omega
            · rw [hi2] at hs2
              obtain rfl : V = true := by simpa using hs2
              clear hs1 hs2
              go_wp2_with fail
              go_roundw
              case rel => exact ⟨j + 1, A2, L2, by go_num, by omega, h, hG2, by omega, hb⟩
              case measure => simp [intOf]; omega
          · have h3 := hs1 hi
            subst h3
            rw [hi] at hs2
            obtain rfl : V = false := by simpa using hs2
            have hne := fun W => ne_entry A2.k A2.m A2.n A2.s A2.k A2.m A2.n A2.s W
            have hq4 : eq4 A2.k A2.m A2.n A2.s A2.k A2.m A2.n A2.s = true := by unfold eq4; simp
            simp only [hq4] at hne
            clear hs1 hs2 hq4
            go_wp2_with fail
            go_roundw
            case rel => exact ⟨j + 1, A2, L2, by go_num, by omega, h, hG2, by omega, hb⟩
            case measure => simp [intOf]; omega
        · have cA := fun W hW => skipped_any g b A L W hW hG
          have hst := told_stays A 1 0 0 ⟨#[]⟩
          have hG2 := hG.told 1 0 0 ⟨#[]⟩
          generalize teV A 1 0 0 ⟨#[]⟩ = V at *
          generalize teE A 1 0 0 ⟨#[]⟩ = E at *
          generalize teA A 1 0 0 ⟨#[]⟩ = A2 at *
          obtain ⟨L2, hLE⟩ : ∃ L2, L = L2 := ⟨_, rfl⟩
          rw [hLE] at cA hG2 hLj h
          go_wp2_with fail
          refine (cA _ h (hT.step hb)).mono ?_
          rintro e w8 ⟨⟨rfl, h2⟩, hbn⟩
          replace hb := hb.kx hbn (by first | (simp; done) | (simp; omega))
          replace X := X.kx hbn (by first | (simp; done) | (simp; omega))
          clear hbn
          clear q0 q1 q2 q3 q4 q5 q6 q7 cA hLE hG h
          have h := h2
          clear h2
          obtain ⟨hs1, hs2⟩ := hst
          go_wp2_with fail
          refine (chosen_at g b A2 L2 _ h hG2.ne).mono ?_
          rintro e w5 ⟨rfl, hbn⟩
          replace hb := hb.step hbn
          replace h := h.step hbn
          replace X := X.step hbn
          clear hbn
          unfold kV
          go_upto_region 18 with fail
          obtain ⟨gY, hgY⟩ : ∃ g, (w5).heap.size = g := ⟨_, rfl⟩
          have lt_h_Y := h.lt
          rw [hgY] at lt_h_Y
          have lt_X_Y := X.lt
          rw [hgY] at lt_X_Y
          have Y := Blk.newV hgY 33 #[.int .i64 A2.k, .int .i64 A2.m, .int .i64 A2.n, .string A2.s]
          have hbn := (Below.refl (w5).heap.size w5).alloc (Nat.le_refl _) (.cells #[.int .i64 A2.k, .int .i64 A2.m, .int .i64 A2.n, .string A2.s] 33)
          replace hb := hb.step hbn
          replace h := h.step hbn
          replace X := X.step hbn
          clear hbn
          rw [hgY]
          generalize (w5).alloc (.cells #[.int .i64 A2.k, .int .i64 A2.m, .int .i64 A2.n, .string A2.s] 33) = w6 at *
          have X_0 := X.cell (j := 0) rfl
          have X_1 := X.cell (j := 1) rfl
          have X_2 := X.cell (j := 2) rfl
          have X_3 := X.cell (j := 3) rfl
          have Y_0 := Y.cell (j := 0) rfl
          have Y_1 := Y.cell (j := 1) rfl
          have Y_2 := Y.cell (j := 2) rfl
          have Y_3 := Y.cell (j := 3) rfl
          cases hi : A.is
          · rw [hi] at hs2
            cases hi2 : A2.is
            · rw [hi2] at hs2
              obtain rfl : V = false := by simpa using hs2
              clear hs1 hs2
              go_wp2_with fail
              go_roundw
              case rel => exact ⟨j + 1, A2, L2, by go_num, by omega, h, hG2, by omega, hb⟩
              case measure => simp [intOf]; omega
            · rw [hi2] at hs2
              obtain rfl : V = true := by simpa using hs2
              clear hs1 hs2
              go_wp2_with fail
              go_roundw
              case rel => exact ⟨j + 1, A2, L2, by go_num, by omega, h, hG2, by omega, hb⟩
              case measure => simp [intOf]; omega
          · have h3 := hs1 hi
            subst h3
            rw [hi] at hs2
            obtain rfl : V = false := by simpa using hs2
            have hne := fun W => ne_entry A2.k A2.m A2.n A2.s A2.k A2.m A2.n A2.s W
            have hq4 : eq4 A2.k A2.m A2.n A2.s A2.k A2.m A2.n A2.s = true := by unfold eq4; simp
            simp only [hq4] at hne
            clear hs1 hs2 hq4
            go_wp2_with fail
            go_roundw
            case rel => exact ⟨j + 1, A2, L2, by go_num, by omega, h, hG2, by omega, hb⟩
            case measure => simp [intOf]; omega
    · obtain rfl : N = j := by omega
      go_wp2_with fail
      go_wp2_with fail
      refine (works16_any _ (hT.step hb)).mono ?_
      rintro e w2 ⟨rfl, hbn⟩
      replace hb := hb.step hbn
      clear hbn
      go_wp2_with fail
      go_ret
      exact ⟨rfl, hb⟩
theorem LearnerStays_walk (c sl : Int) (x : Option Addr) (len cap : Nat) (w : World) (hT : Tabs w) (hA : ∃ l : List La, l.length = len ∧ HasLa w x l ∧ (∀ e, e ∈ l → e.s.size ≤ maxLen) ∧ len ≤ maxLen) :
    Calls Tryd.prog 3 #[.int .i64 c, .int .i64 sl, .slice x len cap] w fun e w' => e = .returned (.bool true) ∧ Below w.heap.size w w' := by
  obtain ⟨l, rfl, hE, hs, hl⟩ := hA
  cases hf : fewL l 40
  · exact stays_few c sl l x cap w hT hE hl hs hf
  · by_cases h0 : opErr c sl = 0
    · exact stays_yes c sl l x cap w hT hE hl hs hf h0
    · exact stays_no c sl l x cap w hT hE hl hs hf h0
end Go.Proofs.YtcahkcbenanfnaaDoor
