
/- Package disk: Remove, Rename. -/
import Derived.Test.YtceoehjjebkgpaaDkU
namespace Go.Proofs.Ytceoehjjebkgpaa
set_option linter.unusedSimpArgs false
set_option linter.unusedVariables false
open Go.RowKit Go.Maps
set_option maxRecDepth 100000 in
set_option maxHeartbeats 2000000 in
theorem drem_err (d mb : Nat) (D : Ds) (L : FMap) (s : ByteArray) (w : World) (h : DkW w d mb D L) (hs : okS s) (he : fileE L s ≠ 0) :
    Calls Try.prog 32 #[.pointer (some ⟨d, 0, none⟩), .string s] w fun e w' => e = .returned (.int .i64 (fileE L s)) ∧ Below w.heap.size w w' := by
  have cO := fun q1 q2 W (hW : DkW W d mb D L) => dof_err_rem q1 q2 d mb D L s W hW hs he
  generalize fileE L s = E at *
  have hb := From.refl w
  go_enter Try.func32, Try.ntmps32
  go_upto_region 1 with fail
  obtain ⟨gP, hgP⟩ : ∃ g, (w).heap.size = g := ⟨_, rfl⟩
  have P := Blk.newV hgP 25 #[.pointer (some ⟨d, 0, none⟩)]
  have hbn := (Below.refl (w).heap.size w).alloc (Nat.le_refl _) (.cells #[.pointer (some ⟨d, 0, none⟩)] 25)
  replace hb := hb.step hbn
  replace h := h.step hbn
  clear hbn
  rw [hgP]
  have szP := alloc_size hgP (.cells #[.pointer (some ⟨d, 0, none⟩)] 25)
  generalize (w).alloc (.cells #[.pointer (some ⟨d, 0, none⟩)] 25) = w1 at *
  obtain ⟨gN, hgN⟩ : ∃ g, (w1).heap.size = g := ⟨_, rfl⟩
  have lt_P_N := P.lt
  rw [hgN] at lt_P_N
  have N := Blk.newV hgN 9 #[.string s]
  have hbn := (Below.refl (w1).heap.size w1).alloc (Nat.le_refl _) (.cells #[.string s] 9)
  replace hb := hb.step hbn
  replace h := h.step hbn
  replace P := P.step hbn
  clear hbn
  have egN : gP + 1 = gN := szP.symm.trans hgN
  rw [egN]
  clear szP
  generalize (w1).alloc (.cells #[.string s] 9) = w2 at *
  have hPw : w.heap.size ≤ gP := by omega
  have hNw : w.heap.size ≤ gN := by omega
  clear hgP hgN egN
  have P_0 := P.cell (j := 0) rfl
  have N_0 := N.cell (j := 0) rfl
  go_wp2_with fail
  refine (cO _ _ _ h).mono ?_
  rintro e w7 ⟨rfl, hbn⟩
  replace hb := hb.step hbn
  replace h := h.step hbn
  replace P := P.step hbn
  replace N := N.step hbn
  go_wp2_with fail
  go_ret
  exact ⟨rfl, hb.out⟩
set_option maxRecDepth 100000 in
set_option maxHeartbeats 2000000 in
theorem drem_dead (d mb : Nat) (D : Ds) (L : FMap) (s : ByteArray) (w : World) (h : DkW w d mb D L) (hs : okS s) (he : fileE L s = 0) (hd : D.dead = true) :
    Calls Try.prog 32 #[.pointer (some ⟨d, 0, none⟩), .string s] w fun e w' => e = .returned (.int .i64 172) ∧ Below w.heap.size w w' := by
  have hb := From.refl w
  go_enter Try.func32, Try.ntmps32
  go_upto_region 1 with fail
  obtain ⟨gP, hgP⟩ : ∃ g, (w).heap.size = g := ⟨_, rfl⟩
  have P := Blk.newV hgP 25 #[.pointer (some ⟨d, 0, none⟩)]
  have hbn := (Below.refl (w).heap.size w).alloc (Nat.le_refl _) (.cells #[.pointer (some ⟨d, 0, none⟩)] 25)
  replace hb := hb.step hbn
  replace h := h.step hbn
  clear hbn
  rw [hgP]
  have szP := alloc_size hgP (.cells #[.pointer (some ⟨d, 0, none⟩)] 25)
  generalize (w).alloc (.cells #[.pointer (some ⟨d, 0, none⟩)] 25) = w1 at *
  obtain ⟨gN, hgN⟩ : ∃ g, (w1).heap.size = g := ⟨_, rfl⟩
  have lt_P_N := P.lt
  rw [hgN] at lt_P_N
  have N := Blk.newV hgN 9 #[.string s]
  have hbn := (Below.refl (w1).heap.size w1).alloc (Nat.le_refl _) (.cells #[.string s] 9)
  replace hb := hb.step hbn
  replace h := h.step hbn
  replace P := P.step hbn
  clear hbn
  have egN : gP + 1 = gN := szP.symm.trans hgN
  rw [egN]
  clear szP
  generalize (w1).alloc (.cells #[.string s] 9) = w2 at *
  have hPw : w.heap.size ≤ gP := by omega
  have hNw : w.heap.size ≤ gN := by omega
  clear hgP hgN egN
  have P_0 := P.cell (j := 0) rfl
  have N_0 := N.cell (j := 0) rfl
  go_wp2_with fail
  refine (dof_dead_rem _ _ d mb D L s _ h hs he hd).mono ?_
  rintro e w7 ⟨rfl, hbn⟩
  replace hb := hb.step hbn
  replace h := h.step hbn
  replace P := P.step hbn
  replace N := N.step hbn
  go_wp2_with fail
  go_ret
  exact ⟨rfl, hb.out⟩
set_option maxRecDepth 100000 in
set_option maxHeartbeats 2000000 in
theorem drem_die (d mb : Nat) (D : Ds) (L : FMap) (s : ByteArray) (w : World) (h : DkW w d mb D L) (hs : okS s) (he : fileE L s = 0) (hd : D.dead = false) (hst : D.stop = true) (ha : D.after = 0) :
    Calls Try.prog 32 #[.pointer (some ⟨d, 0, none⟩), .string s] w fun e w' => e = .returned (.int .i64 172) ∧ DkW w' d mb (dieD D) L ∧ Kx [d] w w' := by
  have hb := From.refl w
  go_enter Try.func32, Try.ntmps32
  go_upto_region 1 with fail
  obtain ⟨gP, hgP⟩ : ∃ g, (w).heap.size = g := ⟨_, rfl⟩
  have P := Blk.newV hgP 25 #[.pointer (some ⟨d, 0, none⟩)]
  have hbn := (Below.refl (w).heap.size w).alloc (Nat.le_refl _) (.cells #[.pointer (some ⟨d, 0, none⟩)] 25)
  replace hb := hb.step hbn
  replace h := h.step hbn
  clear hbn
  rw [hgP]
  have szP := alloc_size hgP (.cells #[.pointer (some ⟨d, 0, none⟩)] 25)
  generalize (w).alloc (.cells #[.pointer (some ⟨d, 0, none⟩)] 25) = w1 at *
  obtain ⟨gN, hgN⟩ : ∃ g, (w1).heap.size = g := ⟨_, rfl⟩
  have lt_P_N := P.lt
  rw [hgN] at lt_P_N
  have N := Blk.newV hgN 9 #[.string s]
  have hbn := (Below.refl (w1).heap.size w1).alloc (Nat.le_refl _) (.cells #[.string s] 9)
  replace hb := hb.step hbn
  replace h := h.step hbn
  replace P := P.step hbn
  clear hbn
  have egN : gP + 1 = gN := szP.symm.trans hgN
  rw [egN]
  clear szP
  generalize (w1).alloc (.cells #[.string s] 9) = w2 at *
  have hPw : w.heap.size ≤ gP := by omega
  have hNw : w.heap.size ≤ gN := by omega
  clear hgP hgN egN
  have P_0 := P.cell (j := 0) rfl
  have N_0 := N.cell (j := 0) rfl
  go_wp2_with fail
  refine (dof_die_rem _ _ d mb D L s _ h hs he hd hst ha).mono ?_
  rintro e w7 ⟨rfl, hD7, hk7⟩
  go_wp2_with fail
  go_ret
  exact ⟨rfl, hD7, (Kx.of_below [d] hb.out (Nat.le_refl _)).trans hk7⟩
set_option maxRecDepth 100000 in
set_option maxHeartbeats 4000000 in
theorem drem_do (d mb : Nat) (D : Ds) (L : FMap) (s : ByteArray) (w : World) (h : DkW w d mb D L) (hG : GoodD D L) (hs : okS s) (he : fileE L s = 0) (hd : D.dead = false) (hst : D.stop = false ∨ D.after ≠ 0) :
    Calls Try.prog 32 #[.pointer (some ⟨d, 0, none⟩), .string s] w fun e w' => e = .returned (.int .i64 0) ∧ (DkW w' d mb (goD D) (delG L s) ∧ Kx [d, mb] w w') := by
  have hdl := h.lt
  have hb := From.refl w
  go_enter Try.func32, Try.ntmps32
  go_upto_region 1 with fail
  obtain ⟨gP, hgP⟩ : ∃ g, (w).heap.size = g := ⟨_, rfl⟩
  have P := Blk.newV hgP 25 #[.pointer (some ⟨d, 0, none⟩)]
  have hbn := (Below.refl (w).heap.size w).alloc (Nat.le_refl _) (.cells #[.pointer (some ⟨d, 0, none⟩)] 25)
  replace hb := hb.step hbn
  replace h := h.step hbn
  clear hbn
  rw [hgP]
  have szP := alloc_size hgP (.cells #[.pointer (some ⟨d, 0, none⟩)] 25)
  generalize (w).alloc (.cells #[.pointer (some ⟨d, 0, none⟩)] 25) = w1 at *
  obtain ⟨gN, hgN⟩ : ∃ g, (w1).heap.size = g := ⟨_, rfl⟩
  have lt_P_N := P.lt
  rw [hgN] at lt_P_N
  have N := Blk.newV hgN 9 #[.string s]
  have hbn := (Below.refl (w1).heap.size w1).alloc (Nat.le_refl _) (.cells #[.string s] 9)
  replace hb := hb.step hbn
  replace h := h.step hbn
  replace P := P.step hbn
  clear hbn
  have egN : gP + 1 = gN := szP.symm.trans hgN
  rw [egN]
  clear szP
  generalize (w1).alloc (.cells #[.string s] 9) = w2 at *
  have hPw : w.heap.size ≤ gP := by omega
  have hNw : w.heap.size ≤ gN := by omega
  clear hgP hgN egN
  have P_0 := P.cell (j := 0) rfl
  have N_0 := N.cell (j := 0) rfl
  go_wp2_with fail
  refine (dof_do_rem _ _ d mb D L s _ (fun w' => DkW w' d mb (goD D) (delG L s) ∧ Kx [d, mb] w w') h hs he hd hst ⟨hG.a1, hG.a2⟩ ?_).mono ?_
  · intro W hD7 hk7
    have hbW : Kx [d] w W := (Kx.of_below [d] hb.out (Nat.le_refl _)).trans hk7
    refine (drem1 gP gN d mb (goD D) L s (fileM L s) W (hk7.blk P (by simp; omega)) (hk7.blk N (by simp; omega)) hD7 hs).mono ?_
    rintro e w8 ⟨rfl, hR, hk8⟩
    exact ⟨rfl, hR, (hbW.mono (by simp)).trans (hk8.mono (by simp))⟩
  · rintro e w8 ⟨rfl, hR⟩
    go_wp2_with fail
    go_ret
    exact ⟨rfl, hR⟩
theorem has_two {W : World} {g : Nat} {s t : ByteArray} (h : Blk W g 9 [.string s, .string t]) : HasSt W g [s, t] := by
  intro k u hk
  match k, hk with
  | 0, hk => obtain rfl : s = u := by simpa using hk
             exact h.cell (j := 0) rfl
  | 1, hk => obtain rfl : t = u := by simpa using hk
             exact h.cell (j := 1) rfl
  | k + 2, hk => simp at hk
theorem named2_any (g : Nat) (s t : ByteArray) (w : World) (h : Blk w g 9 [.string s, .string t]) (hs : s.size ≤ 9223372036854775807) (ht : t.size ≤ 9223372036854775807) :
    Calls Try.prog 24 #[.slice (some ⟨g, 0, none⟩) 2 2] w fun e w' => e = .returned (.bool (nmB s && nmB t)) ∧ Below w.heap.size w w' := by
  have := dnamed_any g 2 [s, t] w (by simp) (has_two h) (fun u hu => by simp at hu; rcases hu with rfl | rfl; exact hs; exact ht)
  simpa using this
set_option maxRecDepth 100000 in
set_option maxHeartbeats 2000000 in
theorem dren_bad (d mb : Nat) (D : Ds) (L : FMap) (s t : ByteArray) (w : World) (h : DkW w d mb D L) (hs : okS s) (ht : okS t) (hn : (nmB s && nmB t) = false) :
    Calls Try.prog 33 #[.pointer (some ⟨d, 0, none⟩), .string s, .string t] w fun e w' => e = .returned (.int .i64 170) ∧ Below w.heap.size w w' := by
  have hs2 : s.size ≤ 9223372036854775807 := by unfold okS maxLen at hs; omega
  have ht2 : t.size ≤ 9223372036854775807 := by unfold okS maxLen at ht; omega
  have hb := From.refl w
  go_enter Try.func33, Try.ntmps33
  go_upto_region 1 with fail
  obtain ⟨gP, hgP⟩ : ∃ g, (w).heap.size = g := ⟨_, rfl⟩
  have P := Blk.newV hgP 25 #[.pointer (some ⟨d, 0, none⟩)]
  have hbn := (Below.refl (w).heap.size w).alloc (Nat.le_refl _) (.cells #[.pointer (some ⟨d, 0, none⟩)] 25)
  replace hb := hb.step hbn
  replace h := h.step hbn
  clear hbn
  rw [hgP]
  have szP := alloc_size hgP (.cells #[.pointer (some ⟨d, 0, none⟩)] 25)
  generalize (w).alloc (.cells #[.pointer (some ⟨d, 0, none⟩)] 25) = w1 at *
  obtain ⟨gN, hgN⟩ : ∃ g, (w1).heap.size = g := ⟨_, rfl⟩
  have lt_P_N := P.lt
  rw [hgN] at lt_P_N
  have N := Blk.newV hgN 9 #[.string s]
  have hbn := (Below.refl (w1).heap.size w1).alloc (Nat.le_refl _) (.cells #[.string s] 9)
  replace hb := hb.step hbn
  replace h := h.step hbn
  replace P := P.step hbn
  clear hbn
  have egN : gP + 1 = gN := szP.symm.trans hgN
  rw [egN]
  clear szP
  have szN := alloc_size hgN (.cells #[.string s] 9)
  generalize (w1).alloc (.cells #[.string s] 9) = w2 at *
  obtain ⟨gT, hgT⟩ : ∃ g, (w2).heap.size = g := ⟨_, rfl⟩
  have lt_P_T := P.lt
  rw [hgT] at lt_P_T
  have lt_N_T := N.lt
  rw [hgT] at lt_N_T
  have T := Blk.newV hgT 9 #[.string t]
  have hbn := (Below.refl (w2).heap.size w2).alloc (Nat.le_refl _) (.cells #[.string t] 9)
  replace hb := hb.step hbn
  replace h := h.step hbn
  replace P := P.step hbn
  replace N := N.step hbn
  clear hbn
  have egT : gN + 1 = gT := szN.symm.trans hgT
  rw [egT]
  clear szN
  generalize (w2).alloc (.cells #[.string t] 9) = w3 at *
  have hPw : w.heap.size ≤ gP := by omega
  have hPN : gP < gN := by omega
  have hNT : gN < gT := by omega
  clear hgP hgN egN hgT egT
  have P_0 := P.cell (j := 0) rfl
  have N_0 := N.cell (j := 0) rfl
  have T_0 := T.cell (j := 0) rfl
  have hc1 := h.c1
  go_wp2_with fail
  refine (dnone_at d mb _ hc1).mono ?_
  rintro e wx ⟨rfl, rfl⟩
  clear hc1
  go_wp2_with fail
  clear P_0 N_0 T_0
  obtain ⟨gS, hgS⟩ : ∃ g, (w3).heap.size = g := ⟨_, rfl⟩
  have lt_P_S := P.lt
  rw [hgS] at lt_P_S
  have lt_N_S := N.lt
  rw [hgS] at lt_N_S
  have lt_T_S := T.lt
  rw [hgS] at lt_T_S
  have S := Blk.newV hgS 9 #[.string s, .string t]
  have hbn := (Below.refl (w3).heap.size w3).alloc (Nat.le_refl _) (.cells #[.string s, .string t] 9)
  replace hb := hb.step hbn
  replace h := h.step hbn
  replace P := P.step hbn
  replace N := N.step hbn
  replace T := T.step hbn
  clear hbn
  rw [hgS]
  generalize (w3).alloc (.cells #[.string s, .string t] 9) = w4 at *
  refine (named2_any _ s t _ S hs2 ht2).mono ?_
  rintro e w5 ⟨rfl, hbn⟩
  rw [hn]
  replace hb := hb.step hbn
  replace h := h.step hbn
  replace P := P.step hbn
  replace N := N.step hbn
  replace T := T.step hbn
  replace S := S.step hbn
  clear hbn
  go_wp2_with fail
  go_ret
  exact ⟨rfl, hb.out⟩
set_option maxRecDepth 100000 in
set_option maxHeartbeats 2000000 in
theorem dren_err (d mb : Nat) (D : Ds) (L : FMap) (s t : ByteArray) (w : World) (h : DkW w d mb D L) (hs : okS s) (ht : okS t) (hn : (nmB s && nmB t) = true) (he : fileE L s ≠ 0) :
    Calls Try.prog 33 #[.pointer (some ⟨d, 0, none⟩), .string s, .string t] w fun e w' => e = .returned (.int .i64 (fileE L s)) ∧ Below w.heap.size w w' := by
  have cO := fun q1 q2 q3 W (hW : DkW W d mb D L) => dof_err_ren q1 q2 q3 d mb D L s W hW hs he
  generalize fileE L s = E at *
  have hs2 : s.size ≤ 9223372036854775807 := by unfold okS maxLen at hs; omega
  have ht2 : t.size ≤ 9223372036854775807 := by unfold okS maxLen at ht; omega
  have hb := From.refl w
  go_enter Try.func33, Try.ntmps33
  go_upto_region 1 with fail
  obtain ⟨gP, hgP⟩ : ∃ g, (w).heap.size = g := ⟨_, rfl⟩
  have P := Blk.newV hgP 25 #[.pointer (some ⟨d, 0, none⟩)]
  have hbn := (Below.refl (w).heap.size w).alloc (Nat.le_refl _) (.cells #[.pointer (some ⟨d, 0, none⟩)] 25)
  replace hb := hb.step hbn
  replace h := h.step hbn
  clear hbn
  rw [hgP]
  have szP := alloc_size hgP (.cells #[.pointer (some ⟨d, 0, none⟩)] 25)
  generalize (w).alloc (.cells #[.pointer (some ⟨d, 0, none⟩)] 25) = w1 at *
  obtain ⟨gN, hgN⟩ : ∃ g, (w1).heap.size = g := ⟨_, rfl⟩
  have lt_P_N := P.lt
  rw [hgN] at lt_P_N
  have N := Blk.newV hgN 9 #[.string s]
  have hbn := (Below.refl (w1).heap.size w1).alloc (Nat.le_refl _) (.cells #[.string s] 9)
  replace hb := hb.step hbn
  replace h := h.step hbn
  replace P := P.step hbn
  clear hbn
  have egN : gP + 1 = gN := szP.symm.trans hgN
  rw [egN]
  clear szP
  have szN := alloc_size hgN (.cells #[.string s] 9)
  generalize (w1).alloc (.cells #[.string s] 9) = w2 at *
  obtain ⟨gT, hgT⟩ : ∃ g, (w2).heap.size = g := ⟨_, rfl⟩
  have lt_P_T := P.lt
  rw [hgT] at lt_P_T
  have lt_N_T := N.lt
  rw [hgT] at lt_N_T
  have T := Blk.newV hgT 9 #[.string t]
  have hbn := (Below.refl (w2).heap.size w2).alloc (Nat.le_refl _) (.cells #[.string t] 9)
  replace hb := hb.step hbn
  replace h := h.step hbn
  replace P := P.step hbn
  replace N := N.step hbn
  clear hbn
  have egT : gN + 1 = gT := szN.symm.trans hgT
  rw [egT]
  clear szN
  generalize (w2).alloc (.cells #[.string t] 9) = w3 at *
  have hPw : w.heap.size ≤ gP := by omega
  have hPN : gP < gN := by omega
  have hNT : gN < gT := by omega
  clear hgP hgN egN hgT egT
  have P_0 := P.cell (j := 0) rfl
  have N_0 := N.cell (j := 0) rfl
  have T_0 := T.cell (j := 0) rfl
  have hc1 := h.c1
  go_wp2_with fail
  refine (dnone_at d mb _ hc1).mono ?_
  rintro e wx ⟨rfl, rfl⟩
  clear hc1
  go_wp2_with fail
  clear P_0 N_0 T_0
  obtain ⟨gS, hgS⟩ : ∃ g, (w3).heap.size = g := ⟨_, rfl⟩
  have lt_P_S := P.lt
  rw [hgS] at lt_P_S
  have lt_N_S := N.lt
  rw [hgS] at lt_N_S
  have lt_T_S := T.lt
  rw [hgS] at lt_T_S
  have S := Blk.newV hgS 9 #[.string s, .string t]
  have hbn := (Below.refl (w3).heap.size w3).alloc (Nat.le_refl _) (.cells #[.string s, .string t] 9)
  replace hb := hb.step hbn
  replace h := h.step hbn
  replace P := P.step hbn
  replace N := N.step hbn
  replace T := T.step hbn
  clear hbn
  rw [hgS]
  generalize (w3).alloc (.cells #[.string s, .string t] 9) = w4 at *
  refine (named2_any _ s t _ S hs2 ht2).mono ?_
  rintro e w5 ⟨rfl, hbn⟩
  rw [hn]
  replace hb := hb.step hbn
  replace h := h.step hbn
  replace P := P.step hbn
  replace N := N.step hbn
  replace T := T.step hbn
  replace S := S.step hbn
  clear hbn
  have P_0 := P.cell (j := 0) rfl
  have N_0 := N.cell (j := 0) rfl
  go_wp2_with fail
  refine (cO _ _ _ _ h).mono ?_
  rintro e w7 ⟨rfl, hbn⟩
  replace hb := hb.step hbn
  replace h := h.step hbn
  replace P := P.step hbn
  replace N := N.step hbn
  replace T := T.step hbn
  go_wp2_with fail
  go_ret
  exact ⟨rfl, hb.out⟩
set_option maxRecDepth 100000 in
set_option maxHeartbeats 2000000 in
theorem dren_dead (d mb : Nat) (D : Ds) (L : FMap) (s t : ByteArray) (w : World) (h : DkW w d mb D L) (hs : okS s) (ht : okS t) (hn : (nmB s && nmB t) = true) (he : fileE L s = 0) (hd : D.dead = true) :
    Calls Try.prog 33 #[.pointer (some ⟨d, 0, none⟩), .string s, .string t] w fun e w' => e = .returned (.int .i64 172) ∧ Below w.heap.size w w' := by
  have hs2 : s.size ≤ 9223372036854775807 := by unfold okS maxLen at hs; omega
  have ht2 : t.size ≤ 9223372036854775807 := by unfold okS maxLen at ht; omega
  have hb := From.refl w
  go_enter Try.func33, Try.ntmps33
  go_upto_region 1 with fail
  obtain ⟨gP, hgP⟩ : ∃ g, (w).heap.size = g := ⟨_, rfl⟩
  have P := Blk.newV hgP 25 #[.pointer (some ⟨d, 0, none⟩)]
  have hbn := (Below.refl (w).heap.size w).alloc (Nat.le_refl _) (.cells #[.pointer (some ⟨d, 0, none⟩)] 25)
  replace hb := hb.step hbn
  replace h := h.step hbn
  clear hbn
  rw [hgP]
  have szP := alloc_size hgP (.cells #[.pointer (some ⟨d, 0, none⟩)] 25)
  generalize (w).alloc (.cells #[.pointer (some ⟨d, 0, none⟩)] 25) = w1 at *
  obtain ⟨gN, hgN⟩ : ∃ g, (w1).heap.size = g := ⟨_, rfl⟩
  have lt_P_N := P.lt
  rw [hgN] at lt_P_N
  have N := Blk.newV hgN 9 #[.string s]
  have hbn := (Below.refl (w1).heap.size w1).alloc (Nat.le_refl _) (.cells #[.string s] 9)
  replace hb := hb.step hbn
  replace h := h.step hbn
  replace P := P.step hbn
  clear hbn
  have egN : gP + 1 = gN := szP.symm.trans hgN
  rw [egN]
  clear szP
  have szN := alloc_size hgN (.cells #[.string s] 9)
  generalize (w1).alloc (.cells #[.string s] 9) = w2 at *
  obtain ⟨gT, hgT⟩ : ∃ g, (w2).heap.size = g := ⟨_, rfl⟩
  have lt_P_T := P.lt
  rw [hgT] at lt_P_T
  have lt_N_T := N.lt
  rw [hgT] at lt_N_T
  have T := Blk.newV hgT 9 #[.string t]
  have hbn := (Below.refl (w2).heap.size w2).alloc (Nat.le_refl _) (.cells #[.string t] 9)
  replace hb := hb.step hbn
  replace h := h.step hbn
  replace P := P.step hbn
  replace N := N.step hbn
  clear hbn
  have egT : gN + 1 = gT := szN.symm.trans hgT
  rw [egT]
  clear szN
  generalize (w2).alloc (.cells #[.string t] 9) = w3 at *
  have hPw : w.heap.size ≤ gP := by omega
  have hPN : gP < gN := by omega
  have hNT : gN < gT := by omega
  clear hgP hgN egN hgT egT
  have P_0 := P.cell (j := 0) rfl
  have N_0 := N.cell (j := 0) rfl
  have T_0 := T.cell (j := 0) rfl
  have hc1 := h.c1
  go_wp2_with fail
  refine (dnone_at d mb _ hc1).mono ?_
  rintro e wx ⟨rfl, rfl⟩
  clear hc1
  go_wp2_with fail
  clear P_0 N_0 T_0
  obtain ⟨gS, hgS⟩ : ∃ g, (w3).heap.size = g := ⟨_, rfl⟩
  have lt_P_S := P.lt
  rw [hgS] at lt_P_S
  have lt_N_S := N.lt
  rw [hgS] at lt_N_S
  have lt_T_S := T.lt
  rw [hgS] at lt_T_S
  have S := Blk.newV hgS 9 #[.string s, .string t]
  have hbn := (Below.refl (w3).heap.size w3).alloc (Nat.le_refl _) (.cells #[.string s, .string t] 9)
  replace hb := hb.step hbn
  replace h := h.step hbn
  replace P := P.step hbn
  replace N := N.step hbn
  replace T := T.step hbn
  clear hbn
  rw [hgS]
  generalize (w3).alloc (.cells #[.string s, .string t] 9) = w4 at *
  refine (named2_any _ s t _ S hs2 ht2).mono ?_
  rintro e w5 ⟨rfl, hbn⟩
  rw [hn]
  replace hb := hb.step hbn
  replace h := h.step hbn
  replace P := P.step hbn
  replace N := N.step hbn
  replace T := T.step hbn
  replace S := S.step hbn
  clear hbn
  have P_0 := P.cell (j := 0) rfl
  have N_0 := N.cell (j := 0) rfl
  go_wp2_with fail
  refine (dof_dead_ren _ _ _ d mb D L s _ h hs he hd).mono ?_
  rintro e w7 ⟨rfl, hbn⟩
  replace hb := hb.step hbn
  replace h := h.step hbn
  replace P := P.step hbn
  replace N := N.step hbn
  replace T := T.step hbn
  go_wp2_with fail
  go_ret
  exact ⟨rfl, hb.out⟩
set_option maxRecDepth 100000 in
set_option maxHeartbeats 2000000 in
theorem dren_die (d mb : Nat) (D : Ds) (L : FMap) (s t : ByteArray) (w : World) (h : DkW w d mb D L) (hs : okS s) (ht : okS t) (hn : (nmB s && nmB t) = true) (he : fileE L s = 0) (hd : D.dead = false) (hst : D.stop = true) (ha : D.after = 0) :
    Calls Try.prog 33 #[.pointer (some ⟨d, 0, none⟩), .string s, .string t] w fun e w' => e = .returned (.int .i64 172) ∧ DkW w' d mb (dieD D) L ∧ Kx [d] w w' := by
  have hs2 : s.size ≤ 9223372036854775807 := by unfold okS maxLen at hs; omega
  have ht2 : t.size ≤ 9223372036854775807 := by unfold okS maxLen at ht; omega
  have hb := From.refl w
  go_enter Try.func33, Try.ntmps33
  go_upto_region 1 with fail
  obtain ⟨gP, hgP⟩ : ∃ g, (w).heap.size = g := ⟨_, rfl⟩
  have P := Blk.newV hgP 25 #[.pointer (some ⟨d, 0, none⟩)]
  have hbn := (Below.refl (w).heap.size w).alloc (Nat.le_refl _) (.cells #[.pointer (some ⟨d, 0, none⟩)] 25)
  replace hb := hb.step hbn
  replace h := h.step hbn
  clear hbn
  rw [hgP]
  have szP := alloc_size hgP (.cells #[.pointer (some ⟨d, 0, none⟩)] 25)
  generalize (w).alloc (.cells #[.pointer (some ⟨d, 0, none⟩)] 25) = w1 at *
  obtain ⟨gN, hgN⟩ : ∃ g, (w1).heap.size = g := ⟨_, rfl⟩
  have lt_P_N := P.lt
  rw [hgN] at lt_P_N
  have N := Blk.newV hgN 9 #[.string s]
  have hbn := (Below.refl (w1).heap.size w1).alloc (Nat.le_refl _) (.cells #[.string s] 9)
  replace hb := hb.step hbn
  replace h := h.step hbn
  replace P := P.step hbn
  clear hbn
  have egN : gP + 1 = gN := szP.symm.trans hgN
  rw [egN]
  clear szP
  have szN := alloc_size hgN (.cells #[.string s] 9)
  generalize (w1).alloc (.cells #[.string s] 9) = w2 at *
  obtain ⟨gT, hgT⟩ : ∃ g, (w2).heap.size = g := ⟨_, rfl⟩
  have lt_P_T := P.lt
  rw [hgT] at lt_P_T
  have lt_N_T := N.lt
  rw [hgT] at lt_N_T
  have T := Blk.newV hgT 9 #[.string t]
  have hbn := (Below.refl (w2).heap.size w2).alloc (Nat.le_refl _) (.cells #[.string t] 9)
  replace hb := hb.step hbn
  replace h := h.step hbn
  replace P := P.step hbn
  replace N := N.step hbn
  clear hbn
  have egT : gN + 1 = gT := szN.symm.trans hgT
  rw [egT]
  clear szN
  generalize (w2).alloc (.cells #[.string t] 9) = w3 at *
  have hPw : w.heap.size ≤ gP := by omega
  have hPN : gP < gN := by omega
  have hNT : gN < gT := by omega
  clear hgP hgN egN hgT egT
  have P_0 := P.cell (j := 0) rfl
  have N_0 := N.cell (j := 0) rfl
  have T_0 := T.cell (j := 0) rfl
  have hc1 := h.c1
  go_wp2_with fail
  refine (dnone_at d mb _ hc1).mono ?_
  rintro e wx ⟨rfl, rfl⟩
  clear hc1
  go_wp2_with fail
  clear P_0 N_0 T_0
  obtain ⟨gS, hgS⟩ : ∃ g, (w3).heap.size = g := ⟨_, rfl⟩
  have lt_P_S := P.lt
  rw [hgS] at lt_P_S
  have lt_N_S := N.lt
  rw [hgS] at lt_N_S
  have lt_T_S := T.lt
  rw [hgS] at lt_T_S
  have S := Blk.newV hgS 9 #[.string s, .string t]
  have hbn := (Below.refl (w3).heap.size w3).alloc (Nat.le_refl _) (.cells #[.string s, .string t] 9)
  replace hb := hb.step hbn
  replace h := h.step hbn
  replace P := P.step hbn
  replace N := N.step hbn
  replace T := T.step hbn
  clear hbn
  rw [hgS]
  generalize (w3).alloc (.cells #[.string s, .string t] 9) = w4 at *
  refine (named2_any _ s t _ S hs2 ht2).mono ?_
  rintro e w5 ⟨rfl, hbn⟩
  rw [hn]
  replace hb := hb.step hbn
  replace h := h.step hbn
  replace P := P.step hbn
  replace N := N.step hbn
  replace T := T.step hbn
  replace S := S.step hbn
  clear hbn
  have P_0 := P.cell (j := 0) rfl
  have N_0 := N.cell (j := 0) rfl
  go_wp2_with fail
  refine (dof_die_ren _ _ _ d mb D L s _ h hs he hd hst ha).mono ?_
  rintro e w7 ⟨rfl, hD7, hk7⟩
  go_wp2_with fail
  go_ret
  exact ⟨rfl, hD7, (Kx.of_below [d] hb.out (Nat.le_refl _)).trans hk7⟩
set_option maxRecDepth 100000 in
set_option maxHeartbeats 4000000 in
theorem dren_do (d mb : Nat) (D : Ds) (L : FMap) (s t : ByteArray) (w : World) (h : DkW w d mb D L) (hG : GoodD D L) (hs : okS s) (ht : okS t) (hn : (nmB s && nmB t) = true) (he : fileE L s = 0) (hd : D.dead = false) (hst : D.stop = false ∨ D.after ≠ 0) :
    Calls Try.prog 33 #[.pointer (some ⟨d, 0, none⟩), .string s, .string t] w fun e w' => e = .returned (.int .i64 0) ∧ (DkW w' d mb (goD D) (putG (delG L s) t (fileM L s)) ∧ Kx [d, mb] w w') := by
  have hdl := h.lt
  have hs2 : s.size ≤ 9223372036854775807 := by unfold okS maxLen at hs; omega
  have ht2 : t.size ≤ 9223372036854775807 := by unfold okS maxLen at ht; omega
  have hb := From.refl w
  go_enter Try.func33, Try.ntmps33
  go_upto_region 1 with fail
  obtain ⟨gP, hgP⟩ : ∃ g, (w).heap.size = g := ⟨_, rfl⟩
  have P := Blk.newV hgP 25 #[.pointer (some ⟨d, 0, none⟩)]
  have hbn := (Below.refl (w).heap.size w).alloc (Nat.le_refl _) (.cells #[.pointer (some ⟨d, 0, none⟩)] 25)
  replace hb := hb.step hbn
  replace h := h.step hbn
  clear hbn
  rw [hgP]
  have szP := alloc_size hgP (.cells #[.pointer (some ⟨d, 0, none⟩)] 25)
  generalize (w).alloc (.cells #[.pointer (some ⟨d, 0, none⟩)] 25) = w1 at *
  obtain ⟨gN, hgN⟩ : ∃ g, (w1).heap.size = g := ⟨_, rfl⟩
  have lt_P_N := P.lt
  rw [hgN] at lt_P_N
  have N := Blk.newV hgN 9 #[.string s]
  have hbn := (Below.refl (w1).heap.size w1).alloc (Nat.le_refl _) (.cells #[.string s] 9)
  replace hb := hb.step hbn
  replace h := h.step hbn
  replace P := P.step hbn
  clear hbn
  have egN : gP + 1 = gN := szP.symm.trans hgN
  rw [egN]
  clear szP
  have szN := alloc_size hgN (.cells #[.string s] 9)
  generalize (w1).alloc (.cells #[.string s] 9) = w2 at *
  obtain ⟨gT, hgT⟩ : ∃ g, (w2).heap.size = g := ⟨_, rfl⟩
  have lt_P_T := P.lt
  rw [hgT] at lt_P_T
  have lt_N_T := N.lt
  rw [hgT] at lt_N_T
  have T := Blk.newV hgT 9 #[.string t]
  have hbn := (Below.refl (w2).heap.size w2).alloc (Nat.le_refl _) (.cells #[.string t] 9)
  replace hb := hb.step hbn
  replace h := h.step hbn
  replace P := P.step hbn
  replace N := N.step hbn
  clear hbn
  have egT : gN + 1 = gT := szN.symm.trans hgT
  rw [egT]
  clear szN
  generalize (w2).alloc (.cells #[.string t] 9) = w3 at *
  have hPw : w.heap.size ≤ gP := by omega
  have hPN : gP < gN := by omega
  have hNT : gN < gT := by omega
  clear hgP hgN egN hgT egT
  have P_0 := P.cell (j := 0) rfl
  have N_0 := N.cell (j := 0) rfl
  have T_0 := T.cell (j := 0) rfl
  have hc1 := h.c1
  go_wp2_with fail
  refine (dnone_at d mb _ hc1).mono ?_
  rintro e wx ⟨rfl, rfl⟩
  clear hc1
  go_wp2_with fail
  clear P_0 N_0 T_0
  obtain ⟨gS, hgS⟩ : ∃ g, (w3).heap.size = g := ⟨_, rfl⟩
  have lt_P_S := P.lt
  rw [hgS] at lt_P_S
  have lt_N_S := N.lt
  rw [hgS] at lt_N_S
  have lt_T_S := T.lt
  rw [hgS] at lt_T_S
  have S := Blk.newV hgS 9 #[.string s, .string t]
  have hbn := (Below.refl (w3).heap.size w3).alloc (Nat.le_refl _) (.cells #[.string s, .string t] 9)
  replace hb := hb.step hbn
  replace h := h.step hbn
  replace P := P.step hbn
  replace N := N.step hbn
  replace T := T.step hbn
  clear hbn
  rw [hgS]
  generalize (w3).alloc (.cells #[.string s, .string t] 9) = w4 at *
  refine (named2_any _ s t _ S hs2 ht2).mono ?_
  rintro e w5 ⟨rfl, hbn⟩
  rw [hn]
  replace hb := hb.step hbn
  replace h := h.step hbn
  replace P := P.step hbn
  replace N := N.step hbn
  replace T := T.step hbn
  replace S := S.step hbn
  clear hbn
  have P_0 := P.cell (j := 0) rfl
  have N_0 := N.cell (j := 0) rfl
  go_wp2_with fail
  refine (dof_do_ren _ _ _ d mb D L s _ (fun w' => DkW w' d mb (goD D) (putG (delG L s) t (fileM L s)) ∧ Kx [d, mb] w w') h hs he hd hst ⟨hG.a1, hG.a2⟩ ?_).mono ?_
  · intro W hD7 hk7
    have hbW : Kx [d] w W := (Kx.of_below [d] hb.out (Nat.le_refl _)).trans hk7
    have hcon := file_con hD7 s
    refine (dren1 gP gN gT d mb (goD D) L s t (fileM L s) W (hk7.blk P (by simp; omega)) (hk7.blk N (by simp; omega)) (hk7.blk T (by simp; omega)) hD7 hs ht (by have := hG.n; omega) hcon.1 hcon.2).mono ?_
    rintro e w8 ⟨rfl, hR, hk8⟩
    exact ⟨rfl, hR, (hbW.mono (by simp)).trans (hk8.mono (by simp))⟩
  · rintro e w8 ⟨rfl, hR⟩
    go_wp2_with fail
    go_ret
    exact ⟨rfl, hR⟩
end Go.Proofs.Ytceoehjjebkgpaa
