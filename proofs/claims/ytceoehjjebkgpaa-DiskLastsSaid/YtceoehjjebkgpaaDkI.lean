
/- Package disk: Append. -/
import Derived.Test.YtceoehjjebkgpaaDkH
namespace Go.Proofs.Ytceoehjjebkgpaa
set_option linter.unusedSimpArgs false
set_option linter.unusedVariables false
open Go.RowKit Go.Maps
theorem wp_region_extB {P : Program} {id : Nat} {Q : Exit → Act → World → Prop} {a : Act} {w : World} {l : List Oper} (hm : P.follows .mixedOrders = true) (hB : Region.lexB .any l.toArray = true)
    (h : wpQuiet P l.toArray (ExtA w) (fun a' => ∀ w', ExtA w w' → Q .normal a' w') l a) : (Code.region id l.toArray true).wp P Q a w :=
  wp_region_quiet (C := ExtA w) hm hB ⟨rfl, rfl, rfl, Nat.le_refl _, fun _ _ => rfl⟩ (by simpa using h)
theorem extA_then {W W' W'' : World} (h : ExtA W W') (hb : Below W'.heap.size W' W'') : ExtA W W'' := Below.trans h (hb.mono h.size)
/-- Why bytes may not be put. -/
def appE (D : Ds) (L : FMap) (s : ByteArray) (n : Nat) : Int := if nmB s then (if (n : Int) > D.room - usedN L then 171 else 0) else 170
/-- The disk is good: its room, how many files, its bytes. -/
structure GoodD (D : Ds) (L : FMap) : Prop where
  r1 : 0 ≤ D.room
  r2 : D.room ≤ 16777216
  u : (usedN L : Int) ≤ D.room
  n : L.length ≤ 900
  k : ∀ p ∈ L, okS p.1
  a1 : 0 ≤ D.after
  a2 : D.after ≤ 9223372036854775807
theorem GoodD.used {D : Ds} {L : FMap} (h : GoodD D L) : usedN L ≤ 16777216 := by have := h.u; have := h.r2; omega
set_option maxRecDepth 100000 in
set_option maxHeartbeats 4000000 in
theorem dapp_bad (d mb : Nat) (D : Ds) (L : FMap) (s : ByteArray) (bo : Option Addr) (y : BL) (cb : Nat) (w : World) (h : DkW w d mb D L) (hG : GoodD D L) (hs : okS s) (hyl : y.length ≤ 16777216) (hn : nmB s = false) :
    Calls Try.prog 8 #[.pointer (some ⟨d, 0, none⟩), .string s, .slice bo y.length cb] w fun e w' => e = .returned (.int .i64 170) ∧ Below w.heap.size w w' := by
  have hU := fun W (hW : DkW W d mb D L) => dused_any d mb D L W hW (by have := hG.n; omega) hG.k hG.used
  have hs2 : s.size ≤ 9223372036854775807 := by unfold okS maxLen at hs; omega
  obtain ⟨U, hUe⟩ : ∃ U : Nat, usedN L = U := ⟨_, rfl⟩
  have hr1 := hG.r1
  have hr2 := hG.r2
  have hu := hG.u
  rw [hUe] at hu
  simp only [hUe] at hU
  have hb := From.refl w
  go_enter Try.func8, Try.ntmps8
  go_upto_region 1 with fail
  obtain ⟨gP, hgP⟩ : ∃ g, (w).heap.size = g := ⟨_, rfl⟩
  have P := Blk.newV hgP 25 #[.pointer (some ⟨d, 0, none⟩)]
  have hbn := (Below.refl (w).heap.size w).alloc (Nat.le_refl _) (.cells #[.pointer (some ⟨d, 0, none⟩)] 25)
  replace hb := hb.step hbn
  replace h := h.step hbn
  clear hbn
  rw [hgP]
  have szP := alloc_size hgP (.cells #[.pointer (some ⟨d, 0, none⟩)] 25)
  generalize (w).alloc (.cells #[.pointer (some ⟨d, 0, none⟩)] 25) = w1 at *
  obtain ⟨gN, hgN⟩ : ∃ g, (w1).heap.size = g := ⟨_, rfl⟩
  have lt_P_N := P.lt
  rw [hgN] at lt_P_N
  have N := Blk.newV hgN 9 #[.string s]
  have hbn := (Below.refl (w1).heap.size w1).alloc (Nat.le_refl _) (.cells #[.string s] 9)
  replace hb := hb.step hbn
  replace h := h.step hbn
  replace P := P.step hbn
  clear hbn
  have egN : gP + 1 = gN := szP.symm.trans hgN
  rw [egN]
  clear szP
  have szN := alloc_size hgN (.cells #[.string s] 9)
  generalize (w1).alloc (.cells #[.string s] 9) = w2 at *
  obtain ⟨gY, hgY⟩ : ∃ g, (w2).heap.size = g := ⟨_, rfl⟩
  have lt_P_Y := P.lt
  rw [hgY] at lt_P_Y
  have lt_N_Y := N.lt
  rw [hgY] at lt_N_Y
  have Y := Blk.newV hgY 22 #[.slice bo y.length cb]
  have hbn := (Below.refl (w2).heap.size w2).alloc (Nat.le_refl _) (.cells #[.slice bo y.length cb] 22)
  replace hb := hb.step hbn
  replace h := h.step hbn
  replace P := P.step hbn
  replace N := N.step hbn
  clear hbn
  have egY : gN + 1 = gY := szN.symm.trans hgY
  rw [egY]
  clear szN
  generalize (w2).alloc (.cells #[.slice bo y.length cb] 22) = w3 at *
  have hPw : w.heap.size ≤ gP := by omega
  have hPN : gP < gN := by omega
  have hNY : gN < gY := by omega
  clear hgP hgN hgY egN egY
  have P_0 := P.cell (j := 0) rfl
  have N_0 := N.cell (j := 0) rfl
  have Y_0 := Y.cell (j := 0) rfl
  have hc1 := h.c1
  go_wp2_with fail
  refine (dnone_at d mb _ hc1).mono ?_
  rintro e wx ⟨rfl, rfl⟩
  go_wp2_with fail
  obtain ⟨gS, hgS⟩ : ∃ g, (w3).heap.size = g := ⟨_, rfl⟩
  have lt_P_S := P.lt
  rw [hgS] at lt_P_S
  have lt_N_S := N.lt
  rw [hgS] at lt_N_S
  have lt_Y_S := Y.lt
  rw [hgS] at lt_Y_S
  have S := Blk.newV hgS 9 #[.string s]
  have hbn := (Below.refl (w3).heap.size w3).alloc (Nat.le_refl _) (.cells #[.string s] 9)
  replace hb := hb.step hbn
  replace h := h.step hbn
  replace P := P.step hbn
  replace N := N.step hbn
  replace Y := Y.step hbn
  clear hbn
  rw [hgS]
  generalize (w3).alloc (.cells #[.string s] 9) = w4 at *
  refine (named1_any _ s _ S hs2).mono ?_
  rintro e w5 ⟨rfl, hbn⟩
  rw [hn]
  replace hb := hb.step hbn
  go_wp2_with fail
  go_ret
  exact ⟨rfl, hb.out⟩
set_option maxRecDepth 100000 in
set_option maxHeartbeats 4000000 in
theorem dapp_room (d mb : Nat) (D : Ds) (L : FMap) (s : ByteArray) (bo : Option Addr) (y : BL) (cb : Nat) (w : World) (h : DkW w d mb D L) (hG : GoodD D L) (hs : okS s) (hyl : y.length ≤ 16777216) (hn : nmB s = true) (hr : (y.length : Int) > D.room - usedN L) :
    Calls Try.prog 8 #[.pointer (some ⟨d, 0, none⟩), .string s, .slice bo y.length cb] w fun e w' => e = .returned (.int .i64 171) ∧ Below w.heap.size w w' := by
  have hU := fun W (hW : DkW W d mb D L) => dused_any d mb D L W hW (by have := hG.n; omega) hG.k hG.used
  have hs2 : s.size ≤ 9223372036854775807 := by unfold okS maxLen at hs; omega
  obtain ⟨U, hUe⟩ : ∃ U : Nat, usedN L = U := ⟨_, rfl⟩
  have hr1 := hG.r1
  have hr2 := hG.r2
  have hu := hG.u
  rw [hUe] at hu
  simp only [hUe] at hU
  have hb := From.refl w
  go_enter Try.func8, Try.ntmps8
  go_upto_region 1 with fail
  obtain ⟨gP, hgP⟩ : ∃ g, (w).heap.size = g := ⟨_, rfl⟩
  have P := Blk.newV hgP 25 #[.pointer (some ⟨d, 0, none⟩)]
  have hbn := (Below.refl (w).heap.size w).alloc (Nat.le_refl _) (.cells #[.pointer (some ⟨d, 0, none⟩)] 25)
  replace hb := hb.step hbn
  replace h := h.step hbn
  clear hbn
  rw [hgP]
  have szP := alloc_size hgP (.cells #[.pointer (some ⟨d, 0, none⟩)] 25)
  generalize (w).alloc (.cells #[.pointer (some ⟨d, 0, none⟩)] 25) = w1 at *
  obtain ⟨gN, hgN⟩ : ∃ g, (w1).heap.size = g := ⟨_, rfl⟩
  have lt_P_N := P.lt
  rw [hgN] at lt_P_N
  have N := Blk.newV hgN 9 #[.string s]
  have hbn := (Below.refl (w1).heap.size w1).alloc (Nat.le_refl _) (.cells #[.string s] 9)
  replace hb := hb.step hbn
  replace h := h.step hbn
  replace P := P.step hbn
  clear hbn
  have egN : gP + 1 = gN := szP.symm.trans hgN
  rw [egN]
  clear szP
  have szN := alloc_size hgN (.cells #[.string s] 9)
  generalize (w1).alloc (.cells #[.string s] 9) = w2 at *
  obtain ⟨gY, hgY⟩ : ∃ g, (w2).heap.size = g := ⟨_, rfl⟩
  have lt_P_Y := P.lt
  rw [hgY] at lt_P_Y
  have lt_N_Y := N.lt
  rw [hgY] at lt_N_Y
  have Y := Blk.newV hgY 22 #[.slice bo y.length cb]
  have hbn := (Below.refl (w2).heap.size w2).alloc (Nat.le_refl _) (.cells #[.slice bo y.length cb] 22)
  replace hb := hb.step hbn
  replace h := h.step hbn
  replace P := P.step hbn
  replace N := N.step hbn
  clear hbn
  have egY : gN + 1 = gY := szN.symm.trans hgY
  rw [egY]
  clear szN
  generalize (w2).alloc (.cells #[.slice bo y.length cb] 22) = w3 at *
  have hPw : w.heap.size ≤ gP := by omega
  have hPN : gP < gN := by omega
  have hNY : gN < gY := by omega
  clear hgP hgN hgY egN egY
  have P_0 := P.cell (j := 0) rfl
  have N_0 := N.cell (j := 0) rfl
  have Y_0 := Y.cell (j := 0) rfl
  have hc1 := h.c1
  go_wp2_with fail
  refine (dnone_at d mb _ hc1).mono ?_
  rintro e wx ⟨rfl, rfl⟩
  go_wp2_with fail
  obtain ⟨gS, hgS⟩ : ∃ g, (w3).heap.size = g := ⟨_, rfl⟩
  have lt_P_S := P.lt
  rw [hgS] at lt_P_S
  have lt_N_S := N.lt
  rw [hgS] at lt_N_S
  have lt_Y_S := Y.lt
  rw [hgS] at lt_Y_S
  have S := Blk.newV hgS 9 #[.string s]
  have hbn := (Below.refl (w3).heap.size w3).alloc (Nat.le_refl _) (.cells #[.string s] 9)
  replace hb := hb.step hbn
  replace h := h.step hbn
  replace P := P.step hbn
  replace N := N.step hbn
  replace Y := Y.step hbn
  clear hbn
  rw [hgS]
  generalize (w3).alloc (.cells #[.string s] 9) = w4 at *
  refine (named1_any _ s _ S hs2).mono ?_
  rintro e w5 ⟨rfl, hbn⟩
  rw [hUe] at hr
  have hr3 : D.room - (U : Int) < (y.length : Int) := hr
  rw [hn]
  replace hb := hb.step hbn
  replace h := h.step hbn
  replace P := P.step hbn
  replace N := N.step hbn
  replace Y := Y.step hbn
  replace S := S.step hbn
  clear hbn hc1 P_0 N_0 Y_0 S
  have p0 := extA_cell (P.cell (j := 0) rfl)
  have y0 := extA_cell (Y.cell (j := 0) rfl)
  have d0 := extA_cell (h.blk.cell (j := 0) rfl)
  go_upto_region 5 with fail
  have hwr : IntKind.wrap .i64 (D.room - (U : Int)) = D.room - (U : Int) := by rw [IntKind.wrap_i64]; omega
  refine wp_region_extB (by kernel_rfl) (by kernel_rfl) ?_
  repeat
    (first
      | go_big_quiet_skip
      | (go_big_quiet_want
         go_big_quiet_op
         first
           | go_big_quiet_on
           | (apply Exists.intro
              refine ⟨fun w' hC9 => ?_, ?_⟩
              · (first
                  | with_reducible rfl
                  | (go_at_call 25; refine (hU _ (h.step hC9)).mono ?_; rintro e w2 ⟨rfl, hb9⟩; exact ⟨rfl, extA_then hC9 hb9⟩)
                  | (go_simp; done)
                  | (go_simp; with_reducible rfl))
              go_big_quiet_on)))
  refine wpQuiet_nil ?_
  intro w6 hq
  replace hb := hb.step hq
  replace h := h.step hq
  replace P := P.step hq
  replace N := N.step hq
  replace Y := Y.step hq
  clear hq p0 y0 d0 hU
  go_wp2_with fail
  go_ret
  exact ⟨rfl, hb.out⟩
/-- What a step of the disk leaves: dead, or done. -/
def AppQ (w : World) (d mb : Nat) (D : Ds) (L : FMap) (s : ByteArray) (y : BL) (w' : World) : Prop := (∃ m, DkW w' d mb (goD D) (putG L s m) ∧ m.b = (getM L s).b ++ y ∧ m.s = (getM L s).s ∧ ∀ g, m.ao = some ⟨g, 0, none⟩ → w.heap.size ≤ g ∨ (getM L s).ao = some ⟨g, 0, none⟩) ∧ Kx [d, mb] w w'
theorem le_sum_mem {l : List Nat} {n : Nat} (h : n ∈ l) : n ≤ l.sum := by
  induction l with
  | nil => cases h
  | cons a r ih =>
    rw [List.sum_cons]
    rcases List.mem_cons.1 h with rfl | h
    · omega
    · have := ih h; omega
theorem getM_le {L : FMap} (s : ByteArray) : (getM L s).b.length ≤ usedN L := by
  unfold getM
  cases hg : getG L s with
  | none => simp [fm0]
  | some m =>
    have hm := mem_getG hg
    unfold usedN
    exact le_sum_mem (List.mem_map.2 ⟨_, hm, rfl⟩)
set_option maxRecDepth 100000 in
set_option maxHeartbeats 4000000 in
theorem dapp_dead (d mb : Nat) (D : Ds) (L : FMap) (s : ByteArray) (bo : Option Addr) (y : BL) (cb : Nat) (w : World) (h : DkW w d mb D L) (hG : GoodD D L) (hs : okS s) (hy : ByAt w bo y) (hyl : y.length ≤ 16777216) (hn : nmB s = true) (hr : (y.length : Int) ≤ D.room - usedN L) (hd : D.dead = true) :
    Calls Try.prog 8 #[.pointer (some ⟨d, 0, none⟩), .string s, .slice bo y.length cb] w fun e w' => e = .returned (.int .i64 172) ∧ Below w.heap.size w w' := by
  have hml := getM_le (L := L) s
  have hU := fun W (hW : DkW W d mb D L) => dused_any d mb D L W hW (by have := hG.n; omega) hG.k hG.used
  have hs2 : s.size ≤ 9223372036854775807 := by unfold okS maxLen at hs; omega
  obtain ⟨U, hUe⟩ : ∃ U : Nat, usedN L = U := ⟨_, rfl⟩
  have hr1 := hG.r1
  have hr2 := hG.r2
  have hu := hG.u
  rw [hUe] at hu
  simp only [hUe] at hU
  have hb := From.refl w
  go_enter Try.func8, Try.ntmps8
  go_upto_region 1 with fail
  obtain ⟨gP, hgP⟩ : ∃ g, (w).heap.size = g := ⟨_, rfl⟩
  have P := Blk.newV hgP 25 #[.pointer (some ⟨d, 0, none⟩)]
  have hbn := (Below.refl (w).heap.size w).alloc (Nat.le_refl _) (.cells #[.pointer (some ⟨d, 0, none⟩)] 25)
  replace hb := hb.step hbn
  replace h := h.step hbn
  clear hbn
  rw [hgP]
  have szP := alloc_size hgP (.cells #[.pointer (some ⟨d, 0, none⟩)] 25)
  generalize (w).alloc (.cells #[.pointer (some ⟨d, 0, none⟩)] 25) = w1 at *
  obtain ⟨gN, hgN⟩ : ∃ g, (w1).heap.size = g := ⟨_, rfl⟩
  have lt_P_N := P.lt
  rw [hgN] at lt_P_N
  have N := Blk.newV hgN 9 #[.string s]
  have hbn := (Below.refl (w1).heap.size w1).alloc (Nat.le_refl _) (.cells #[.string s] 9)
  replace hb := hb.step hbn
  replace h := h.step hbn
  replace P := P.step hbn
  clear hbn
  have egN : gP + 1 = gN := szP.symm.trans hgN
  rw [egN]
  clear szP
  have szN := alloc_size hgN (.cells #[.string s] 9)
  generalize (w1).alloc (.cells #[.string s] 9) = w2 at *
  obtain ⟨gY, hgY⟩ : ∃ g, (w2).heap.size = g := ⟨_, rfl⟩
  have lt_P_Y := P.lt
  rw [hgY] at lt_P_Y
  have lt_N_Y := N.lt
  rw [hgY] at lt_N_Y
  have Y := Blk.newV hgY 22 #[.slice bo y.length cb]
  have hbn := (Below.refl (w2).heap.size w2).alloc (Nat.le_refl _) (.cells #[.slice bo y.length cb] 22)
  replace hb := hb.step hbn
  replace h := h.step hbn
  replace P := P.step hbn
  replace N := N.step hbn
  clear hbn
  have egY : gN + 1 = gY := szN.symm.trans hgY
  rw [egY]
  clear szN
  generalize (w2).alloc (.cells #[.slice bo y.length cb] 22) = w3 at *
  have hPw : w.heap.size ≤ gP := by omega
  have hPN : gP < gN := by omega
  have hNY : gN < gY := by omega
  clear hgP hgN hgY egN egY
  have P_0 := P.cell (j := 0) rfl
  have N_0 := N.cell (j := 0) rfl
  have Y_0 := Y.cell (j := 0) rfl
  have hc1 := h.c1
  go_wp2_with fail
  refine (dnone_at d mb _ hc1).mono ?_
  rintro e wx ⟨rfl, rfl⟩
  go_wp2_with fail
  obtain ⟨gS, hgS⟩ : ∃ g, (w3).heap.size = g := ⟨_, rfl⟩
  have lt_P_S := P.lt
  rw [hgS] at lt_P_S
  have lt_N_S := N.lt
  rw [hgS] at lt_N_S
  have lt_Y_S := Y.lt
  rw [hgS] at lt_Y_S
  have S := Blk.newV hgS 9 #[.string s]
  have hbn := (Below.refl (w3).heap.size w3).alloc (Nat.le_refl _) (.cells #[.string s] 9)
  replace hb := hb.step hbn
  replace h := h.step hbn
  replace P := P.step hbn
  replace N := N.step hbn
  replace Y := Y.step hbn
  clear hbn
  rw [hgS]
  generalize (w3).alloc (.cells #[.string s] 9) = w4 at *
  refine (named1_any _ s _ S hs2).mono ?_
  rintro e w5 ⟨rfl, hbn⟩
  rw [hUe] at hr hml
  have hr3 : ¬ D.room - (U : Int) < (y.length : Int) := by omega
  rw [hn]
  replace hb := hb.step hbn
  replace h := h.step hbn
  replace P := P.step hbn
  replace N := N.step hbn
  replace Y := Y.step hbn
  replace S := S.step hbn
  clear hbn hc1 P_0 N_0 Y_0 S
  have p0 := extA_cell (P.cell (j := 0) rfl)
  have y0 := extA_cell (Y.cell (j := 0) rfl)
  have d0 := extA_cell (h.blk.cell (j := 0) rfl)
  go_upto_region 5 with fail
  have hwr : IntKind.wrap .i64 (D.room - (U : Int)) = D.room - (U : Int) := by rw [IntKind.wrap_i64]; omega
  refine wp_region_extB (by kernel_rfl) (by kernel_rfl) ?_
  repeat
    (first
      | go_big_quiet_skip
      | (go_big_quiet_want
         go_big_quiet_op
         first
           | go_big_quiet_on
           | (apply Exists.intro
              refine ⟨fun w' hC9 => ?_, ?_⟩
              · (first
                  | with_reducible rfl
                  | (go_at_call 25; refine (hU _ (h.step hC9)).mono ?_; rintro e w2 ⟨rfl, hb9⟩; exact ⟨rfl, extA_then hC9 hb9⟩)
                  | (go_simp; done)
                  | (go_simp; with_reducible rfl))
              go_big_quiet_on)))
  refine wpQuiet_nil ?_
  intro w6 hq
  replace hb := hb.step hq
  replace h := h.step hq
  replace P := P.step hq
  replace N := N.step hq
  replace Y := Y.step hq
  clear hq p0 y0 d0 hU
  have P_0 := P.cell (j := 0) rfl
  go_wp2_with fail
  refine (ddoes_dead _ d mb D L _ h hd).mono ?_
  rintro e w7 ⟨rfl, rfl⟩
  go_wp2_with fail
  go_ret
  exact ⟨rfl, hb.out⟩
set_option maxRecDepth 100000 in
set_option maxHeartbeats 4000000 in
theorem dapp_die (d mb : Nat) (D : Ds) (L : FMap) (s : ByteArray) (bo : Option Addr) (y : BL) (cb : Nat) (w : World) (h : DkW w d mb D L) (hG : GoodD D L) (hs : okS s) (hy : ByAt w bo y) (hyl : y.length ≤ 16777216) (hn : nmB s = true) (hr : (y.length : Int) ≤ D.room - usedN L) (hd : D.dead = false) (hst : D.stop = true) (ha : D.after = 0) :
    Calls Try.prog 8 #[.pointer (some ⟨d, 0, none⟩), .string s, .slice bo y.length cb] w fun e w' => e = .returned (.int .i64 172) ∧ DkW w' d mb (dieD D) L ∧ Kx [d] w w' := by
  have hml := getM_le (L := L) s
  have hU := fun W (hW : DkW W d mb D L) => dused_any d mb D L W hW (by have := hG.n; omega) hG.k hG.used
  have hs2 : s.size ≤ 9223372036854775807 := by unfold okS maxLen at hs; omega
  obtain ⟨U, hUe⟩ : ∃ U : Nat, usedN L = U := ⟨_, rfl⟩
  have hr1 := hG.r1
  have hr2 := hG.r2
  have hu := hG.u
  rw [hUe] at hu
  simp only [hUe] at hU
  have hb := From.refl w
  go_enter Try.func8, Try.ntmps8
  go_upto_region 1 with fail
  obtain ⟨gP, hgP⟩ : ∃ g, (w).heap.size = g := ⟨_, rfl⟩
  have P := Blk.newV hgP 25 #[.pointer (some ⟨d, 0, none⟩)]
  have hbn := (Below.refl (w).heap.size w).alloc (Nat.le_refl _) (.cells #[.pointer (some ⟨d, 0, none⟩)] 25)
  replace hb := hb.step hbn
  replace h := h.step hbn
  clear hbn
  rw [hgP]
  have szP := alloc_size hgP (.cells #[.pointer (some ⟨d, 0, none⟩)] 25)
  generalize (w).alloc (.cells #[.pointer (some ⟨d, 0, none⟩)] 25) = w1 at *
  obtain ⟨gN, hgN⟩ : ∃ g, (w1).heap.size = g := ⟨_, rfl⟩
  have lt_P_N := P.lt
  rw [hgN] at lt_P_N
  have N := Blk.newV hgN 9 #[.string s]
  have hbn := (Below.refl (w1).heap.size w1).alloc (Nat.le_refl _) (.cells #[.string s] 9)
  replace hb := hb.step hbn
  replace h := h.step hbn
  replace P := P.step hbn
  clear hbn
  have egN : gP + 1 = gN := szP.symm.trans hgN
  rw [egN]
  clear szP
  have szN := alloc_size hgN (.cells #[.string s] 9)
  generalize (w1).alloc (.cells #[.string s] 9) = w2 at *
  obtain ⟨gY, hgY⟩ : ∃ g, (w2).heap.size = g := ⟨_, rfl⟩
  have lt_P_Y := P.lt
  rw [hgY] at lt_P_Y
  have lt_N_Y := N.lt
  rw [hgY] at lt_N_Y
  have Y := Blk.newV hgY 22 #[.slice bo y.length cb]
  have hbn := (Below.refl (w2).heap.size w2).alloc (Nat.le_refl _) (.cells #[.slice bo y.length cb] 22)
  replace hb := hb.step hbn
  replace h := h.step hbn
  replace P := P.step hbn
  replace N := N.step hbn
  clear hbn
  have egY : gN + 1 = gY := szN.symm.trans hgY
  rw [egY]
  clear szN
  generalize (w2).alloc (.cells #[.slice bo y.length cb] 22) = w3 at *
  have hPw : w.heap.size ≤ gP := by omega
  have hPN : gP < gN := by omega
  have hNY : gN < gY := by omega
  clear hgP hgN hgY egN egY
  have P_0 := P.cell (j := 0) rfl
  have N_0 := N.cell (j := 0) rfl
  have Y_0 := Y.cell (j := 0) rfl
  have hc1 := h.c1
  go_wp2_with fail
  refine (dnone_at d mb _ hc1).mono ?_
  rintro e wx ⟨rfl, rfl⟩
  go_wp2_with fail
  obtain ⟨gS, hgS⟩ : ∃ g, (w3).heap.size = g := ⟨_, rfl⟩
  have lt_P_S := P.lt
  rw [hgS] at lt_P_S
  have lt_N_S := N.lt
  rw [hgS] at lt_N_S
  have lt_Y_S := Y.lt
  rw [hgS] at lt_Y_S
  have S := Blk.newV hgS 9 #[.string s]
  have hbn := (Below.refl (w3).heap.size w3).alloc (Nat.le_refl _) (.cells #[.string s] 9)
  replace hb := hb.step hbn
  replace h := h.step hbn
  replace P := P.step hbn
  replace N := N.step hbn
  replace Y := Y.step hbn
  clear hbn
  rw [hgS]
  generalize (w3).alloc (.cells #[.string s] 9) = w4 at *
  refine (named1_any _ s _ S hs2).mono ?_
  rintro e w5 ⟨rfl, hbn⟩
  rw [hUe] at hr hml
  have hr3 : ¬ D.room - (U : Int) < (y.length : Int) := by omega
  rw [hn]
  replace hb := hb.step hbn
  replace h := h.step hbn
  replace P := P.step hbn
  replace N := N.step hbn
  replace Y := Y.step hbn
  replace S := S.step hbn
  clear hbn hc1 P_0 N_0 Y_0 S
  have p0 := extA_cell (P.cell (j := 0) rfl)
  have y0 := extA_cell (Y.cell (j := 0) rfl)
  have d0 := extA_cell (h.blk.cell (j := 0) rfl)
  go_upto_region 5 with fail
  have hwr : IntKind.wrap .i64 (D.room - (U : Int)) = D.room - (U : Int) := by rw [IntKind.wrap_i64]; omega
  refine wp_region_extB (by kernel_rfl) (by kernel_rfl) ?_
  repeat
    (first
      | go_big_quiet_skip
      | (go_big_quiet_want
         go_big_quiet_op
         first
           | go_big_quiet_on
           | (apply Exists.intro
              refine ⟨fun w' hC9 => ?_, ?_⟩
              · (first
                  | with_reducible rfl
                  | (go_at_call 25; refine (hU _ (h.step hC9)).mono ?_; rintro e w2 ⟨rfl, hb9⟩; exact ⟨rfl, extA_then hC9 hb9⟩)
                  | (go_simp; done)
                  | (go_simp; with_reducible rfl))
              go_big_quiet_on)))
  refine wpQuiet_nil ?_
  intro w6 hq
  replace hb := hb.step hq
  replace h := h.step hq
  replace P := P.step hq
  replace N := N.step hq
  replace Y := Y.step hq
  clear hq p0 y0 d0 hU
  have P_0 := P.cell (j := 0) rfl
  go_wp2_with fail
  refine (ddoes_die _ d mb D L _ h hd hst ha).mono ?_
  rintro e w7 ⟨rfl, hD7, hk7⟩
  go_wp2_with fail
  go_ret
  exact ⟨rfl, hD7, (Kx.of_below [d] hb.out (Nat.le_refl _)).trans hk7⟩
set_option maxRecDepth 100000 in
set_option maxHeartbeats 4000000 in
theorem dapp_do (d mb : Nat) (D : Ds) (L : FMap) (s : ByteArray) (bo : Option Addr) (y : BL) (cb : Nat) (w : World) (h : DkW w d mb D L) (hG : GoodD D L) (hs : okS s) (hy : ByAt w bo y) (hyl : y.length ≤ 16777216) (hn : nmB s = true) (hr : (y.length : Int) ≤ D.room - usedN L) (h0 : DkW w d mb D L) (hd : D.dead = false) (hst : D.stop = false ∨ D.after ≠ 0) :
    Calls Try.prog 8 #[.pointer (some ⟨d, 0, none⟩), .string s, .slice bo y.length cb] w fun e w' => e = .returned (.int .i64 0) ∧ AppQ w d mb D L s y w' := by
  have hml := getM_le (L := L) s
  have hU := fun W (hW : DkW W d mb D L) => dused_any d mb D L W hW (by have := hG.n; omega) hG.k hG.used
  have hs2 : s.size ≤ 9223372036854775807 := by unfold okS maxLen at hs; omega
  obtain ⟨U, hUe⟩ : ∃ U : Nat, usedN L = U := ⟨_, rfl⟩
  have hr1 := hG.r1
  have hr2 := hG.r2
  have hu := hG.u
  rw [hUe] at hu
  simp only [hUe] at hU
  have hb := From.refl w
  go_enter Try.func8, Try.ntmps8
  go_upto_region 1 with fail
  obtain ⟨gP, hgP⟩ : ∃ g, (w).heap.size = g := ⟨_, rfl⟩
  have P := Blk.newV hgP 25 #[.pointer (some ⟨d, 0, none⟩)]
  have hbn := (Below.refl (w).heap.size w).alloc (Nat.le_refl _) (.cells #[.pointer (some ⟨d, 0, none⟩)] 25)
  replace hb := hb.step hbn
  replace h := h.step hbn
  clear hbn
  rw [hgP]
  have szP := alloc_size hgP (.cells #[.pointer (some ⟨d, 0, none⟩)] 25)
  generalize (w).alloc (.cells #[.pointer (some ⟨d, 0, none⟩)] 25) = w1 at *
  obtain ⟨gN, hgN⟩ : ∃ g, (w1).heap.size = g := ⟨_, rfl⟩
  have lt_P_N := P.lt
  rw [hgN] at lt_P_N
  have N := Blk.newV hgN 9 #[.string s]
  have hbn := (Below.refl (w1).heap.size w1).alloc (Nat.le_refl _) (.cells #[.string s] 9)
  replace hb := hb.step hbn
  replace h := h.step hbn
  replace P := P.step hbn
  clear hbn
  have egN : gP + 1 = gN := szP.symm.trans hgN
  rw [egN]
  clear szP
  have szN := alloc_size hgN (.cells #[.string s] 9)
  generalize (w1).alloc (.cells #[.string s] 9) = w2 at *
  obtain ⟨gY, hgY⟩ : ∃ g, (w2).heap.size = g := ⟨_, rfl⟩
  have lt_P_Y := P.lt
  rw [hgY] at lt_P_Y
  have lt_N_Y := N.lt
  rw [hgY] at lt_N_Y
  have Y := Blk.newV hgY 22 #[.slice bo y.length cb]
  have hbn := (Below.refl (w2).heap.size w2).alloc (Nat.le_refl _) (.cells #[.slice bo y.length cb] 22)
  replace hb := hb.step hbn
  replace h := h.step hbn
  replace P := P.step hbn
  replace N := N.step hbn
  clear hbn
  have egY : gN + 1 = gY := szN.symm.trans hgY
  rw [egY]
  clear szN
  generalize (w2).alloc (.cells #[.slice bo y.length cb] 22) = w3 at *
  have hPw : w.heap.size ≤ gP := by omega
  have hPN : gP < gN := by omega
  have hNY : gN < gY := by omega
  clear hgP hgN hgY egN egY
  have P_0 := P.cell (j := 0) rfl
  have N_0 := N.cell (j := 0) rfl
  have Y_0 := Y.cell (j := 0) rfl
  have hc1 := h.c1
  go_wp2_with fail
  refine (dnone_at d mb _ hc1).mono ?_
  rintro e wx ⟨rfl, rfl⟩
  go_wp2_with fail
  obtain ⟨gS, hgS⟩ : ∃ g, (w3).heap.size = g := ⟨_, rfl⟩
  have lt_P_S := P.lt
  rw [hgS] at lt_P_S
  have lt_N_S := N.lt
  rw [hgS] at lt_N_S
  have lt_Y_S := Y.lt
  rw [hgS] at lt_Y_S
  have S := Blk.newV hgS 9 #[.string s]
  have hbn := (Below.refl (w3).heap.size w3).alloc (Nat.le_refl _) (.cells #[.string s] 9)
  replace hb := hb.step hbn
  replace h := h.step hbn
  replace P := P.step hbn
  replace N := N.step hbn
  replace Y := Y.step hbn
  clear hbn
  rw [hgS]
  generalize (w3).alloc (.cells #[.string s] 9) = w4 at *
  refine (named1_any _ s _ S hs2).mono ?_
  rintro e w5 ⟨rfl, hbn⟩
  rw [hUe] at hr hml
  have hr3 : ¬ D.room - (U : Int) < (y.length : Int) := by omega
  rw [hn]
  replace hb := hb.step hbn
  replace h := h.step hbn
  replace P := P.step hbn
  replace N := N.step hbn
  replace Y := Y.step hbn
  replace S := S.step hbn
  clear hbn hc1 P_0 N_0 Y_0 S
  have p0 := extA_cell (P.cell (j := 0) rfl)
  have y0 := extA_cell (Y.cell (j := 0) rfl)
  have d0 := extA_cell (h.blk.cell (j := 0) rfl)
  go_upto_region 5 with fail
  have hwr : IntKind.wrap .i64 (D.room - (U : Int)) = D.room - (U : Int) := by rw [IntKind.wrap_i64]; omega
  refine wp_region_extB (by kernel_rfl) (by kernel_rfl) ?_
  repeat
    (first
      | go_big_quiet_skip
      | (go_big_quiet_want
         go_big_quiet_op
         first
           | go_big_quiet_on
           | (apply Exists.intro
              refine ⟨fun w' hC9 => ?_, ?_⟩
              · (first
                  | with_reducible rfl
                  | (go_at_call 25; refine (hU _ (h.step hC9)).mono ?_; rintro e w2 ⟨rfl, hb9⟩; exact ⟨rfl, extA_then hC9 hb9⟩)
                  | (go_simp; done)
                  | (go_simp; with_reducible rfl))
              go_big_quiet_on)))
  refine wpQuiet_nil ?_
  intro w6 hq
  replace hb := hb.step hq
  replace h := h.step hq
  replace P := P.step hq
  replace N := N.step hq
  replace Y := Y.step hq
  clear hq p0 y0 d0 hU
  have P_0 := P.cell (j := 0) rfl
  go_wp2_with fail
  have hne : ∀ x, w.heap.size ≤ x → x ∉ [d] := fun x hx => by have := h0.lt; simp; omega
  refine (ddoes_app _ _ _ d mb D L _ (AppQ w d mb D L s y) h hd hst ⟨hG.a1, hG.a2⟩ ?_).mono ?_
  · intro W hD7 hk7
    have hbW : Kx [d] w W := (Kx.of_below [d] hb.out (Nat.le_refl _)).trans hk7
    have hyW : ByAt W bo y := by
      rcases hy with hy | ⟨b, off, h1, h2⟩
      · exact .inl hy
      · refine .inr ⟨b, off, h1, fun j u hu => ?_⟩
        have hcu := h2 j u hu
        have hbd : b ≠ d := by
          rintro rfl
          have hB := h0.blk
          simp only [World.cell?, show w.heap[b]? = _ from hB] at hcu
          have : off + j < 5 := by
            by_cases hlt : off + j < 5
            · exact hlt
            · have hlen : (dsL D mb).toArray[off + j]? = none := by simp [dsL]; omega
              simp [hlen] at hcu
          match hoj : off + j, this with
          | 0, _ => simp [dsL, encB, hoj] at hcu
          | 1, _ => simp [dsL, encB, hoj] at hcu
          | 2, _ => simp [dsL, encB, hoj] at hcu
          | 3, _ => simp [dsL, encB, hoj] at hcu
          | 4, _ => simp [dsL, encB, hoj] at hcu
        exact kx_all hcu (show b ∉ [d] by simpa using hbd) _ hbW
    refine (dapp1_any gP gN gY d mb (goD D) L s bo y cb W (hk7.blk P (hne _ hPw)) (hk7.blk N (hne _ (by omega))) (hk7.blk Y (hne _ (by omega))) hD7 hyW hs (by have := hG.n; omega) (by omega)).mono ?_
    rintro e w8 ⟨rfl, hR, hk8⟩
    obtain ⟨m, h1, h2, h3, h4⟩ := hR
    exact ⟨rfl, ⟨m, h1, h2, h3, fun g hg => (h4 g hg).imp (fun h => Nat.le_trans hbW.size h) id⟩, (hbW.mono (by simp)).trans (hk8.mono (by simp))⟩
  · rintro e w8 ⟨rfl, hR⟩
    go_wp2_with fail
    go_ret
    exact ⟨rfl, hR⟩
end Go.Proofs.Ytceoehjjebkgpaa
