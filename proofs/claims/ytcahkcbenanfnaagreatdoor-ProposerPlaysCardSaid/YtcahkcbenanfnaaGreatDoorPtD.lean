
/- Walk of ProposerPlays. (Printed by gen/gen_ptd.py.) -/
import Derived.Test.YtcahkcbenanfnaaGreatDoorPsG
import Derived.Test.YtcahkcbenanfnaaGreatDoorPtC
import Derived.Test.YtcahkcbenanfnaaGreatDoorPsI
namespace Go.Proofs.YtcahkcbenanfnaaGreatDoor
set_option linter.unusedSimpArgs false
set_option linter.unusedVariables false
open Go.RowKit
/-- A pointer at no proposer, in memory from n on. -/
def NoQ15 (n : Nat) (p : Value) (W : World) : Prop := p = .pointer none ∨ ∃ g, p = .pointer (some ⟨g, 0, none⟩) ∧ n ≤ g ∧ W.cell? ⟨g, 31, none⟩ = some (.int .i64 0)
theorem NoQ15.out {n : Nat} {p : Value} {W : World} (h : NoQ15 n p W) : NoR W p := by
  rcases h with h | ⟨g, h, _, hc⟩
  · exact .inl h
  · exact .inr ⟨g, h, hc⟩
theorem NoQ15.step {n : Nat} {p : Value} {W W' : World} (h : NoQ15 n p W) (hb : Below W.heap.size W W') : NoQ15 n p W' := by
  rcases h with h | ⟨g, h, hn, hc⟩
  · exact .inl h
  · exact .inr ⟨g, h, hn, (hb.cell (World.block_lt_of_cell? W _ hc)).trans hc⟩
theorem NoQ15.kx {n : Nat} {p : Value} {W W' : World} {ws : List Nat} (h : NoQ15 n p W) (hb : Kx ws W W') (hw : ∀ x, x ∈ ws → x < n) : NoQ15 n p W' := by
  rcases h with h | ⟨g, h, hn, hc⟩
  · exact .inl h
  · exact .inr ⟨g, h, hn, kx_all hc (fun e => by have := hw g e; omega) _ hb⟩
theorem mkA_invB (c sl : Int) (own : Bool) (r p k m n : Int) (s : ByteArray) : InvB (mkA c sl own r p k m n s) := by
  unfold InvB mkA
  intro _
  cases own <;> simp [noneE, eq6, ownA, freshA]
theorem zsame_any (w : World) : Calls Tryz.prog 16 #[.agg #[.int .i64 0, .int .i64 0, .int .i64 0, .int .i64 0, .int .i64 0, .int .i64 0, .string ⟨#[]⟩, .slice none 0 0, .int .i64 0, .int .i64 0], .agg #[.int .i64 0, .int .i64 0, .int .i64 0, .int .i64 0, .int .i64 0, .int .i64 0, .string ⟨#[]⟩, .slice none 0 0, .int .i64 0, .int .i64 0]] w fun e w' => e = .returned (.bool true) ∧ Below w.heap.size w w' :=
  rsame_any zP (.slice none 0 0) (.slice none 0 0) [] (by decide) w (IntS.nil w) (IntS.nil w)
set_option maxRecDepth 100000 in
set_option maxHeartbeats 2000000 in
theorem plays15_few (c sl : Int) (own : Bool) (r p k m n : Int) (s : ByteArray) (l : List Pa) (ao : Option Addr) (cap : Nat) (w : World) (hT : Tabs w) (hE : HasPa w ao l) (hl : l.length ≤ 9223372036854775807) (hs : ∀ e, e ∈ l → e.s.size ≤ 9223372036854775807) (hz : s.size ≤ 9223372036854775807) (hf : fewP l 40 = false) (hg : longP s = longP s) :
    Calls Tryz.prog 3 #[.int .i64 c, .int .i64 sl, .bool own, .agg #[.int .i64 r, .int .i64 p], .agg #[.int .i64 k, .int .i64 m, .int .i64 n, .string s], .slice ao l.length cap] w fun e w' => e = .returned (.bool true) ∧ Below w.heap.size w w' := by
  have cF := fun W (hW : Below w.heap.size w W) => few15_any l ao cap 40 W (hE.step hW) hl hs
  rw [hf] at cF
  clear hf hE hs
  have hzi : (s.size : Int) ≤ 9223372036854775807 := by omega
  skip
  have hb := From.refl w
  go_enter Tryz.func3, Tryz.ntmps3
  go_upto_region 1 with fail
  obtain ⟨gB, hgB⟩ : ∃ g, (w).heap.size = g := ⟨_, rfl⟩
  have B := Blk.newV hgB 23 #[.int .i64 r, .int .i64 p]
  have hbn := (Below.refl (w).heap.size w).alloc (Nat.le_refl _) (.cells #[.int .i64 r, .int .i64 p] 23)
  replace hb := hb.step hbn
  clear hbn
  rw [hgB]
  have szB := alloc_size hgB (.cells #[.int .i64 r, .int .i64 p] 23)
  generalize (w).alloc (.cells #[.int .i64 r, .int .i64 p] 23) = w1 at *
  obtain ⟨gX, hgX⟩ : ∃ g, (w1).heap.size = g := ⟨_, rfl⟩
  have lt_B_X := B.lt
  rw [hgX] at lt_B_X
  have X := Blk.newV hgX 26 #[.int .i64 k, .int .i64 m, .int .i64 n, .string s]
  have hbn := (Below.refl (w1).heap.size w1).alloc (Nat.le_refl _) (.cells #[.int .i64 k, .int .i64 m, .int .i64 n, .string s] 26)
  replace hb := hb.step hbn
  replace B := B.step hbn
  clear hbn
  have egX : gB + 1 = gX := szB.symm.trans hgX
  rw [egX]
  clear szB
  generalize (w1).alloc (.cells #[.int .i64 k, .int .i64 m, .int .i64 n, .string s] 26) = w2 at *
  have X_0 := X.cell (j := 0) rfl
  have X_1 := X.cell (j := 1) rfl
  have X_2 := X.cell (j := 2) rfl
  have X_3 := X.cell (j := 3) rfl
  go_wp2_with fail
  refine (cF _ hb.out).mono ?_
  rintro e w3 ⟨rfl, hbn⟩
  replace hb := hb.step hbn
  replace B := B.step hbn
  replace X := X.step hbn
  replace X_0 := X.cell (j := 0) rfl
  replace X_1 := X.cell (j := 1) rfl
  replace X_2 := X.cell (j := 2) rfl
  replace X_3 := X.cell (j := 3) rfl
  clear hbn
  go_wp2_with fail
  refine (works15_any _ (hT.step hb.out)).mono ?_
  rintro e w4 ⟨rfl, hbn⟩
  replace hb := hb.step hbn
  replace B := B.step hbn
  replace X := X.step hbn
  replace X_0 := X.cell (j := 0) rfl
  replace X_1 := X.cell (j := 1) rfl
  replace X_2 := X.cell (j := 2) rfl
  replace X_3 := X.cell (j := 3) rfl
  clear hbn
  go_wp2_with fail
  go_ret
  exact ⟨rfl, by first | exact hb | (rw [← hgB]; exact hb)⟩
set_option maxRecDepth 100000 in
set_option maxHeartbeats 2000000 in
theorem plays15_long (c sl : Int) (own : Bool) (r p k m n : Int) (s : ByteArray) (l : List Pa) (ao : Option Addr) (cap : Nat) (w : World) (hT : Tabs w) (hE : HasPa w ao l) (hl : l.length ≤ 9223372036854775807) (hs : ∀ e, e ∈ l → e.s.size ≤ 9223372036854775807) (hz : s.size ≤ 9223372036854775807) (hf : fewP l 40 = true) (hg : longP s = true) :
    Calls Tryz.prog 3 #[.int .i64 c, .int .i64 sl, .bool own, .agg #[.int .i64 r, .int .i64 p], .agg #[.int .i64 k, .int .i64 m, .int .i64 n, .string s], .slice ao l.length cap] w fun e w' => e = .returned (.bool true) ∧ Below w.heap.size w w' := by
  have cF := fun W (hW : Below w.heap.size w W) => few15_any l ao cap 40 W (hE.step hW) hl hs
  rw [hf] at cF
  clear hf hE hs
  have hzi : (s.size : Int) ≤ 9223372036854775807 := by omega
  have hlong : 300 < (s.size : Int) := by simpa [longP] using hg
  have hb := From.refl w
  go_enter Tryz.func3, Tryz.ntmps3
  go_upto_region 1 with fail
  obtain ⟨gB, hgB⟩ : ∃ g, (w).heap.size = g := ⟨_, rfl⟩
  have B := Blk.newV hgB 23 #[.int .i64 r, .int .i64 p]
  have hbn := (Below.refl (w).heap.size w).alloc (Nat.le_refl _) (.cells #[.int .i64 r, .int .i64 p] 23)
  replace hb := hb.step hbn
  clear hbn
  rw [hgB]
  have szB := alloc_size hgB (.cells #[.int .i64 r, .int .i64 p] 23)
  generalize (w).alloc (.cells #[.int .i64 r, .int .i64 p] 23) = w1 at *
  obtain ⟨gX, hgX⟩ : ∃ g, (w1).heap.size = g := ⟨_, rfl⟩
  have lt_B_X := B.lt
  rw [hgX] at lt_B_X
  have X := Blk.newV hgX 26 #[.int .i64 k, .int .i64 m, .int .i64 n, .string s]
  have hbn := (Below.refl (w1).heap.size w1).alloc (Nat.le_refl _) (.cells #[.int .i64 k, .int .i64 m, .int .i64 n, .string s] 26)
  replace hb := hb.step hbn
  replace B := B.step hbn
  clear hbn
  have egX : gB + 1 = gX := szB.symm.trans hgX
  rw [egX]
  clear szB
  generalize (w1).alloc (.cells #[.int .i64 k, .int .i64 m, .int .i64 n, .string s] 26) = w2 at *
  have X_0 := X.cell (j := 0) rfl
  have X_1 := X.cell (j := 1) rfl
  have X_2 := X.cell (j := 2) rfl
  have X_3 := X.cell (j := 3) rfl
  go_wp2_with fail
  refine (cF _ hb.out).mono ?_
  rintro e w3 ⟨rfl, hbn⟩
  replace hb := hb.step hbn
  replace B := B.step hbn
  replace X := X.step hbn
  replace X_0 := X.cell (j := 0) rfl
  replace X_1 := X.cell (j := 1) rfl
  replace X_2 := X.cell (j := 2) rfl
  replace X_3 := X.cell (j := 3) rfl
  clear hbn
  go_wp2_with fail
  refine (works15_any _ (hT.step hb.out)).mono ?_
  rintro e w4 ⟨rfl, hbn⟩
  replace hb := hb.step hbn
  replace B := B.step hbn
  replace X := X.step hbn
  replace X_0 := X.cell (j := 0) rfl
  replace X_1 := X.cell (j := 1) rfl
  replace X_2 := X.cell (j := 2) rfl
  replace X_3 := X.cell (j := 3) rfl
  clear hbn
  go_wp2_with fail
  go_ret
  exact ⟨rfl, by first | exact hb | (rw [← hgB]; exact hb)⟩
set_option maxRecDepth 100000 in
set_option maxHeartbeats 4000000 in
theorem plays15_no (c sl : Int) (own : Bool) (r p k m n : Int) (s : ByteArray) (l : List Pa) (ao : Option Addr) (cap : Nat) (w : World) (hT : Tabs w) (hE : HasPa w ao l) (hl : l.length ≤ 9223372036854775807) (hs : ∀ e, e ∈ l → e.s.size ≤ 9223372036854775807) (hz : s.size ≤ 9223372036854775807) (hf : fewP l 40 = true) (hg : longP s = false) (h0 : mkE c sl own r p k m n s ≠ 0) :
    Calls Tryz.prog 3 #[.int .i64 c, .int .i64 sl, .bool own, .agg #[.int .i64 r, .int .i64 p], .agg #[.int .i64 k, .int .i64 m, .int .i64 n, .string s], .slice ao l.length cap] w fun e w' => e = .returned (.bool true) ∧ Below w.heap.size w w' := by
  have cF := fun W (hW : Below w.heap.size w W) => few15_any l ao cap 40 W (hE.step hW) hl hs
  rw [hf] at cF
  have hshort : ¬ 300 < (s.size : Int) := by simpa [longP] using hg
  have hl40 := (fewP_small hf).1
  have hzi : (s.size : Int) ≤ 9223372036854775807 := by omega
  obtain ⟨N, hN⟩ : ∃ N, l.length = N := ⟨_, rfl⟩
  rw [hN] at cF hl40 ⊢
  clear hf hg
  have HS := Lib.hid hs
  clear hs
  have HN := Lib.hid hN
  clear hN
  have hb := From.refl w
  have cMk := fun W hW => made_no c sl own r p k m n s W hW hz h0
  have hp0 : zP.pr.length = 9 := rfl
  have ha0 : zP.ac.length = 9 := rfl
  obtain ⟨A0, hA0⟩ : ∃ A0, zP = A0 := ⟨_, rfl⟩
  simp only [hA0] at cMk hp0 ha0
  clear hA0 h0
  unfold qV at cMk
  go_enter Tryz.func3, Tryz.ntmps3
  go_upto_region 1 with fail
  obtain ⟨gB, hgB⟩ : ∃ g, (w).heap.size = g := ⟨_, rfl⟩
  have B := Blk.newV hgB 23 #[.int .i64 r, .int .i64 p]
  have hbn := (Below.refl (w).heap.size w).alloc (Nat.le_refl _) (.cells #[.int .i64 r, .int .i64 p] 23)
  replace hb := hb.step hbn
  clear hbn
  rw [hgB]
  have szB := alloc_size hgB (.cells #[.int .i64 r, .int .i64 p] 23)
  generalize (w).alloc (.cells #[.int .i64 r, .int .i64 p] 23) = w1 at *
  obtain ⟨gX, hgX⟩ : ∃ g, (w1).heap.size = g := ⟨_, rfl⟩
  have lt_B_X := B.lt
  rw [hgX] at lt_B_X
  have X := Blk.newV hgX 26 #[.int .i64 k, .int .i64 m, .int .i64 n, .string s]
  have hbn := (Below.refl (w1).heap.size w1).alloc (Nat.le_refl _) (.cells #[.int .i64 k, .int .i64 m, .int .i64 n, .string s] 26)
  replace hb := hb.step hbn
  replace B := B.step hbn
  clear hbn
  have egX : gB + 1 = gX := szB.symm.trans hgX
  rw [egX]
  clear szB
  generalize (w1).alloc (.cells #[.int .i64 k, .int .i64 m, .int .i64 n, .string s] 26) = w2 at *
  have hwX : w.heap.size ≤ gX := by omega
  have hwB : w.heap.size ≤ gB := by omega
  clear hgB hgX egX
  have B_0 := B.cell (j := 0) rfl
  have B_1 := B.cell (j := 1) rfl
  have X_0 := X.cell (j := 0) rfl
  have X_1 := X.cell (j := 1) rfl
  have X_2 := X.cell (j := 2) rfl
  have X_3 := X.cell (j := 3) rfl
  go_wp2_with fail
  refine (cF _ hb.out).mono ?_
  rintro e w3 ⟨rfl, hbn⟩
  replace hb := hb.step hbn
  replace B := B.step hbn
  replace B_0 := B.cell (j := 0) rfl
  replace B_1 := B.cell (j := 1) rfl
  replace X := X.step hbn
  replace X_0 := X.cell (j := 0) rfl
  replace X_1 := X.cell (j := 1) rfl
  replace X_2 := X.cell (j := 2) rfl
  replace X_3 := X.cell (j := 3) rfl
  clear hbn
  go_upto_region 3 with fail
  apply wp_region_lit
  refine wpList_pure (v := ?_) rfl ?_ ?_
  rotate_left
  · go_simp
    try with_reducible rfl
  dsimp only [Act.put]
  refine wpList_pure (v := ?_) rfl ?_ ?_
  rotate_left
  · go_simp
    try with_reducible rfl
  dsimp only [Act.put]
  refine wpList_pure (v := ?_) rfl ?_ ?_
  rotate_left
  · go_simp
    try with_reducible rfl
  dsimp only [Act.put]
  refine wpList_pure (v := ?_) rfl ?_ ?_
  rotate_left
  · go_simp
    try with_reducible rfl
  dsimp only [Act.put]
  refine wpList_pure (v := ?_) rfl ?_ ?_
  rotate_left
  · go_simp
    try with_reducible rfl
  dsimp only [Act.put]
  refine wpList_plain rfl fun K hK => ?_
  go_simp
  refine (cMk _ (hT.step hb.out)).mono ?_
  rintro e w4 ⟨rfl, hbn⟩
  refine hK _ _ ?_
  clear hK K cMk X_0 X_1 X_2 X_3 B_0 B_1 B X
  replace hb := hb.step hbn
  clear hbn
  refine wpList_pure (v := ?_) rfl ?_ ?_
  rotate_left
  · go_simp
    try with_reducible rfl
  dsimp only [Act.put]
  refine wpList_pure (v := ?_) rfl ?_ ?_
  rotate_left
  · go_simp
    try with_reducible rfl
  dsimp only [Act.put]
  refine wpList_pure (v := ?_) rfl ?_ ?_
  rotate_left
  · go_simp
    try with_reducible rfl
  dsimp only [Act.put]
  refine wpList_pure (v := ?_) rfl ?_ ?_
  rotate_left
  · go_simp
    try with_reducible rfl
  dsimp only [Act.put]
  refine wpList_plain rfl fun K hK => ?_
  go_simp
  obtain ⟨gW, hgW⟩ : ∃ g, w4.heap.size = g := ⟨_, rfl⟩
  have O := Blk.newV hgW 35 #[.int .i64 0, .int .i64 0, .int .i64 0, .int .i64 0, .int .i64 0, .int .i64 0, .int .i64 0, .int .i64 0, .string ⟨#[]⟩, .bool false, .bool false, .bool false, .bool false, .bool false, .bool false, .bool false, .bool false, .bool false, .bool false, .bool false, .bool false, .bool false, .bool false, .bool false, .bool false, .bool false, .bool false, .int .i64 0, .int .i64 0, .int .i64 0, .int .i64 0, .int .i64 0, .string ⟨#[]⟩, .int .i64 0, .int .i64 0]
  have hbn := (Below.refl w4.heap.size w4).alloc (Nat.le_refl _) (.cells #[.int .i64 0, .int .i64 0, .int .i64 0, .int .i64 0, .int .i64 0, .int .i64 0, .int .i64 0, .int .i64 0, .string ⟨#[]⟩, .bool false, .bool false, .bool false, .bool false, .bool false, .bool false, .bool false, .bool false, .bool false, .bool false, .bool false, .bool false, .bool false, .bool false, .bool false, .bool false, .bool false, .bool false, .int .i64 0, .int .i64 0, .int .i64 0, .int .i64 0, .int .i64 0, .string ⟨#[]⟩, .int .i64 0, .int .i64 0] 35)
  have hwO : w.heap.size ≤ gW := by have := hb.size; omega
  replace hb := hb.step hbn
  refine hK _ _ ?_
  clear hK K hbn
  rw [hgW]
  generalize w4.alloc (.cells #[.int .i64 0, .int .i64 0, .int .i64 0, .int .i64 0, .int .i64 0, .int .i64 0, .int .i64 0, .int .i64 0, .string ⟨#[]⟩, .bool false, .bool false, .bool false, .bool false, .bool false, .bool false, .bool false, .bool false, .bool false, .bool false, .bool false, .bool false, .bool false, .bool false, .bool false, .bool false, .bool false, .bool false, .int .i64 0, .int .i64 0, .int .i64 0, .int .i64 0, .int .i64 0, .string ⟨#[]⟩, .int .i64 0, .int .i64 0] 35) = w5 at *
  refine wpList_pure (v := ?_) rfl ?_ ?_
  rotate_left
  · go_simp
    try with_reducible rfl
  dsimp only [Act.put]
  refine wpList_store_rowTo rfl 35 (.tmp 14) (.tmp 44) rfl rfl gW (qL A0).toArray (by kernel_rfl) (by kernel_rfl) _ _ O (qinfo hp0 ha0) (by rw [qsize hp0 ha0]; rfl) (qone _) ?_
  have hkn := kx_row w5 gW (qL A0).toArray
  replace O := O.row (qL A0)
  replace hb := hb.kx hkn (by simp; omega)
  generalize w5.setRow gW (qL A0).toArray = wk at *
  clear hkn hgW
  replace O : QW wk gW A0 := ⟨O, hp0, ha0⟩
  refine wpList_pure (v := ?_) rfl ?_ ?_
  rotate_left
  · go_simp
    try with_reducible rfl
  dsimp only [Act.put]
  refine wpList_nil ?_
  go_upto_if 49 with fail
  go_cut [16] from 46 to 52 (fun v16 wx => ∃ p, p = v16 ∧ NoQ15 wk.heap.size p wx ∧ Below wk.heap.size wk wx)
  case first =>
    go_wp2_with fail
    · go_meet
      exact ⟨_, rfl, .inr ⟨wk.heap.size, rfl, Nat.le_refl _, (Blk.newV (W := wk) rfl 44 #[.int .i64 0, .int .i64 0, .int .i64 0, .int .i64 0, .string ⟨#[]⟩, .bool false, .bool false, .bool false, .bool false, .bool false, .bool false, .bool false, .bool false, .bool false, .bool false, .bool false, .bool false, .bool false, .bool false, .bool false, .bool false, .bool false, .bool false, .int .i64 0, .int .i64 0, .int .i64 0, .int .i64 0, .int .i64 0, .string ⟨#[]⟩, .int .i64 0, .int .i64 0, .int .i64 0, .int .i64 0, .int .i64 0, .int .i64 0]).cell (j := 31) rfl⟩, (Below.refl wk.heap.size wk).alloc (Nat.le_refl _) _⟩
    · go_meet
      exact ⟨_, rfl, .inl rfl, Below.refl _ _⟩
  case' rest =>
    obtain ⟨p, rfl, hq, hbn⟩ := hcut
    replace hb := hb.step hbn
    clear hbn
    generalize wc = w0 at *
    obtain ⟨nq, hnq⟩ : ∃ n, wk.heap.size = n := ⟨_, rfl⟩
    rw [hnq] at hq
    clear hnq
    go_wp2_with fail
    refine (lnothing_any _).mono ?_
    rintro e w5 ⟨rfl, hbn⟩
    replace hb := hb.step hbn
    replace hq := hq.step hbn
    clear hbn
    go_wp2_with fail
    refine (prom_no _ 0 (-1) 0 0 0 0 ⟨#[]⟩ _ hq.out).mono ?_
    rintro e w6 ⟨rfl, hbn⟩
    replace hb := hb.step hbn
    replace hq := hq.step hbn
    clear hbn
    go_wp2_with fail
    refine (acc_no _ 0 _ hq.out).mono ?_
    rintro e w7 ⟨rfl, hbn⟩
    replace hb := hb.step hbn
    replace hq := hq.step hbn
    clear hbn
    go_wp2_with fail
    refine (ref_no _ 0 1 0 _ hq.out).mono ?_
    rintro e w8 ⟨rfl, hbn⟩
    replace hb := hb.step hbn
    replace hq := hq.step hbn
    clear hbn
    go_wp2_with fail
    refine (num15_any _ _).mono ?_
    rintro e wx ⟨rfl, rfl⟩
    go_wp2_with fail
    refine (num15_any _ _).mono ?_
    rintro e wx ⟨rfl, rfl⟩
    go_wp2_with fail
    refine (num15_any _ _).mono ?_
    rintro e wx ⟨rfl, rfl⟩
    go_wp2_with fail
    refine (state_no _ _ hq.out).mono ?_
    rintro e w9 ⟨rfl, hbn⟩
    replace hb := hb.step hbn
    replace hq := hq.step hbn
    clear hbn
    go_wp2_with fail
    refine (zsame_any _).mono ?_
    rintro e w10 ⟨rfl, hbn⟩
    replace hb := hb.step hbn
    replace hq := hq.step hbn
    clear hbn
    go_wp2_with fail
    refine (copy_no _ _ hq.out).mono ?_
    rintro e wx ⟨rfl, rfl⟩
    go_wp2_with fail
    refine (same15_no1 _ (.pointer none) _ hq.out (.inl rfl)).mono ?_
    rintro e wx ⟨rfl, rfl⟩
    go_wp2_with fail
    refine (works15_any _ (hT.step hb.out)).mono ?_
    rintro e w11 ⟨rfl, hbn⟩
    replace hb := hb.step hbn
    replace hq := hq.step hbn
    clear hbn
    go_wp2
    go_ret
    exact ⟨rfl, hb⟩
set_option maxRecDepth 100000 in
set_option maxHeartbeats 8000000 in
theorem plays15_yes (c sl : Int) (own : Bool) (r p k m n : Int) (s : ByteArray) (l : List Pa) (ao : Option Addr) (cap : Nat) (w : World) (hT : Tabs w) (hE : HasPa w ao l) (hl : l.length ≤ 9223372036854775807) (hs : ∀ e, e ∈ l → e.s.size ≤ 9223372036854775807) (hz : s.size ≤ 9223372036854775807) (hf : fewP l 40 = true) (hg : longP s = false) (h0 : mkE c sl own r p k m n s = 0) :
    Calls Tryz.prog 3 #[.int .i64 c, .int .i64 sl, .bool own, .agg #[.int .i64 r, .int .i64 p], .agg #[.int .i64 k, .int .i64 m, .int .i64 n, .string s], .slice ao l.length cap] w fun e w' => e = .returned (.bool true) ∧ Below w.heap.size w w' := by
  have cF := fun W (hW : Below w.heap.size w W) => few15_any l ao cap 40 W (hE.step hW) hl hs
  rw [hf] at cF
  have hshort : ¬ 300 < (s.size : Int) := by simpa [longP] using hg
  have hl40 := (fewP_small hf).1
  have hzi : (s.size : Int) ≤ 9223372036854775807 := by omega
  obtain ⟨N, hN⟩ : ∃ N, l.length = N := ⟨_, rfl⟩
  rw [hN] at cF hl40 ⊢
  clear hf hg
  have HS := Lib.hid hs
  clear hs
  have HN := Lib.hid hN
  clear hN
  have hb := From.refl w
  have cMk := fun W hW => made_ok c sl own r p k m n s W hW hz h0
  have hI0 := mkA_inv h0
  have hB0 := mkA_invB c sl own r p k m n s
  obtain ⟨hp0, ha0⟩ := mkA_len c sl own r p k m n s
  obtain ⟨A0, hA0⟩ : ∃ A0, mkA c sl own r p k m n s = A0 := ⟨_, rfl⟩
  simp only [hA0] at cMk hI0 hB0 hp0 ha0
  clear hA0 h0
  unfold qV at cMk
  go_enter Tryz.func3, Tryz.ntmps3
  go_upto_region 1 with fail
  obtain ⟨gB, hgB⟩ : ∃ g, (w).heap.size = g := ⟨_, rfl⟩
  have B := Blk.newV hgB 23 #[.int .i64 r, .int .i64 p]
  have hbn := (Below.refl (w).heap.size w).alloc (Nat.le_refl _) (.cells #[.int .i64 r, .int .i64 p] 23)
  replace hb := hb.step hbn
  clear hbn
  rw [hgB]
  have szB := alloc_size hgB (.cells #[.int .i64 r, .int .i64 p] 23)
  generalize (w).alloc (.cells #[.int .i64 r, .int .i64 p] 23) = w1 at *
  obtain ⟨gX, hgX⟩ : ∃ g, (w1).heap.size = g := ⟨_, rfl⟩
  have lt_B_X := B.lt
  rw [hgX] at lt_B_X
  have X := Blk.newV hgX 26 #[.int .i64 k, .int .i64 m, .int .i64 n, .string s]
  have hbn := (Below.refl (w1).heap.size w1).alloc (Nat.le_refl _) (.cells #[.int .i64 k, .int .i64 m, .int .i64 n, .string s] 26)
  replace hb := hb.step hbn
  replace B := B.step hbn
  clear hbn
  have egX : gB + 1 = gX := szB.symm.trans hgX
  rw [egX]
  clear szB
  generalize (w1).alloc (.cells #[.int .i64 k, .int .i64 m, .int .i64 n, .string s] 26) = w2 at *
  have hwX : w.heap.size ≤ gX := by omega
  have hwB : w.heap.size ≤ gB := by omega
  clear hgB hgX egX
  have B_0 := B.cell (j := 0) rfl
  have B_1 := B.cell (j := 1) rfl
  have X_0 := X.cell (j := 0) rfl
  have X_1 := X.cell (j := 1) rfl
  have X_2 := X.cell (j := 2) rfl
  have X_3 := X.cell (j := 3) rfl
  go_wp2_with fail
  refine (cF _ hb.out).mono ?_
  rintro e w3 ⟨rfl, hbn⟩
  replace hb := hb.step hbn
  replace B := B.step hbn
  replace B_0 := B.cell (j := 0) rfl
  replace B_1 := B.cell (j := 1) rfl
  replace X := X.step hbn
  replace X_0 := X.cell (j := 0) rfl
  replace X_1 := X.cell (j := 1) rfl
  replace X_2 := X.cell (j := 2) rfl
  replace X_3 := X.cell (j := 3) rfl
  clear hbn
  go_upto_region 3 with fail
  apply wp_region_lit
  refine wpList_pure (v := ?_) rfl ?_ ?_
  rotate_left
  · go_simp
    try with_reducible rfl
  dsimp only [Act.put]
  refine wpList_pure (v := ?_) rfl ?_ ?_
  rotate_left
  · go_simp
    try with_reducible rfl
  dsimp only [Act.put]
  refine wpList_pure (v := ?_) rfl ?_ ?_
  rotate_left
  · go_simp
    try with_reducible rfl
  dsimp only [Act.put]
  refine wpList_pure (v := ?_) rfl ?_ ?_
  rotate_left
  · go_simp
    try with_reducible rfl
  dsimp only [Act.put]
  refine wpList_pure (v := ?_) rfl ?_ ?_
  rotate_left
  · go_simp
    try with_reducible rfl
  dsimp only [Act.put]
  refine wpList_plain rfl fun K hK => ?_
  go_simp
  refine (cMk _ (hT.step hb.out)).mono ?_
  rintro e w4 ⟨⟨g, rfl, hP, hg⟩, hbn⟩
  have hgw : w.heap.size ≤ g := Nat.le_trans hb.size hg
  refine hK _ _ ?_
  clear hK K cMk X_0 X_1 X_2 X_3 B_0 B_1 B X hg
  replace hb := hb.step hbn
  clear hbn
  refine wpList_pure (v := ?_) rfl ?_ ?_
  rotate_left
  · go_simp
    try with_reducible rfl
  dsimp only [Act.put]
  refine wpList_pure (v := ?_) rfl ?_ ?_
  rotate_left
  · go_simp
    try with_reducible rfl
  dsimp only [Act.put]
  refine wpList_pure (v := ?_) rfl ?_ ?_
  rotate_left
  · go_simp
    try with_reducible rfl
  dsimp only [Act.put]
  refine wpList_pure (v := ?_) rfl ?_ ?_
  rotate_left
  · go_simp
    try with_reducible rfl
  dsimp only [Act.put]
  refine wpList_plain rfl fun K hK => ?_
  go_simp
  obtain ⟨gW, hgW⟩ : ∃ g, w4.heap.size = g := ⟨_, rfl⟩
  have O := Blk.newV hgW 35 #[.int .i64 0, .int .i64 0, .int .i64 0, .int .i64 0, .int .i64 0, .int .i64 0, .int .i64 0, .int .i64 0, .string ⟨#[]⟩, .bool false, .bool false, .bool false, .bool false, .bool false, .bool false, .bool false, .bool false, .bool false, .bool false, .bool false, .bool false, .bool false, .bool false, .bool false, .bool false, .bool false, .bool false, .int .i64 0, .int .i64 0, .int .i64 0, .int .i64 0, .int .i64 0, .string ⟨#[]⟩, .int .i64 0, .int .i64 0]
  have hbn := (Below.refl w4.heap.size w4).alloc (Nat.le_refl _) (.cells #[.int .i64 0, .int .i64 0, .int .i64 0, .int .i64 0, .int .i64 0, .int .i64 0, .int .i64 0, .int .i64 0, .string ⟨#[]⟩, .bool false, .bool false, .bool false, .bool false, .bool false, .bool false, .bool false, .bool false, .bool false, .bool false, .bool false, .bool false, .bool false, .bool false, .bool false, .bool false, .bool false, .bool false, .int .i64 0, .int .i64 0, .int .i64 0, .int .i64 0, .int .i64 0, .string ⟨#[]⟩, .int .i64 0, .int .i64 0] 35)
  have hwO : w.heap.size ≤ gW := by have := hb.size; omega
  have hPO : g < gW := by have := hP.lt; omega
  replace hb := hb.step hbn
  replace hP := hP.step hbn
  refine hK _ _ ?_
  clear hK K hbn
  rw [hgW]
  generalize w4.alloc (.cells #[.int .i64 0, .int .i64 0, .int .i64 0, .int .i64 0, .int .i64 0, .int .i64 0, .int .i64 0, .int .i64 0, .string ⟨#[]⟩, .bool false, .bool false, .bool false, .bool false, .bool false, .bool false, .bool false, .bool false, .bool false, .bool false, .bool false, .bool false, .bool false, .bool false, .bool false, .bool false, .bool false, .bool false, .int .i64 0, .int .i64 0, .int .i64 0, .int .i64 0, .int .i64 0, .string ⟨#[]⟩, .int .i64 0, .int .i64 0] 35) = w5 at *
  refine wpList_pure (v := ?_) rfl ?_ ?_
  rotate_left
  · go_simp
    try with_reducible rfl
  dsimp only [Act.put]
  refine wpList_store_rowTo rfl 35 (.tmp 14) (.tmp 44) rfl rfl gW (qL A0).toArray (by kernel_rfl) (by kernel_rfl) _ _ O (qinfo hp0 ha0) (by rw [qsize hp0 ha0]; rfl) (qone _) ?_
  have hkn := kx_row w5 gW (qL A0).toArray
  replace O := O.row (qL A0)
  replace hP := hP.kx hkn (by simp; omega)
  replace hb := hb.kx hkn (by simp; omega)
  generalize w5.setRow gW (qL A0).toArray = wk at *
  clear hkn hgW
  replace O : QW wk gW A0 := ⟨O, hp0, ha0⟩
  refine wpList_pure (v := ?_) rfl ?_ ?_
  rotate_left
  · go_simp
    try with_reducible rfl
  dsimp only [Act.put]
  refine wpList_nil ?_
  go_upto_if 49 with fail
  go_cut [16] from 46 to 52 (fun v16 wx => ∃ p, p = v16 ∧ NoQ15 wk.heap.size p wx ∧ Below wk.heap.size wk wx)
  case first =>
    go_wp2_with fail
    · go_meet
      exact ⟨_, rfl, .inr ⟨wk.heap.size, rfl, Nat.le_refl _, (Blk.newV (W := wk) rfl 44 #[.int .i64 0, .int .i64 0, .int .i64 0, .int .i64 0, .string ⟨#[]⟩, .bool false, .bool false, .bool false, .bool false, .bool false, .bool false, .bool false, .bool false, .bool false, .bool false, .bool false, .bool false, .bool false, .bool false, .bool false, .bool false, .bool false, .bool false, .int .i64 0, .int .i64 0, .int .i64 0, .int .i64 0, .int .i64 0, .string ⟨#[]⟩, .int .i64 0, .int .i64 0, .int .i64 0, .int .i64 0, .int .i64 0, .int .i64 0]).cell (j := 31) rfl⟩, (Below.refl wk.heap.size wk).alloc (Nat.le_refl _) _⟩
    · go_meet
      exact ⟨_, rfl, .inl rfl, Below.refl _ _⟩
  case' rest =>
    obtain ⟨p, rfl, hq, hbn⟩ := hcut
    have hOq : gW < wk.heap.size := O.lt
    replace hb := hb.step hbn
    replace hP := hP.step hbn
    replace O := O.step hbn
    clear hbn
    generalize wc = w0 at *
    obtain ⟨nq, hnq⟩ : ∃ n, wk.heap.size = n := ⟨_, rfl⟩
    rw [hnq] at hq hOq
    clear hnq
    go_wp2_with fail
    refine (lnothing_any _).mono ?_
    rintro e w5 ⟨rfl, hbn⟩
    replace hb := hb.step hbn
    replace hP := hP.step hbn
    replace O := O.step hbn
    replace hq := hq.step hbn
    clear hbn
    go_wp2_with fail
    refine (prom_no _ 0 (-1) 0 0 0 0 ⟨#[]⟩ _ hq.out).mono ?_
    rintro e w6 ⟨rfl, hbn⟩
    replace hb := hb.step hbn
    replace hP := hP.step hbn
    replace O := O.step hbn
    replace hq := hq.step hbn
    clear hbn
    go_wp2_with fail
    refine (acc_no _ 0 _ hq.out).mono ?_
    rintro e w7 ⟨rfl, hbn⟩
    replace hb := hb.step hbn
    replace hP := hP.step hbn
    replace O := O.step hbn
    replace hq := hq.step hbn
    clear hbn
    go_wp2_with fail
    refine (ref_no _ 0 1 0 _ hq.out).mono ?_
    rintro e w8 ⟨rfl, hbn⟩
    replace hb := hb.step hbn
    replace hP := hP.step hbn
    replace O := O.step hbn
    replace hq := hq.step hbn
    clear hbn
    go_wp2_with fail
    refine (num15_any _ _).mono ?_
    rintro e wx ⟨rfl, rfl⟩
    go_wp2_with fail
    refine (num15_any _ _).mono ?_
    rintro e wx ⟨rfl, rfl⟩
    go_wp2_with fail
    refine (num15_any _ _).mono ?_
    rintro e wx ⟨rfl, rfl⟩
    go_wp2_with fail
    refine (state_no _ _ hq.out).mono ?_
    rintro e w9 ⟨rfl, hbn⟩
    replace hb := hb.step hbn
    replace hP := hP.step hbn
    replace O := O.step hbn
    replace hq := hq.step hbn
    clear hbn
    go_wp2_with fail
    refine (zsame_any _).mono ?_
    rintro e w10 ⟨rfl, hbn⟩
    replace hb := hb.step hbn
    replace hP := hP.step hbn
    replace O := O.step hbn
    replace hq := hq.step hbn
    clear hbn
    go_wp2_with fail
    refine (copy_no _ _ hq.out).mono ?_
    rintro e wx ⟨rfl, rfl⟩
    go_wp2_with fail
    refine (same15_no1 _ (.pointer none) _ hq.out (.inl rfl)).mono ?_
    rintro e wx ⟨rfl, rfl⟩
    clear hzi hshort
    go_wp2_with fail
    go_loopw [23] (fun i wr => ∃ (j : Nat) (A : Prp), i = .int .i64 j ∧ j ≤ N ∧ PW wr g A ∧ InvP A ∧ InvB A ∧ QW wr gW A ∧ NoQ15 nq p wr ∧ From w wr) (fun i _ => N - (intOf i).toNat)
    case atStart => exact ⟨0, A0, rfl, by omega, hP, hI0, hB0, O, hq, hb⟩
    case round =>
      clear hP hI0 hB0 O hq hb
      obtain ⟨j, A, rfl, hj, hP, hI, hB, O, hq, hb⟩ := hrel
      by_cases hlt : j < N
      · have hNl := HN.out
        obtain ⟨e, he⟩ : ∃ e, l[j]? = some e := ⟨l[j], by simp [hNl, hlt]⟩
        have hQ := (hE.step hb.out) j e he
        obtain ⟨b, off, rfl, hQ⟩ := hQ
        have hbB : b < w.heap.size := by
          obtain ⟨b2, o2, h2, hx⟩ := hE j e he
          cases h2
          exact World.block_lt_of_cell? w _ hx.h0
        have hj0 : (0 : Int) ≤ (j : Int) := by omega
        have hj1 : (j : Int) < (N : Int) := by omega
        have hse := HS.out e (List.mem_of_getElem? he)
        have hpA := O.2.1
        have haA := O.2.2
        have cA := fun W (hW : From w W) (hA : PW W g A) => act15_any g A e W hA hI hB (hT.step hW.out) hse
        have hI2 := hI.act e
        have hB2 := hB.act e
        obtain ⟨A2, hA2⟩ : ∃ A2, actP A e = A2 := ⟨_, rfl⟩
        simp only [hA2] at cA hI2 hB2
        clear hA2
        obtain ⟨ew, epl, ear, eap, ek, em, en, es, ex, ey⟩ := e
        unfold qV at cA
        simp only at cA
        have hbg : b ∉ [g] := by simp; omega
        have hWg : gW ∉ [g] := by simp; omega
        have hO2 : ∀ W, Kx [g] wr W → W.heap[gW]? = some (.cells (qL A).toArray 35 (0, 0)) := fun W h => (h.blk O.1 hWg)
        have q0 := kx_all hQ.h0 hbg
        have q1 := kx_all hQ.h1 hbg
        have q2 := kx_all hQ.h2 hbg
        have q3 := kx_all hQ.h3 hbg
        have q4 := kx_all hQ.h4 hbg
        have q5 := kx_all hQ.h5 hbg
        have q6 := kx_all hQ.h6 hbg
        have q7 := kx_all hQ.h7 hbg
        have q8 := kx_all hQ.h8 hbg
        have q9 := kx_all hQ.h9 hbg
        simp only at q0 q1 q2 q3 q4 q5 q6 q7 q8 q9
        clear hQ he HS hE hNl HN
        go_upto_region 17 with fail
        have hgr := hP.lt
        go_cut [24, 25] from 112 to 122 (fun v24 v25 wx => ∃ gt, v24 = .pointer (some ⟨gt, 0, none⟩) ∧ v25 = .bool true ∧ wr.heap.size ≤ gt ∧ Blk wx gt 35 (qL A2) ∧ PW wx g A2 ∧ Kx [g] wr wx)
        case first =>
          refine wp_region_held (S := Kx [g] wr) (by kernel_rfl) ?_
          have hst : Below (wr).heap.size wr { wr with drawn := (wr).drawn + 1 } := ⟨rfl, rfl, rfl, Nat.le_refl _, fun _ _ => rfl⟩
          have hS : (Kx [g] wr) { wr with drawn := (wr).drawn + 1 } := by first | exact ⟨rfl, rfl, rfl, Nat.le_refl _, fun _ _ _ => rfl⟩ | exact ⟨rfl, rfl, rfl, Nat.le_refl _, fun _ _ => rfl⟩ | exact hS0
          have hPq := hP.step hst
          have hbq := hb.step hst
          clear hst
          generalize ({ wr with drawn := (wr).drawn + 1 } : World) = wq at *
          refine wpAnyH_take (i := 0) (v := ?_) rfl (by kernel_rfl) (by kernel_rfl) (by kernel_rfl) (fun _ _ _ h => h) (Or.inl ⟨by kernel_rfl, ?_⟩) hS ?_
          rotate_left
          · intro W hSW
            have y0 := q0 _ hSW
            have y1 := q1 _ hSW
            have y2 := q2 _ hSW
            have y3 := q3 _ hSW
            have y4 := q4 _ hSW
            have y5 := q5 _ hSW
            have y6 := q6 _ hSW
            have y7 := q7 _ hSW
            have y8 := q8 _ hSW
            have y9 := q9 _ hSW
            go_simp
            try with_reducible rfl
          dsimp only [Act.put]
          refine wpAnyH_take (i := 2) (v := ?_) rfl (by kernel_rfl) (by kernel_rfl) (by kernel_rfl) (fun _ _ _ h => h) (Or.inl ⟨by kernel_rfl, ?_⟩) hS ?_
          rotate_left
          · intro W hSW
            have y0 := q0 _ hSW
            have y1 := q1 _ hSW
            have y2 := q2 _ hSW
            have y3 := q3 _ hSW
            have y4 := q4 _ hSW
            have y5 := q5 _ hSW
            have y6 := q6 _ hSW
            have y7 := q7 _ hSW
            have y8 := q8 _ hSW
            have y9 := q9 _ hSW
            go_simp
            try with_reducible rfl
          dsimp only [Act.put]
          refine wpAnyH_take (i := 3) (v := ?_) rfl (by kernel_rfl) (by kernel_rfl) (by kernel_rfl) (fun _ _ _ h => h) (Or.inl ⟨by kernel_rfl, ?_⟩) hS ?_
          rotate_left
          · intro W hSW
            have y0 := q0 _ hSW
            have y1 := q1 _ hSW
            have y2 := q2 _ hSW
            have y3 := q3 _ hSW
            have y4 := q4 _ hSW
            have y5 := q5 _ hSW
            have y6 := q6 _ hSW
            have y7 := q7 _ hSW
            have y8 := q8 _ hSW
            have y9 := q9 _ hSW
            go_simp
            try with_reducible rfl
          dsimp only [Act.put]
          refine wpAnyH_take (i := 4) (v := ?_) rfl (by kernel_rfl) (by kernel_rfl) (by kernel_rfl) (fun _ _ _ h => h) (Or.inl ⟨by kernel_rfl, ?_⟩) hS ?_
          rotate_left
          · intro W hSW
            have y0 := q0 _ hSW
            have y1 := q1 _ hSW
            have y2 := q2 _ hSW
            have y3 := q3 _ hSW
            have y4 := q4 _ hSW
            have y5 := q5 _ hSW
            have y6 := q6 _ hSW
            have y7 := q7 _ hSW
            have y8 := q8 _ hSW
            have y9 := q9 _ hSW
            go_simp
            try with_reducible rfl
          dsimp only [Act.put]
          refine wpAnyH_take (i := 5) (v := ?_) rfl (by kernel_rfl) (by kernel_rfl) (by kernel_rfl) (fun _ _ _ h => h) (Or.inl ⟨by kernel_rfl, ?_⟩) hS ?_
          rotate_left
          · intro W hSW
            have y0 := q0 _ hSW
            have y1 := q1 _ hSW
            have y2 := q2 _ hSW
            have y3 := q3 _ hSW
            have y4 := q4 _ hSW
            have y5 := q5 _ hSW
            have y6 := q6 _ hSW
            have y7 := q7 _ hSW
            have y8 := q8 _ hSW
            have y9 := q9 _ hSW
            go_simp
            try with_reducible rfl
          dsimp only [Act.put]
          refine wpAnyH_take (i := 1) (v := .agg (qL A).toArray) rfl (by kernel_rfl) (by kernel_rfl) (by kernel_rfl) (fun _ _ _ h => h) (yields_load_row (by kernel_rfl) 35 (.tmp 14) rfl gW (by kernel_rfl) _ _ _ hO2 Tryz.underlying35 rfl (qinfo hpA haA)) hS ?_
          dsimp only [Act.put]
          refine wpAnyH_ready (rs := [6, 10]) (by kernel_rfl) (by simp) ?_
          refine AllReadyH.cons rfl (fun K hK => ?_) (AllReadyH.cons rfl (fun K hK => ?_) AllReadyH.nil)
          ·
            go_simp
            refine (cA _ hbq hPq).mono ?_
            rintro e wz ⟨rfl, h7, hK7⟩
            refine hK.out _ _ (hS.trans hK7) (fun hS => ?_)
            clear hK K
            refine wpAnyH_take (i := 7) (v := ?_) rfl (by kernel_rfl) (by kernel_rfl) (by kernel_rfl) (fun _ _ _ h => h) (Or.inl ⟨by kernel_rfl, ?_⟩) hS ?_
            rotate_left
            · intro W hSW
              go_simp
              try with_reducible rfl
            dsimp only [Act.put]
            refine wpAnyH_take (i := 8) (v := ?_) rfl (by kernel_rfl) (by kernel_rfl) (by kernel_rfl) (fun _ _ _ h => h) (Or.inl ⟨by kernel_rfl, ?_⟩) hS ?_
            rotate_left
            · intro W hSW
              go_simp
              try with_reducible rfl
            dsimp only [Act.put]
            refine wpAnyH_take (i := 9) (v := ?_) rfl (by kernel_rfl) (by kernel_rfl) (by kernel_rfl) (fun _ _ _ h => h) (Or.inl ⟨by kernel_rfl, ?_⟩) hS ?_
            rotate_left
            · intro W hSW
              go_simp
              try with_reducible rfl
            dsimp only [Act.put]
            refine wpAnyH_ready (rs := [10]) (by kernel_rfl) (by simp) ?_
            refine AllReadyH.cons rfl (fun K hK => ?_) AllReadyH.nil
            go_simp
            obtain ⟨gt, hgt⟩ : ∃ gt, wz.heap.size = gt := ⟨_, rfl⟩
            have hle : wr.heap.size ≤ gt := by have := hS.size; omega
            have XT := Blk.newV hgt 35 #[.int .i64 0, .int .i64 0, .int .i64 0, .int .i64 0, .int .i64 0, .int .i64 0, .int .i64 0, .int .i64 0, .string ⟨#[]⟩, .bool false, .bool false, .bool false, .bool false, .bool false, .bool false, .bool false, .bool false, .bool false, .bool false, .bool false, .bool false, .bool false, .bool false, .bool false, .bool false, .bool false, .bool false, .int .i64 0, .int .i64 0, .int .i64 0, .int .i64 0, .int .i64 0, .string ⟨#[]⟩, .int .i64 0, .int .i64 0]
            have hba := (Below.refl wz.heap.size wz).alloc (Nat.le_refl _) (.cells #[.int .i64 0, .int .i64 0, .int .i64 0, .int .i64 0, .int .i64 0, .int .i64 0, .int .i64 0, .int .i64 0, .string ⟨#[]⟩, .bool false, .bool false, .bool false, .bool false, .bool false, .bool false, .bool false, .bool false, .bool false, .bool false, .bool false, .bool false, .bool false, .bool false, .bool false, .bool false, .bool false, .bool false, .int .i64 0, .int .i64 0, .int .i64 0, .int .i64 0, .int .i64 0, .string ⟨#[]⟩, .int .i64 0, .int .i64 0] 35)
            replace h7 := h7.step hba
            refine hK.out _ _ (hS.step hba) (fun hS => ?_)
            rw [hgt]
            generalize wz.alloc (.cells #[.int .i64 0, .int .i64 0, .int .i64 0, .int .i64 0, .int .i64 0, .int .i64 0, .int .i64 0, .int .i64 0, .string ⟨#[]⟩, .bool false, .bool false, .bool false, .bool false, .bool false, .bool false, .bool false, .bool false, .bool false, .bool false, .bool false, .bool false, .bool false, .bool false, .bool false, .bool false, .bool false, .bool false, .int .i64 0, .int .i64 0, .int .i64 0, .int .i64 0, .int .i64 0, .string ⟨#[]⟩, .int .i64 0, .int .i64 0] 35) = wa at *
            clear hgt hba
            clear hK K
            refine wpAnyH_ready (rs := [11]) (by kernel_rfl) (by simp) ?_
            refine AllReadyH.cons rfl (fun K hK => ?_) AllReadyH.nil
            refine step_store_row rfl 35 (.tmp 24) (.tmp 120) rfl rfl gt (qL A2).toArray (by kernel_rfl) (by kernel_rfl) _ _ XT (qinfo h7.2.1 h7.2.2) (by rw [qsize h7.2.1 h7.2.2]; rfl) (qone _) ?_
            have hkn := kx_row wa gt (qL A2).toArray
            replace XT := XT.row (qL A2)
            replace h7 := h7.kx hkn (by simp; omega)
            replace hS : Kx [g] wr (wa.setRow gt (qL A2).toArray) := Kx.kx hS hkn (by intro x hx; right; simp at hx; omega)
            refine hK.out _ _ hS (fun hS => ?_)
            clear hkn
            clear hK K
            refine wpAnyH_ready (rs := [12]) (by kernel_rfl) (by simp) ?_
            refine AllReadyH.cons rfl (fun K hK => ?_) AllReadyH.nil
            go_simp
            refine hK.out _ _ (hS) (fun hS => ?_)
            clear hK K
            refine wpAnyH_done (by kernel_rfl) ?_ _
            go_wp2_with fail
            go_meet
            exact ⟨gt, rfl, rfl, hle, XT, h7, hS⟩
          ·
            go_simp
            obtain ⟨gt, hgt⟩ : ∃ gt, wq.heap.size = gt := ⟨_, rfl⟩
            have hle : wr.heap.size ≤ gt := by have := hS.size; omega
            have XT := Blk.newV hgt 35 #[.int .i64 0, .int .i64 0, .int .i64 0, .int .i64 0, .int .i64 0, .int .i64 0, .int .i64 0, .int .i64 0, .string ⟨#[]⟩, .bool false, .bool false, .bool false, .bool false, .bool false, .bool false, .bool false, .bool false, .bool false, .bool false, .bool false, .bool false, .bool false, .bool false, .bool false, .bool false, .bool false, .bool false, .int .i64 0, .int .i64 0, .int .i64 0, .int .i64 0, .int .i64 0, .string ⟨#[]⟩, .int .i64 0, .int .i64 0]
            have hba := (Below.refl wq.heap.size wq).alloc (Nat.le_refl _) (.cells #[.int .i64 0, .int .i64 0, .int .i64 0, .int .i64 0, .int .i64 0, .int .i64 0, .int .i64 0, .int .i64 0, .string ⟨#[]⟩, .bool false, .bool false, .bool false, .bool false, .bool false, .bool false, .bool false, .bool false, .bool false, .bool false, .bool false, .bool false, .bool false, .bool false, .bool false, .bool false, .bool false, .bool false, .int .i64 0, .int .i64 0, .int .i64 0, .int .i64 0, .int .i64 0, .string ⟨#[]⟩, .int .i64 0, .int .i64 0] 35)
            replace hPq := hPq.step hba
            replace hbq := hbq.step hba
            refine hK.out _ _ (hS.step hba) (fun hS => ?_)
            rw [hgt]
            generalize wq.alloc (.cells #[.int .i64 0, .int .i64 0, .int .i64 0, .int .i64 0, .int .i64 0, .int .i64 0, .int .i64 0, .int .i64 0, .string ⟨#[]⟩, .bool false, .bool false, .bool false, .bool false, .bool false, .bool false, .bool false, .bool false, .bool false, .bool false, .bool false, .bool false, .bool false, .bool false, .bool false, .bool false, .bool false, .bool false, .int .i64 0, .int .i64 0, .int .i64 0, .int .i64 0, .int .i64 0, .string ⟨#[]⟩, .int .i64 0, .int .i64 0] 35) = wa at *
            clear hgt hba
            clear hK K
            refine wpAnyH_ready (rs := [6]) (by kernel_rfl) (by simp) ?_
            refine AllReadyH.cons rfl (fun K hK => ?_) AllReadyH.nil
            go_simp
            refine (cA _ hbq hPq).mono ?_
            rintro e wz ⟨rfl, h7, hK7⟩
            replace XT := hK7.blk XT (by simp; omega)
            refine hK.out _ _ (hS.trans hK7) (fun hS => ?_)
            clear hK K
            refine wpAnyH_take (i := 7) (v := ?_) rfl (by kernel_rfl) (by kernel_rfl) (by kernel_rfl) (fun _ _ _ h => h) (Or.inl ⟨by kernel_rfl, ?_⟩) hS ?_
            rotate_left
            · intro W hSW
              go_simp
              try with_reducible rfl
            dsimp only [Act.put]
            refine wpAnyH_take (i := 8) (v := ?_) rfl (by kernel_rfl) (by kernel_rfl) (by kernel_rfl) (fun _ _ _ h => h) (Or.inl ⟨by kernel_rfl, ?_⟩) hS ?_
            rotate_left
            · intro W hSW
              go_simp
              try with_reducible rfl
            dsimp only [Act.put]
            refine wpAnyH_take (i := 9) (v := ?_) rfl (by kernel_rfl) (by kernel_rfl) (by kernel_rfl) (fun _ _ _ h => h) (Or.inl ⟨by kernel_rfl, ?_⟩) hS ?_
            rotate_left
            · intro W hSW
              go_simp
              try with_reducible rfl
            dsimp only [Act.put]
            refine wpAnyH_ready (rs := [11]) (by kernel_rfl) (by simp) ?_
            refine AllReadyH.cons rfl (fun K hK => ?_) AllReadyH.nil
            refine step_store_row rfl 35 (.tmp 24) (.tmp 120) rfl rfl gt (qL A2).toArray (by kernel_rfl) (by kernel_rfl) _ _ XT (qinfo h7.2.1 h7.2.2) (by rw [qsize h7.2.1 h7.2.2]; rfl) (qone _) ?_
            have hkn := kx_row wz gt (qL A2).toArray
            replace XT := XT.row (qL A2)
            replace h7 := h7.kx hkn (by simp; omega)
            replace hS : Kx [g] wr (wz.setRow gt (qL A2).toArray) := Kx.kx hS hkn (by intro x hx; right; simp at hx; omega)
            refine hK.out _ _ hS (fun hS => ?_)
            clear hkn
            clear hK K
            refine wpAnyH_ready (rs := [12]) (by kernel_rfl) (by simp) ?_
            refine AllReadyH.cons rfl (fun K hK => ?_) AllReadyH.nil
            go_simp
            refine hK.out _ _ (hS) (fun hS => ?_)
            clear hK K
            refine wpAnyH_done (by kernel_rfl) ?_ _
            go_wp2_with fail
            go_meet
            exact ⟨gt, rfl, rfl, hle, XT, h7, hS⟩
        case' rest =>
          obtain ⟨gt, rfl, rfl, hle, XT, hP2, hK2⟩ := hcut
          clear cA hO2 q0 q1 q2 q3 q4 q5 q6 q7 q8 q9 hP
          have hgt : gW < gt := Nat.lt_of_lt_of_le O.lt hle
          replace O := O.kx hK2 hWg
          replace hq := hq.kx hK2 (by intro x hx; simp at hx; omega)
          replace hb := hb.kx hK2 (by intro x hx; simp at hx; omega)
          generalize wc = w8 at *
          clear hK2
          have hp2 := hP2.2.1
          have ha2 := hP2.2.2
          go_upto_region 18 with fail
          apply wp_region_lit
          refine wpList_load_row rfl 35 (.tmp 24) rfl gt (by kernel_rfl) _ _ (0, 0) _ XT Tryz.underlying35 rfl (qinfo hp2 ha2) ?_
          dsimp only [Act.put]
          refine wpList_store_rowTo rfl 35 (.tmp 14) (.tmp 122) rfl rfl gW (qL A2).toArray (by kernel_rfl) (by kernel_rfl) _ _ O.1 (qinfo hp2 ha2) (by rw [qsize hp2 ha2, qsize hpA haA]) (qone _) ?_
          have hkn := kx_row w8 gW (qL A2).toArray
          have O2 := O.1.row (qL A2)
          replace hP2 := hP2.kx hkn (by simp; omega)
          replace hq := hq.kx hkn (by intro x hx; simp at hx; omega)
          replace hb := hb.kx hkn (by intro x hx; simp at hx; omega)
          generalize w8.setRow gW (qL A2).toArray = w9 at *
          refine wpList_nil ?_
          go_wp2_with fail
          go_roundw
          case rel => exact ⟨j + 1, A2, by go_num, by omega, hP2, hI2, hB2, ⟨O2, hp2, ha2⟩, hq, hb⟩
          case measure => simp [intOf]; omega
      · obtain rfl : j = N := by omega
        clear O
        go_wp2_with fail
        refine (same15_no2 g A _ _ hP hI.ne hq.out).mono ?_
        rintro e wx ⟨rfl, rfl⟩
        go_wp2_with fail
        refine (same15_no3 g A _ _ hP hI.ne hq.out).mono ?_
        rintro e wx ⟨rfl, rfl⟩
        go_wp2_with fail
        refine (works15_any _ (hT.step hb.out)).mono ?_
        rintro e wb ⟨rfl, hbn⟩
        replace hb := hb.step hbn
        replace hP := hP.step hbn
        replace hq := hq.step hbn
        clear hbn
        go_wp2
        go_ret
        exact ⟨rfl, hb⟩
theorem plays15_walkx (c sl : Int) (own : Bool) (r p k m n : Int) (s : ByteArray) (x : Option Addr) (len cap : Nat) (w : World) (hT : Tabs w) (hz : s.size ≤ maxLen) (h : ∃ l : List Pa, l.length = len ∧ HasPa w x l ∧ (∀ e, e ∈ l → e.s.size ≤ maxLen) ∧ len ≤ maxLen) :
    Calls Tryz.prog 3 #[.int .i64 c, .int .i64 sl, .bool own, .agg #[.int .i64 r, .int .i64 p], .agg #[.int .i64 k, .int .i64 m, .int .i64 n, .string s], .slice x len cap] w fun r w' => r = .returned (.bool true) ∧ Below w.heap.size w w' := by
  obtain ⟨l, rfl, hE, hs, hl⟩ := h
  have hl2 : l.length ≤ 9223372036854775807 := by unfold maxLen at hl; omega
  have hz2 : s.size ≤ 9223372036854775807 := by unfold maxLen at hz; omega
  have hs2 : ∀ e, e ∈ l → e.s.size ≤ 9223372036854775807 := fun e he => by have := hs e he; unfold maxLen at this; omega
  cases hf : fewP l 40
  · exact plays15_few c sl own r p k m n s l x cap w hT hE hl2 hs2 hz2 hf rfl
  · cases hg : longP s
    · by_cases h0 : mkE c sl own r p k m n s = 0
      · exact plays15_yes c sl own r p k m n s l x cap w hT hE hl2 hs2 hz2 hf hg h0
      · exact plays15_no c sl own r p k m n s l x cap w hT hE hl2 hs2 hz2 hf hg h0
    · exact plays15_long c sl own r p k m n s l x cap w hT hE hl2 hs2 hz2 hf hg
end Go.Proofs.YtcahkcbenanfnaaGreatDoor
