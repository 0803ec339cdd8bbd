
/- The document's learner: Hear. -/
import Derived.Test.YthhpblchiodahaaGreatDoorLpF
namespace Go.Proofs.YthhpblchiodahaaGreatDoor
set_option linter.unusedSimpArgs false
set_option linter.unusedVariables false
open Go.RowKit Go.Maps
/-- What the document's Hear tells, and leaves. -/
def RHear (base : Nat) (A : Lrn) (L : HMap) (pl r p k m n : Int) (s : ByteArray) (w : World) (e : Ending) (w' : World) : Prop :=
  (∃ v', e = .returned (.tuple #[rV (heA A L pl r p k m n s) v', .bool (heV A L pl r p k m n s), .int .i64 (heE A L pl r p k m n s)]) ∧ HdR w' base v' (srtB (heL A L pl r p k m n s))) ∧ Below w.heap.size w w'
/-- What is known of the ballot after some rows. -/
structure FoundI (w : World) (base : Nat) (r p k m n : Int) (s : ByteArray) (xs : HMap) (j : Nat) (hd : Hd) (u : Value) : Prop where
  row : RowI w base u (plK 0 hd.vs)
  f : (hd = ⟨k, m, n, s, List.replicate 9 false⟩ ∧ ∀ x ∈ xs.take j, x.1 ≠ (r, p)) ∨ (∃ x ∈ xs.take j, x.1 = (r, p) ∧ hd = x.2)
theorem FoundI.start (w : World) (base : Nat) (r p k m n : Int) (s : ByteArray) (xs : HMap) : FoundI w base r p k m n s xs 0 ⟨k, m, n, s, List.replicate 9 false⟩ (.slice none 0 0) :=
  ⟨World.ownsRow_nil _ _ _ _, .inl ⟨rfl, fun x hx => by simp at hx⟩⟩
theorem FoundI.same {w : World} {base : Nat} {r p k m n : Int} {s : ByteArray} {xs : HMap} {j : Nat} {hd : Hd} {u u2 : Value} {x : (Int × Int) × Hd} (h : FoundI w base r p k m n s xs j hd u) (hx : xs[j]? = some x) (he : x.1 = (r, p)) (hu : RowI w base u2 (plK 0 x.2.vs)) : FoundI w base r p k m n s xs (j + 1) x.2 u2 :=
  ⟨hu, .inr ⟨x, by rw [List.take_add_one, hx]; simp, he, rfl⟩⟩
theorem FoundI.other {w : World} {base : Nat} {r p k m n : Int} {s : ByteArray} {xs : HMap} {j : Nat} {hd : Hd} {u : Value} {x : (Int × Int) × Hd} (h : FoundI w base r p k m n s xs j hd u) (hx : xs[j]? = some x) (he : x.1 ≠ (r, p)) : FoundI w base r p k m n s xs (j + 1) hd u := by
  refine ⟨h.row, ?_⟩
  rcases h.f with ⟨h1, h2⟩ | ⟨y, h1, h2, h3⟩
  · refine .inl ⟨h1, fun z hz => ?_⟩
    rw [List.take_add_one, hx] at hz
    simp at hz
    rcases hz with hz | rfl
    · exact h2 z (by simpa using hz)
    · exact he
  · exact .inr ⟨y, by rw [List.take_add_one]; exact List.mem_append_left _ h1, h2, h3⟩
theorem FoundI.fin {w : World} {base : Nat} {r p k m n : Int} {s : ByteArray} {L : HMap} {hd : Hd} {u : Value} (hn : (L.map (·.1)).Nodup) (h : FoundI w base r p k m n s (srtB L) (srtB L).length hd u) :
    hd.vs = (atH L r p).vs ∧ (eq4 hd.k hd.m hd.n hd.s k m n s = !clashH L r p k m n s) := by
  rcases h.f with ⟨rfl, h2⟩ | ⟨y, h1, h2, rfl⟩
  · obtain ⟨f1, f2⟩ := found_none (fun x hx => h2 x (by rw [List.take_of_length_le (Nat.le_refl _)]; exact hx))
    unfold clashH
    rw [f1, f2]
    simp [zeroH, eq4]
  · obtain ⟨f1, f2⟩ := found_get hn (List.mem_of_mem_take h1) h2
    unfold clashH
    rw [f1, f2]
    simp
set_option maxRecDepth 100000 in
set_option maxHeartbeats 4000000 in
theorem rhear_bad (A : Lrn) (a : Option Addr) (N cp : Nat) (pl r p k m n : Int) (s : ByteArray) (w : World) (hs : s.size ≤ 9223372036854775807) (hok : hearB A pl r p k m n s = false) :
    Calls Tryz.prog 50 #[rV A (.slice a N cp), .int .i64 pl, .agg #[.int .i64 r, .int .i64 p], kV k m n s] w fun e w' => e = .returned (.tuple #[rV A (.slice a N cp), .bool false, .int .i64 2]) ∧ Below w.heap.size w w' := by
  obtain ⟨k0, m0, n0, s0, is, c, sl⟩ := A
  unfold hearB at hok
  simp only at hok
  have cP := fun W => refPlace_any c pl W
  have cM := fun W => refMay_any c sl r p W
  have cE := fun W => ref14_any k m n s W hs
  unfold rV kV
  simp only
  have hin : inB pl 0 c = (decide (0 ≤ pl) && decide (pl < c)) := by unfold inB; simp
  rw [← Bool.and_assoc, ← hin] at hok
  clear hin
  generalize inB pl 0 c = b1 at *
  generalize mayB c sl r p = b2 at *
  generalize entB k m n s = b3 at *
  cases b1
  · have hb := From.refl w
    go_enter Tryz.func50, Tryz.ntmps50
    go_upto_region 1 with fail
    obtain ⟨gX, hgX⟩ : ∃ g, (w).heap.size = g := ⟨_, rfl⟩
    have X := Blk.newV hgX 55 #[.int .i64 c, .int .i64 sl, .slice a N cp, .bool is, .int .i64 k0, .int .i64 m0, .int .i64 n0, .string s0]
    have hbn := (Below.refl (w).heap.size w).alloc (Nat.le_refl _) (.cells #[.int .i64 c, .int .i64 sl, .slice a N cp, .bool is, .int .i64 k0, .int .i64 m0, .int .i64 n0, .string s0] 55)
    replace hb := hb.step hbn
    clear hbn
    rw [hgX]
    have szX := alloc_size hgX (.cells #[.int .i64 c, .int .i64 sl, .slice a N cp, .bool is, .int .i64 k0, .int .i64 m0, .int .i64 n0, .string s0] 55)
    generalize (w).alloc (.cells #[.int .i64 c, .int .i64 sl, .slice a N cp, .bool is, .int .i64 k0, .int .i64 m0, .int .i64 n0, .string s0] 55) = w1 at *
    obtain ⟨gBb, hgBb⟩ : ∃ g, (w1).heap.size = g := ⟨_, rfl⟩
    have lt_X_Bb := X.lt
    rw [hgBb] at lt_X_Bb
    have Bb := Blk.newV hgBb 66 #[.int .i64 r, .int .i64 p]
    have hbn := (Below.refl (w1).heap.size w1).alloc (Nat.le_refl _) (.cells #[.int .i64 r, .int .i64 p] 66)
    replace hb := hb.step hbn
    replace X := X.step hbn
    clear hbn
    have egBb : gX + 1 = gBb := szX.symm.trans hgBb
    rw [egBb]
    clear szX
    have szBb := alloc_size hgBb (.cells #[.int .i64 r, .int .i64 p] 66)
    generalize (w1).alloc (.cells #[.int .i64 r, .int .i64 p] 66) = w2 at *
    obtain ⟨gE, hgE⟩ : ∃ g, (w2).heap.size = g := ⟨_, rfl⟩
    have lt_X_E := X.lt
    rw [hgE] at lt_X_E
    have lt_Bb_E := Bb.lt
    rw [hgE] at lt_Bb_E
    have E := Blk.newV hgE 24 #[.int .i64 k, .int .i64 m, .int .i64 n, .string s]
    have hbn := (Below.refl (w2).heap.size w2).alloc (Nat.le_refl _) (.cells #[.int .i64 k, .int .i64 m, .int .i64 n, .string s] 24)
    replace hb := hb.step hbn
    replace X := X.step hbn
    replace Bb := Bb.step hbn
    clear hbn
    have egE : gBb + 1 = gE := szBb.symm.trans hgE
    rw [egE]
    clear szBb
    have szE := alloc_size hgE (.cells #[.int .i64 k, .int .i64 m, .int .i64 n, .string s] 24)
    generalize (w2).alloc (.cells #[.int .i64 k, .int .i64 m, .int .i64 n, .string s] 24) = w3 at *
    obtain ⟨gR, hgR⟩ : ∃ g, (w3).heap.size = g := ⟨_, rfl⟩
    have lt_X_R := X.lt
    rw [hgR] at lt_X_R
    have lt_Bb_R := Bb.lt
    rw [hgR] at lt_Bb_R
    have lt_E_R := E.lt
    rw [hgR] at lt_E_R
    have R := Blk.newV hgR 55 #[.int .i64 0, .int .i64 0, .slice none 0 0, .bool false, .int .i64 0, .int .i64 0, .int .i64 0, .string ⟨#[]⟩]
    have hbn := (Below.refl (w3).heap.size w3).alloc (Nat.le_refl _) (.cells #[.int .i64 0, .int .i64 0, .slice none 0 0, .bool false, .int .i64 0, .int .i64 0, .int .i64 0, .string ⟨#[]⟩] 55)
    replace hb := hb.step hbn
    replace X := X.step hbn
    replace Bb := Bb.step hbn
    replace E := E.step hbn
    clear hbn
    have egR : gE + 1 = gR := szE.symm.trans hgR
    rw [egR]
    clear szE
    generalize (w3).alloc (.cells #[.int .i64 0, .int .i64 0, .slice none 0 0, .bool false, .int .i64 0, .int .i64 0, .int .i64 0, .string ⟨#[]⟩] 55) = w4 at *
    have hXw : w.heap.size ≤ gX := by omega
    have hXB : gX < gBb := by omega
    have hBE : gBb < gE := by omega
    have hER : gE < gR := by omega
    clear hgX hgBb hgE hgR egBb egE egR
    clear lt_X_Bb lt_X_E lt_X_R lt_Bb_E lt_Bb_R lt_E_R
    have X_0 := X.cell (j := 0) rfl
    have X_1 := X.cell (j := 1) rfl
    have X_2 := X.cell (j := 2) rfl
    have X_3 := X.cell (j := 3) rfl
    have X_4 := X.cell (j := 4) rfl
    have X_5 := X.cell (j := 5) rfl
    have X_6 := X.cell (j := 6) rfl
    have X_7 := X.cell (j := 7) rfl
    go_wp2_with fail
    refine (cP _).mono ?_
    rintro e wx ⟨rfl, rfl⟩
    clear X_0 X_1 X_2 X_3 X_4 X_5 X_6 X_7
    have X_0 := X.cell (j := 0) rfl
    have X_1 := X.cell (j := 1) rfl
    have X_2 := X.cell (j := 2) rfl
    have X_3 := X.cell (j := 3) rfl
    have X_4 := X.cell (j := 4) rfl
    have X_5 := X.cell (j := 5) rfl
    have X_6 := X.cell (j := 6) rfl
    have X_7 := X.cell (j := 7) rfl
    have R_0 := R.cell (j := 0) rfl
    have R_1 := R.cell (j := 1) rfl
    have R_2 := R.cell (j := 2) rfl
    have R_3 := R.cell (j := 3) rfl
    have R_4 := R.cell (j := 4) rfl
    have R_5 := R.cell (j := 5) rfl
    have R_6 := R.cell (j := 6) rfl
    have R_7 := R.cell (j := 7) rfl
    have Rf0 := R.frozen 0
    have Rf1 := R.frozen 1
    have Rf2 := R.frozen 2
    have Rf3 := R.frozen 3
    have Rf4 := R.frozen 4
    have Rf5 := R.frozen 5
    have Rf6 := R.frozen 6
    have Rf7 := R.frozen 7
    go_wp2_with fail
    (try simp only [Exit.inBlock, Exit.then])
    clear X_0 X_1 X_2 X_3 X_4 X_5 X_6 X_7 Rf0 Rf1 Rf2 Rf3 Rf4 Rf5 Rf6 Rf7 R_0 R_1 R_2 R_3 R_4 R_5 R_6 R_7
    have hkn : Kx [gR] w4 ((((((((w4.setCell ⟨gR, 0, none⟩ (.int .i64 c)).setCell ⟨gR, 1, none⟩ (.int .i64 sl)).setCell ⟨gR, 2, none⟩ (.slice a N cp)).setCell ⟨gR, 3, none⟩ (.bool is)).setCell ⟨gR, 4, none⟩ (.int .i64 k0)).setCell ⟨gR, 5, none⟩ (.int .i64 m0)).setCell ⟨gR, 6, none⟩ (.int .i64 n0)).setCell ⟨gR, 7, none⟩ (.string s0)) := Kx.setCells [.int .i64 c, .int .i64 sl, .slice a N cp, .bool is, .int .i64 k0, .int .i64 m0, .int .i64 n0, .string s0] 0 _ (Kx.refl _ _) (.inl (by simp))
    replace R : Blk ((((((((w4.setCell ⟨gR, 0, none⟩ (.int .i64 c)).setCell ⟨gR, 1, none⟩ (.int .i64 sl)).setCell ⟨gR, 2, none⟩ (.slice a N cp)).setCell ⟨gR, 3, none⟩ (.bool is)).setCell ⟨gR, 4, none⟩ (.int .i64 k0)).setCell ⟨gR, 5, none⟩ (.int .i64 m0)).setCell ⟨gR, 6, none⟩ (.int .i64 n0)).setCell ⟨gR, 7, none⟩ (.string s0)) gR 55 [.int .i64 c, .int .i64 sl, .slice a N cp, .bool is, .int .i64 k0, .int .i64 m0, .int .i64 n0, .string s0] := Blk.puts [.int .i64 c, .int .i64 sl, .slice a N cp, .bool is, .int .i64 k0, .int .i64 m0, .int .i64 n0, .string s0] R rfl
    replace hb := hb.kx hkn (by first | (simp; done) | (simp; omega))
    replace X := X.kx hkn (by first | (simp; done) | (simp; omega))
    clear hkn
    generalize (((((((w4.setCell ⟨gR, 0, none⟩ (.int .i64 c)).setCell ⟨gR, 1, none⟩ (.int .i64 sl)).setCell ⟨gR, 2, none⟩ (.slice a N cp)).setCell ⟨gR, 3, none⟩ (.bool is)).setCell ⟨gR, 4, none⟩ (.int .i64 k0)).setCell ⟨gR, 5, none⟩ (.int .i64 m0)).setCell ⟨gR, 6, none⟩ (.int .i64 n0)).setCell ⟨gR, 7, none⟩ (.string s0) = w9 at *
    have R_0 := R.cell (j := 0) rfl
    have R_1 := R.cell (j := 1) rfl
    have R_2 := R.cell (j := 2) rfl
    have R_3 := R.cell (j := 3) rfl
    have R_4 := R.cell (j := 4) rfl
    have R_5 := R.cell (j := 5) rfl
    have R_6 := R.cell (j := 6) rfl
    have R_7 := R.cell (j := 7) rfl
    refine bodyPost_ret (v := .tuple #[.agg #[.int .i64 c, .int .i64 sl, .slice a N cp, .bool is, .int .i64 k0, .int .i64 m0, .int .i64 n0, .string s0], .bool false, .int .i64 2]) ?_ rfl ⟨rfl, hb⟩
    rw [r_cell1tt rfl]
    go_simp
  cases b2
  · have hb := From.refl w
    go_enter Tryz.func50, Tryz.ntmps50
    go_upto_region 1 with fail
    obtain ⟨gX, hgX⟩ : ∃ g, (w).heap.size = g := ⟨_, rfl⟩
    have X := Blk.newV hgX 55 #[.int .i64 c, .int .i64 sl, .slice a N cp, .bool is, .int .i64 k0, .int .i64 m0, .int .i64 n0, .string s0]
    have hbn := (Below.refl (w).heap.size w).alloc (Nat.le_refl _) (.cells #[.int .i64 c, .int .i64 sl, .slice a N cp, .bool is, .int .i64 k0, .int .i64 m0, .int .i64 n0, .string s0] 55)
    replace hb := hb.step hbn
    clear hbn
    rw [hgX]
    have szX := alloc_size hgX (.cells #[.int .i64 c, .int .i64 sl, .slice a N cp, .bool is, .int .i64 k0, .int .i64 m0, .int .i64 n0, .string s0] 55)
    generalize (w).alloc (.cells #[.int .i64 c, .int .i64 sl, .slice a N cp, .bool is, .int .i64 k0, .int .i64 m0, .int .i64 n0, .string s0] 55) = w1 at *
    obtain ⟨gBb, hgBb⟩ : ∃ g, (w1).heap.size = g := ⟨_, rfl⟩
    have lt_X_Bb := X.lt
    rw [hgBb] at lt_X_Bb
    have Bb := Blk.newV hgBb 66 #[.int .i64 r, .int .i64 p]
    have hbn := (Below.refl (w1).heap.size w1).alloc (Nat.le_refl _) (.cells #[.int .i64 r, .int .i64 p] 66)
    replace hb := hb.step hbn
    replace X := X.step hbn
    clear hbn
    have egBb : gX + 1 = gBb := szX.symm.trans hgBb
    rw [egBb]
    clear szX
    have szBb := alloc_size hgBb (.cells #[.int .i64 r, .int .i64 p] 66)
    generalize (w1).alloc (.cells #[.int .i64 r, .int .i64 p] 66) = w2 at *
    obtain ⟨gE, hgE⟩ : ∃ g, (w2).heap.size = g := ⟨_, rfl⟩
    have lt_X_E := X.lt
    rw [hgE] at lt_X_E
    have lt_Bb_E := Bb.lt
    rw [hgE] at lt_Bb_E
    have E := Blk.newV hgE 24 #[.int .i64 k, .int .i64 m, .int .i64 n, .string s]
    have hbn := (Below.refl (w2).heap.size w2).alloc (Nat.le_refl _) (.cells #[.int .i64 k, .int .i64 m, .int .i64 n, .string s] 24)
    replace hb := hb.step hbn
    replace X := X.step hbn
    replace Bb := Bb.step hbn
    clear hbn
    have egE : gBb + 1 = gE := szBb.symm.trans hgE
    rw [egE]
    clear szBb
    have szE := alloc_size hgE (.cells #[.int .i64 k, .int .i64 m, .int .i64 n, .string s] 24)
    generalize (w2).alloc (.cells #[.int .i64 k, .int .i64 m, .int .i64 n, .string s] 24) = w3 at *
    obtain ⟨gR, hgR⟩ : ∃ g, (w3).heap.size = g := ⟨_, rfl⟩
    have lt_X_R := X.lt
    rw [hgR] at lt_X_R
    have lt_Bb_R := Bb.lt
    rw [hgR] at lt_Bb_R
    have lt_E_R := E.lt
    rw [hgR] at lt_E_R
    have R := Blk.newV hgR 55 #[.int .i64 0, .int .i64 0, .slice none 0 0, .bool false, .int .i64 0, .int .i64 0, .int .i64 0, .string ⟨#[]⟩]
    have hbn := (Below.refl (w3).heap.size w3).alloc (Nat.le_refl _) (.cells #[.int .i64 0, .int .i64 0, .slice none 0 0, .bool false, .int .i64 0, .int .i64 0, .int .i64 0, .string ⟨#[]⟩] 55)
    replace hb := hb.step hbn
    replace X := X.step hbn
    replace Bb := Bb.step hbn
    replace E := E.step hbn
    clear hbn
    have egR : gE + 1 = gR := szE.symm.trans hgR
    rw [egR]
    clear szE
    generalize (w3).alloc (.cells #[.int .i64 0, .int .i64 0, .slice none 0 0, .bool false, .int .i64 0, .int .i64 0, .int .i64 0, .string ⟨#[]⟩] 55) = w4 at *
    have hXw : w.heap.size ≤ gX := by omega
    have hXB : gX < gBb := by omega
    have hBE : gBb < gE := by omega
    have hER : gE < gR := by omega
    clear hgX hgBb hgE hgR egBb egE egR
    clear lt_X_Bb lt_X_E lt_X_R lt_Bb_E lt_Bb_R lt_E_R
    have X_0 := X.cell (j := 0) rfl
    have X_1 := X.cell (j := 1) rfl
    have X_2 := X.cell (j := 2) rfl
    have X_3 := X.cell (j := 3) rfl
    have X_4 := X.cell (j := 4) rfl
    have X_5 := X.cell (j := 5) rfl
    have X_6 := X.cell (j := 6) rfl
    have X_7 := X.cell (j := 7) rfl
    have Bb_0 := Bb.cell (j := 0) rfl
    have Bb_1 := Bb.cell (j := 1) rfl
    go_wp2_with fail
    refine (cP _).mono ?_
    rintro e wx ⟨rfl, rfl⟩
    go_wp2_with fail
    refine (cM _).mono ?_
    rintro e w5 ⟨rfl, hbn⟩
    replace hb := hb.step hbn
    replace X := X.step hbn
    replace R := R.step hbn
    replace E := E.step hbn
    replace Bb := Bb.step hbn
    clear hbn
    clear X_0 X_1 X_2 X_3 X_4 X_5 X_6 X_7
    clear Bb_0 Bb_1
    have X_0 := X.cell (j := 0) rfl
    have X_1 := X.cell (j := 1) rfl
    have X_2 := X.cell (j := 2) rfl
    have X_3 := X.cell (j := 3) rfl
    have X_4 := X.cell (j := 4) rfl
    have X_5 := X.cell (j := 5) rfl
    have X_6 := X.cell (j := 6) rfl
    have X_7 := X.cell (j := 7) rfl
    have R_0 := R.cell (j := 0) rfl
    have R_1 := R.cell (j := 1) rfl
    have R_2 := R.cell (j := 2) rfl
    have R_3 := R.cell (j := 3) rfl
    have R_4 := R.cell (j := 4) rfl
    have R_5 := R.cell (j := 5) rfl
    have R_6 := R.cell (j := 6) rfl
    have R_7 := R.cell (j := 7) rfl
    have Rf0 := R.frozen 0
    have Rf1 := R.frozen 1
    have Rf2 := R.frozen 2
    have Rf3 := R.frozen 3
    have Rf4 := R.frozen 4
    have Rf5 := R.frozen 5
    have Rf6 := R.frozen 6
    have Rf7 := R.frozen 7
    go_wp2_with fail
    (try simp only [Exit.inBlock, Exit.then])
    clear X_0 X_1 X_2 X_3 X_4 X_5 X_6 X_7 Rf0 Rf1 Rf2 Rf3 Rf4 Rf5 Rf6 Rf7 R_0 R_1 R_2 R_3 R_4 R_5 R_6 R_7
    have hkn : Kx [gR] w5 ((((((((w5.setCell ⟨gR, 0, none⟩ (.int .i64 c)).setCell ⟨gR, 1, none⟩ (.int .i64 sl)).setCell ⟨gR, 2, none⟩ (.slice a N cp)).setCell ⟨gR, 3, none⟩ (.bool is)).setCell ⟨gR, 4, none⟩ (.int .i64 k0)).setCell ⟨gR, 5, none⟩ (.int .i64 m0)).setCell ⟨gR, 6, none⟩ (.int .i64 n0)).setCell ⟨gR, 7, none⟩ (.string s0)) := Kx.setCells [.int .i64 c, .int .i64 sl, .slice a N cp, .bool is, .int .i64 k0, .int .i64 m0, .int .i64 n0, .string s0] 0 _ (Kx.refl _ _) (.inl (by simp))
    replace R : Blk ((((((((w5.setCell ⟨gR, 0, none⟩ (.int .i64 c)).setCell ⟨gR, 1, none⟩ (.int .i64 sl)).setCell ⟨gR, 2, none⟩ (.slice a N cp)).setCell ⟨gR, 3, none⟩ (.bool is)).setCell ⟨gR, 4, none⟩ (.int .i64 k0)).setCell ⟨gR, 5, none⟩ (.int .i64 m0)).setCell ⟨gR, 6, none⟩ (.int .i64 n0)).setCell ⟨gR, 7, none⟩ (.string s0)) gR 55 [.int .i64 c, .int .i64 sl, .slice a N cp, .bool is, .int .i64 k0, .int .i64 m0, .int .i64 n0, .string s0] := Blk.puts [.int .i64 c, .int .i64 sl, .slice a N cp, .bool is, .int .i64 k0, .int .i64 m0, .int .i64 n0, .string s0] R rfl
    replace hb := hb.kx hkn (by first | (simp; done) | (simp; omega))
    replace X := X.kx hkn (by first | (simp; done) | (simp; omega))
    clear hkn
    generalize (((((((w5.setCell ⟨gR, 0, none⟩ (.int .i64 c)).setCell ⟨gR, 1, none⟩ (.int .i64 sl)).setCell ⟨gR, 2, none⟩ (.slice a N cp)).setCell ⟨gR, 3, none⟩ (.bool is)).setCell ⟨gR, 4, none⟩ (.int .i64 k0)).setCell ⟨gR, 5, none⟩ (.int .i64 m0)).setCell ⟨gR, 6, none⟩ (.int .i64 n0)).setCell ⟨gR, 7, none⟩ (.string s0) = w9 at *
    have R_0 := R.cell (j := 0) rfl
    have R_1 := R.cell (j := 1) rfl
    have R_2 := R.cell (j := 2) rfl
    have R_3 := R.cell (j := 3) rfl
    have R_4 := R.cell (j := 4) rfl
    have R_5 := R.cell (j := 5) rfl
    have R_6 := R.cell (j := 6) rfl
    have R_7 := R.cell (j := 7) rfl
    refine bodyPost_ret (v := .tuple #[.agg #[.int .i64 c, .int .i64 sl, .slice a N cp, .bool is, .int .i64 k0, .int .i64 m0, .int .i64 n0, .string s0], .bool false, .int .i64 2]) ?_ rfl ⟨rfl, hb⟩
    rw [r_cell1tt rfl]
    go_simp
  cases b3
  · have hb := From.refl w
    go_enter Tryz.func50, Tryz.ntmps50
    go_upto_region 1 with fail
    obtain ⟨gX, hgX⟩ : ∃ g, (w).heap.size = g := ⟨_, rfl⟩
    have X := Blk.newV hgX 55 #[.int .i64 c, .int .i64 sl, .slice a N cp, .bool is, .int .i64 k0, .int .i64 m0, .int .i64 n0, .string s0]
    have hbn := (Below.refl (w).heap.size w).alloc (Nat.le_refl _) (.cells #[.int .i64 c, .int .i64 sl, .slice a N cp, .bool is, .int .i64 k0, .int .i64 m0, .int .i64 n0, .string s0] 55)
    replace hb := hb.step hbn
    clear hbn
    rw [hgX]
    have szX := alloc_size hgX (.cells #[.int .i64 c, .int .i64 sl, .slice a N cp, .bool is, .int .i64 k0, .int .i64 m0, .int .i64 n0, .string s0] 55)
    generalize (w).alloc (.cells #[.int .i64 c, .int .i64 sl, .slice a N cp, .bool is, .int .i64 k0, .int .i64 m0, .int .i64 n0, .string s0] 55) = w1 at *
    obtain ⟨gBb, hgBb⟩ : ∃ g, (w1).heap.size = g := ⟨_, rfl⟩
    have lt_X_Bb := X.lt
    rw [hgBb] at lt_X_Bb
    have Bb := Blk.newV hgBb 66 #[.int .i64 r, .int .i64 p]
    have hbn := (Below.refl (w1).heap.size w1).alloc (Nat.le_refl _) (.cells #[.int .i64 r, .int .i64 p] 66)
    replace hb := hb.step hbn
    replace X := X.step hbn
    clear hbn
    have egBb : gX + 1 = gBb := szX.symm.trans hgBb
    rw [egBb]
    clear szX
    have szBb := alloc_size hgBb (.cells #[.int .i64 r, .int .i64 p] 66)
    generalize (w1).alloc (.cells #[.int .i64 r, .int .i64 p] 66) = w2 at *
    obtain ⟨gE, hgE⟩ : ∃ g, (w2).heap.size = g := ⟨_, rfl⟩
    have lt_X_E := X.lt
    rw [hgE] at lt_X_E
    have lt_Bb_E := Bb.lt
    rw [hgE] at lt_Bb_E
    have E := Blk.newV hgE 24 #[.int .i64 k, .int .i64 m, .int .i64 n, .string s]
    have hbn := (Below.refl (w2).heap.size w2).alloc (Nat.le_refl _) (.cells #[.int .i64 k, .int .i64 m, .int .i64 n, .string s] 24)
    replace hb := hb.step hbn
    replace X := X.step hbn
    replace Bb := Bb.step hbn
    clear hbn
    have egE : gBb + 1 = gE := szBb.symm.trans hgE
    rw [egE]
    clear szBb
    have szE := alloc_size hgE (.cells #[.int .i64 k, .int .i64 m, .int .i64 n, .string s] 24)
    generalize (w2).alloc (.cells #[.int .i64 k, .int .i64 m, .int .i64 n, .string s] 24) = w3 at *
    obtain ⟨gR, hgR⟩ : ∃ g, (w3).heap.size = g := ⟨_, rfl⟩
    have lt_X_R := X.lt
    rw [hgR] at lt_X_R
    have lt_Bb_R := Bb.lt
    rw [hgR] at lt_Bb_R
    have lt_E_R := E.lt
    rw [hgR] at lt_E_R
    have R := Blk.newV hgR 55 #[.int .i64 0, .int .i64 0, .slice none 0 0, .bool false, .int .i64 0, .int .i64 0, .int .i64 0, .string ⟨#[]⟩]
    have hbn := (Below.refl (w3).heap.size w3).alloc (Nat.le_refl _) (.cells #[.int .i64 0, .int .i64 0, .slice none 0 0, .bool false, .int .i64 0, .int .i64 0, .int .i64 0, .string ⟨#[]⟩] 55)
    replace hb := hb.step hbn
    replace X := X.step hbn
    replace Bb := Bb.step hbn
    replace E := E.step hbn
    clear hbn
    have egR : gE + 1 = gR := szE.symm.trans hgR
    rw [egR]
    clear szE
    generalize (w3).alloc (.cells #[.int .i64 0, .int .i64 0, .slice none 0 0, .bool false, .int .i64 0, .int .i64 0, .int .i64 0, .string ⟨#[]⟩] 55) = w4 at *
    have hXw : w.heap.size ≤ gX := by omega
    have hXB : gX < gBb := by omega
    have hBE : gBb < gE := by omega
    have hER : gE < gR := by omega
    clear hgX hgBb hgE hgR egBb egE egR
    clear lt_X_Bb lt_X_E lt_X_R lt_Bb_E lt_Bb_R lt_E_R
    have X_0 := X.cell (j := 0) rfl
    have X_1 := X.cell (j := 1) rfl
    have X_2 := X.cell (j := 2) rfl
    have X_3 := X.cell (j := 3) rfl
    have X_4 := X.cell (j := 4) rfl
    have X_5 := X.cell (j := 5) rfl
    have X_6 := X.cell (j := 6) rfl
    have X_7 := X.cell (j := 7) rfl
    have Bb_0 := Bb.cell (j := 0) rfl
    have Bb_1 := Bb.cell (j := 1) rfl
    go_wp2_with fail
    refine (cP _).mono ?_
    rintro e wx ⟨rfl, rfl⟩
    go_wp2_with fail
    refine (cM _).mono ?_
    rintro e w5 ⟨rfl, hbn⟩
    replace hb := hb.step hbn
    replace X := X.step hbn
    replace R := R.step hbn
    replace E := E.step hbn
    replace Bb := Bb.step hbn
    clear hbn
    clear X_0 X_1 X_2 X_3 X_4 X_5 X_6 X_7
    clear Bb_0 Bb_1
    have E_0 := E.cell (j := 0) rfl
    have E_1 := E.cell (j := 1) rfl
    have E_2 := E.cell (j := 2) rfl
    have E_3 := E.cell (j := 3) rfl
    go_wp2_with fail
    refine (cE _).mono ?_
    rintro e w6 ⟨rfl, hbn⟩
    replace hb := hb.step hbn
    replace X := X.step hbn
    replace R := R.step hbn
    replace E := E.step hbn
    replace Bb := Bb.step hbn
    clear hbn
    clear E_0 E_1 E_2 E_3
    have X_0 := X.cell (j := 0) rfl
    have X_1 := X.cell (j := 1) rfl
    have X_2 := X.cell (j := 2) rfl
    have X_3 := X.cell (j := 3) rfl
    have X_4 := X.cell (j := 4) rfl
    have X_5 := X.cell (j := 5) rfl
    have X_6 := X.cell (j := 6) rfl
    have X_7 := X.cell (j := 7) rfl
    have R_0 := R.cell (j := 0) rfl
    have R_1 := R.cell (j := 1) rfl
    have R_2 := R.cell (j := 2) rfl
    have R_3 := R.cell (j := 3) rfl
    have R_4 := R.cell (j := 4) rfl
    have R_5 := R.cell (j := 5) rfl
    have R_6 := R.cell (j := 6) rfl
    have R_7 := R.cell (j := 7) rfl
    have Rf0 := R.frozen 0
    have Rf1 := R.frozen 1
    have Rf2 := R.frozen 2
    have Rf3 := R.frozen 3
    have Rf4 := R.frozen 4
    have Rf5 := R.frozen 5
    have Rf6 := R.frozen 6
    have Rf7 := R.frozen 7
    go_wp2_with fail
    (try simp only [Exit.inBlock, Exit.then])
    clear X_0 X_1 X_2 X_3 X_4 X_5 X_6 X_7 Rf0 Rf1 Rf2 Rf3 Rf4 Rf5 Rf6 Rf7 R_0 R_1 R_2 R_3 R_4 R_5 R_6 R_7
    have hkn : Kx [gR] w6 ((((((((w6.setCell ⟨gR, 0, none⟩ (.int .i64 c)).setCell ⟨gR, 1, none⟩ (.int .i64 sl)).setCell ⟨gR, 2, none⟩ (.slice a N cp)).setCell ⟨gR, 3, none⟩ (.bool is)).setCell ⟨gR, 4, none⟩ (.int .i64 k0)).setCell ⟨gR, 5, none⟩ (.int .i64 m0)).setCell ⟨gR, 6, none⟩ (.int .i64 n0)).setCell ⟨gR, 7, none⟩ (.string s0)) := Kx.setCells [.int .i64 c, .int .i64 sl, .slice a N cp, .bool is, .int .i64 k0, .int .i64 m0, .int .i64 n0, .string s0] 0 _ (Kx.refl _ _) (.inl (by simp))
    replace R : Blk ((((((((w6.setCell ⟨gR, 0, none⟩ (.int .i64 c)).setCell ⟨gR, 1, none⟩ (.int .i64 sl)).setCell ⟨gR, 2, none⟩ (.slice a N cp)).setCell ⟨gR, 3, none⟩ (.bool is)).setCell ⟨gR, 4, none⟩ (.int .i64 k0)).setCell ⟨gR, 5, none⟩ (.int .i64 m0)).setCell ⟨gR, 6, none⟩ (.int .i64 n0)).setCell ⟨gR, 7, none⟩ (.string s0)) gR 55 [.int .i64 c, .int .i64 sl, .slice a N cp, .bool is, .int .i64 k0, .int .i64 m0, .int .i64 n0, .string s0] := Blk.puts [.int .i64 c, .int .i64 sl, .slice a N cp, .bool is, .int .i64 k0, .int .i64 m0, .int .i64 n0, .string s0] R rfl
    replace hb := hb.kx hkn (by first | (simp; done) | (simp; omega))
    replace X := X.kx hkn (by first | (simp; done) | (simp; omega))
    clear hkn
    generalize (((((((w6.setCell ⟨gR, 0, none⟩ (.int .i64 c)).setCell ⟨gR, 1, none⟩ (.int .i64 sl)).setCell ⟨gR, 2, none⟩ (.slice a N cp)).setCell ⟨gR, 3, none⟩ (.bool is)).setCell ⟨gR, 4, none⟩ (.int .i64 k0)).setCell ⟨gR, 5, none⟩ (.int .i64 m0)).setCell ⟨gR, 6, none⟩ (.int .i64 n0)).setCell ⟨gR, 7, none⟩ (.string s0) = w9 at *
    have R_0 := R.cell (j := 0) rfl
    have R_1 := R.cell (j := 1) rfl
    have R_2 := R.cell (j := 2) rfl
    have R_3 := R.cell (j := 3) rfl
    have R_4 := R.cell (j := 4) rfl
    have R_5 := R.cell (j := 5) rfl
    have R_6 := R.cell (j := 6) rfl
    have R_7 := R.cell (j := 7) rfl
    refine bodyPost_ret (v := .tuple #[.agg #[.int .i64 c, .int .i64 sl, .slice a N cp, .bool is, .int .i64 k0, .int .i64 m0, .int .i64 n0, .string s0], .bool false, .int .i64 2]) ?_ rfl ⟨rfl, hb⟩
    rw [r_cell1tt rfl]
    go_simp
  · simp at hok
end Go.Proofs.YthhpblchiodahaaGreatDoor
