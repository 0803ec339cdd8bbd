
/- The document's learner: Hear, what may be heard. -/
import Derived.Test.YthhpblchiodahaaGreatDoorLpG
namespace Go.Proofs.YthhpblchiodahaaGreatDoor
set_option linter.unusedSimpArgs false
set_option linter.unusedVariables false
open Go.RowKit Go.Maps
theorem cell_all {w W : World} {b o : Nat} {u : Value} (h : w.cell? ⟨b, o, none⟩ = some u) (hb : From w W) : W.cell? ⟨b, o, none⟩ = some u := cells_kept hb h
/-- The heap reaches this far. -/
def SzI (g : Nat) (W : World) : Prop := g ≤ W.heap.size
theorem SzI.step {g : Nat} {W W' : World} (h : SzI g W) (hb : Below W.heap.size W W') : SzI g W' := Nat.le_trans h hb.size
theorem SzI.kx {g : Nat} {ws : List Nat} {W W' : World} (h : SzI g W) (hk : Kx ws W W') (_ : True) : SzI g W' := Nat.le_trans h hk.size
theorem HdR.kxH {ws : List Nat} {W W' : World} {base : Nat} {v : Value} {L : HMap} (h : HdR W base v L) (hk : Kx ws W W') (h1 : ∀ k ∈ ws, v.ownBlock ≠ some k) (h2 : ∀ k ∈ ws, ∃ cs t fz, W.heap[k]? = some (.cells cs t fz) ∧ t ≠ 3) : HdR W' base v L := by
  obtain ⟨us, e1, e2, e3⟩ := h
  refine ⟨us, e1, row_kx e2 hk (fun k hk2 hm => h1 k hm hk2), fun j x u hx hu => row_kx (e3 j x u hx hu) hk (fun k hk2 hm => ?_)⟩
  obtain ⟨cs, t, fz, h3, h4⟩ := h2 k hm
  obtain ⟨cs2, fz2, h5⟩ := row_cellsT (e3 j x u hx hu) k hk2
  rw [h3] at h5
  injection h5 with h5
  injection h5 with _ e _
  exact h4 e
theorem eq4_true {k m n : Int} {s : ByteArray} {k2 m2 n2 : Int} {s2 : ByteArray} (h : eq4 k m n s k2 m2 n2 s2 = true) : k = k2 ∧ m = m2 ∧ n = n2 ∧ s = s2 := by
  unfold eq4 at h
  simp at h
  obtain ⟨h1, h2, h3, h4⟩ := h
  rw [Lib.toList_data, Lib.toList_data] at h4
  exact ⟨h1, h2, h3, ByteArray.ext (Array.toList_inj.1 h4)⟩
theorem rh_clash {base : Nat} {A : Lrn} {L : HMap} {pl r p k m n : Int} {s : ByteArray} {w w' : World} {v : Value} {e : Ending} (h0 : hearB A pl r p k m n s = true) (hc : clashH L r p k m n s = true) (he : e = .returned (.tuple #[rV A v, .bool false, .int .i64 260])) (h : HdR w' base v (srtB L)) (hb : From w w') : RHear base A L pl r p k m n s w e w' := by
  have e1 : heE A L pl r p k m n s = 260 := by simp [heE, h0, hc]
  have e2 : heV A L pl r p k m n s = false := by simp [heV, heW, e1]
  have e3 : heA A L pl r p k m n s = A := by simp [heA, heW, e1]
  have e4 : heL A L pl r p k m n s = L := by simp [heL, e1]
  unfold RHear
  rw [e1, e2, e3, e4]
  exact ⟨⟨v, he, h⟩, hb⟩
theorem rh_few {base : Nat} {A : Lrn} {L : HMap} {pl r p k m n : Int} {s : ByteArray} {w w' : World} {v : Value} {e : Ending} (h0 : hearB A pl r p k m n s = true) (hc : clashH L r p k m n s = false) (hw : wonP A.c (newH L pl r p k m n s).vs = false) (he : e = .returned (.tuple #[rV A v, .bool false, .int .i64 0])) (h : HdR w' base v (srtB (putG L (r, p) (newH L pl r p k m n s)))) (hb : From w w') : RHear base A L pl r p k m n s w e w' := by
  have e1 : heE A L pl r p k m n s = 0 := by simp [heE, h0, hc, hw]
  have e2 : heV A L pl r p k m n s = false := by simp [heV, heW, hw]
  have e3 : heA A L pl r p k m n s = A := by simp [heA, heW, hw]
  have e4 : heL A L pl r p k m n s = putG L (r, p) (newH L pl r p k m n s) := by simp [heL, e1]
  unfold RHear
  rw [e1, e2, e3, e4]
  exact ⟨⟨v, he, h⟩, hb⟩
theorem rh_won {base : Nat} {A : Lrn} {L : HMap} {pl r p k m n : Int} {s : ByteArray} {w w' : World} {v : Value} {e : Ending} (h0 : hearB A pl r p k m n s = true) (hc : clashH L r p k m n s = false) (hw : wonP A.c (newH L pl r p k m n s).vs = true) (hk : knE A k m n s = 0) (he : e = .returned (.tuple #[rV (knowA A k m n s) v, .bool (!A.is), .int .i64 0])) (h : HdR w' base v (srtB (putG L (r, p) (newH L pl r p k m n s)))) (hb : From w w') : RHear base A L pl r p k m n s w e w' := by
  have hk2 : (A.is && !(eqE A k m n s)) = false := by
    unfold knE at hk
    cases hh : (A.is && !(eqE A k m n s))
    · rfl
    · rw [hh] at hk; simp at hk
  have e1 : heE A L pl r p k m n s = 0 := by simp [heE, h0, hc, hk2]
  have e2 : heV A L pl r p k m n s = !A.is := by simp [heV, heW, hw, e1]
  have e3 : heA A L pl r p k m n s = knowA A k m n s := by simp [heA, heW, hw, e1]
  have e4 : heL A L pl r p k m n s = putG L (r, p) (newH L pl r p k m n s) := by simp [heL, e1]
  unfold RHear
  rw [e1, e2, e3, e4]
  exact ⟨⟨v, he, h⟩, hb⟩
theorem rh_taken {base : Nat} {A : Lrn} {L : HMap} {pl r p k m n : Int} {s : ByteArray} {w w' : World} {v : Value} {e : Ending} (h0 : hearB A pl r p k m n s = true) (hc : clashH L r p k m n s = false) (hw : wonP A.c (newH L pl r p k m n s).vs = true) (hk : knE A k m n s = 260) (he : e = .returned (.tuple #[rV A v, .bool false, .int .i64 260])) (h : HdR w' base v (srtB L)) (hb : From w w') : RHear base A L pl r p k m n s w e w' := by
  have hk2 : (A.is && !(eqE A k m n s)) = true := by
    unfold knE at hk
    cases hh : (A.is && !(eqE A k m n s))
    · rw [hh] at hk; simp at hk
    · rfl
  have e1 : heE A L pl r p k m n s = 260 := by simp [heE, h0, hc, hk2, hw]
  have e2 : heV A L pl r p k m n s = false := by simp [heV, heW, e1]
  have e3 : heA A L pl r p k m n s = A := by simp [heA, heW, e1]
  have e4 : heL A L pl r p k m n s = L := by simp [heL, e1]
  unfold RHear
  rw [e1, e2, e3, e4]
  exact ⟨⟨v, he, h⟩, hb⟩
theorem res_cell1tt {fn : Func} {p u u2 : Tmp} {ty : TypeId} {tmps : Array Value} {P : Program} {w : World} {g : Nat} {cs : Array Value} {v v2 : Value} (h : fn.results = #[.cell p ty, .tmp u, .tmp u2]) (hp : tmps.getD p undef = .pointer (some ⟨g, 0, none⟩)) (hv : tmps.getD u undef = v) (hv2 : tmps.getD u2 undef = v2)
    (hl : (loadVar ty ⟨g, 0, none⟩).run P w = .ok (.agg cs) w) : (results fn tmps).run P w = .ok (.tuple #[.agg cs, v, v2]) w := by
  rw [r_cell1tt h, hp, hv, hv2]
  show ((loadVar ty ⟨g, 0, none⟩).run P w).andThen _ = _
  rw [hl]
  rfl
set_option maxRecDepth 100000 in
set_option maxHeartbeats 8000000 in
theorem rhear_ok (base : Nat) (A : Lrn) (L : HMap) (a : Option Addr) (N cp : Nat) (pl r p k m n : Int) (s : ByteArray) (w : World) (h : HdR w base (.slice a N cp) (srtB L)) (hbw : base ≤ w.heap.size) (hnd : (L.map (·.1)).Nodup) (hvs : ∀ x ∈ L, x.2.vs.length = 9) (hL : L.length ≤ 1000) (hr : rightB A.c = true)
    (hs : s.size ≤ 9223372036854775807) (hok : hearB A pl r p k m n s = true) :
    Calls Tryz.prog 50 #[rV A (.slice a N cp), .int .i64 pl, .agg #[.int .i64 r, .int .i64 p], kV k m n s] w (RHear base A L pl r p k m n s w) := by
  obtain ⟨xs, hxs⟩ : ∃ xs, srtB L = xs := ⟨_, rfl⟩
  have hxl : xs.length = L.length := by rw [← hxs, srtB_len]
  have hstr : xs.Pairwise LtS := by rw [← hxs]; exact srtB_strict hnd
  have hNx : xs.length = N := by
    obtain ⟨a', c', e, -⟩ := h.form
    rw [hxs] at e
    injection e with _ e2 _
    exact e2.symm
  have hfin := fun (out : HMap) (at' : Nat) (hI : HearI r p xs xs.length out at') => HearI.fin (r := r) (p := p) (L := L) hnd (by rw [hxs]; exact hI)
  have hfnd := fun (hd : Hd) (u : Value) (hF : FoundI w base r p k m n s xs xs.length hd u) => FoundI.fin (L := L) hnd (by rw [hxs]; exact hF)
  have hxv : ∀ x ∈ xs, x.2.vs.length = 9 := fun x hx => hvs x ((srtB_perm L).mem_iff.1 (by rw [hxs]; exact hx))
  rw [hxs] at h
  have HFIN := Lib.hid hfin
  have HFND := Lib.hid hfnd
  have HSTR := Lib.hid hstr
  obtain ⟨Q, hQ⟩ : ∃ Q : Ending → World → Prop, RHear base A L pl r p k m n s w = Q := ⟨_, rfl⟩
  rw [hQ]
  have HQ := Lib.hid hQ
  obtain ⟨k0, m0, n0, s0, is, c, sl⟩ := A
  have HOK := Lib.hid hok
  unfold hearB at hok
  simp only at hok hr
  have cP := fun W => refPlace_any c pl W
  have cM := fun W => refMay_any c sl r p W
  have cE := fun W => ref14_any k m n s W hs
  have hin : inB pl 0 c = (decide (0 ≤ pl) && decide (pl < c)) := by unfold inB; simp
  rw [← Bool.and_assoc, ← hin] at hok
  simp only [Bool.and_eq_true] at hok
  obtain ⟨g1, g2, g3⟩ := hok
  have hpl : 0 ≤ pl ∧ pl < 9 := by
    have hc9 := right_bd hr
    unfold inB at g1
    simp at g1
    omega
  rw [g1] at cP
  rw [g2] at cM
  rw [g3] at cE
  have hN1 : (N : Int) ≤ 1000 := by omega
  have HNx := Lib.hid hNx
  have HXS := Lib.hid hxs
  clear hxl hNx
  clear hin g1 g2 g3 hQ hfin hfnd hstr hvs hnd hxs hs
  unfold rV kV
  simp only
  have hb := From.refl w
  go_enter Tryz.func50, Tryz.ntmps50
  go_upto_region 1 with fail
  obtain ⟨gX, hgX⟩ : ∃ g, (w).heap.size = g := ⟨_, rfl⟩
  have X := Blk.newV hgX 55 #[.int .i64 c, .int .i64 sl, .slice a N cp, .bool is, .int .i64 k0, .int .i64 m0, .int .i64 n0, .string s0]
  have hbn := (Below.refl (w).heap.size w).alloc (Nat.le_refl _) (.cells #[.int .i64 c, .int .i64 sl, .slice a N cp, .bool is, .int .i64 k0, .int .i64 m0, .int .i64 n0, .string s0] 55)
  replace hb := hb.step hbn
  clear hbn
  rw [hgX]
  have szX := alloc_size hgX (.cells #[.int .i64 c, .int .i64 sl, .slice a N cp, .bool is, .int .i64 k0, .int .i64 m0, .int .i64 n0, .string s0] 55)
  generalize (w).alloc (.cells #[.int .i64 c, .int .i64 sl, .slice a N cp, .bool is, .int .i64 k0, .int .i64 m0, .int .i64 n0, .string s0] 55) = w1 at *
  obtain ⟨gBb, hgBb⟩ : ∃ g, (w1).heap.size = g := ⟨_, rfl⟩
  have lt_X_Bb := X.lt
  rw [hgBb] at lt_X_Bb
  have Bb := Blk.newV hgBb 66 #[.int .i64 r, .int .i64 p]
  have hbn := (Below.refl (w1).heap.size w1).alloc (Nat.le_refl _) (.cells #[.int .i64 r, .int .i64 p] 66)
  replace hb := hb.step hbn
  replace X := X.step hbn
  clear hbn
  have egBb : gX + 1 = gBb := szX.symm.trans hgBb
  rw [egBb]
  clear szX
  have szBb := alloc_size hgBb (.cells #[.int .i64 r, .int .i64 p] 66)
  generalize (w1).alloc (.cells #[.int .i64 r, .int .i64 p] 66) = w2 at *
  obtain ⟨gE, hgE⟩ : ∃ g, (w2).heap.size = g := ⟨_, rfl⟩
  have lt_X_E := X.lt
  rw [hgE] at lt_X_E
  have lt_Bb_E := Bb.lt
  rw [hgE] at lt_Bb_E
  have E := Blk.newV hgE 24 #[.int .i64 k, .int .i64 m, .int .i64 n, .string s]
  have hbn := (Below.refl (w2).heap.size w2).alloc (Nat.le_refl _) (.cells #[.int .i64 k, .int .i64 m, .int .i64 n, .string s] 24)
  replace hb := hb.step hbn
  replace X := X.step hbn
  replace Bb := Bb.step hbn
  clear hbn
  have egE : gBb + 1 = gE := szBb.symm.trans hgE
  rw [egE]
  clear szBb
  have szE := alloc_size hgE (.cells #[.int .i64 k, .int .i64 m, .int .i64 n, .string s] 24)
  generalize (w2).alloc (.cells #[.int .i64 k, .int .i64 m, .int .i64 n, .string s] 24) = w3 at *
  obtain ⟨gR, hgR⟩ : ∃ g, (w3).heap.size = g := ⟨_, rfl⟩
  have lt_X_R := X.lt
  rw [hgR] at lt_X_R
  have lt_Bb_R := Bb.lt
  rw [hgR] at lt_Bb_R
  have lt_E_R := E.lt
  rw [hgR] at lt_E_R
  have R := Blk.newV hgR 55 #[.int .i64 0, .int .i64 0, .slice none 0 0, .bool false, .int .i64 0, .int .i64 0, .int .i64 0, .string ⟨#[]⟩]
  have hbn := (Below.refl (w3).heap.size w3).alloc (Nat.le_refl _) (.cells #[.int .i64 0, .int .i64 0, .slice none 0 0, .bool false, .int .i64 0, .int .i64 0, .int .i64 0, .string ⟨#[]⟩] 55)
  replace hb := hb.step hbn
  replace X := X.step hbn
  replace Bb := Bb.step hbn
  replace E := E.step hbn
  clear hbn
  have egR : gE + 1 = gR := szE.symm.trans hgR
  rw [egR]
  clear szE
  generalize (w3).alloc (.cells #[.int .i64 0, .int .i64 0, .slice none 0 0, .bool false, .int .i64 0, .int .i64 0, .int .i64 0, .string ⟨#[]⟩] 55) = w4 at *
  have hXw : w.heap.size ≤ gX := by omega
  have hXB : gX < gBb := by omega
  have hBE : gBb < gE := by omega
  have hER : gE < gR := by omega
  clear hgX hgBb hgE hgR egBb egE egR
  clear lt_X_Bb lt_X_E lt_X_R lt_Bb_E lt_Bb_R lt_E_R
  have X_0 := X.cell (j := 0) rfl
  have X_1 := X.cell (j := 1) rfl
  have X_2 := X.cell (j := 2) rfl
  have X_3 := X.cell (j := 3) rfl
  have X_4 := X.cell (j := 4) rfl
  have X_5 := X.cell (j := 5) rfl
  have X_6 := X.cell (j := 6) rfl
  have X_7 := X.cell (j := 7) rfl
  have Bb_0 := Bb.cell (j := 0) rfl
  have Bb_1 := Bb.cell (j := 1) rfl
  go_wp2_with fail
  refine (cP _).mono ?_
  rintro e wx ⟨rfl, rfl⟩
  go_wp2_with fail
  refine (cM _).mono ?_
  rintro e w5 ⟨rfl, hbn⟩
  replace hb := hb.step hbn
  replace X := X.step hbn
  replace R := R.step hbn
  replace E := E.step hbn
  replace Bb := Bb.step hbn
  clear hbn
  clear X_0 X_1 X_2 X_3 X_4 X_5 X_6 X_7
  clear Bb_0 Bb_1
  have E_0 := E.cell (j := 0) rfl
  have E_1 := E.cell (j := 1) rfl
  have E_2 := E.cell (j := 2) rfl
  have E_3 := E.cell (j := 3) rfl
  go_wp2_with fail
  refine (cE _).mono ?_
  rintro e w6 ⟨rfl, hbn⟩
  replace hb := hb.step hbn
  replace X := X.step hbn
  replace R := R.step hbn
  replace E := E.step hbn
  replace Bb := Bb.step hbn
  clear hbn
  clear E_0 E_1 E_2 E_3
  clear cP cM cE
  have Bb_0 := Bb.cell (j := 0) rfl
  have Bb_1 := Bb.cell (j := 1) rfl
  have E_0 := E.cell (j := 0) rfl
  have E_1 := E.cell (j := 1) rfl
  have E_2 := E.cell (j := 2) rfl
  have E_3 := E.cell (j := 3) rfl
  go_upto_region 4 with fail
  have hR6 := R.lt
  obtain ⟨gH, hgH⟩ : ∃ g, (w6).heap.size = g := ⟨_, rfl⟩
  have lt_X_H := X.lt
  rw [hgH] at lt_X_H
  have lt_R_H := R.lt
  rw [hgH] at lt_R_H
  have lt_E_H := E.lt
  rw [hgH] at lt_E_H
  have lt_Bb_H := Bb.lt
  rw [hgH] at lt_Bb_H
  have H := Blk.newV hgH 81 #[.int .i64 r, .int .i64 p, .int .i64 k, .int .i64 m, .int .i64 n, .string s, .slice none 0 0]
  have hbn := (Below.refl (w6).heap.size w6).alloc (Nat.le_refl _) (.cells #[.int .i64 r, .int .i64 p, .int .i64 k, .int .i64 m, .int .i64 n, .string s, .slice none 0 0] 81)
  replace hb := hb.step hbn
  replace X := X.step hbn
  replace R := R.step hbn
  replace E := E.step hbn
  replace Bb := Bb.step hbn
  clear hbn
  rw [hgH]
  generalize (w6).alloc (.cells #[.int .i64 r, .int .i64 p, .int .i64 k, .int .i64 m, .int .i64 n, .string s, .slice none 0 0] 81) = w7 at *
  have hRH : gR < gH := by omega
  have hHl := H.lt
  obtain ⟨gZ, hgZ⟩ : ∃ g, w7.heap.size = g := ⟨_, rfl⟩
  have hHZ : gH < gZ := by omega
  have hwZ : w.heap.size ≤ gZ := by omega
  have hHR0 : HdR w7 base (.slice none 0 0) ([] : HMap) := HdR.nil _ _
  have hF0 := FoundI.start w base r p k m n s xs
  clear lt_X_H lt_R_H lt_E_H lt_Bb_H hgH hHl hR6 Bb_0 Bb_1 E_0 E_1 E_2 E_3
  go_wp2_with fail
  go_loopw [12, 13, 14] (fun v12 v13 v14 wr => ∃ (j : Nat) (at' : Nat) (out : HMap) (hd : Hd) (u : Value), v14 = .int .i64 j ∧ v13 = .int .i64 at' ∧ j ≤ N ∧ Hid (HearI r p xs j out at') ∧ Hid (FoundI w base r p k m n s xs j hd u) ∧ HdR wr base v12 out ∧ Hid (∀ q, v12.ownBlock = some q → gZ ≤ q) ∧
    Blk wr gX 55 [.int .i64 c, .int .i64 sl, .slice a N cp, .bool is, .int .i64 k0, .int .i64 m0, .int .i64 n0, .string s0] ∧ Blk wr gBb 66 [.int .i64 r, .int .i64 p] ∧ Blk wr gE 24 [.int .i64 k, .int .i64 m, .int .i64 n, .string s] ∧
    Blk wr gR 55 [.int .i64 0, .int .i64 0, .slice none 0 0, .bool false, .int .i64 0, .int .i64 0, .int .i64 0, .string ⟨#[]⟩] ∧ Blk wr gH 81 [.int .i64 r, .int .i64 p, .int .i64 hd.k, .int .i64 hd.m, .int .i64 hd.n, .string hd.s, u] ∧ From w wr ∧ SzI gZ wr) (fun _ _ v14 _ => N - (intOf v14).toNat)
  case atStart => exact ⟨0, 0, [], _, _, rfl, rfl, by omega, Lib.hid (HearI.start r p xs), Lib.hid hF0, hHR0, Lib.hid (fun q hq => by cases hq), X, Bb, E, R, H, hb, by unfold SzI; omega⟩
  case round =>
    clear hb X Bb E R H hHR0 hF0
    obtain ⟨j, at', out, hd, u, rfl, rfl, hj, hI, hF, hO, hge, X, Bb, E, R, H, hb, hz⟩ := hrel
    have hj0 : (0 : Int) ≤ (j : Int) := by omega
    have hle := hI.out.le
    have ha0 : (0 : Int) ≤ (at' : Int) := by omega
    by_cases hlt : j < N
    · skip
      have hj1 : (j : Int) < (N : Int) := by omega
      obtain ⟨x, hx⟩ : ∃ x, xs[j]? = some x := ⟨xs[j]'(by have := HNx.out; omega), List.getElem?_eq_getElem _⟩
      obtain ⟨g, c', u2, hva, hu2, hcell⟩ := h.row hx
      injection hva with v1 v2 v3
      subst v1 v3
      clear v2
      have d0 := cell_all (hcell 0 _ rfl) hb
      have d1 := cell_all (hcell 1 _ rfl) hb
      have d2 := cell_all (hcell 2 _ rfl) hb
      have d3 := cell_all (hcell 3 _ rfl) hb
      have d4 := cell_all (hcell 4 _ rfl) hb
      have d5 := cell_all (hcell 5 _ rfl) hb
      have d6 := cell_all (hcell 6 _ rfl) hb
      simp only [Nat.add_zero] at d0
      have HX := Lib.hid hx
      obtain ⟨⟨⟨xr, xp⟩, ⟨xk, xm, xn, xs', xv⟩⟩, hxe⟩ : ∃ z, x = z := ⟨_, rfl⟩
      subst hxe
      simp only at d0 d1 d2 d3 d4 d5 d6 hu2
      obtain ⟨au, cu, hue⟩ := RowI.form hu2
      obtain ⟨nu, hnu⟩ : ∃ n, (plK 0 xv).length = n := ⟨_, rfl⟩
      rw [hnu] at hue
      subst hue
      have heq := fun W => eq_ballot xr xp r p W
      have hls := fun W => refLess_any xr xp r p W
      obtain ⟨no, hno⟩ : ∃ n, out.length = n := ⟨_, rfl⟩
      have hno1 : no ≤ 1000 := by omega
      cases hE : eq2 xr xp r p
      · simp only [hE] at heq
        have hne : ((xr, xp) : Int × Int) ≠ (r, p) := fun e => by cases e; simp [eq2] at hE
        cases hLt : lessB xr xp r p
        · have hgt : gtP r p ((xr, xp), ⟨xk, xm, xn, xs', xv⟩) = true := by
            rcases lt3 r p ((xr, xp), ⟨xk, xm, xn, xs', xv⟩) with ⟨e, _, _⟩ | ⟨e, _, _, _⟩ | ⟨_, e, _⟩
            · unfold ltP at e; rw [hLt] at e; cases e
            · exact absurd e hne
            · exact e
          have hI2 := Lib.hid (hI.out.more HX.out hgt)
          have hF2 := Lib.hid (hF.out.other HX.out hne)
          simp only [hLt] at hls
          clear hE hLt hgt hne hle
          have y2 := X.cell (j := 2) rfl
          go_upto_region 9 with fail
          clear y2
          have e0 := extA_cell d0
          have e1 := extA_cell d1
          have y2 := extA_cell (X.cell (j := 2) rfl)
          have b0 := extA_cell (Bb.cell (j := 0) rfl)
          have b1 := extA_cell (Bb.cell (j := 1) rfl)
          clear d0 d1 d2 d3 d4 d5 d6
          refine wp_region_extB (by kernel_rfl) (by kernel_rfl) ?_
          repeat
            (first
              | go_big_quiet_skip
              | (go_big_quiet_want
                 go_big_quiet_op
                 first
                   | go_big_quiet_on
                   | (apply Exists.intro
                      refine ⟨fun w' hC9 => ?_, ?_⟩
                      · (first
                          | with_reducible rfl
                          | fail
                          | (go_simp; done)
                          | (go_simp; with_reducible rfl))
                      go_big_quiet_on)))
          refine wpQuiet_nil ?_
          intro w9 hq
          clear e0 e1 y2 b0 b1 heq
          replace X := X.step hq
          replace Bb := Bb.step hq
          replace E := E.step hq
          replace R := R.step hq
          replace H := H.step hq
          replace hO := hO.step hq
          replace hb := hb.step hq
          replace hz := hz.step hq
          clear hq
          go_upto_region 11 with fail
          have e0 := extA_cell (cell_all (hcell 0 _ rfl) hb)
          have e1 := extA_cell (cell_all (hcell 1 _ rfl) hb)
          simp only [Nat.add_zero] at e0
          have y2 := extA_cell (X.cell (j := 2) rfl)
          have b0 := extA_cell (Bb.cell (j := 0) rfl)
          have b1 := extA_cell (Bb.cell (j := 1) rfl)
          refine wp_region_extB (by kernel_rfl) (by kernel_rfl) ?_
          repeat
            (first
              | go_big_quiet_skip
              | (go_big_quiet_want
                 go_big_quiet_op
                 first
                   | go_big_quiet_on
                   | (apply Exists.intro
                      refine ⟨fun w' hC9 => ?_, ?_⟩
                      · (first
                          | with_reducible rfl
                          | (go_at_call 87; refine (hls _).mono ?_; rintro e w2 ⟨rfl, hb9⟩; exact ⟨rfl, extA_then hC9 hb9⟩)
                          | (go_simp; done)
                          | (go_simp; with_reducible rfl))
                      go_big_quiet_on)))
          refine wpQuiet_nil ?_
          intro w10 hq
          clear e0 e1 y2 b0 b1 hls
          replace X := X.step hq
          replace Bb := Bb.step hq
          replace E := E.step hq
          replace R := R.step hq
          replace H := H.step hq
          replace hO := hO.step hq
          replace hb := hb.step hq
          replace hz := hz.step hq
          clear hq
          have y2 := X.cell (j := 2) rfl
          have d0 := cell_all (hcell 0 _ rfl) hb
          have d1 := cell_all (hcell 1 _ rfl) hb
          have d2 := cell_all (hcell 2 _ rfl) hb
          have d3 := cell_all (hcell 3 _ rfl) hb
          have d4 := cell_all (hcell 4 _ rfl) hb
          have d5 := cell_all (hcell 5 _ rfl) hb
          have d6 := cell_all (hcell 6 _ rfl) hb
          simp only [Nat.add_zero] at d0
          have hbase : base ≤ w10.heap.size := Nat.le_trans hbw (Below.size hb)
          obtain ⟨v', w', hrun, hO2, hgrow, hwhere⟩ := hO.app ((xr, xp), ⟨xk, xm, xn, xs', xv⟩) (RowI.step hu2 hb) (by omega) hbase 53
          obtain ⟨oa, oc, rfl, -⟩ := hO.form
          obtain ⟨pa, pc, rfl, -⟩ := hO2.form
          have hl2 : (out ++ [((xr, xp), ⟨xk, xm, xn, xs', xv⟩)] : HMap).length = no + 1 := by rw [List.length_append, hno]; rfl
          rw [hl2] at hrun hwhere hO2
          rw [hno] at hrun hgrow hwhere hge ⊢
          dsimp only [h7] at hrun hgrow
          have hbA := (Below.refl w10.heap.size w10).alloc (Nat.le_refl _) (.cells #[.int .i64 xr, .int .i64 xp, .int .i64 xk, .int .i64 xm, .int .i64 xn, .string xs', .slice au nu cu] 81)
          have hsA : (w10.alloc (.cells #[.int .i64 xr, .int .i64 xp, .int .i64 xk, .int .i64 xm, .int .i64 xn, .string xs', .slice au nu cu] 81)).heap.size = w10.heap.size + 1 := Array.size_push ..
          have hwl := Below.size hb
          have hHl10 := H.lt
          have hkx := kx_grown hgrow
          have hrows : ∀ q ∈ (Value.ownBlock (.slice oa no oc)).toList, gZ ≤ q := fun q hq => hge.out q (by simpa using hq)
          have hXn : ∀ z, z < gZ → z ∉ (Value.ownBlock (.slice oa no oc)).toList := fun z hz hm => by have := hrows z hm; omega
          have X2 := hkx.blk (X.step hbA) (hXn gX (by omega))
          have B2 := hkx.blk (Bb.step hbA) (hXn gBb (by omega))
          have E2 := hkx.blk (E.step hbA) (hXn gE (by omega))
          have R2 := hkx.blk (R.step hbA) (hXn gR (by omega))
          have H2 := hkx.blk (H.step hbA) (hXn gH (by omega))
          have hb2 := (hb.step hbA).kx hkx (fun q hq => by have := hrows q hq; omega)
          have hge2 : Hid (∀ q, Value.ownBlock (.slice pa (no + 1) pc) = some q → gZ ≤ q) := Lib.hid (fun q hq => by
            rcases hwhere with e | e
            · exact hge.out q (by rw [← e]; exact hq)
            · rw [e] at hq; cases hq; have := hz; unfold SzI at this; omega)
          have hz2 : SzI gZ w' := (hz.step hbA).kx hkx trivial
          clear hO hge hgrow hwhere hbA hkx hrows hXn X Bb E R H hb hz hu2 hno hI hF hwl hsA
          go_wp2_with (first | (at_builtin; refine wpList_append2 rfl _ _ _ _ rfl rfl rfl hrun ?_) | fail)
          go_roundw
          case rel => exact ⟨j + 1, at', _, hd, u, by go_num, by first | rfl | go_num, by omega, hI2, hF2, hO2, hge2, X2, B2, E2, R2, H2, hb2, hz2⟩
          case measure => simp [intOf]; omega
        · have hlt2 : ltP r p ((xr, xp), ⟨xk, xm, xn, xs', xv⟩) = true := hLt
          have hI2 := Lib.hid (hI.out.less HSTR.out HX.out hlt2)
          rw [hno] at hI2
          have hF2 := Lib.hid (hF.out.other HX.out hne)
          simp only [hLt] at hls
          clear hE hLt hlt2 hne hle
          have y2 := X.cell (j := 2) rfl
          go_upto_region 9 with fail
          clear y2
          have e0 := extA_cell d0
          have e1 := extA_cell d1
          have y2 := extA_cell (X.cell (j := 2) rfl)
          have b0 := extA_cell (Bb.cell (j := 0) rfl)
          have b1 := extA_cell (Bb.cell (j := 1) rfl)
          clear d0 d1 d2 d3 d4 d5 d6
          refine wp_region_extB (by kernel_rfl) (by kernel_rfl) ?_
          repeat
            (first
              | go_big_quiet_skip
              | (go_big_quiet_want
                 go_big_quiet_op
                 first
                   | go_big_quiet_on
                   | (apply Exists.intro
                      refine ⟨fun w' hC9 => ?_, ?_⟩
                      · (first
                          | with_reducible rfl
                          | fail
                          | (go_simp; done)
                          | (go_simp; with_reducible rfl))
                      go_big_quiet_on)))
          refine wpQuiet_nil ?_
          intro w9 hq
          clear e0 e1 y2 b0 b1 heq
          replace X := X.step hq
          replace Bb := Bb.step hq
          replace E := E.step hq
          replace R := R.step hq
          replace H := H.step hq
          replace hO := hO.step hq
          replace hb := hb.step hq
          replace hz := hz.step hq
          clear hq
          go_upto_region 11 with fail
          have e0 := extA_cell (cell_all (hcell 0 _ rfl) hb)
          have e1 := extA_cell (cell_all (hcell 1 _ rfl) hb)
          simp only [Nat.add_zero] at e0
          have y2 := extA_cell (X.cell (j := 2) rfl)
          have b0 := extA_cell (Bb.cell (j := 0) rfl)
          have b1 := extA_cell (Bb.cell (j := 1) rfl)
          refine wp_region_extB (by kernel_rfl) (by kernel_rfl) ?_
          repeat
            (first
              | go_big_quiet_skip
              | (go_big_quiet_want
                 go_big_quiet_op
                 first
                   | go_big_quiet_on
                   | (apply Exists.intro
                      refine ⟨fun w' hC9 => ?_, ?_⟩
                      · (first
                          | with_reducible rfl
                          | (go_at_call 87; refine (hls _).mono ?_; rintro e w2 ⟨rfl, hb9⟩; exact ⟨rfl, extA_then hC9 hb9⟩)
                          | (go_simp; done)
                          | (go_simp; with_reducible rfl))
                      go_big_quiet_on)))
          refine wpQuiet_nil ?_
          intro w10 hq
          clear e0 e1 y2 b0 b1 hls
          replace X := X.step hq
          replace Bb := Bb.step hq
          replace E := E.step hq
          replace R := R.step hq
          replace H := H.step hq
          replace hO := hO.step hq
          replace hb := hb.step hq
          replace hz := hz.step hq
          clear hq
          have y2 := X.cell (j := 2) rfl
          have d0 := cell_all (hcell 0 _ rfl) hb
          have d1 := cell_all (hcell 1 _ rfl) hb
          have d2 := cell_all (hcell 2 _ rfl) hb
          have d3 := cell_all (hcell 3 _ rfl) hb
          have d4 := cell_all (hcell 4 _ rfl) hb
          have d5 := cell_all (hcell 5 _ rfl) hb
          have d6 := cell_all (hcell 6 _ rfl) hb
          simp only [Nat.add_zero] at d0
          have hbase : base ≤ w10.heap.size := Nat.le_trans hbw (Below.size hb)
          obtain ⟨v', w', hrun, hO2, hgrow, hwhere⟩ := hO.app ((xr, xp), ⟨xk, xm, xn, xs', xv⟩) (RowI.step hu2 hb) (by omega) hbase 53
          obtain ⟨oa, oc, rfl, -⟩ := hO.form
          obtain ⟨pa, pc, rfl, -⟩ := hO2.form
          have hl2 : (out ++ [((xr, xp), ⟨xk, xm, xn, xs', xv⟩)] : HMap).length = no + 1 := by rw [List.length_append, hno]; rfl
          rw [hl2] at hrun hwhere hO2
          rw [hno] at hrun hgrow hwhere hge ⊢
          dsimp only [h7] at hrun hgrow
          have hbA := (Below.refl w10.heap.size w10).alloc (Nat.le_refl _) (.cells #[.int .i64 xr, .int .i64 xp, .int .i64 xk, .int .i64 xm, .int .i64 xn, .string xs', .slice au nu cu] 81)
          have hsA : (w10.alloc (.cells #[.int .i64 xr, .int .i64 xp, .int .i64 xk, .int .i64 xm, .int .i64 xn, .string xs', .slice au nu cu] 81)).heap.size = w10.heap.size + 1 := Array.size_push ..
          have hwl := Below.size hb
          have hHl10 := H.lt
          have hkx := kx_grown hgrow
          have hrows : ∀ q ∈ (Value.ownBlock (.slice oa no oc)).toList, gZ ≤ q := fun q hq => hge.out q (by simpa using hq)
          have hXn : ∀ z, z < gZ → z ∉ (Value.ownBlock (.slice oa no oc)).toList := fun z hz hm => by have := hrows z hm; omega
          have X2 := hkx.blk (X.step hbA) (hXn gX (by omega))
          have B2 := hkx.blk (Bb.step hbA) (hXn gBb (by omega))
          have E2 := hkx.blk (E.step hbA) (hXn gE (by omega))
          have R2 := hkx.blk (R.step hbA) (hXn gR (by omega))
          have H2 := hkx.blk (H.step hbA) (hXn gH (by omega))
          have hb2 := (hb.step hbA).kx hkx (fun q hq => by have := hrows q hq; omega)
          have hge2 : Hid (∀ q, Value.ownBlock (.slice pa (no + 1) pc) = some q → gZ ≤ q) := Lib.hid (fun q hq => by
            rcases hwhere with e | e
            · exact hge.out q (by rw [← e]; exact hq)
            · rw [e] at hq; cases hq; have := hz; unfold SzI at this; omega)
          have hz2 : SzI gZ w' := (hz.step hbA).kx hkx trivial
          clear hO hge hgrow hwhere hbA hkx hrows hXn X Bb E R H hb hz hu2 hno hI hF hwl hsA
          go_wp2_with (first | (at_builtin; refine wpList_append2 rfl _ _ _ _ rfl rfl rfl hrun ?_) | fail)
          go_roundw
          case rel => exact ⟨j + 1, (no + 1), _, hd, u, by go_num, by first | rfl | go_num, by omega, hI2, hF2, hO2, hge2, X2, B2, E2, R2, H2, hb2, hz2⟩
          case measure => simp [intOf]; omega
      · simp only [hE] at heq
        have hee : ((xr, xp) : Int × Int) = (r, p) := by simp [eq2] at hE; rw [hE.1, hE.2]
        have hI2 := Lib.hid (hI.out.same HX.out hee)
        have hF2 := Lib.hid (hF.out.same HX.out hee hu2)
        cases hee
        clear hE hle
        have y2 := X.cell (j := 2) rfl
        go_upto_region 9 with fail
        clear y2
        have e0 := extA_cell d0
        have e1 := extA_cell d1
        have y2 := extA_cell (X.cell (j := 2) rfl)
        have b0 := extA_cell (Bb.cell (j := 0) rfl)
        have b1 := extA_cell (Bb.cell (j := 1) rfl)
        clear d0 d1 d2 d3 d4 d5 d6
        refine wp_region_extB (by kernel_rfl) (by kernel_rfl) ?_
        repeat
          (first
            | go_big_quiet_skip
            | (go_big_quiet_want
               go_big_quiet_op
               first
                 | go_big_quiet_on
                 | (apply Exists.intro
                    refine ⟨fun w' hC9 => ?_, ?_⟩
                    · (first
                        | with_reducible rfl
                        | fail
                        | (go_simp; done)
                        | (go_simp; with_reducible rfl))
                    go_big_quiet_on)))
        refine wpQuiet_nil ?_
        intro w9 hq
        clear e0 e1 y2 b0 b1 heq
        replace X := X.step hq
        replace Bb := Bb.step hq
        replace E := E.step hq
        replace R := R.step hq
        replace H := H.step hq
        replace hO := hO.step hq
        replace hb := hb.step hq
        replace hz := hz.step hq
        clear hq
        have y2 := X.cell (j := 2) rfl
        have d0 := cell_all (hcell 0 _ rfl) hb
        have d1 := cell_all (hcell 1 _ rfl) hb
        have d2 := cell_all (hcell 2 _ rfl) hb
        have d3 := cell_all (hcell 3 _ rfl) hb
        have d4 := cell_all (hcell 4 _ rfl) hb
        have d5 := cell_all (hcell 5 _ rfl) hb
        have d6 := cell_all (hcell 6 _ rfl) hb
        simp only [Nat.add_zero] at d0
        have H_0 := H.cell (j := 0) rfl
        have H_1 := H.cell (j := 1) rfl
        have H_2 := H.cell (j := 2) rfl
        have H_3 := H.cell (j := 3) rfl
        have H_4 := H.cell (j := 4) rfl
        have H_5 := H.cell (j := 5) rfl
        have H_6 := H.cell (j := 6) rfl
        have Hf0 := H.frozen 0
        have Hf1 := H.frozen 1
        have Hf2 := H.frozen 2
        have Hf3 := H.frozen 3
        have Hf4 := H.frozen 4
        have Hf5 := H.frozen 5
        have Hf6 := H.frozen 6
        go_wp2_with fail
        clear H_0 H_1 H_2 H_3 H_4 H_5 H_6 Hf0 Hf1 Hf2 Hf3 Hf4 Hf5 Hf6 d0 d1 d2 d3 d4 d5 d6 y2
        have hHc : ∃ cs t fz, w9.heap[gH]? = some (.cells cs t fz) ∧ t ≠ 3 := ⟨_, _, _, H, by decide⟩
        have hwl := Below.size hb
        have hkn : Kx [gH] w9 (((((((w9.setCell ⟨gH, 0, none⟩ (.int .i64 r)).setCell ⟨gH, 1, none⟩ (.int .i64 p)).setCell ⟨gH, 2, none⟩ (.int .i64 xk)).setCell ⟨gH, 3, none⟩ (.int .i64 xm)).setCell ⟨gH, 4, none⟩ (.int .i64 xn)).setCell ⟨gH, 5, none⟩ (.string xs')).setCell ⟨gH, 6, none⟩ (.slice au nu cu)) := Kx.setCells [.int .i64 r, .int .i64 p, .int .i64 xk, .int .i64 xm, .int .i64 xn, .string xs', .slice au nu cu] 0 _ (Kx.refl _ _) (.inl (by simp))
        replace H : Blk (((((((w9.setCell ⟨gH, 0, none⟩ (.int .i64 r)).setCell ⟨gH, 1, none⟩ (.int .i64 p)).setCell ⟨gH, 2, none⟩ (.int .i64 xk)).setCell ⟨gH, 3, none⟩ (.int .i64 xm)).setCell ⟨gH, 4, none⟩ (.int .i64 xn)).setCell ⟨gH, 5, none⟩ (.string xs')).setCell ⟨gH, 6, none⟩ (.slice au nu cu)) gH 81 [.int .i64 r, .int .i64 p, .int .i64 xk, .int .i64 xm, .int .i64 xn, .string xs', .slice au nu cu] := Blk.puts [.int .i64 r, .int .i64 p, .int .i64 xk, .int .i64 xm, .int .i64 xn, .string xs', .slice au nu cu] H rfl
        replace X := X.kx hkn (by first | (simp; done) | (simp; omega))
        replace Bb := Bb.kx hkn (by first | (simp; done) | (simp; omega))
        replace E := E.kx hkn (by first | (simp; done) | (simp; omega))
        replace R := R.kx hkn (by first | (simp; done) | (simp; omega))
        replace hb := hb.kx hkn (by first | (simp; done) | (simp; omega))
        replace hz := hz.kx hkn (by first | (simp; done) | (simp; omega))
        generalize ((((((w9.setCell ⟨gH, 0, none⟩ (.int .i64 r)).setCell ⟨gH, 1, none⟩ (.int .i64 p)).setCell ⟨gH, 2, none⟩ (.int .i64 xk)).setCell ⟨gH, 3, none⟩ (.int .i64 xm)).setCell ⟨gH, 4, none⟩ (.int .i64 xn)).setCell ⟨gH, 5, none⟩ (.string xs')).setCell ⟨gH, 6, none⟩ (.slice au nu cu) = w10 at *
        have hO2 := hO.kxH hkn (fun q hq e => by simp at hq; subst hq; have := hge.out _ e; omega) (fun q hq => by simp at hq; subst hq; exact hHc)
        clear hkn hHc hO hF hI hu2 hno hwl
        go_roundw
        case rel => exact ⟨j + 1, at', out, _, _, by go_num, rfl, by omega, hI2, hF2, hO2, hge, X, Bb, E, R, H, hb, hz⟩
        case measure => simp [intOf]; omega
    · obtain rfl : N = j := by omega
      have hI3 := hI.out
      have hF3 := hF.out
      rw [← HNx.out] at hI3 hF3
      have hfn := Lib.hid (HFIN.out _ _ hI3)
      obtain ⟨hv, he⟩ := HFND.out _ _ hF3
      have hv9 : hd.vs.length = 9 := by
        rcases hF3.f with ⟨rfl, -⟩ | ⟨y, h1, h2, rfl⟩
        · rfl
        · exact hxv y (List.mem_of_mem_take h1)
      have hur := hF3.row
      obtain ⟨au, cu, hue⟩ := RowI.form hur
      obtain ⟨nu, hnu⟩ : ∃ n, (plK 0 hd.vs).length = n := ⟨_, rfl⟩
      rw [hnu] at hue
      subst hue
      have hne := fun W => ne_entry hd.k hd.m hd.n hd.s k m n s W
      simp only [he, Bool.not_not] at hne
      obtain ⟨no, hno⟩ : ∃ n, out.length = n := ⟨_, rfl⟩
      have hno1 : no ≤ 1000 := by omega
      obtain ⟨oa, oc, rfl, hoc⟩ := hO.form
      rw [hno] at hoc hO hge hle ⊢
      have HV := Lib.hid hv
      clear hI hF hI3 hF3 hv HFIN HFND HSTR hnu
      have y2 := X.cell (j := 2) rfl
      have H_0 := H.cell (j := 0) rfl
      have H_1 := H.cell (j := 1) rfl
      have H_2 := H.cell (j := 2) rfl
      have H_3 := H.cell (j := 3) rfl
      have H_4 := H.cell (j := 4) rfl
      have H_5 := H.cell (j := 5) rfl
      have H_6 := H.cell (j := 6) rfl
      have E_0 := E.cell (j := 0) rfl
      have E_1 := E.cell (j := 1) rfl
      have E_2 := E.cell (j := 2) rfl
      have E_3 := E.cell (j := 3) rfl
      cases hC : clashH L r p k m n s
      · simp only [hC] at hne
        obtain ⟨e1, e2, e3, e4⟩ := eq4_true (by rw [he, hC]; rfl)
        clear he
        go_upto_region 16 with fail
        clear H_0 H_1 H_2 H_3 H_4 H_5 H_6 E_0 E_1 E_2 E_3 hne y2
        rw [e1, e2, e3, e4] at H
        have cW := fun W (hW : From w W) => rwith_any base (.slice au nu cu) hd.vs pl W (RowI.step hur hW) hv9 hpl.1 hpl.2
        have hNH : newH L pl r p k m n s = ⟨k, m, n, s, hd.vs.set pl.toNat true⟩ := by rw [HV.out]; rfl
        obtain ⟨ws, hws⟩ : ∃ ws, hd.vs.set pl.toNat true = ws := ⟨_, rfl⟩
        rw [hws] at cW hNH
        have HNH := Lib.hid hNH
        have hw9 : ws.length = 9 := by rw [← hws]; simp [hv9]
        have hpw := plK_len 0 ws
        clear e1 e2 e3 e4 hws hNH HV hur hv9
        have H6 := H.cell (j := 6) rfl
        go_wp2_with fail
        refine (cW _ hb).mono ?_
        rintro e w11 ⟨⟨u', rfl, hU⟩, hbn⟩
        replace hU := RowI.low hU (Nat.le_trans hbw (Below.size hb))
        obtain ⟨ua, uc, rfl⟩ := RowI.form hU
        obtain ⟨nw, hnw⟩ : ∃ n, (plK 0 ws).length = n := ⟨_, rfl⟩
        rw [hnw] at hU ⊢
        replace X := X.step hbn
        replace Bb := Bb.step hbn
        replace E := E.step hbn
        replace R := R.step hbn
        replace H := H.step hbn
        replace hO := hO.step hbn
        replace hb := hb.step hbn
        replace hz := hz.step hbn
        clear hbn cW H6
        have H6 := H.cell (j := 6) rfl
        have H6f := H.frozen 6
        go_upto_region 17 with fail
        clear H6 H6f
        have hkn : Kx [gH] w11 (w11.setCell ⟨gH, 6, none⟩ (.slice ua nw uc)) := (Kx.refl _ _).setCell (.inl (by simp)) _
        have hHc : ∃ cs t fz, w11.heap[gH]? = some (.cells cs t fz) ∧ t ≠ 3 := ⟨_, _, _, H, by decide⟩
        have hHc2 : ∃ cs t fz, w11.heap[gH]? = some (.cells cs t fz) := ⟨_, _, _, H⟩
        have hwl := Below.size hb
        replace hO := hO.kxH hkn (fun q hq e => by simp at hq; subst hq; have := hge.out _ e; omega) (fun q hq => by simp at hq; subst hq; exact hHc)
        replace hU : RowI (w11.setCell ⟨gH, 6, none⟩ (.slice ua nw uc)) base (.slice ua nw uc) (plK 0 ws) := row_kx hU hkn (fun q hq hm => by
          simp at hm
          subst hm
          obtain ⟨cs, fz, h1⟩ := row_cellsT hU _ hq
          rw [show w11.heap[q]? = _ from H] at h1
          injection h1 with h1
          injection h1 with _ e _
          exact absurd e (by decide))
        replace X := hkn.blk X (by simp; omega)
        replace Bb := hkn.blk Bb (by simp; omega)
        replace E := hkn.blk E (by simp; omega)
        replace R := hkn.blk R (by simp; omega)
        replace hb := hb.kx hkn (by simp; omega)
        replace hz := hz.kx hkn trivial
        have H9 : Blk (w11.setCell ⟨gH, 6, none⟩ (.slice ua nw uc)) gH 81 [.int .i64 r, .int .i64 p, .int .i64 k, .int .i64 m, .int .i64 n, .string s, .slice ua nw uc] := H.set 6 (.slice ua nw uc)
        replace H := H9
        clear H9
        clear hkn hHc hHc2 hwl
        generalize w11.setCell ⟨gH, 6, none⟩ (.slice ua nw uc) = w12 at *
        have hbase : base ≤ w12.heap.size := Nat.le_trans hbw (Below.size hb)
        obtain ⟨v1, w13, hrun1, hO1, hge1, hk1⟩ := hO.takeApp hno (by omega) hbase at' (by omega) 53
        obtain ⟨a1, c1, rfl, -⟩ := hO1.form
        have hl1 : (out.take at').length = at' := by rw [List.length_take]; omega
        rw [hl1] at hrun1 hO1 hge1
        have hbA := (Below.refl w12.heap.size w12).alloc (Nat.le_refl _) (.cells #[] 81)
        have hb13 : Below w12.heap.size w12 w13 := Below.trans hbA (hk1.below hbA.size (by simp))
        have hao : (at' : Int) ≤ (oc : Int) := by omega
        go_upto_region 18 with (first | (at_builtin; refine wpList_append2 rfl _ _ _ _ rfl rfl rfl hrun1 ?_) | fail)
        have hOown := hO.ge
        have hHlt := H.lt
        have hBlt := Bb.lt
        have hRlt := R.lt
        replace X := X.step hb13
        replace Bb := Bb.step hb13
        replace E := E.step hb13
        replace R := R.step hb13
        replace H := H.step hb13
        replace hO := hO.step hb13
        replace hb := hb.step hb13
        replace hz := hz.step hb13
        replace hU := hU.step hb13
        have hs12 : w12.heap.size ≤ w13.heap.size := Below.size hb13
        obtain ⟨g12, hg12⟩ : ∃ g, w12.heap.size = g := ⟨_, rfl⟩
        rw [hg12] at hge1 hOown hHlt hBlt hRlt hs12
        clear hrun1 hl1 hbA hb13 hk1 hg12
        obtain ⟨rows1, hrows1⟩ : ∃ rows, (Value.ownBlock (.slice a1 at' c1)).toList = rows := ⟨_, rfl⟩
        have hr1 : ∀ q ∈ rows1, Value.ownBlock (.slice a1 at' c1) = some q := fun q hq => by rw [← hrows1] at hq; simpa using hq
        have hr1g : ∀ q ∈ rows1, g12 ≤ q := fun q hq => hge1 q (hr1 q hq)
        have hHn : gH ∉ rows1 := fun hm => by have := hr1g _ hm; omega
        obtain ⟨sa, hsa⟩ : ∃ sa, (if oc = at' then oa else Option.map (fun x => x.add (at' * 7)) oa) = sa := ⟨_, rfl⟩
        have h0 := fun (W : World) (hW : Kx rows1 w13 W) => (hW.blk H hHn).cell (j := 0) rfl
        have h1 := fun (W : World) (hW : Kx rows1 w13 W) => (hW.blk H hHn).cell (j := 1) rfl
        have h2 := fun (W : World) (hW : Kx rows1 w13 W) => (hW.blk H hHn).cell (j := 2) rfl
        have h3 := fun (W : World) (hW : Kx rows1 w13 W) => (hW.blk H hHn).cell (j := 3) rfl
        have h4 := fun (W : World) (hW : Kx rows1 w13 W) => (hW.blk H hHn).cell (j := 4) rfl
        have h5 := fun (W : World) (hW : Kx rows1 w13 W) => (hW.blk H hHn).cell (j := 5) rfl
        have h6 := fun (W : World) (hW : Kx rows1 w13 W) => (hW.blk H hHn).cell (j := 6) rfl
        have haoN : at' ≤ oc := by omega
        have hat' : at' ≤ no := by omega
        refine wp_region_held (S := Kx rows1 w13) (by kernel_rfl) ?_
        have hst : Below (w13).heap.size w13 { w13 with drawn := (w13).drawn + 1 } := ⟨rfl, rfl, rfl, Nat.le_refl _, fun _ _ => rfl⟩
        have hS : (Kx rows1 w13) { w13 with drawn := (w13).drawn + 1 } := by first | exact ⟨rfl, rfl, rfl, Nat.le_refl _, fun _ _ _ => rfl⟩ | exact ⟨rfl, rfl, rfl, Nat.le_refl _, fun _ _ => rfl⟩ | exact hS0
        replace X := X.step hst
        replace Bb := Bb.step hst
        replace E := E.step hst
        replace R := R.step hst
        replace H := H.step hst
        replace hO := hO.step hst
        replace hO1 := hO1.step hst
        replace hb := hb.step hst
        replace hz := hz.step hst
        replace hU := hU.step hst
        clear hst
        generalize ({ w13 with drawn := (w13).drawn + 1 } : World) = wq at *
        refine wpAnyH_take (i := 0) (v := ?_) rfl (by kernel_rfl) (by kernel_rfl) (by kernel_rfl) (fun _ _ _ h => h) (Or.inl ⟨by kernel_rfl, ?_⟩) hS ?_
        rotate_left
        · intro W hSW
          have y0 := h0 _ hSW
          have y1 := h1 _ hSW
          have y2 := h2 _ hSW
          have y3 := h3 _ hSW
          have y4 := h4 _ hSW
          have y5 := h5 _ hSW
          have y6 := h6 _ hSW
          go_simp
          try with_reducible rfl
        dsimp only [Act.put]
        refine wpAnyH_take (i := 1) (v := ?_) rfl (by kernel_rfl) (by kernel_rfl) (by kernel_rfl) (fun _ _ _ h => h) (Or.inl ⟨by kernel_rfl, ?_⟩) hS ?_
        rotate_left
        · intro W hSW
          have y0 := h0 _ hSW
          have y1 := h1 _ hSW
          have y2 := h2 _ hSW
          have y3 := h3 _ hSW
          have y4 := h4 _ hSW
          have y5 := h5 _ hSW
          have y6 := h6 _ hSW
          go_simp
          try with_reducible rfl
        dsimp only [Act.put]
        refine wpAnyH_take (i := 4) (v := ?_) rfl (by kernel_rfl) (by kernel_rfl) (by kernel_rfl) (fun _ _ _ h => h) (Or.inl ⟨by kernel_rfl, ?_⟩) hS ?_
        rotate_left
        · intro W hSW
          have y0 := h0 _ hSW
          have y1 := h1 _ hSW
          have y2 := h2 _ hSW
          have y3 := h3 _ hSW
          have y4 := h4 _ hSW
          have y5 := h5 _ hSW
          have y6 := h6 _ hSW
          go_simp
          try with_reducible rfl
        dsimp only [Act.put]
        refine wpAnyH_take (i := 5) (v := ?_) rfl (by kernel_rfl) (by kernel_rfl) (by kernel_rfl) (fun _ _ _ h => h) (Or.inl ⟨by kernel_rfl, ?_⟩) hS ?_
        rotate_left
        · intro W hSW
          have y0 := h0 _ hSW
          have y1 := h1 _ hSW
          have y2 := h2 _ hSW
          have y3 := h3 _ hSW
          have y4 := h4 _ hSW
          have y5 := h5 _ hSW
          have y6 := h6 _ hSW
          go_simp
          try with_reducible rfl
        dsimp only [Act.put]
        refine wpAnyH_take (i := 6) (v := ?_) rfl (by kernel_rfl) (by kernel_rfl) (by kernel_rfl) (fun _ _ _ h => h) (Or.inl ⟨by kernel_rfl, ?_⟩) hS ?_
        rotate_left
        · intro W hSW
          have y0 := h0 _ hSW
          have y1 := h1 _ hSW
          have y2 := h2 _ hSW
          have y3 := h3 _ hSW
          have y4 := h4 _ hSW
          have y5 := h5 _ hSW
          have y6 := h6 _ hSW
          go_simp
          try with_reducible rfl
        dsimp only [Act.put]
        refine wpAnyH_ready (rs := [2]) (by kernel_rfl) (by simp) ?_
        refine AllReadyH.cons rfl (fun K hK => ?_) AllReadyH.nil
        go_simp
        have hbase2 : base ≤ wq.heap.size := Nat.le_trans hbw (Below.size hb)
        obtain ⟨v2, w15, hrun2, hO2, hgrow2, hwhere2⟩ := hO1.app ((r, p), ⟨k, m, n, s, ws⟩) hU (by rw [List.length_take]; omega) hbase2 53
        obtain ⟨a2, c2, rfl, -⟩ := hO2.form
        have hl2 : (out.take at' ++ [((r, p), ⟨k, m, n, s, ws⟩)] : HMap).length = at' + 1 := by rw [List.length_append, List.length_take]; simp; omega
        rw [hl2] at hrun2 hwhere2 hO2
        have hct := hO1.cellsT
        dsimp only [h7] at hrun2 hgrow2
        have hbn := (Below.refl wq.heap.size wq).alloc (Nat.le_refl _) (.cells #[.int .i64 r, .int .i64 p, .int .i64 k, .int .i64 m, .int .i64 n, .string s, .slice ua nw uc] 81)
        have hszq : g12 ≤ wq.heap.size := Nat.le_trans hs12 hS.size
        refine hK.out _ _ (hS.step hbn) (fun hS => ?_)
        have hct2 : ∀ q ∈ rows1, ∃ cs t fz, (wq.alloc (.cells #[.int .i64 r, .int .i64 p, .int .i64 k, .int .i64 m, .int .i64 n, .string s, .slice ua nw uc] 81)).heap[q]? = some (.cells cs t fz) ∧ t ≠ 3 := fun q hq => by
          obtain ⟨cs, fz, h9⟩ := hct q (hr1 q hq)
          exact ⟨cs, _, fz, (hbn.block q (Array.getElem?_eq_some_iff.1 h9).1).trans h9, by decide⟩
        have hsz14 : (wq.alloc (.cells #[.int .i64 r, .int .i64 p, .int .i64 k, .int .i64 m, .int .i64 n, .string s, .slice ua nw uc] 81)).heap.size = wq.heap.size + 1 := Array.size_push ..
        replace X := X.step hbn
        replace Bb := Bb.step hbn
        replace E := E.step hbn
        replace R := R.step hbn
        replace H := H.step hbn
        replace hO := hO.step hbn
        replace hb := hb.step hbn
        replace hz := hz.step hbn
        generalize wq.alloc (.cells #[.int .i64 r, .int .i64 p, .int .i64 k, .int .i64 m, .int .i64 n, .string s, .slice ua nw uc] 81) = w14 at *
        have hkx2 : Kx rows1 w14 w15 := by rw [← hrows1]; exact kx_grown hgrow2
        have hwl : w.heap.size ≤ g12 := by omega
        have hX2 := hkx2.blk X (fun hm => by have := hr1g _ hm; omega)
        have hB2 := hkx2.blk Bb (fun hm => by have := hr1g _ hm; omega)
        have hE2 := hkx2.blk E (fun hm => by have := hr1g _ hm; omega)
        have hR2 := hkx2.blk R (fun hm => by have := hr1g _ hm; omega)
        have hH2 := hkx2.blk H hHn
        have hOo2 := hO.kxH hkx2 (fun q hq e => by have h8 := hr1g q hq; have h9 := (hOown q e).2; omega) hct2
        have hb2 := hb.kx hkx2 (fun q hq => by have := hr1g q hq; omega)
        have hsz15 := hkx2.size
        have hg2 : ∀ q, Value.ownBlock (.slice a2 (at' + 1) c2) = some q → q ∈ rows1 ∨ w13.heap.size ≤ q := fun q hq => by
          have h7 := hS.size
          rcases hwhere2 with e | e
          · left; rw [← hrows1]; simp; rw [← e]; exact hq
          · rw [e] at hq; cases hq; right; omega
        have hg2g : ∀ q, q ∈ (Value.ownBlock (.slice a2 (at' + 1) c2)).toList → g12 ≤ q := fun q hq => by
          rcases hg2 q (by simpa using hq) with h9 | h9
          · exact hr1g q h9
          · omega
        have hbase15 : base ≤ w15.heap.size := Nat.le_trans hbw (Below.size hb2)
        have hsaF : at' < no → ∀ g, oa = some ⟨g, 0, none⟩ → sa = some ⟨g, at' * 7, none⟩ := fun hl g hg => by rw [← hsa, if_neg (by omega), hg]; simp [Addr.add_lit]
        obtain ⟨v3, w16, hrun3, hO3, hw3, hk3⟩ := hO2.dropApp hOo2 hno (by rw [hl2]; omega) hbase15 at' hat' 53 sa (oc - at') hsaF
        obtain ⟨a3, c3, rfl, -⟩ := hO3.form
        have hfn2 := hfn.out ⟨k, m, n, s, ws⟩
        obtain ⟨n3, hn3⟩ : ∃ n3, (out.take at' ++ [((r, p), ⟨k, m, n, s, ws⟩)] ++ out.drop at' : HMap).length = n3 := ⟨_, rfl⟩
        rw [hn3] at hrun3 hO3 hw3
        rw [hfn2] at hO3
        have hg3 : Hid (∀ q, Value.ownBlock (.slice a3 n3 c3) = some q → g12 ≤ q) := Lib.hid (fun q hq => by
          rcases hw3 q hq with h9 | h9
          · exact hg2g q (by simpa using h9)
          · omega)
        clear hw3
        clear hsaF
        clear hct hct2 hgrow2 hwhere2 hbn X Bb E R H hO hO1 hO2 hU hl2 hfn2 hn3 hOo2
        clear hK K
        refine wpAnyH_ready (rs := [3]) (by kernel_rfl) (by simp) ?_
        refine AllReadyH.cons rfl (fun K hK => ?_) AllReadyH.nil
        refine step_append_run rfl (.tmp 97) (.tmp 99) 53 rfl rfl rfl hrun2 ?_
        refine hK.out _ _ (hS.trans hkx2) (fun hS => ?_)
        clear hK K
        refine wpAnyH_ready (rs := [7]) (by kernel_rfl) (by simp) ?_
        refine AllReadyH.cons rfl (fun K hK => ?_) AllReadyH.nil
        refine step_append_run rfl (.tmp 100) (.tmp 103) 53 rfl rfl rfl hrun3 ?_
        refine hK.out _ _ (FromX.kx hS hk3 (fun q hq => hg2 q (by simpa using hq))) (fun hS => ?_)
        have X := hk3.blk hX2 (fun hm => by have := hg2g _ hm; omega)
        have E := hk3.blk hE2 (fun hm => by have := hg2g _ hm; omega)
        have R := hk3.blk hR2 (fun hm => by have := hg2g _ hm; omega)
        have H := hk3.blk hH2 (fun hm => by have := hg2g _ hm; omega)
        have hb := hb2.kx hk3 (fun q hq => by have := hg2g q hq; omega)
        clear hrun2 hrun3 hk3 hX2 hB2 hE2 hR2 hH2 hb2 hg2 hg2g hsz15 hbase15 hkx2
        clear hK K
        refine wpAnyH_ready (rs := [8]) (by kernel_rfl) (by simp) ?_
        refine AllReadyH.cons rfl (fun K hK => ?_) AllReadyH.nil
        go_simp
        refine hK.out _ _ hS (fun hS => ?_)
        clear hK K
        refine wpAnyH_done (by kernel_rfl) ?_ _
        clear hS hsa h0 h1 h2 h3 h4 h5 h6 hrows1 hr1 hr1g hHn hge1 hOown hno hw9 hpw hbase hbase2 hszq hsz14 hwl hz hge haoN hat' hao hoc ha0
        have hNHo := HNH.out
        rw [← hNHo] at hO3
        have hO3g := hO3.ge
        have hwR : w.heap.size ≤ gR := by omega
        have X_0 := X.cell (j := 0) rfl
        have X_1 := X.cell (j := 1) rfl
        have X_2 := X.cell (j := 2) rfl
        have X_3 := X.cell (j := 3) rfl
        have X_4 := X.cell (j := 4) rfl
        have X_5 := X.cell (j := 5) rfl
        have X_6 := X.cell (j := 6) rfl
        have X_7 := X.cell (j := 7) rfl
        go_upto_region 20 with fail
        obtain ⟨gO9, hgO9⟩ : ∃ g, (w16).heap.size = g := ⟨_, rfl⟩
        have lt_X_O9 := X.lt
        rw [hgO9] at lt_X_O9
        have lt_E_O9 := E.lt
        rw [hgO9] at lt_E_O9
        have lt_R_O9 := R.lt
        rw [hgO9] at lt_R_O9
        have lt_H_O9 := H.lt
        rw [hgO9] at lt_H_O9
        have O9 := Blk.newV hgO9 55 #[.int .i64 c, .int .i64 sl, .slice a N cp, .bool is, .int .i64 k0, .int .i64 m0, .int .i64 n0, .string s0]
        have hbn := (Below.refl (w16).heap.size w16).alloc (Nat.le_refl _) (.cells #[.int .i64 c, .int .i64 sl, .slice a N cp, .bool is, .int .i64 k0, .int .i64 m0, .int .i64 n0, .string s0] 55)
        replace X := X.step hbn
        replace E := E.step hbn
        replace R := R.step hbn
        replace H := H.step hbn
        replace hb := hb.step hbn
        replace hO3 := hO3.step hbn
        clear hbn
        rw [hgO9]
        generalize (w16).alloc (.cells #[.int .i64 c, .int .i64 sl, .slice a N cp, .bool is, .int .i64 k0, .int .i64 m0, .int .i64 n0, .string s0] 55) = w17 at *
        rw [hgO9] at hO3g
        have hbz := Below.size hb
        clear X_0 X_1 X_2 X_3 X_4 X_5 X_6 X_7
        have o2 := O9.cell (j := 2) rfl
        have of2 := O9.frozen 2
        go_upto_region 21 with fail
        clear o2 of2
        have hkn : Kx [gO9] w17 (w17.setCell ⟨gO9, 2, none⟩ (.slice a3 n3 c3)) := (Kx.refl _ _).setCell (.inl (by simp)) _
        have hOc : ∃ cs t fz, w17.heap[gO9]? = some (.cells cs t fz) ∧ t ≠ 3 := ⟨_, _, _, O9, by decide⟩
        replace hO3 := hO3.kxH hkn (fun q hq e => by simp at hq; subst hq; have := (hO3g _ e).2; omega) (fun q hq => by simp at hq; subst hq; exact hOc)
        have O10 : Blk (w17.setCell ⟨gO9, 2, none⟩ (.slice a3 n3 c3)) gO9 55 [.int .i64 c, .int .i64 sl, .slice a3 n3 c3, .bool is, .int .i64 k0, .int .i64 m0, .int .i64 n0, .string s0] := O9.set 2 (.slice a3 n3 c3)
        have hwO9 : w.heap.size ≤ gO9 := by omega
        replace O9 := O10
        replace X := hkn.blk X (by simp; omega)
        replace E := hkn.blk E (by simp; omega)
        replace R := hkn.blk R (by simp; omega)
        replace H := hkn.blk H (by simp; omega)
        replace hb := hb.kx hkn (by simp; omega)
        clear hkn hOc O10 hO3g
        generalize w17.setCell ⟨gO9, 2, none⟩ (.slice a3 n3 c3) = w18 at *
        have cMj := fun W => refMajority_any c W hr
        have hwon : wonP c (newH L pl r p k m n s).vs = decide (majI c ≤ (nw : Int)) := by rw [hNHo]; unfold wonP; rw [hnw]
        obtain ⟨mj, hmj⟩ : ∃ mj, majI c = mj := ⟨_, rfl⟩
        rw [hmj] at hwon
        simp only [hmj] at cMj
        have z6 := extA_cell (H.cell (j := 6) rfl)
        have x0 := extA_cell (X.cell (j := 0) rfl)
        clear hmj hNHo
        refine wp_region_extB (by kernel_rfl) (by kernel_rfl) ?_
        repeat
          (first
            | go_big_quiet_skip
            | (go_big_quiet_want
               go_big_quiet_op
               first
                 | go_big_quiet_on
                 | (apply Exists.intro
                    refine ⟨fun w' hC9 => ?_, ?_⟩
                    · (first
                        | with_reducible rfl
                        | (go_at_call 89; refine (cMj _).mono ?_; rintro e w2 ⟨rfl, rfl⟩; exact ⟨rfl, hC9⟩)
                        | (go_simp; done)
                        | (go_simp; with_reducible rfl))
                    go_big_quiet_on)))
        refine wpQuiet_nil ?_
        intro w19 hq
        clear z6 x0 cMj
        replace X := X.step hq
        replace E := E.step hq
        replace R := R.step hq
        replace O9 := O9.step hq
        replace hb := hb.step hq
        replace hO3 := hO3.step hq
        clear hq H
        by_cases hlt : (nw : Int) < mj
        · have hw0 : wonP c (newH L pl r p k m n s).vs = false := by rw [hwon]; simp; omega
          clear hwon
          have hRc : ∃ cs t fz, w19.heap[gR]? = some (.cells cs t fz) ∧ t ≠ 3 := ⟨_, _, _, R, by decide⟩
          go_upto_region 22 with fail
          apply wp_region_lit
          refine wpList_load_row rfl 55 (.tmp 16) rfl gO9 (by kernel_rfl) _ _ (0, 0) _ O9 Tryz.underlying55 rfl (by kernel_rfl) ?_
          dsimp only [Act.put]
          refine wpList_store_rowTo rfl 55 (.tmp 8) (.tmp 115) rfl rfl gR #[.int .i64 c, .int .i64 sl, .slice a3 n3 c3, .bool is, .int .i64 k0, .int .i64 m0, .int .i64 n0, .string s0] (by kernel_rfl) (by kernel_rfl) _ _ R (by kernel_rfl) (by kernel_rfl) (by kernel_rfl) ?_
          have hkn := kx_row w19 gR #[.int .i64 c, .int .i64 sl, .slice a3 n3 c3, .bool is, .int .i64 k0, .int .i64 m0, .int .i64 n0, .string s0]
          replace R := R.row [.int .i64 c, .int .i64 sl, .slice a3 n3 c3, .bool is, .int .i64 k0, .int .i64 m0, .int .i64 n0, .string s0]
          generalize w19.setRow gR #[.int .i64 c, .int .i64 sl, .slice a3 n3 c3, .bool is, .int .i64 k0, .int .i64 m0, .int .i64 n0, .string s0] = w20 at *
          refine wpList_pure (v := ?_) rfl ?_ ?_
          rotate_left
          · go_simp
            try with_reducible rfl
          dsimp only [Act.put]
          refine wpList_pure (v := ?_) rfl ?_ ?_
          rotate_left
          · go_simp
            try with_reducible rfl
          dsimp only [Act.put]
          refine wpList_nil ?_
          (try replace hO3 := hO3.kxH hkn (fun q hq e => by simp at hq; subst hq; have := hg3.out _ e; omega) (fun q hq => by simp at hq; subst hq; exact hRc))
          replace hb := hb.kx hkn (by simp; omega)
          clear hkn hRc
          simp only [Exit.inBlock, Exit.then]
          refine ‹∀ (a : Act) (w : World), Code.wp _ Code.ret _ a w → _› _ _ ?_
          go_step
          (try simp only [Exit.inBlock, Exit.then])
          refine bodyPost_ret (v := .tuple #[.agg #[.int .i64 c, .int .i64 sl, .slice a3 n3 c3, .bool is, .int .i64 k0, .int .i64 m0, .int .i64 n0, .string s0], .bool false, .int .i64 0]) (res_cell1tt rfl (by kernel_rfl) (by kernel_rfl) (by kernel_rfl) (run_loadVar_row _ _ _ _ _ (0, 0) _ R Tryz.underlying55 rfl (by kernel_rfl))) rfl ?_
          · rw [← HQ.out]
            exact rh_few (A := ⟨k0, m0, n0, s0, is, c, sl⟩) (v := .slice a3 n3 c3) HOK.out hC hw0 rfl hO3 hb
        · have hw1 : wonP c (newH L pl r p k m n s).vs = true := by rw [hwon]; simp; omega
          clear hwon
          have hk9 : knE ⟨k0, m0, n0, s0, is, c, sl⟩ k m n s = 0 ∨ knE ⟨k0, m0, n0, s0, is, c, sl⟩ k m n s = 260 := by unfold knE; split <;> simp
          have cC := fun W => rchosen_any ⟨k0, m0, n0, s0, is, c, sl⟩ a3 n3 c3 k m n s W
          unfold knoR at cC
          rcases hk9 with hk9 | hk9
          · obtain ⟨⟨V1, V2, V3, V4, V5, V6, V7⟩, hV⟩ : ∃ B, knowA ⟨k0, m0, n0, s0, is, c, sl⟩ k m n s = B := ⟨_, rfl⟩
            simp only [hk9, if_true, hV, decide_true, Bool.true_and] at cC
            unfold rV kV at cC
            simp only at cC
            have O9_0 := O9.cell (j := 0) rfl
            have O9_1 := O9.cell (j := 1) rfl
            have O9_2 := O9.cell (j := 2) rfl
            have O9_3 := O9.cell (j := 3) rfl
            have O9_4 := O9.cell (j := 4) rfl
            have O9_5 := O9.cell (j := 5) rfl
            have O9_6 := O9.cell (j := 6) rfl
            have O9_7 := O9.cell (j := 7) rfl
            have E_0 := E.cell (j := 0) rfl
            have E_1 := E.cell (j := 1) rfl
            have E_2 := E.cell (j := 2) rfl
            have E_3 := E.cell (j := 3) rfl
            go_wp2_with fail
            refine (cC _).mono ?_
            rintro e w20 ⟨rfl, hbn⟩
            replace X := X.step hbn
            replace E := E.step hbn
            replace R := R.step hbn
            replace O9 := O9.step hbn
            replace hb := hb.step hbn
            replace hO3 := hO3.step hbn
            clear hbn
            clear O9_0 O9_1 O9_2 O9_3 O9_4 O9_5 O9_6 O9_7 E_0 E_1 E_2 E_3
            go_upto_region 24 with fail
            obtain ⟨gP9, hgP9⟩ : ∃ g, (w20).heap.size = g := ⟨_, rfl⟩
            have lt_X_P9 := X.lt
            rw [hgP9] at lt_X_P9
            have lt_E_P9 := E.lt
            rw [hgP9] at lt_E_P9
            have lt_R_P9 := R.lt
            rw [hgP9] at lt_R_P9
            have lt_O9_P9 := O9.lt
            rw [hgP9] at lt_O9_P9
            have P9 := Blk.newV hgP9 55 #[.int .i64 V6, .int .i64 V7, .slice a3 n3 c3, .bool V5, .int .i64 V1, .int .i64 V2, .int .i64 V3, .string V4]
            have hbn := (Below.refl (w20).heap.size w20).alloc (Nat.le_refl _) (.cells #[.int .i64 V6, .int .i64 V7, .slice a3 n3 c3, .bool V5, .int .i64 V1, .int .i64 V2, .int .i64 V3, .string V4] 55)
            replace X := X.step hbn
            replace E := E.step hbn
            replace R := R.step hbn
            replace O9 := O9.step hbn
            replace hb := hb.step hbn
            replace hO3 := hO3.step hbn
            clear hbn
            rw [hgP9]
            generalize (w20).alloc (.cells #[.int .i64 V6, .int .i64 V7, .slice a3 n3 c3, .bool V5, .int .i64 V1, .int .i64 V2, .int .i64 V3, .string V4] 55) = w21 at *
            have hRc : ∃ cs t fz, w21.heap[gR]? = some (.cells cs t fz) ∧ t ≠ 3 := ⟨_, _, _, R, by decide⟩
            go_upto_region 26 with fail
            apply wp_region_lit
            refine wpList_load_row rfl 55 (.tmp 17) rfl gP9 (by kernel_rfl) _ _ (0, 0) _ P9 Tryz.underlying55 rfl (by kernel_rfl) ?_
            dsimp only [Act.put]
            refine wpList_pure (v := ?_) rfl ?_ ?_
            rotate_left
            · go_simp
              try with_reducible rfl
            dsimp only [Act.put]
            refine wpList_store_rowTo rfl 55 (.tmp 8) (.tmp 127) rfl rfl gR #[.int .i64 V6, .int .i64 V7, .slice a3 n3 c3, .bool V5, .int .i64 V1, .int .i64 V2, .int .i64 V3, .string V4] (by kernel_rfl) (by kernel_rfl) _ _ R (by kernel_rfl) (by kernel_rfl) (by kernel_rfl) ?_
            have hkn := kx_row w21 gR #[.int .i64 V6, .int .i64 V7, .slice a3 n3 c3, .bool V5, .int .i64 V1, .int .i64 V2, .int .i64 V3, .string V4]
            replace R := R.row [.int .i64 V6, .int .i64 V7, .slice a3 n3 c3, .bool V5, .int .i64 V1, .int .i64 V2, .int .i64 V3, .string V4]
            generalize w21.setRow gR #[.int .i64 V6, .int .i64 V7, .slice a3 n3 c3, .bool V5, .int .i64 V1, .int .i64 V2, .int .i64 V3, .string V4] = w22 at *
            refine wpList_pure (v := ?_) rfl ?_ ?_
            rotate_left
            · go_simp
              try with_reducible rfl
            dsimp only [Act.put]
            refine wpList_pure (v := ?_) rfl ?_ ?_
            rotate_left
            · go_simp
              try with_reducible rfl
            dsimp only [Act.put]
            refine wpList_nil ?_
            (try replace hO3 := hO3.kxH hkn (fun q hq e => by simp at hq; subst hq; have := hg3.out _ e; omega) (fun q hq => by simp at hq; subst hq; exact hRc))
            replace hb := hb.kx hkn (by simp; omega)
            clear hkn hRc
            simp only [Exit.inBlock, Exit.then]
            refine ‹∀ (a : Act) (w : World), Code.wp _ Code.ret _ a w → _› _ _ ?_
            go_step
            (try simp only [Exit.inBlock, Exit.then])
            refine bodyPost_ret (v := .tuple #[.agg #[.int .i64 V6, .int .i64 V7, .slice a3 n3 c3, .bool V5, .int .i64 V1, .int .i64 V2, .int .i64 V3, .string V4], .bool (!is), .int .i64 0]) (res_cell1tt rfl (by kernel_rfl) (by kernel_rfl) (by kernel_rfl) (run_loadVar_row _ _ _ _ _ (0, 0) _ R Tryz.underlying55 rfl (by kernel_rfl))) rfl ?_
            · rw [← HQ.out]
              exact rh_won (A := ⟨k0, m0, n0, s0, is, c, sl⟩) (v := .slice a3 n3 c3) HOK.out hC hw1 hk9 (by rw [hV]; rfl) hO3 hb
          · skip
            simp only [hk9, show ((260 : Int) = 0) = False by simp, if_false, decide_false, Bool.false_and] at cC
            unfold rV kV at cC
            simp only at cC
            have O9_0 := O9.cell (j := 0) rfl
            have O9_1 := O9.cell (j := 1) rfl
            have O9_2 := O9.cell (j := 2) rfl
            have O9_3 := O9.cell (j := 3) rfl
            have O9_4 := O9.cell (j := 4) rfl
            have O9_5 := O9.cell (j := 5) rfl
            have O9_6 := O9.cell (j := 6) rfl
            have O9_7 := O9.cell (j := 7) rfl
            have E_0 := E.cell (j := 0) rfl
            have E_1 := E.cell (j := 1) rfl
            have E_2 := E.cell (j := 2) rfl
            have E_3 := E.cell (j := 3) rfl
            go_wp2_with fail
            refine (cC _).mono ?_
            rintro e w20 ⟨rfl, hbn⟩
            replace X := X.step hbn
            replace E := E.step hbn
            replace R := R.step hbn
            replace O9 := O9.step hbn
            replace hb := hb.step hbn
            replace hO3 := hO3.step hbn
            clear hbn
            clear O9_0 O9_1 O9_2 O9_3 O9_4 O9_5 O9_6 O9_7 E_0 E_1 E_2 E_3
            go_upto_region 24 with fail
            obtain ⟨gP9, hgP9⟩ : ∃ g, (w20).heap.size = g := ⟨_, rfl⟩
            have lt_X_P9 := X.lt
            rw [hgP9] at lt_X_P9
            have lt_E_P9 := E.lt
            rw [hgP9] at lt_E_P9
            have lt_R_P9 := R.lt
            rw [hgP9] at lt_R_P9
            have lt_O9_P9 := O9.lt
            rw [hgP9] at lt_O9_P9
            have P9 := Blk.newV hgP9 55 #[.int .i64 c, .int .i64 sl, .slice a3 n3 c3, .bool is, .int .i64 k0, .int .i64 m0, .int .i64 n0, .string s0]
            have hbn := (Below.refl (w20).heap.size w20).alloc (Nat.le_refl _) (.cells #[.int .i64 c, .int .i64 sl, .slice a3 n3 c3, .bool is, .int .i64 k0, .int .i64 m0, .int .i64 n0, .string s0] 55)
            replace X := X.step hbn
            replace E := E.step hbn
            replace R := R.step hbn
            replace O9 := O9.step hbn
            replace hb := hb.step hbn
            replace hO3 := hO3.step hbn
            clear hbn
            rw [hgP9]
            generalize (w20).alloc (.cells #[.int .i64 c, .int .i64 sl, .slice a3 n3 c3, .bool is, .int .i64 k0, .int .i64 m0, .int .i64 n0, .string s0] 55) = w21 at *
            have hRc : ∃ cs t fz, w21.heap[gR]? = some (.cells cs t fz) ∧ t ≠ 3 := ⟨_, _, _, R, by decide⟩
            go_upto_region 25 with fail
            apply wp_region_lit
            refine wpList_load_row rfl 55 (.tmp 4) rfl gX (by kernel_rfl) _ _ (0, 0) _ X Tryz.underlying55 rfl (by kernel_rfl) ?_
            dsimp only [Act.put]
            refine wpList_pure (v := ?_) rfl ?_ ?_
            rotate_left
            · go_simp
              try with_reducible rfl
            dsimp only [Act.put]
            refine wpList_store_rowTo rfl 55 (.tmp 8) (.tmp 125) rfl rfl gR #[.int .i64 c, .int .i64 sl, .slice a N cp, .bool is, .int .i64 k0, .int .i64 m0, .int .i64 n0, .string s0] (by kernel_rfl) (by kernel_rfl) _ _ R (by kernel_rfl) (by kernel_rfl) (by kernel_rfl) ?_
            have hkn := kx_row w21 gR #[.int .i64 c, .int .i64 sl, .slice a N cp, .bool is, .int .i64 k0, .int .i64 m0, .int .i64 n0, .string s0]
            replace R := R.row [.int .i64 c, .int .i64 sl, .slice a N cp, .bool is, .int .i64 k0, .int .i64 m0, .int .i64 n0, .string s0]
            generalize w21.setRow gR #[.int .i64 c, .int .i64 sl, .slice a N cp, .bool is, .int .i64 k0, .int .i64 m0, .int .i64 n0, .string s0] = w22 at *
            refine wpList_pure (v := ?_) rfl ?_ ?_
            rotate_left
            · go_simp
              try with_reducible rfl
            dsimp only [Act.put]
            refine wpList_pure (v := ?_) rfl ?_ ?_
            rotate_left
            · go_simp
              try with_reducible rfl
            dsimp only [Act.put]
            refine wpList_nil ?_
            (try replace hO3 := hO3.kxH hkn (fun q hq e => by simp at hq; subst hq; have := hg3.out _ e; omega) (fun q hq => by simp at hq; subst hq; exact hRc))
            replace hb := hb.kx hkn (by simp; omega)
            clear hkn hRc
            simp only [Exit.inBlock, Exit.then]
            refine ‹∀ (a : Act) (w : World), Code.wp _ Code.ret _ a w → _› _ _ ?_
            go_step
            (try simp only [Exit.inBlock, Exit.then])
            refine bodyPost_ret (v := .tuple #[.agg #[.int .i64 c, .int .i64 sl, .slice a N cp, .bool is, .int .i64 k0, .int .i64 m0, .int .i64 n0, .string s0], .bool false, .int .i64 260]) (res_cell1tt rfl (by kernel_rfl) (by kernel_rfl) (by kernel_rfl) (run_loadVar_row _ _ _ _ _ (0, 0) _ R Tryz.underlying55 rfl (by kernel_rfl))) rfl ?_
            · rw [← HQ.out]
              exact rh_taken (A := ⟨k0, m0, n0, s0, is, c, sl⟩) (v := .slice a N cp) HOK.out hC hw1 hk9 rfl (HXS.out ▸ h.step hb) hb
      · simp only [hC] at hne
        go_upto_region 15 with fail
        clear H_0 H_1 H_2 H_3 H_4 H_5 H_6 E_0 E_1 E_2 E_3 hne y2
        have X_0 := X.cell (j := 0) rfl
        have X_1 := X.cell (j := 1) rfl
        have X_2 := X.cell (j := 2) rfl
        have X_3 := X.cell (j := 3) rfl
        have X_4 := X.cell (j := 4) rfl
        have X_5 := X.cell (j := 5) rfl
        have X_6 := X.cell (j := 6) rfl
        have X_7 := X.cell (j := 7) rfl
        have R_0 := R.cell (j := 0) rfl
        have R_1 := R.cell (j := 1) rfl
        have R_2 := R.cell (j := 2) rfl
        have R_3 := R.cell (j := 3) rfl
        have R_4 := R.cell (j := 4) rfl
        have R_5 := R.cell (j := 5) rfl
        have R_6 := R.cell (j := 6) rfl
        have R_7 := R.cell (j := 7) rfl
        have Rf0 := R.frozen 0
        have Rf1 := R.frozen 1
        have Rf2 := R.frozen 2
        have Rf3 := R.frozen 3
        have Rf4 := R.frozen 4
        have Rf5 := R.frozen 5
        have Rf6 := R.frozen 6
        have Rf7 := R.frozen 7
        go_wp2_with fail
        (try simp only [Exit.inBlock, Exit.then])
        clear X_0 X_1 X_2 X_3 X_4 X_5 X_6 X_7 Rf0 Rf1 Rf2 Rf3 Rf4 Rf5 Rf6 Rf7 R_0 R_1 R_2 R_3 R_4 R_5 R_6 R_7
        have hkn : Kx [gR] wr ((((((((wr.setCell ⟨gR, 0, none⟩ (.int .i64 c)).setCell ⟨gR, 1, none⟩ (.int .i64 sl)).setCell ⟨gR, 2, none⟩ (.slice a N cp)).setCell ⟨gR, 3, none⟩ (.bool is)).setCell ⟨gR, 4, none⟩ (.int .i64 k0)).setCell ⟨gR, 5, none⟩ (.int .i64 m0)).setCell ⟨gR, 6, none⟩ (.int .i64 n0)).setCell ⟨gR, 7, none⟩ (.string s0)) := Kx.setCells [.int .i64 c, .int .i64 sl, .slice a N cp, .bool is, .int .i64 k0, .int .i64 m0, .int .i64 n0, .string s0] 0 _ (Kx.refl _ _) (.inl (by simp))
        replace R : Blk ((((((((wr.setCell ⟨gR, 0, none⟩ (.int .i64 c)).setCell ⟨gR, 1, none⟩ (.int .i64 sl)).setCell ⟨gR, 2, none⟩ (.slice a N cp)).setCell ⟨gR, 3, none⟩ (.bool is)).setCell ⟨gR, 4, none⟩ (.int .i64 k0)).setCell ⟨gR, 5, none⟩ (.int .i64 m0)).setCell ⟨gR, 6, none⟩ (.int .i64 n0)).setCell ⟨gR, 7, none⟩ (.string s0)) gR 55 [.int .i64 c, .int .i64 sl, .slice a N cp, .bool is, .int .i64 k0, .int .i64 m0, .int .i64 n0, .string s0] := Blk.puts [.int .i64 c, .int .i64 sl, .slice a N cp, .bool is, .int .i64 k0, .int .i64 m0, .int .i64 n0, .string s0] R rfl
        replace X := X.kx hkn (by first | (simp; done) | (simp; omega))
        replace hb := hb.kx hkn (by first | (simp; done) | (simp; omega))
        clear hkn
        generalize (((((((wr.setCell ⟨gR, 0, none⟩ (.int .i64 c)).setCell ⟨gR, 1, none⟩ (.int .i64 sl)).setCell ⟨gR, 2, none⟩ (.slice a N cp)).setCell ⟨gR, 3, none⟩ (.bool is)).setCell ⟨gR, 4, none⟩ (.int .i64 k0)).setCell ⟨gR, 5, none⟩ (.int .i64 m0)).setCell ⟨gR, 6, none⟩ (.int .i64 n0)).setCell ⟨gR, 7, none⟩ (.string s0) = w9 at *
        have R_0 := R.cell (j := 0) rfl
        have R_1 := R.cell (j := 1) rfl
        have R_2 := R.cell (j := 2) rfl
        have R_3 := R.cell (j := 3) rfl
        have R_4 := R.cell (j := 4) rfl
        have R_5 := R.cell (j := 5) rfl
        have R_6 := R.cell (j := 6) rfl
        have R_7 := R.cell (j := 7) rfl
        refine bodyPost_ret (v := .tuple #[.agg #[.int .i64 c, .int .i64 sl, .slice a N cp, .bool is, .int .i64 k0, .int .i64 m0, .int .i64 n0, .string s0], .bool false, .int .i64 260]) ?_ rfl ?_
        · rw [r_cell1tt rfl]
          go_simp
        · rw [← HQ.out]
          exact rh_clash (v := .slice a N cp) HOK.out hC rfl (HXS.out ▸ h.step hb) hb
end Go.Proofs.YthhpblchiodahaaGreatDoor
