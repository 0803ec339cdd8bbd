
/- Law 15: act. (Printed by gen/gen_psg.py.) -/
import Derived.Test.YtcahkcbenanfnaaGreatDoorPsB
import Derived.Test.YtcahkcbenanfnaaGreatDoorPrN
import Derived.Test.YtcahkcbenanfnaaGreatDoorPrZ
import Derived.Test.YtcahkcbenanfnaaGreatDoorM2
namespace Go.Proofs.YtcahkcbenanfnaaGreatDoor
set_option linter.unusedSimpArgs false
set_option linter.unusedVariables false
open Go.RowKit
theorem best_len (A : Prp) (i : Nat) (x y k m n : Int) (s : ByteArray) : (bestA A i x y k m n s).pr.length = A.pr.length ∧ (bestA A i x y k m n s).ac = A.ac := by
  unfold bestA
  split <;> simp
theorem give_len (B : Prp) : (giveA B).pr = B.pr ∧ (giveA B).ac = B.ac := by
  unfold giveA
  split <;> exact ⟨rfl, rfl⟩
theorem tell_len (A : Prp) (i : Nat) (x y k m n : Int) (s : ByteArray) : (tellA A i x y k m n s).pr.length = A.pr.length ∧ (tellA A i x y k m n s).ac = A.ac := by
  unfold tellA
  obtain ⟨h1, h2⟩ := best_len A i x y k m n s
  obtain ⟨g1, g2⟩ := give_len (bestA A i x y k m n s)
  split
  · exact ⟨rfl, rfl⟩
  · split
    · exact ⟨by rw [g1, h1], by rw [g2, h2]⟩
    · exact ⟨h1, h2⟩
theorem prA_len {A : Prp} (hp : A.pr.length = 9) (ha : A.ac.length = 9) (pl x y k m n : Int) (s : ByteArray) : (prA A pl x y k m n s).pr.length = 9 ∧ (prA A pl x y k m n s).ac.length = 9 := by
  unfold prA
  obtain ⟨h1, h2⟩ := tell_len A pl.toNat x y k m n s
  split
  · split
    · exact ⟨by rw [h1, hp], by rw [h2, ha]⟩
    · exact ⟨hp, ha⟩
  · exact ⟨hp, ha⟩
theorem acA_len {A : Prp} (hp : A.pr.length = 9) (ha : A.ac.length = 9) (pl : Int) : (acA A pl).pr.length = 9 ∧ (acA A pl).ac.length = 9 := by
  unfold acA
  split
  · split
    · unfold takeA
      split <;> simp [hp, ha]
    · exact ⟨hp, ha⟩
  · exact ⟨hp, ha⟩
theorem rfA_len {A : Prp} (hp : A.pr.length = 9) (ha : A.ac.length = 9) (pl x y : Int) : (rfA A pl x y).pr.length = 9 ∧ (rfA A pl x y).ac.length = 9 := by
  unfold rfA
  split
  · split
    · exact ⟨hp, ha⟩
    · exact ⟨hp, ha⟩
  · exact ⟨hp, ha⟩
theorem InvB.act {A : Prp} (h : InvB A) (e : Pa) : InvB (actP A e) := by
  unfold actP
  split
  · unfold prA
    split
    next h1 =>
      split
      · have ht : toldB A e.ar e.ap e.k e.m e.n e.s = true := by
          unfold prE at h1
          cases hc : (inB e.pl 0 A.c && toldB A e.ar e.ap e.k e.m e.n e.s)
          · simp [hc] at h1
          · simp only [Bool.and_eq_true] at hc
            exact hc.2
        exact h.tell ht _
      · exact h
    · exact h
  · split
    · unfold acA
      split
      · split
        · unfold takeA
          split <;> exact h
        · exact h
      · exact h
    · unfold rfA
      split
      · split <;> exact h
      · exact h
theorem plK_votes (A : Prp) (hp : A.pr.length = 9) (ha : A.ac.length = 9) : (plK 0 (votesP A)).length ≤ 100 := by
  have := plK_len 0 (votesP A)
  have := votes_len hp ha
  omega
set_option maxRecDepth 100000 in
set_option maxHeartbeats 8000000 in
theorem act_tell (g : Nat) (A : Prp) (pl x y k m n : Int) (s : ByteArray) (bx q : Int) (w : World) (hP : PW w g A) (hI : InvP A) (hB : InvB A) (hT : Tabs w) (hs : s.size ≤ 9223372036854775807) :
    Calls Tryz.prog 20 #[.pointer (some ⟨g, 0, none⟩), qV A, .agg #[.int .i64 0, .int .i64 pl, .int .i64 x, .int .i64 y, .int .i64 k, .int .i64 m, .int .i64 n, .string s, .int .i64 bx, .int .i64 q]] w fun e w' => e = .returned (.tuple #[qV (prA A pl x y k m n s), .bool true]) ∧ PW w' g (prA A pl x y k m n s) ∧ Kx [g] w w' := by
  have hp := hP.2.1
  have ha := hP.2.2
  have cR := fun W => rtell_any A pl x y k m n s W hI hB hp ha hs
  have cP := fun W hW (hT : Tabs W) => prom_any g A pl x y k m n s W hW hI hs hT
  have hI2 := hI.tell pl x y k m n s
  obtain ⟨hp2, ha2⟩ := prA_len hp ha pl x y k m n s
  have hEV : (prE A pl x y k m n s = 0 ∧ prV A pl x y k m n s = (prA A pl x y k m n s).ph) ∨ (prE A pl x y k m n s = 2 ∧ prV A pl x y k m n s = 0) := by
    have h02 : prE A pl x y k m n s = 0 ∨ prE A pl x y k m n s = 2 := by
      unfold prE
      split
      · exact .inl rfl
      · exact .inr rfl
    rcases h02 with h | h
    · exact .inl ⟨h, by unfold prV; rw [if_pos h]⟩
    · exact .inr ⟨h, by unfold prV; rw [if_neg (by omega)]⟩
  have cS := fun W hW => state_any g (prA A pl x y k m n s) W hW hI2.ne
  have cQ := fun W => rstate_any (prA A pl x y k m n s) W hp2 ha2
  have hlen := plK_votes (prA A pl x y k m n s) hp2 ha2
  obtain ⟨A2, hA2⟩ : ∃ A2, prA A pl x y k m n s = A2 := ⟨_, rfl⟩
  obtain ⟨V, hV⟩ : ∃ V, prV A pl x y k m n s = V := ⟨_, rfl⟩
  obtain ⟨E, hE⟩ : ∃ E, prE A pl x y k m n s = E := ⟨_, rfl⟩
  simp only [hA2, hV, hE] at cR cP hI2 hp2 ha2 hEV cS cQ hlen ⊢
  clear hA2 hV hE hI hB
  have cM := fun va vb W h1 h2 => rsame_any A2 va vb (plK 0 (votesP A2)) hlen W h1 h2
  have hb := From.refl w
  unfold qV at cR cQ ⊢
  go_enter Tryz.func20, Tryz.ntmps20
  go_upto_region 1 with fail
  obtain ⟨gP, hgP⟩ : ∃ g, (w).heap.size = g := ⟨_, rfl⟩
  have lt_hP_P := hP.lt
  rw [hgP] at lt_hP_P
  have P := Blk.newV hgP 35 (qL A).toArray
  have hbn := (Below.refl (w).heap.size w).alloc (Nat.le_refl _) (.cells (qL A).toArray 35)
  replace hb := hb.step hbn
  replace hP := hP.step hbn
  clear hbn
  rw [hgP]
  have szP := alloc_size hgP (.cells (qL A).toArray 35)
  generalize (w).alloc (.cells (qL A).toArray 35) = w1 at *
  obtain ⟨gX, hgX⟩ : ∃ g, (w1).heap.size = g := ⟨_, rfl⟩
  have lt_hP_X := hP.lt
  rw [hgX] at lt_hP_X
  have lt_P_X := P.lt
  rw [hgX] at lt_P_X
  have X := Blk.newV hgX 62 #[.int .i64 0, .int .i64 pl, .int .i64 x, .int .i64 y, .int .i64 k, .int .i64 m, .int .i64 n, .string s, .int .i64 bx, .int .i64 q]
  have hbn := (Below.refl (w1).heap.size w1).alloc (Nat.le_refl _) (.cells #[.int .i64 0, .int .i64 pl, .int .i64 x, .int .i64 y, .int .i64 k, .int .i64 m, .int .i64 n, .string s, .int .i64 bx, .int .i64 q] 62)
  replace hb := hb.step hbn
  replace hP := hP.step hbn
  replace P := P.step hbn
  clear hbn
  have egX : gP + 1 = gX := szP.symm.trans hgX
  rw [egX]
  clear szP
  have szX := alloc_size hgX (.cells #[.int .i64 0, .int .i64 pl, .int .i64 x, .int .i64 y, .int .i64 k, .int .i64 m, .int .i64 n, .string s, .int .i64 bx, .int .i64 q] 62)
  generalize (w1).alloc (.cells #[.int .i64 0, .int .i64 pl, .int .i64 x, .int .i64 y, .int .i64 k, .int .i64 m, .int .i64 n, .string s, .int .i64 bx, .int .i64 q] 62) = w2 at *
  obtain ⟨gR, hgR⟩ : ∃ g, (w2).heap.size = g := ⟨_, rfl⟩
  have lt_hP_R := hP.lt
  rw [hgR] at lt_hP_R
  have lt_P_R := P.lt
  rw [hgR] at lt_P_R
  have lt_X_R := X.lt
  rw [hgR] at lt_X_R
  have R := Blk.newV hgR 35 #[.int .i64 0, .int .i64 0, .int .i64 0, .int .i64 0, .int .i64 0, .int .i64 0, .int .i64 0, .int .i64 0, .string ⟨#[]⟩, .bool false, .bool false, .bool false, .bool false, .bool false, .bool false, .bool false, .bool false, .bool false, .bool false, .bool false, .bool false, .bool false, .bool false, .bool false, .bool false, .bool false, .bool false, .int .i64 0, .int .i64 0, .int .i64 0, .int .i64 0, .int .i64 0, .string ⟨#[]⟩, .int .i64 0, .int .i64 0]
  have hbn := (Below.refl (w2).heap.size w2).alloc (Nat.le_refl _) (.cells #[.int .i64 0, .int .i64 0, .int .i64 0, .int .i64 0, .int .i64 0, .int .i64 0, .int .i64 0, .int .i64 0, .string ⟨#[]⟩, .bool false, .bool false, .bool false, .bool false, .bool false, .bool false, .bool false, .bool false, .bool false, .bool false, .bool false, .bool false, .bool false, .bool false, .bool false, .bool false, .bool false, .bool false, .int .i64 0, .int .i64 0, .int .i64 0, .int .i64 0, .int .i64 0, .string ⟨#[]⟩, .int .i64 0, .int .i64 0] 35)
  replace hb := hb.step hbn
  replace hP := hP.step hbn
  replace P := P.step hbn
  replace X := X.step hbn
  clear hbn
  have egR : gX + 1 = gR := szX.symm.trans hgR
  rw [egR]
  clear szX
  generalize (w2).alloc (.cells #[.int .i64 0, .int .i64 0, .int .i64 0, .int .i64 0, .int .i64 0, .int .i64 0, .int .i64 0, .int .i64 0, .string ⟨#[]⟩, .bool false, .bool false, .bool false, .bool false, .bool false, .bool false, .bool false, .bool false, .bool false, .bool false, .bool false, .bool false, .bool false, .bool false, .bool false, .bool false, .bool false, .bool false, .int .i64 0, .int .i64 0, .int .i64 0, .int .i64 0, .int .i64 0, .string ⟨#[]⟩, .int .i64 0, .int .i64 0] 35) = w3 at *
  have hgP0 : g < gP := by omega
  have hPX : gP < gX := by omega
  have hXR : gX < gR := by omega
  have hwP : w.heap.size ≤ gP := by omega
  clear hgP hgX hgR egR egX
  replace P : QW w3 gP A := ⟨by simpa using P, hp, ha⟩
  go_upto_region 2 with fail
  obtain ⟨gO, hgO⟩ : ∃ g, (w3).heap.size = g := ⟨_, rfl⟩
  have lt_hP_O := hP.lt
  rw [hgO] at lt_hP_O
  have lt_P_O := P.lt
  rw [hgO] at lt_P_O
  have lt_R_O := R.lt
  rw [hgO] at lt_R_O
  have lt_X_O := X.lt
  rw [hgO] at lt_X_O
  have O := Blk.newV hgO 35 #[.int .i64 0, .int .i64 0, .int .i64 0, .int .i64 0, .int .i64 0, .int .i64 0, .int .i64 0, .int .i64 0, .string ⟨#[]⟩, .bool false, .bool false, .bool false, .bool false, .bool false, .bool false, .bool false, .bool false, .bool false, .bool false, .bool false, .bool false, .bool false, .bool false, .bool false, .bool false, .bool false, .bool false, .int .i64 0, .int .i64 0, .int .i64 0, .int .i64 0, .int .i64 0, .string ⟨#[]⟩, .int .i64 0, .int .i64 0]
  have hbn := (Below.refl (w3).heap.size w3).alloc (Nat.le_refl _) (.cells #[.int .i64 0, .int .i64 0, .int .i64 0, .int .i64 0, .int .i64 0, .int .i64 0, .int .i64 0, .int .i64 0, .string ⟨#[]⟩, .bool false, .bool false, .bool false, .bool false, .bool false, .bool false, .bool false, .bool false, .bool false, .bool false, .bool false, .bool false, .bool false, .bool false, .bool false, .bool false, .bool false, .bool false, .int .i64 0, .int .i64 0, .int .i64 0, .int .i64 0, .int .i64 0, .string ⟨#[]⟩, .int .i64 0, .int .i64 0] 35)
  replace hb := hb.step hbn
  replace hP := hP.step hbn
  replace P := P.step hbn
  replace R := R.step hbn
  replace X := X.step hbn
  clear hbn
  rw [hgO]
  generalize (w3).alloc (.cells #[.int .i64 0, .int .i64 0, .int .i64 0, .int .i64 0, .int .i64 0, .int .i64 0, .int .i64 0, .int .i64 0, .string ⟨#[]⟩, .bool false, .bool false, .bool false, .bool false, .bool false, .bool false, .bool false, .bool false, .bool false, .bool false, .bool false, .bool false, .bool false, .bool false, .bool false, .bool false, .bool false, .bool false, .int .i64 0, .int .i64 0, .int .i64 0, .int .i64 0, .int .i64 0, .string ⟨#[]⟩, .int .i64 0, .int .i64 0] 35) = w4 at *
  have hRO : gR < gO := by omega
  have X_0 := X.cell (j := 0) rfl
  have X_1 := X.cell (j := 1) rfl
  have X_2 := X.cell (j := 2) rfl
  have X_3 := X.cell (j := 3) rfl
  have X_4 := X.cell (j := 4) rfl
  have X_5 := X.cell (j := 5) rfl
  have X_6 := X.cell (j := 6) rfl
  have X_7 := X.cell (j := 7) rfl
  have X_8 := X.cell (j := 8) rfl
  have X_9 := X.cell (j := 9) rfl
  go_upto_region 9 with fail
  apply wp_region_lit
  refine wpList_load_row rfl 35 (.tmp 4) rfl gP (by kernel_rfl) _ _ (0, 0) _ P.1 Tryz.underlying35 rfl (qinfo P.2.1 P.2.2) ?_
  dsimp only [Act.put]
  refine wpList_pure (v := ?_) rfl ?_ ?_
  rotate_left
  · go_simp
    try with_reducible rfl
  dsimp only [Act.put]
  refine wpList_pure (v := ?_) rfl ?_ ?_
  rotate_left
  · go_simp
    try with_reducible rfl
  dsimp only [Act.put]
  refine wpList_pure (v := ?_) rfl ?_ ?_
  rotate_left
  · go_simp
    try with_reducible rfl
  dsimp only [Act.put]
  refine wpList_pure (v := ?_) rfl ?_ ?_
  rotate_left
  · go_simp
    try with_reducible rfl
  dsimp only [Act.put]
  refine wpList_plain rfl fun K hK => ?_
  go_simp
  refine (cR _).mono ?_
  rintro e w5 ⟨rfl, hbn⟩
  refine hK _ _ ?_
  clear hK K cR X_0 X_1 X_2 X_3 X_4 X_5 X_6 X_7 X_8 X_9
  replace hb := hb.step hbn
  replace hP := hP.step hbn
  replace P := P.step hbn
  replace R := R.step hbn
  replace X := X.step hbn
  replace O := O.step hbn
  clear hbn
  refine wpList_pure (v := ?_) rfl ?_ ?_
  rotate_left
  · go_simp
    try with_reducible rfl
  dsimp only [Act.put]
  refine wpList_pure (v := ?_) rfl ?_ ?_
  rotate_left
  · go_simp
    try with_reducible rfl
  dsimp only [Act.put]
  refine wpList_pure (v := ?_) rfl ?_ ?_
  rotate_left
  · go_simp
    try with_reducible rfl
  dsimp only [Act.put]
  refine wpList_store_rowTo rfl 35 (.tmp 8) (.tmp 41) rfl rfl gO (qL A2).toArray (by kernel_rfl) (by kernel_rfl) _ _ O (qinfo hp2 ha2) (by rw [qsize hp2 ha2]; rfl) (qone _) ?_
  have hkn := kx_row w5 gO (qL A2).toArray
  replace O := O.row (qL A2)
  replace P := P.kx hkn (by simp; omega)
  replace R := R.kx hkn (by simp; omega)
  replace X := X.kx hkn (by simp; omega)
  replace hP := hP.kx hkn (by simp; omega)
  replace hb := hb.kx hkn (by simp; omega)
  generalize w5.setRow gO (qL A2).toArray = w6 at *
  clear hkn
  replace O : QW w6 gO A2 := ⟨O, hp2, ha2⟩
  refine wpList_pure (v := ?_) rfl ?_ ?_
  rotate_left
  · go_simp
    try with_reducible rfl
  dsimp only [Act.put]
  refine wpList_nil ?_
  have X_0 := X.cell (j := 0) rfl
  have X_1 := X.cell (j := 1) rfl
  have X_2 := X.cell (j := 2) rfl
  have X_3 := X.cell (j := 3) rfl
  have X_4 := X.cell (j := 4) rfl
  have X_5 := X.cell (j := 5) rfl
  have X_6 := X.cell (j := 6) rfl
  have X_7 := X.cell (j := 7) rfl
  have X_8 := X.cell (j := 8) rfl
  have X_9 := X.cell (j := 9) rfl
  go_wp2_with fail
  refine (cP _ hP (hT.step hb.out)).mono ?_
  rintro e w7 ⟨rfl, hP2, hk⟩
  have hX : FromX [g] w w7 := (Kx.of_below [g] hb.out (Nat.le_refl _)).trans hk
  replace R := R.kx hk (by simp; omega)
  replace X := X.kx hk (by simp; omega)
  replace O := O.kx hk (by simp; omega)
  clear hk hb hP P cP X_0 X_1 X_2 X_3 X_4 X_5 X_6 X_7 X_8 X_9 X hT
  rcases hEV with ⟨rfl, rfl⟩ | ⟨rfl, rfl⟩
  · have p4 := O.q4
    have hep : (A2.ph != A2.ph) = false := by simp
    go_wp2_with fail
    refine (num15_any _ _).mono ?_
    rintro e wx ⟨rfl, rfl⟩
    go_upto_region 16 with fail
    clear p4 hep
    have hORn : gO ∉ [gR] := by simp; omega
    have hO2 : ∀ W, Kx [gR] w7 W → W.heap[gO]? = some (.cells (qL A2).toArray 35 (0, 0)) := fun W h => (h.blk O.1 hORn)
    refine wp_region_held (S := Kx [gR] w7) (by kernel_rfl) ?_
    have hst : Below (w7).heap.size w7 { w7 with drawn := (w7).drawn + 1 } := ⟨rfl, rfl, rfl, Nat.le_refl _, fun _ _ => rfl⟩
    have hS : (Kx [gR] w7) { w7 with drawn := (w7).drawn + 1 } := by first | exact ⟨rfl, rfl, rfl, Nat.le_refl _, fun _ _ _ => rfl⟩ | exact ⟨rfl, rfl, rfl, Nat.le_refl _, fun _ _ => rfl⟩ | exact hS0
    replace hX := hX.step hst
    replace hP2 := hP2.step hst
    replace R := R.step hst
    clear hst
    generalize ({ w7 with drawn := (w7).drawn + 1 } : World) = wq at *
    refine wpAnyH_take (i := 1) (v := ?_) rfl (by kernel_rfl) (by kernel_rfl) (by kernel_rfl) (fun _ _ _ h => h) (Or.inl ⟨by kernel_rfl, ?_⟩) hS ?_
    rotate_left
    · intro W hSW
      go_simp
      try with_reducible rfl
    dsimp only [Act.put]
    refine wpAnyH_take (i := 0) (v := .agg (qL A2).toArray) rfl (by kernel_rfl) (by kernel_rfl) (by kernel_rfl) (fun _ _ _ h => h) (yields_load_row (by kernel_rfl) 35 (.tmp 8) rfl gO (by kernel_rfl) _ _ _ hO2 Tryz.underlying35 rfl (qinfo hp2 ha2)) hS ?_
    dsimp only [Act.put]
    refine wpAnyH_take (i := 3) (v := .agg (qL A2).toArray) rfl (by kernel_rfl) (by kernel_rfl) (by kernel_rfl) (fun _ _ _ h => h) (yields_load_row (by kernel_rfl) 35 (.tmp 8) rfl gO (by kernel_rfl) _ _ _ hO2 Tryz.underlying35 rfl (qinfo hp2 ha2)) hS ?_
    dsimp only [Act.put]
    refine wpAnyH_ready (rs := [2]) (by kernel_rfl) (by simp) ?_
    refine AllReadyH.cons rfl (fun K hK => ?_) AllReadyH.nil
    go_simp
    refine (cS _ hP2).mono ?_
    rintro e wa ⟨⟨va, rfl, hR1⟩, hbn⟩
    have hi1 := hR1.intS
    replace hX := hX.step hbn
    replace hP2 := hP2.step hbn
    replace R := R.step hbn
    refine hK.out _ _ (hS.step hbn) (fun hS => ?_)
    clear hR1 hbn
    clear hK K
    refine wpAnyH_ready (rs := [4]) (by kernel_rfl) (by simp) ?_
    refine AllReadyH.cons rfl (fun K hK => ?_) AllReadyH.nil
    go_simp
    refine (cQ _).mono ?_
    rintro e wb ⟨⟨vb, rfl, hR1⟩, hbn⟩
    have hi2 := hR1.intS
    replace hi1 := hi1.step hbn
    replace hX := hX.step hbn
    replace hP2 := hP2.step hbn
    replace R := R.step hbn
    refine hK.out _ _ (hS.step hbn) (fun hS => ?_)
    clear hR1 hbn
    clear hK K
    refine wpAnyH_ready (rs := [5]) (by kernel_rfl) (by simp) ?_
    refine AllReadyH.cons rfl (fun K hK => ?_) AllReadyH.nil
    go_simp
    refine (cM va vb _ hi1 hi2).mono ?_
    rintro e wc2 ⟨rfl, hbn⟩
    replace hX := hX.step hbn
    replace hP2 := hP2.step hbn
    replace R := R.step hbn
    refine hK.out _ _ (hS.step hbn) (fun hS => ?_)
    clear hi1 hi2 hbn
    clear hK K
    refine wpAnyH_ready (rs := [6]) (by kernel_rfl) (by simp) ?_
    refine AllReadyH.cons rfl (fun K hK => ?_) AllReadyH.nil
    refine step_store_row rfl 35 (.tmp 6) (.tmp 91) rfl rfl gR (qL A2).toArray (by kernel_rfl) (by kernel_rfl) _ _ R (qinfo hp2 ha2) (by rw [qsize hp2 ha2]; rfl) (qone _) ?_
    have hkn := kx_row wc2 gR (qL A2).toArray
    replace R := R.row (qL A2)
    replace hX := hX.kx hkn (by simp; omega)
    replace hP2 := hP2.kx hkn (by simp; omega)
    refine hK.out _ _ (hS.trans hkn) (fun hS => ?_)
    generalize wc2.setRow gR (qL A2).toArray = wd at *
    clear hkn
    clear hK K
    refine wpAnyH_ready (rs := [7]) (by kernel_rfl) (by simp) ?_
    refine AllReadyH.cons rfl (fun K hK => ?_) AllReadyH.nil
    go_simp
    refine hK.out _ _ (hS) (fun hS => ?_)
    clear hK K
    refine wpAnyH_done (by kernel_rfl) ?_ _
    clear hO2
    go_wp2_with fail
    (try simp only [Exit.inBlock, Exit.then])
    exact bodyPost_ret (res_cell1t rfl (by kernel_rfl) (by kernel_rfl) (run_loadVar_row _ _ _ _ _ (0, 0) _ R Tryz.underlying35 rfl (qinfo hp2 ha2))) rfl ⟨rfl, hP2, hX⟩
  · have p4 := O.q4
    have hep : (A2.ph != A2.ph) = false := by simp
    go_wp2_with fail
    refine (num15_any _ _).mono ?_
    rintro e wx ⟨rfl, rfl⟩
    go_upto_region 16 with fail
    clear p4 hep
    have hORn : gO ∉ [gR] := by simp; omega
    have hO2 : ∀ W, Kx [gR] w7 W → W.heap[gO]? = some (.cells (qL A2).toArray 35 (0, 0)) := fun W h => (h.blk O.1 hORn)
    refine wp_region_held (S := Kx [gR] w7) (by kernel_rfl) ?_
    have hst : Below (w7).heap.size w7 { w7 with drawn := (w7).drawn + 1 } := ⟨rfl, rfl, rfl, Nat.le_refl _, fun _ _ => rfl⟩
    have hS : (Kx [gR] w7) { w7 with drawn := (w7).drawn + 1 } := by first | exact ⟨rfl, rfl, rfl, Nat.le_refl _, fun _ _ _ => rfl⟩ | exact ⟨rfl, rfl, rfl, Nat.le_refl _, fun _ _ => rfl⟩ | exact hS0
    replace hX := hX.step hst
    replace hP2 := hP2.step hst
    replace R := R.step hst
    clear hst
    generalize ({ w7 with drawn := (w7).drawn + 1 } : World) = wq at *
    refine wpAnyH_take (i := 1) (v := ?_) rfl (by kernel_rfl) (by kernel_rfl) (by kernel_rfl) (fun _ _ _ h => h) (Or.inl ⟨by kernel_rfl, ?_⟩) hS ?_
    rotate_left
    · intro W hSW
      go_simp
      try with_reducible rfl
    dsimp only [Act.put]
    refine wpAnyH_take (i := 0) (v := .agg (qL A2).toArray) rfl (by kernel_rfl) (by kernel_rfl) (by kernel_rfl) (fun _ _ _ h => h) (yields_load_row (by kernel_rfl) 35 (.tmp 8) rfl gO (by kernel_rfl) _ _ _ hO2 Tryz.underlying35 rfl (qinfo hp2 ha2)) hS ?_
    dsimp only [Act.put]
    refine wpAnyH_take (i := 3) (v := .agg (qL A2).toArray) rfl (by kernel_rfl) (by kernel_rfl) (by kernel_rfl) (fun _ _ _ h => h) (yields_load_row (by kernel_rfl) 35 (.tmp 8) rfl gO (by kernel_rfl) _ _ _ hO2 Tryz.underlying35 rfl (qinfo hp2 ha2)) hS ?_
    dsimp only [Act.put]
    refine wpAnyH_ready (rs := [2]) (by kernel_rfl) (by simp) ?_
    refine AllReadyH.cons rfl (fun K hK => ?_) AllReadyH.nil
    go_simp
    refine (cS _ hP2).mono ?_
    rintro e wa ⟨⟨va, rfl, hR1⟩, hbn⟩
    have hi1 := hR1.intS
    replace hX := hX.step hbn
    replace hP2 := hP2.step hbn
    replace R := R.step hbn
    refine hK.out _ _ (hS.step hbn) (fun hS => ?_)
    clear hR1 hbn
    clear hK K
    refine wpAnyH_ready (rs := [4]) (by kernel_rfl) (by simp) ?_
    refine AllReadyH.cons rfl (fun K hK => ?_) AllReadyH.nil
    go_simp
    refine (cQ _).mono ?_
    rintro e wb ⟨⟨vb, rfl, hR1⟩, hbn⟩
    have hi2 := hR1.intS
    replace hi1 := hi1.step hbn
    replace hX := hX.step hbn
    replace hP2 := hP2.step hbn
    replace R := R.step hbn
    refine hK.out _ _ (hS.step hbn) (fun hS => ?_)
    clear hR1 hbn
    clear hK K
    refine wpAnyH_ready (rs := [5]) (by kernel_rfl) (by simp) ?_
    refine AllReadyH.cons rfl (fun K hK => ?_) AllReadyH.nil
    go_simp
    refine (cM va vb _ hi1 hi2).mono ?_
    rintro e wc2 ⟨rfl, hbn⟩
    replace hX := hX.step hbn
    replace hP2 := hP2.step hbn
    replace R := R.step hbn
    refine hK.out _ _ (hS.step hbn) (fun hS => ?_)
    clear hi1 hi2 hbn
    clear hK K
    refine wpAnyH_ready (rs := [6]) (by kernel_rfl) (by simp) ?_
    refine AllReadyH.cons rfl (fun K hK => ?_) AllReadyH.nil
    refine step_store_row rfl 35 (.tmp 6) (.tmp 91) rfl rfl gR (qL A2).toArray (by kernel_rfl) (by kernel_rfl) _ _ R (qinfo hp2 ha2) (by rw [qsize hp2 ha2]; rfl) (qone _) ?_
    have hkn := kx_row wc2 gR (qL A2).toArray
    replace R := R.row (qL A2)
    replace hX := hX.kx hkn (by simp; omega)
    replace hP2 := hP2.kx hkn (by simp; omega)
    refine hK.out _ _ (hS.trans hkn) (fun hS => ?_)
    generalize wc2.setRow gR (qL A2).toArray = wd at *
    clear hkn
    clear hK K
    refine wpAnyH_ready (rs := [7]) (by kernel_rfl) (by simp) ?_
    refine AllReadyH.cons rfl (fun K hK => ?_) AllReadyH.nil
    go_simp
    refine hK.out _ _ (hS) (fun hS => ?_)
    clear hK K
    refine wpAnyH_done (by kernel_rfl) ?_ _
    clear hO2
    go_wp2_with fail
    (try simp only [Exit.inBlock, Exit.then])
    exact bodyPost_ret (res_cell1t rfl (by kernel_rfl) (by kernel_rfl) (run_loadVar_row _ _ _ _ _ (0, 0) _ R Tryz.underlying35 rfl (qinfo hp2 ha2))) rfl ⟨rfl, hP2, hX⟩
set_option maxRecDepth 100000 in
set_option maxHeartbeats 8000000 in
theorem act_take (g : Nat) (A : Prp) (pl x y k m n : Int) (s : ByteArray) (bx q : Int) (w : World) (hP : PW w g A) (hI : InvP A) (hB : InvB A) (hT : Tabs w) :
    Calls Tryz.prog 20 #[.pointer (some ⟨g, 0, none⟩), qV A, .agg #[.int .i64 1, .int .i64 pl, .int .i64 x, .int .i64 y, .int .i64 k, .int .i64 m, .int .i64 n, .string s, .int .i64 bx, .int .i64 q]] w fun e w' => e = .returned (.tuple #[qV (acA A pl), .bool true]) ∧ PW w' g (acA A pl) ∧ Kx [g] w w' := by
  have hp := hP.2.1
  have ha := hP.2.2
  have cR := fun W => rtake_any A pl W hI hp ha
  have cP := fun W hW (hT : Tabs W) => acc_any g A pl W hW hI
  have hI2 := hI.take pl
  obtain ⟨hp2, ha2⟩ := acA_len hp ha pl
  have hEV : (acE A pl = 0 ∧ acVv A pl = (acA A pl).ph) ∨ (acE A pl = 2 ∧ acVv A pl = 0) := by
    have h02 : acE A pl = 0 ∨ acE A pl = 2 := by
      unfold acE
      split
      · exact .inl rfl
      · exact .inr rfl
    rcases h02 with h | h
    · exact .inl ⟨h, by unfold acVv; rw [if_pos h]⟩
    · exact .inr ⟨h, by unfold acVv; rw [if_neg (by omega)]⟩
  have cS := fun W hW => state_any g (acA A pl) W hW hI2.ne
  have cQ := fun W => rstate_any (acA A pl) W hp2 ha2
  have hlen := plK_votes (acA A pl) hp2 ha2
  obtain ⟨A2, hA2⟩ : ∃ A2, acA A pl = A2 := ⟨_, rfl⟩
  obtain ⟨V, hV⟩ : ∃ V, acVv A pl = V := ⟨_, rfl⟩
  obtain ⟨E, hE⟩ : ∃ E, acE A pl = E := ⟨_, rfl⟩
  simp only [hA2, hV, hE] at cR cP hI2 hp2 ha2 hEV cS cQ hlen ⊢
  clear hA2 hV hE hI hB
  have cM := fun va vb W h1 h2 => rsame_any A2 va vb (plK 0 (votesP A2)) hlen W h1 h2
  have hb := From.refl w
  unfold qV at cR cQ ⊢
  go_enter Tryz.func20, Tryz.ntmps20
  go_upto_region 1 with fail
  obtain ⟨gP, hgP⟩ : ∃ g, (w).heap.size = g := ⟨_, rfl⟩
  have lt_hP_P := hP.lt
  rw [hgP] at lt_hP_P
  have P := Blk.newV hgP 35 (qL A).toArray
  have hbn := (Below.refl (w).heap.size w).alloc (Nat.le_refl _) (.cells (qL A).toArray 35)
  replace hb := hb.step hbn
  replace hP := hP.step hbn
  clear hbn
  rw [hgP]
  have szP := alloc_size hgP (.cells (qL A).toArray 35)
  generalize (w).alloc (.cells (qL A).toArray 35) = w1 at *
  obtain ⟨gX, hgX⟩ : ∃ g, (w1).heap.size = g := ⟨_, rfl⟩
  have lt_hP_X := hP.lt
  rw [hgX] at lt_hP_X
  have lt_P_X := P.lt
  rw [hgX] at lt_P_X
  have X := Blk.newV hgX 62 #[.int .i64 1, .int .i64 pl, .int .i64 x, .int .i64 y, .int .i64 k, .int .i64 m, .int .i64 n, .string s, .int .i64 bx, .int .i64 q]
  have hbn := (Below.refl (w1).heap.size w1).alloc (Nat.le_refl _) (.cells #[.int .i64 1, .int .i64 pl, .int .i64 x, .int .i64 y, .int .i64 k, .int .i64 m, .int .i64 n, .string s, .int .i64 bx, .int .i64 q] 62)
  replace hb := hb.step hbn
  replace hP := hP.step hbn
  replace P := P.step hbn
  clear hbn
  have egX : gP + 1 = gX := szP.symm.trans hgX
  rw [egX]
  clear szP
  have szX := alloc_size hgX (.cells #[.int .i64 1, .int .i64 pl, .int .i64 x, .int .i64 y, .int .i64 k, .int .i64 m, .int .i64 n, .string s, .int .i64 bx, .int .i64 q] 62)
  generalize (w1).alloc (.cells #[.int .i64 1, .int .i64 pl, .int .i64 x, .int .i64 y, .int .i64 k, .int .i64 m, .int .i64 n, .string s, .int .i64 bx, .int .i64 q] 62) = w2 at *
  obtain ⟨gR, hgR⟩ : ∃ g, (w2).heap.size = g := ⟨_, rfl⟩
  have lt_hP_R := hP.lt
  rw [hgR] at lt_hP_R
  have lt_P_R := P.lt
  rw [hgR] at lt_P_R
  have lt_X_R := X.lt
  rw [hgR] at lt_X_R
  have R := Blk.newV hgR 35 #[.int .i64 0, .int .i64 0, .int .i64 0, .int .i64 0, .int .i64 0, .int .i64 0, .int .i64 0, .int .i64 0, .string ⟨#[]⟩, .bool false, .bool false, .bool false, .bool false, .bool false, .bool false, .bool false, .bool false, .bool false, .bool false, .bool false, .bool false, .bool false, .bool false, .bool false, .bool false, .bool false, .bool false, .int .i64 0, .int .i64 0, .int .i64 0, .int .i64 0, .int .i64 0, .string ⟨#[]⟩, .int .i64 0, .int .i64 0]
  have hbn := (Below.refl (w2).heap.size w2).alloc (Nat.le_refl _) (.cells #[.int .i64 0, .int .i64 0, .int .i64 0, .int .i64 0, .int .i64 0, .int .i64 0, .int .i64 0, .int .i64 0, .string ⟨#[]⟩, .bool false, .bool false, .bool false, .bool false, .bool false, .bool false, .bool false, .bool false, .bool false, .bool false, .bool false, .bool false, .bool false, .bool false, .bool false, .bool false, .bool false, .bool false, .int .i64 0, .int .i64 0, .int .i64 0, .int .i64 0, .int .i64 0, .string ⟨#[]⟩, .int .i64 0, .int .i64 0] 35)
  replace hb := hb.step hbn
  replace hP := hP.step hbn
  replace P := P.step hbn
  replace X := X.step hbn
  clear hbn
  have egR : gX + 1 = gR := szX.symm.trans hgR
  rw [egR]
  clear szX
  generalize (w2).alloc (.cells #[.int .i64 0, .int .i64 0, .int .i64 0, .int .i64 0, .int .i64 0, .int .i64 0, .int .i64 0, .int .i64 0, .string ⟨#[]⟩, .bool false, .bool false, .bool false, .bool false, .bool false, .bool false, .bool false, .bool false, .bool false, .bool false, .bool false, .bool false, .bool false, .bool false, .bool false, .bool false, .bool false, .bool false, .int .i64 0, .int .i64 0, .int .i64 0, .int .i64 0, .int .i64 0, .string ⟨#[]⟩, .int .i64 0, .int .i64 0] 35) = w3 at *
  have hgP0 : g < gP := by omega
  have hPX : gP < gX := by omega
  have hXR : gX < gR := by omega
  have hwP : w.heap.size ≤ gP := by omega
  clear hgP hgX hgR egR egX
  replace P : QW w3 gP A := ⟨by simpa using P, hp, ha⟩
  go_upto_region 2 with fail
  obtain ⟨gO, hgO⟩ : ∃ g, (w3).heap.size = g := ⟨_, rfl⟩
  have lt_hP_O := hP.lt
  rw [hgO] at lt_hP_O
  have lt_P_O := P.lt
  rw [hgO] at lt_P_O
  have lt_R_O := R.lt
  rw [hgO] at lt_R_O
  have lt_X_O := X.lt
  rw [hgO] at lt_X_O
  have O := Blk.newV hgO 35 #[.int .i64 0, .int .i64 0, .int .i64 0, .int .i64 0, .int .i64 0, .int .i64 0, .int .i64 0, .int .i64 0, .string ⟨#[]⟩, .bool false, .bool false, .bool false, .bool false, .bool false, .bool false, .bool false, .bool false, .bool false, .bool false, .bool false, .bool false, .bool false, .bool false, .bool false, .bool false, .bool false, .bool false, .int .i64 0, .int .i64 0, .int .i64 0, .int .i64 0, .int .i64 0, .string ⟨#[]⟩, .int .i64 0, .int .i64 0]
  have hbn := (Below.refl (w3).heap.size w3).alloc (Nat.le_refl _) (.cells #[.int .i64 0, .int .i64 0, .int .i64 0, .int .i64 0, .int .i64 0, .int .i64 0, .int .i64 0, .int .i64 0, .string ⟨#[]⟩, .bool false, .bool false, .bool false, .bool false, .bool false, .bool false, .bool false, .bool false, .bool false, .bool false, .bool false, .bool false, .bool false, .bool false, .bool false, .bool false, .bool false, .bool false, .int .i64 0, .int .i64 0, .int .i64 0, .int .i64 0, .int .i64 0, .string ⟨#[]⟩, .int .i64 0, .int .i64 0] 35)
  replace hb := hb.step hbn
  replace hP := hP.step hbn
  replace P := P.step hbn
  replace R := R.step hbn
  replace X := X.step hbn
  clear hbn
  rw [hgO]
  generalize (w3).alloc (.cells #[.int .i64 0, .int .i64 0, .int .i64 0, .int .i64 0, .int .i64 0, .int .i64 0, .int .i64 0, .int .i64 0, .string ⟨#[]⟩, .bool false, .bool false, .bool false, .bool false, .bool false, .bool false, .bool false, .bool false, .bool false, .bool false, .bool false, .bool false, .bool false, .bool false, .bool false, .bool false, .bool false, .bool false, .int .i64 0, .int .i64 0, .int .i64 0, .int .i64 0, .int .i64 0, .string ⟨#[]⟩, .int .i64 0, .int .i64 0] 35) = w4 at *
  have hRO : gR < gO := by omega
  have X_0 := X.cell (j := 0) rfl
  have X_1 := X.cell (j := 1) rfl
  have X_2 := X.cell (j := 2) rfl
  have X_3 := X.cell (j := 3) rfl
  have X_4 := X.cell (j := 4) rfl
  have X_5 := X.cell (j := 5) rfl
  have X_6 := X.cell (j := 6) rfl
  have X_7 := X.cell (j := 7) rfl
  have X_8 := X.cell (j := 8) rfl
  have X_9 := X.cell (j := 9) rfl
  go_upto_region 12 with fail
  apply wp_region_lit
  refine wpList_load_row rfl 35 (.tmp 4) rfl gP (by kernel_rfl) _ _ (0, 0) _ P.1 Tryz.underlying35 rfl (qinfo P.2.1 P.2.2) ?_
  dsimp only [Act.put]
  refine wpList_pure (v := ?_) rfl ?_ ?_
  rotate_left
  · go_simp
    try with_reducible rfl
  dsimp only [Act.put]
  refine wpList_pure (v := ?_) rfl ?_ ?_
  rotate_left
  · go_simp
    try with_reducible rfl
  dsimp only [Act.put]
  refine wpList_plain rfl fun K hK => ?_
  go_simp
  refine (cR _).mono ?_
  rintro e w5 ⟨rfl, hbn⟩
  refine hK _ _ ?_
  clear hK K cR X_0 X_1 X_2 X_3 X_4 X_5 X_6 X_7 X_8 X_9
  replace hb := hb.step hbn
  replace hP := hP.step hbn
  replace P := P.step hbn
  replace R := R.step hbn
  replace X := X.step hbn
  replace O := O.step hbn
  clear hbn
  refine wpList_pure (v := ?_) rfl ?_ ?_
  rotate_left
  · go_simp
    try with_reducible rfl
  dsimp only [Act.put]
  refine wpList_pure (v := ?_) rfl ?_ ?_
  rotate_left
  · go_simp
    try with_reducible rfl
  dsimp only [Act.put]
  refine wpList_pure (v := ?_) rfl ?_ ?_
  rotate_left
  · go_simp
    try with_reducible rfl
  dsimp only [Act.put]
  refine wpList_store_rowTo rfl 35 (.tmp 8) (.tmp 59) rfl rfl gO (qL A2).toArray (by kernel_rfl) (by kernel_rfl) _ _ O (qinfo hp2 ha2) (by rw [qsize hp2 ha2]; rfl) (qone _) ?_
  have hkn := kx_row w5 gO (qL A2).toArray
  replace O := O.row (qL A2)
  replace P := P.kx hkn (by simp; omega)
  replace R := R.kx hkn (by simp; omega)
  replace X := X.kx hkn (by simp; omega)
  replace hP := hP.kx hkn (by simp; omega)
  replace hb := hb.kx hkn (by simp; omega)
  generalize w5.setRow gO (qL A2).toArray = w6 at *
  clear hkn
  replace O : QW w6 gO A2 := ⟨O, hp2, ha2⟩
  refine wpList_pure (v := ?_) rfl ?_ ?_
  rotate_left
  · go_simp
    try with_reducible rfl
  dsimp only [Act.put]
  refine wpList_nil ?_
  have X_0 := X.cell (j := 0) rfl
  have X_1 := X.cell (j := 1) rfl
  have X_2 := X.cell (j := 2) rfl
  have X_3 := X.cell (j := 3) rfl
  have X_4 := X.cell (j := 4) rfl
  have X_5 := X.cell (j := 5) rfl
  have X_6 := X.cell (j := 6) rfl
  have X_7 := X.cell (j := 7) rfl
  have X_8 := X.cell (j := 8) rfl
  have X_9 := X.cell (j := 9) rfl
  go_wp2_with fail
  refine (cP _ hP (hT.step hb.out)).mono ?_
  rintro e w7 ⟨rfl, hP2, hk⟩
  have hX : FromX [g] w w7 := (Kx.of_below [g] hb.out (Nat.le_refl _)).trans hk
  replace R := R.kx hk (by simp; omega)
  replace X := X.kx hk (by simp; omega)
  replace O := O.kx hk (by simp; omega)
  clear hk hb hP P cP X_0 X_1 X_2 X_3 X_4 X_5 X_6 X_7 X_8 X_9 X hT
  rcases hEV with ⟨rfl, rfl⟩ | ⟨rfl, rfl⟩
  · have p4 := O.q4
    have hep : (A2.ph != A2.ph) = false := by simp
    go_wp2_with fail
    refine (num15_any _ _).mono ?_
    rintro e wx ⟨rfl, rfl⟩
    go_upto_region 16 with fail
    clear p4 hep
    have hORn : gO ∉ [gR] := by simp; omega
    have hO2 : ∀ W, Kx [gR] w7 W → W.heap[gO]? = some (.cells (qL A2).toArray 35 (0, 0)) := fun W h => (h.blk O.1 hORn)
    refine wp_region_held (S := Kx [gR] w7) (by kernel_rfl) ?_
    have hst : Below (w7).heap.size w7 { w7 with drawn := (w7).drawn + 1 } := ⟨rfl, rfl, rfl, Nat.le_refl _, fun _ _ => rfl⟩
    have hS : (Kx [gR] w7) { w7 with drawn := (w7).drawn + 1 } := by first | exact ⟨rfl, rfl, rfl, Nat.le_refl _, fun _ _ _ => rfl⟩ | exact ⟨rfl, rfl, rfl, Nat.le_refl _, fun _ _ => rfl⟩ | exact hS0
    replace hX := hX.step hst
    replace hP2 := hP2.step hst
    replace R := R.step hst
    clear hst
    generalize ({ w7 with drawn := (w7).drawn + 1 } : World) = wq at *
    refine wpAnyH_take (i := 1) (v := ?_) rfl (by kernel_rfl) (by kernel_rfl) (by kernel_rfl) (fun _ _ _ h => h) (Or.inl ⟨by kernel_rfl, ?_⟩) hS ?_
    rotate_left
    · intro W hSW
      go_simp
      try with_reducible rfl
    dsimp only [Act.put]
    refine wpAnyH_take (i := 0) (v := .agg (qL A2).toArray) rfl (by kernel_rfl) (by kernel_rfl) (by kernel_rfl) (fun _ _ _ h => h) (yields_load_row (by kernel_rfl) 35 (.tmp 8) rfl gO (by kernel_rfl) _ _ _ hO2 Tryz.underlying35 rfl (qinfo hp2 ha2)) hS ?_
    dsimp only [Act.put]
    refine wpAnyH_take (i := 3) (v := .agg (qL A2).toArray) rfl (by kernel_rfl) (by kernel_rfl) (by kernel_rfl) (fun _ _ _ h => h) (yields_load_row (by kernel_rfl) 35 (.tmp 8) rfl gO (by kernel_rfl) _ _ _ hO2 Tryz.underlying35 rfl (qinfo hp2 ha2)) hS ?_
    dsimp only [Act.put]
    refine wpAnyH_ready (rs := [2]) (by kernel_rfl) (by simp) ?_
    refine AllReadyH.cons rfl (fun K hK => ?_) AllReadyH.nil
    go_simp
    refine (cS _ hP2).mono ?_
    rintro e wa ⟨⟨va, rfl, hR1⟩, hbn⟩
    have hi1 := hR1.intS
    replace hX := hX.step hbn
    replace hP2 := hP2.step hbn
    replace R := R.step hbn
    refine hK.out _ _ (hS.step hbn) (fun hS => ?_)
    clear hR1 hbn
    clear hK K
    refine wpAnyH_ready (rs := [4]) (by kernel_rfl) (by simp) ?_
    refine AllReadyH.cons rfl (fun K hK => ?_) AllReadyH.nil
    go_simp
    refine (cQ _).mono ?_
    rintro e wb ⟨⟨vb, rfl, hR1⟩, hbn⟩
    have hi2 := hR1.intS
    replace hi1 := hi1.step hbn
    replace hX := hX.step hbn
    replace hP2 := hP2.step hbn
    replace R := R.step hbn
    refine hK.out _ _ (hS.step hbn) (fun hS => ?_)
    clear hR1 hbn
    clear hK K
    refine wpAnyH_ready (rs := [5]) (by kernel_rfl) (by simp) ?_
    refine AllReadyH.cons rfl (fun K hK => ?_) AllReadyH.nil
    go_simp
    refine (cM va vb _ hi1 hi2).mono ?_
    rintro e wc2 ⟨rfl, hbn⟩
    replace hX := hX.step hbn
    replace hP2 := hP2.step hbn
    replace R := R.step hbn
    refine hK.out _ _ (hS.step hbn) (fun hS => ?_)
    clear hi1 hi2 hbn
    clear hK K
    refine wpAnyH_ready (rs := [6]) (by kernel_rfl) (by simp) ?_
    refine AllReadyH.cons rfl (fun K hK => ?_) AllReadyH.nil
    refine step_store_row rfl 35 (.tmp 6) (.tmp 91) rfl rfl gR (qL A2).toArray (by kernel_rfl) (by kernel_rfl) _ _ R (qinfo hp2 ha2) (by rw [qsize hp2 ha2]; rfl) (qone _) ?_
    have hkn := kx_row wc2 gR (qL A2).toArray
    replace R := R.row (qL A2)
    replace hX := hX.kx hkn (by simp; omega)
    replace hP2 := hP2.kx hkn (by simp; omega)
    refine hK.out _ _ (hS.trans hkn) (fun hS => ?_)
    generalize wc2.setRow gR (qL A2).toArray = wd at *
    clear hkn
    clear hK K
    refine wpAnyH_ready (rs := [7]) (by kernel_rfl) (by simp) ?_
    refine AllReadyH.cons rfl (fun K hK => ?_) AllReadyH.nil
    go_simp
    refine hK.out _ _ (hS) (fun hS => ?_)
    clear hK K
    refine wpAnyH_done (by kernel_rfl) ?_ _
    clear hO2
    go_wp2_with fail
    (try simp only [Exit.inBlock, Exit.then])
    exact bodyPost_ret (res_cell1t rfl (by kernel_rfl) (by kernel_rfl) (run_loadVar_row _ _ _ _ _ (0, 0) _ R Tryz.underlying35 rfl (qinfo hp2 ha2))) rfl ⟨rfl, hP2, hX⟩
  · have p4 := O.q4
    have hep : (A2.ph != A2.ph) = false := by simp
    go_wp2_with fail
    refine (num15_any _ _).mono ?_
    rintro e wx ⟨rfl, rfl⟩
    go_upto_region 16 with fail
    clear p4 hep
    have hORn : gO ∉ [gR] := by simp; omega
    have hO2 : ∀ W, Kx [gR] w7 W → W.heap[gO]? = some (.cells (qL A2).toArray 35 (0, 0)) := fun W h => (h.blk O.1 hORn)
    refine wp_region_held (S := Kx [gR] w7) (by kernel_rfl) ?_
    have hst : Below (w7).heap.size w7 { w7 with drawn := (w7).drawn + 1 } := ⟨rfl, rfl, rfl, Nat.le_refl _, fun _ _ => rfl⟩
    have hS : (Kx [gR] w7) { w7 with drawn := (w7).drawn + 1 } := by first | exact ⟨rfl, rfl, rfl, Nat.le_refl _, fun _ _ _ => rfl⟩ | exact ⟨rfl, rfl, rfl, Nat.le_refl _, fun _ _ => rfl⟩ | exact hS0
    replace hX := hX.step hst
    replace hP2 := hP2.step hst
    replace R := R.step hst
    clear hst
    generalize ({ w7 with drawn := (w7).drawn + 1 } : World) = wq at *
    refine wpAnyH_take (i := 1) (v := ?_) rfl (by kernel_rfl) (by kernel_rfl) (by kernel_rfl) (fun _ _ _ h => h) (Or.inl ⟨by kernel_rfl, ?_⟩) hS ?_
    rotate_left
    · intro W hSW
      go_simp
      try with_reducible rfl
    dsimp only [Act.put]
    refine wpAnyH_take (i := 0) (v := .agg (qL A2).toArray) rfl (by kernel_rfl) (by kernel_rfl) (by kernel_rfl) (fun _ _ _ h => h) (yields_load_row (by kernel_rfl) 35 (.tmp 8) rfl gO (by kernel_rfl) _ _ _ hO2 Tryz.underlying35 rfl (qinfo hp2 ha2)) hS ?_
    dsimp only [Act.put]
    refine wpAnyH_take (i := 3) (v := .agg (qL A2).toArray) rfl (by kernel_rfl) (by kernel_rfl) (by kernel_rfl) (fun _ _ _ h => h) (yields_load_row (by kernel_rfl) 35 (.tmp 8) rfl gO (by kernel_rfl) _ _ _ hO2 Tryz.underlying35 rfl (qinfo hp2 ha2)) hS ?_
    dsimp only [Act.put]
    refine wpAnyH_ready (rs := [2]) (by kernel_rfl) (by simp) ?_
    refine AllReadyH.cons rfl (fun K hK => ?_) AllReadyH.nil
    go_simp
    refine (cS _ hP2).mono ?_
    rintro e wa ⟨⟨va, rfl, hR1⟩, hbn⟩
    have hi1 := hR1.intS
    replace hX := hX.step hbn
    replace hP2 := hP2.step hbn
    replace R := R.step hbn
    refine hK.out _ _ (hS.step hbn) (fun hS => ?_)
    clear hR1 hbn
    clear hK K
    refine wpAnyH_ready (rs := [4]) (by kernel_rfl) (by simp) ?_
    refine AllReadyH.cons rfl (fun K hK => ?_) AllReadyH.nil
    go_simp
    refine (cQ _).mono ?_
    rintro e wb ⟨⟨vb, rfl, hR1⟩, hbn⟩
    have hi2 := hR1.intS
    replace hi1 := hi1.step hbn
    replace hX := hX.step hbn
    replace hP2 := hP2.step hbn
    replace R := R.step hbn
    refine hK.out _ _ (hS.step hbn) (fun hS => ?_)
    clear hR1 hbn
    clear hK K
    refine wpAnyH_ready (rs := [5]) (by kernel_rfl) (by simp) ?_
    refine AllReadyH.cons rfl (fun K hK => ?_) AllReadyH.nil
    go_simp
    refine (cM va vb _ hi1 hi2).mono ?_
    rintro e wc2 ⟨rfl, hbn⟩
    replace hX := hX.step hbn
    replace hP2 := hP2.step hbn
    replace R := R.step hbn
    refine hK.out _ _ (hS.step hbn) (fun hS => ?_)
    clear hi1 hi2 hbn
    clear hK K
    refine wpAnyH_ready (rs := [6]) (by kernel_rfl) (by simp) ?_
    refine AllReadyH.cons rfl (fun K hK => ?_) AllReadyH.nil
    refine step_store_row rfl 35 (.tmp 6) (.tmp 91) rfl rfl gR (qL A2).toArray (by kernel_rfl) (by kernel_rfl) _ _ R (qinfo hp2 ha2) (by rw [qsize hp2 ha2]; rfl) (qone _) ?_
    have hkn := kx_row wc2 gR (qL A2).toArray
    replace R := R.row (qL A2)
    replace hX := hX.kx hkn (by simp; omega)
    replace hP2 := hP2.kx hkn (by simp; omega)
    refine hK.out _ _ (hS.trans hkn) (fun hS => ?_)
    generalize wc2.setRow gR (qL A2).toArray = wd at *
    clear hkn
    clear hK K
    refine wpAnyH_ready (rs := [7]) (by kernel_rfl) (by simp) ?_
    refine AllReadyH.cons rfl (fun K hK => ?_) AllReadyH.nil
    go_simp
    refine hK.out _ _ (hS) (fun hS => ?_)
    clear hK K
    refine wpAnyH_done (by kernel_rfl) ?_ _
    clear hO2
    go_wp2_with fail
    (try simp only [Exit.inBlock, Exit.then])
    exact bodyPost_ret (res_cell1t rfl (by kernel_rfl) (by kernel_rfl) (run_loadVar_row _ _ _ _ _ (0, 0) _ R Tryz.underlying35 rfl (qinfo hp2 ha2))) rfl ⟨rfl, hP2, hX⟩
set_option maxRecDepth 100000 in
set_option maxHeartbeats 8000000 in
theorem act_ref (g : Nat) (A : Prp) (wh : Int) (pl x y k m n : Int) (s : ByteArray) (bx q : Int) (w : World) (hP : PW w g A) (hI : InvP A) (hB : InvB A) (hT : Tabs w) (h0 : wh ≠ 0) (h1 : wh ≠ 1) :
    Calls Tryz.prog 20 #[.pointer (some ⟨g, 0, none⟩), qV A, .agg #[.int .i64 wh, .int .i64 pl, .int .i64 x, .int .i64 y, .int .i64 k, .int .i64 m, .int .i64 n, .string s, .int .i64 bx, .int .i64 q]] w fun e w' => e = .returned (.tuple #[qV (rfA A pl bx q), .bool true]) ∧ PW w' g (rfA A pl bx q) ∧ Kx [g] w w' := by
  have hp := hP.2.1
  have ha := hP.2.2
  have cR := fun W => rref_any A pl bx q W hI hp ha
  have cP := fun W hW (hT : Tabs W) => ref_any g A pl bx q W hW hI
  have hI2 := hI.ref pl bx q
  obtain ⟨hp2, ha2⟩ := rfA_len hp ha pl bx q
  have hEV : (rfE A pl bx q = 0 ∧ rfV A pl bx q = (rfA A pl bx q).ph) ∨ (rfE A pl bx q = 2 ∧ rfV A pl bx q = 0) := by
    have h02 : rfE A pl bx q = 0 ∨ rfE A pl bx q = 2 := by
      unfold rfE
      split
      · exact .inl rfl
      · exact .inr rfl
    rcases h02 with h | h
    · exact .inl ⟨h, by unfold rfV; rw [if_pos h]⟩
    · exact .inr ⟨h, by unfold rfV; rw [if_neg (by omega)]⟩
  have cS := fun W hW => state_any g (rfA A pl bx q) W hW hI2.ne
  have cQ := fun W => rstate_any (rfA A pl bx q) W hp2 ha2
  have hlen := plK_votes (rfA A pl bx q) hp2 ha2
  obtain ⟨A2, hA2⟩ : ∃ A2, rfA A pl bx q = A2 := ⟨_, rfl⟩
  obtain ⟨V, hV⟩ : ∃ V, rfV A pl bx q = V := ⟨_, rfl⟩
  obtain ⟨E, hE⟩ : ∃ E, rfE A pl bx q = E := ⟨_, rfl⟩
  simp only [hA2, hV, hE] at cR cP hI2 hp2 ha2 hEV cS cQ hlen ⊢
  clear hA2 hV hE hI hB
  have cM := fun va vb W h1 h2 => rsame_any A2 va vb (plK 0 (votesP A2)) hlen W h1 h2
  have hb := From.refl w
  unfold qV at cR cQ ⊢
  go_enter Tryz.func20, Tryz.ntmps20
  go_upto_region 1 with fail
  obtain ⟨gP, hgP⟩ : ∃ g, (w).heap.size = g := ⟨_, rfl⟩
  have lt_hP_P := hP.lt
  rw [hgP] at lt_hP_P
  have P := Blk.newV hgP 35 (qL A).toArray
  have hbn := (Below.refl (w).heap.size w).alloc (Nat.le_refl _) (.cells (qL A).toArray 35)
  replace hb := hb.step hbn
  replace hP := hP.step hbn
  clear hbn
  rw [hgP]
  have szP := alloc_size hgP (.cells (qL A).toArray 35)
  generalize (w).alloc (.cells (qL A).toArray 35) = w1 at *
  obtain ⟨gX, hgX⟩ : ∃ g, (w1).heap.size = g := ⟨_, rfl⟩
  have lt_hP_X := hP.lt
  rw [hgX] at lt_hP_X
  have lt_P_X := P.lt
  rw [hgX] at lt_P_X
  have X := Blk.newV hgX 62 #[.int .i64 wh, .int .i64 pl, .int .i64 x, .int .i64 y, .int .i64 k, .int .i64 m, .int .i64 n, .string s, .int .i64 bx, .int .i64 q]
  have hbn := (Below.refl (w1).heap.size w1).alloc (Nat.le_refl _) (.cells #[.int .i64 wh, .int .i64 pl, .int .i64 x, .int .i64 y, .int .i64 k, .int .i64 m, .int .i64 n, .string s, .int .i64 bx, .int .i64 q] 62)
  replace hb := hb.step hbn
  replace hP := hP.step hbn
  replace P := P.step hbn
  clear hbn
  have egX : gP + 1 = gX := szP.symm.trans hgX
  rw [egX]
  clear szP
  have szX := alloc_size hgX (.cells #[.int .i64 wh, .int .i64 pl, .int .i64 x, .int .i64 y, .int .i64 k, .int .i64 m, .int .i64 n, .string s, .int .i64 bx, .int .i64 q] 62)
  generalize (w1).alloc (.cells #[.int .i64 wh, .int .i64 pl, .int .i64 x, .int .i64 y, .int .i64 k, .int .i64 m, .int .i64 n, .string s, .int .i64 bx, .int .i64 q] 62) = w2 at *
  obtain ⟨gR, hgR⟩ : ∃ g, (w2).heap.size = g := ⟨_, rfl⟩
  have lt_hP_R := hP.lt
  rw [hgR] at lt_hP_R
  have lt_P_R := P.lt
  rw [hgR] at lt_P_R
  have lt_X_R := X.lt
  rw [hgR] at lt_X_R
  have R := Blk.newV hgR 35 #[.int .i64 0, .int .i64 0, .int .i64 0, .int .i64 0, .int .i64 0, .int .i64 0, .int .i64 0, .int .i64 0, .string ⟨#[]⟩, .bool false, .bool false, .bool false, .bool false, .bool false, .bool false, .bool false, .bool false, .bool false, .bool false, .bool false, .bool false, .bool false, .bool false, .bool false, .bool false, .bool false, .bool false, .int .i64 0, .int .i64 0, .int .i64 0, .int .i64 0, .int .i64 0, .string ⟨#[]⟩, .int .i64 0, .int .i64 0]
  have hbn := (Below.refl (w2).heap.size w2).alloc (Nat.le_refl _) (.cells #[.int .i64 0, .int .i64 0, .int .i64 0, .int .i64 0, .int .i64 0, .int .i64 0, .int .i64 0, .int .i64 0, .string ⟨#[]⟩, .bool false, .bool false, .bool false, .bool false, .bool false, .bool false, .bool false, .bool false, .bool false, .bool false, .bool false, .bool false, .bool false, .bool false, .bool false, .bool false, .bool false, .bool false, .int .i64 0, .int .i64 0, .int .i64 0, .int .i64 0, .int .i64 0, .string ⟨#[]⟩, .int .i64 0, .int .i64 0] 35)
  replace hb := hb.step hbn
  replace hP := hP.step hbn
  replace P := P.step hbn
  replace X := X.step hbn
  clear hbn
  have egR : gX + 1 = gR := szX.symm.trans hgR
  rw [egR]
  clear szX
  generalize (w2).alloc (.cells #[.int .i64 0, .int .i64 0, .int .i64 0, .int .i64 0, .int .i64 0, .int .i64 0, .int .i64 0, .int .i64 0, .string ⟨#[]⟩, .bool false, .bool false, .bool false, .bool false, .bool false, .bool false, .bool false, .bool false, .bool false, .bool false, .bool false, .bool false, .bool false, .bool false, .bool false, .bool false, .bool false, .bool false, .int .i64 0, .int .i64 0, .int .i64 0, .int .i64 0, .int .i64 0, .string ⟨#[]⟩, .int .i64 0, .int .i64 0] 35) = w3 at *
  have hgP0 : g < gP := by omega
  have hPX : gP < gX := by omega
  have hXR : gX < gR := by omega
  have hwP : w.heap.size ≤ gP := by omega
  clear hgP hgX hgR egR egX
  replace P : QW w3 gP A := ⟨by simpa using P, hp, ha⟩
  go_upto_region 2 with fail
  obtain ⟨gO, hgO⟩ : ∃ g, (w3).heap.size = g := ⟨_, rfl⟩
  have lt_hP_O := hP.lt
  rw [hgO] at lt_hP_O
  have lt_P_O := P.lt
  rw [hgO] at lt_P_O
  have lt_R_O := R.lt
  rw [hgO] at lt_R_O
  have lt_X_O := X.lt
  rw [hgO] at lt_X_O
  have O := Blk.newV hgO 35 #[.int .i64 0, .int .i64 0, .int .i64 0, .int .i64 0, .int .i64 0, .int .i64 0, .int .i64 0, .int .i64 0, .string ⟨#[]⟩, .bool false, .bool false, .bool false, .bool false, .bool false, .bool false, .bool false, .bool false, .bool false, .bool false, .bool false, .bool false, .bool false, .bool false, .bool false, .bool false, .bool false, .bool false, .int .i64 0, .int .i64 0, .int .i64 0, .int .i64 0, .int .i64 0, .string ⟨#[]⟩, .int .i64 0, .int .i64 0]
  have hbn := (Below.refl (w3).heap.size w3).alloc (Nat.le_refl _) (.cells #[.int .i64 0, .int .i64 0, .int .i64 0, .int .i64 0, .int .i64 0, .int .i64 0, .int .i64 0, .int .i64 0, .string ⟨#[]⟩, .bool false, .bool false, .bool false, .bool false, .bool false, .bool false, .bool false, .bool false, .bool false, .bool false, .bool false, .bool false, .bool false, .bool false, .bool false, .bool false, .bool false, .bool false, .int .i64 0, .int .i64 0, .int .i64 0, .int .i64 0, .int .i64 0, .string ⟨#[]⟩, .int .i64 0, .int .i64 0] 35)
  replace hb := hb.step hbn
  replace hP := hP.step hbn
  replace P := P.step hbn
  replace R := R.step hbn
  replace X := X.step hbn
  clear hbn
  rw [hgO]
  generalize (w3).alloc (.cells #[.int .i64 0, .int .i64 0, .int .i64 0, .int .i64 0, .int .i64 0, .int .i64 0, .int .i64 0, .int .i64 0, .string ⟨#[]⟩, .bool false, .bool false, .bool false, .bool false, .bool false, .bool false, .bool false, .bool false, .bool false, .bool false, .bool false, .bool false, .bool false, .bool false, .bool false, .bool false, .bool false, .bool false, .int .i64 0, .int .i64 0, .int .i64 0, .int .i64 0, .int .i64 0, .string ⟨#[]⟩, .int .i64 0, .int .i64 0] 35) = w4 at *
  have hRO : gR < gO := by omega
  have X_0 := X.cell (j := 0) rfl
  have X_1 := X.cell (j := 1) rfl
  have X_2 := X.cell (j := 2) rfl
  have X_3 := X.cell (j := 3) rfl
  have X_4 := X.cell (j := 4) rfl
  have X_5 := X.cell (j := 5) rfl
  have X_6 := X.cell (j := 6) rfl
  have X_7 := X.cell (j := 7) rfl
  have X_8 := X.cell (j := 8) rfl
  have X_9 := X.cell (j := 9) rfl
  go_upto_region 6 with fail
  apply wp_region_lit
  refine wpList_load_row rfl 35 (.tmp 4) rfl gP (by kernel_rfl) _ _ (0, 0) _ P.1 Tryz.underlying35 rfl (qinfo P.2.1 P.2.2) ?_
  dsimp only [Act.put]
  refine wpList_pure (v := ?_) rfl ?_ ?_
  rotate_left
  · go_simp
    try with_reducible rfl
  dsimp only [Act.put]
  refine wpList_pure (v := ?_) rfl ?_ ?_
  rotate_left
  · go_simp
    try with_reducible rfl
  dsimp only [Act.put]
  refine wpList_pure (v := ?_) rfl ?_ ?_
  rotate_left
  · go_simp
    try with_reducible rfl
  dsimp only [Act.put]
  refine wpList_pure (v := ?_) rfl ?_ ?_
  rotate_left
  · go_simp
    try with_reducible rfl
  dsimp only [Act.put]
  refine wpList_plain rfl fun K hK => ?_
  go_simp
  refine (cR _).mono ?_
  rintro e w5 ⟨rfl, hbn⟩
  refine hK _ _ ?_
  clear hK K cR X_0 X_1 X_2 X_3 X_4 X_5 X_6 X_7 X_8 X_9
  replace hb := hb.step hbn
  replace hP := hP.step hbn
  replace P := P.step hbn
  replace R := R.step hbn
  replace X := X.step hbn
  replace O := O.step hbn
  clear hbn
  refine wpList_pure (v := ?_) rfl ?_ ?_
  rotate_left
  · go_simp
    try with_reducible rfl
  dsimp only [Act.put]
  refine wpList_pure (v := ?_) rfl ?_ ?_
  rotate_left
  · go_simp
    try with_reducible rfl
  dsimp only [Act.put]
  refine wpList_pure (v := ?_) rfl ?_ ?_
  rotate_left
  · go_simp
    try with_reducible rfl
  dsimp only [Act.put]
  refine wpList_store_rowTo rfl 35 (.tmp 8) (.tmp 21) rfl rfl gO (qL A2).toArray (by kernel_rfl) (by kernel_rfl) _ _ O (qinfo hp2 ha2) (by rw [qsize hp2 ha2]; rfl) (qone _) ?_
  have hkn := kx_row w5 gO (qL A2).toArray
  replace O := O.row (qL A2)
  replace P := P.kx hkn (by simp; omega)
  replace R := R.kx hkn (by simp; omega)
  replace X := X.kx hkn (by simp; omega)
  replace hP := hP.kx hkn (by simp; omega)
  replace hb := hb.kx hkn (by simp; omega)
  generalize w5.setRow gO (qL A2).toArray = w6 at *
  clear hkn
  replace O : QW w6 gO A2 := ⟨O, hp2, ha2⟩
  refine wpList_pure (v := ?_) rfl ?_ ?_
  rotate_left
  · go_simp
    try with_reducible rfl
  dsimp only [Act.put]
  refine wpList_nil ?_
  have X_0 := X.cell (j := 0) rfl
  have X_1 := X.cell (j := 1) rfl
  have X_2 := X.cell (j := 2) rfl
  have X_3 := X.cell (j := 3) rfl
  have X_4 := X.cell (j := 4) rfl
  have X_5 := X.cell (j := 5) rfl
  have X_6 := X.cell (j := 6) rfl
  have X_7 := X.cell (j := 7) rfl
  have X_8 := X.cell (j := 8) rfl
  have X_9 := X.cell (j := 9) rfl
  go_wp2_with fail
  refine (cP _ hP (hT.step hb.out)).mono ?_
  rintro e w7 ⟨rfl, hP2, hk⟩
  have hX : FromX [g] w w7 := (Kx.of_below [g] hb.out (Nat.le_refl _)).trans hk
  replace R := R.kx hk (by simp; omega)
  replace X := X.kx hk (by simp; omega)
  replace O := O.kx hk (by simp; omega)
  clear hk hb hP P cP X_0 X_1 X_2 X_3 X_4 X_5 X_6 X_7 X_8 X_9 X hT
  rcases hEV with ⟨rfl, rfl⟩ | ⟨rfl, rfl⟩
  · have p4 := O.q4
    have hep : (A2.ph != A2.ph) = false := by simp
    go_wp2_with fail
    refine (num15_any _ _).mono ?_
    rintro e wx ⟨rfl, rfl⟩
    go_upto_region 16 with fail
    clear p4 hep
    have hORn : gO ∉ [gR] := by simp; omega
    have hO2 : ∀ W, Kx [gR] w7 W → W.heap[gO]? = some (.cells (qL A2).toArray 35 (0, 0)) := fun W h => (h.blk O.1 hORn)
    refine wp_region_held (S := Kx [gR] w7) (by kernel_rfl) ?_
    have hst : Below (w7).heap.size w7 { w7 with drawn := (w7).drawn + 1 } := ⟨rfl, rfl, rfl, Nat.le_refl _, fun _ _ => rfl⟩
    have hS : (Kx [gR] w7) { w7 with drawn := (w7).drawn + 1 } := by first | exact ⟨rfl, rfl, rfl, Nat.le_refl _, fun _ _ _ => rfl⟩ | exact ⟨rfl, rfl, rfl, Nat.le_refl _, fun _ _ => rfl⟩ | exact hS0
    replace hX := hX.step hst
    replace hP2 := hP2.step hst
    replace R := R.step hst
    clear hst
    generalize ({ w7 with drawn := (w7).drawn + 1 } : World) = wq at *
    refine wpAnyH_take (i := 1) (v := ?_) rfl (by kernel_rfl) (by kernel_rfl) (by kernel_rfl) (fun _ _ _ h => h) (Or.inl ⟨by kernel_rfl, ?_⟩) hS ?_
    rotate_left
    · intro W hSW
      go_simp
      try with_reducible rfl
    dsimp only [Act.put]
    refine wpAnyH_take (i := 0) (v := .agg (qL A2).toArray) rfl (by kernel_rfl) (by kernel_rfl) (by kernel_rfl) (fun _ _ _ h => h) (yields_load_row (by kernel_rfl) 35 (.tmp 8) rfl gO (by kernel_rfl) _ _ _ hO2 Tryz.underlying35 rfl (qinfo hp2 ha2)) hS ?_
    dsimp only [Act.put]
    refine wpAnyH_take (i := 3) (v := .agg (qL A2).toArray) rfl (by kernel_rfl) (by kernel_rfl) (by kernel_rfl) (fun _ _ _ h => h) (yields_load_row (by kernel_rfl) 35 (.tmp 8) rfl gO (by kernel_rfl) _ _ _ hO2 Tryz.underlying35 rfl (qinfo hp2 ha2)) hS ?_
    dsimp only [Act.put]
    refine wpAnyH_ready (rs := [2]) (by kernel_rfl) (by simp) ?_
    refine AllReadyH.cons rfl (fun K hK => ?_) AllReadyH.nil
    go_simp
    refine (cS _ hP2).mono ?_
    rintro e wa ⟨⟨va, rfl, hR1⟩, hbn⟩
    have hi1 := hR1.intS
    replace hX := hX.step hbn
    replace hP2 := hP2.step hbn
    replace R := R.step hbn
    refine hK.out _ _ (hS.step hbn) (fun hS => ?_)
    clear hR1 hbn
    clear hK K
    refine wpAnyH_ready (rs := [4]) (by kernel_rfl) (by simp) ?_
    refine AllReadyH.cons rfl (fun K hK => ?_) AllReadyH.nil
    go_simp
    refine (cQ _).mono ?_
    rintro e wb ⟨⟨vb, rfl, hR1⟩, hbn⟩
    have hi2 := hR1.intS
    replace hi1 := hi1.step hbn
    replace hX := hX.step hbn
    replace hP2 := hP2.step hbn
    replace R := R.step hbn
    refine hK.out _ _ (hS.step hbn) (fun hS => ?_)
    clear hR1 hbn
    clear hK K
    refine wpAnyH_ready (rs := [5]) (by kernel_rfl) (by simp) ?_
    refine AllReadyH.cons rfl (fun K hK => ?_) AllReadyH.nil
    go_simp
    refine (cM va vb _ hi1 hi2).mono ?_
    rintro e wc2 ⟨rfl, hbn⟩
    replace hX := hX.step hbn
    replace hP2 := hP2.step hbn
    replace R := R.step hbn
    refine hK.out _ _ (hS.step hbn) (fun hS => ?_)
    clear hi1 hi2 hbn
    clear hK K
    refine wpAnyH_ready (rs := [6]) (by kernel_rfl) (by simp) ?_
    refine AllReadyH.cons rfl (fun K hK => ?_) AllReadyH.nil
    refine step_store_row rfl 35 (.tmp 6) (.tmp 91) rfl rfl gR (qL A2).toArray (by kernel_rfl) (by kernel_rfl) _ _ R (qinfo hp2 ha2) (by rw [qsize hp2 ha2]; rfl) (qone _) ?_
    have hkn := kx_row wc2 gR (qL A2).toArray
    replace R := R.row (qL A2)
    replace hX := hX.kx hkn (by simp; omega)
    replace hP2 := hP2.kx hkn (by simp; omega)
    refine hK.out _ _ (hS.trans hkn) (fun hS => ?_)
    generalize wc2.setRow gR (qL A2).toArray = wd at *
    clear hkn
    clear hK K
    refine wpAnyH_ready (rs := [7]) (by kernel_rfl) (by simp) ?_
    refine AllReadyH.cons rfl (fun K hK => ?_) AllReadyH.nil
    go_simp
    refine hK.out _ _ (hS) (fun hS => ?_)
    clear hK K
    refine wpAnyH_done (by kernel_rfl) ?_ _
    clear hO2
    go_wp2_with fail
    (try simp only [Exit.inBlock, Exit.then])
    exact bodyPost_ret (res_cell1t rfl (by kernel_rfl) (by kernel_rfl) (run_loadVar_row _ _ _ _ _ (0, 0) _ R Tryz.underlying35 rfl (qinfo hp2 ha2))) rfl ⟨rfl, hP2, hX⟩
  · have p4 := O.q4
    have hep : (A2.ph != A2.ph) = false := by simp
    go_wp2_with fail
    refine (num15_any _ _).mono ?_
    rintro e wx ⟨rfl, rfl⟩
    go_upto_region 16 with fail
    clear p4 hep
    have hORn : gO ∉ [gR] := by simp; omega
    have hO2 : ∀ W, Kx [gR] w7 W → W.heap[gO]? = some (.cells (qL A2).toArray 35 (0, 0)) := fun W h => (h.blk O.1 hORn)
    refine wp_region_held (S := Kx [gR] w7) (by kernel_rfl) ?_
    have hst : Below (w7).heap.size w7 { w7 with drawn := (w7).drawn + 1 } := ⟨rfl, rfl, rfl, Nat.le_refl _, fun _ _ => rfl⟩
    have hS : (Kx [gR] w7) { w7 with drawn := (w7).drawn + 1 } := by first | exact ⟨rfl, rfl, rfl, Nat.le_refl _, fun _ _ _ => rfl⟩ | exact ⟨rfl, rfl, rfl, Nat.le_refl _, fun _ _ => rfl⟩ | exact hS0
    replace hX := hX.step hst
    replace hP2 := hP2.step hst
    replace R := R.step hst
    clear hst
    generalize ({ w7 with drawn := (w7).drawn + 1 } : World) = wq at *
    refine wpAnyH_take (i := 1) (v := ?_) rfl (by kernel_rfl) (by kernel_rfl) (by kernel_rfl) (fun _ _ _ h => h) (Or.inl ⟨by kernel_rfl, ?_⟩) hS ?_
    rotate_left
    · intro W hSW
      go_simp
      try with_reducible rfl
    dsimp only [Act.put]
    refine wpAnyH_take (i := 0) (v := .agg (qL A2).toArray) rfl (by kernel_rfl) (by kernel_rfl) (by kernel_rfl) (fun _ _ _ h => h) (yields_load_row (by kernel_rfl) 35 (.tmp 8) rfl gO (by kernel_rfl) _ _ _ hO2 Tryz.underlying35 rfl (qinfo hp2 ha2)) hS ?_
    dsimp only [Act.put]
    refine wpAnyH_take (i := 3) (v := .agg (qL A2).toArray) rfl (by kernel_rfl) (by kernel_rfl) (by kernel_rfl) (fun _ _ _ h => h) (yields_load_row (by kernel_rfl) 35 (.tmp 8) rfl gO (by kernel_rfl) _ _ _ hO2 Tryz.underlying35 rfl (qinfo hp2 ha2)) hS ?_
    dsimp only [Act.put]
    refine wpAnyH_ready (rs := [2]) (by kernel_rfl) (by simp) ?_
    refine AllReadyH.cons rfl (fun K hK => ?_) AllReadyH.nil
    go_simp
    refine (cS _ hP2).mono ?_
    rintro e wa ⟨⟨va, rfl, hR1⟩, hbn⟩
    have hi1 := hR1.intS
    replace hX := hX.step hbn
    replace hP2 := hP2.step hbn
    replace R := R.step hbn
    refine hK.out _ _ (hS.step hbn) (fun hS => ?_)
    clear hR1 hbn
    clear hK K
    refine wpAnyH_ready (rs := [4]) (by kernel_rfl) (by simp) ?_
    refine AllReadyH.cons rfl (fun K hK => ?_) AllReadyH.nil
    go_simp
    refine (cQ _).mono ?_
    rintro e wb ⟨⟨vb, rfl, hR1⟩, hbn⟩
    have hi2 := hR1.intS
    replace hi1 := hi1.step hbn
    replace hX := hX.step hbn
    replace hP2 := hP2.step hbn
    replace R := R.step hbn
    refine hK.out _ _ (hS.step hbn) (fun hS => ?_)
    clear hR1 hbn
    clear hK K
    refine wpAnyH_ready (rs := [5]) (by kernel_rfl) (by simp) ?_
    refine AllReadyH.cons rfl (fun K hK => ?_) AllReadyH.nil
    go_simp
    refine (cM va vb _ hi1 hi2).mono ?_
    rintro e wc2 ⟨rfl, hbn⟩
    replace hX := hX.step hbn
    replace hP2 := hP2.step hbn
    replace R := R.step hbn
    refine hK.out _ _ (hS.step hbn) (fun hS => ?_)
    clear hi1 hi2 hbn
    clear hK K
    refine wpAnyH_ready (rs := [6]) (by kernel_rfl) (by simp) ?_
    refine AllReadyH.cons rfl (fun K hK => ?_) AllReadyH.nil
    refine step_store_row rfl 35 (.tmp 6) (.tmp 91) rfl rfl gR (qL A2).toArray (by kernel_rfl) (by kernel_rfl) _ _ R (qinfo hp2 ha2) (by rw [qsize hp2 ha2]; rfl) (qone _) ?_
    have hkn := kx_row wc2 gR (qL A2).toArray
    replace R := R.row (qL A2)
    replace hX := hX.kx hkn (by simp; omega)
    replace hP2 := hP2.kx hkn (by simp; omega)
    refine hK.out _ _ (hS.trans hkn) (fun hS => ?_)
    generalize wc2.setRow gR (qL A2).toArray = wd at *
    clear hkn
    clear hK K
    refine wpAnyH_ready (rs := [7]) (by kernel_rfl) (by simp) ?_
    refine AllReadyH.cons rfl (fun K hK => ?_) AllReadyH.nil
    go_simp
    refine hK.out _ _ (hS) (fun hS => ?_)
    clear hK K
    refine wpAnyH_done (by kernel_rfl) ?_ _
    clear hO2
    go_wp2_with fail
    (try simp only [Exit.inBlock, Exit.then])
    exact bodyPost_ret (res_cell1t rfl (by kernel_rfl) (by kernel_rfl) (run_loadVar_row _ _ _ _ _ (0, 0) _ R Tryz.underlying35 rfl (qinfo hp2 ha2))) rfl ⟨rfl, hP2, hX⟩
theorem act15_any (g : Nat) (A : Prp) (e : Pa) (w : World) (hP : PW w g A) (hI : InvP A) (hB : InvB A) (hT : Tabs w) (hs : e.s.size ≤ 9223372036854775807) :
    Calls Tryz.prog 20 #[.pointer (some ⟨g, 0, none⟩), qV A, .agg #[.int .i64 e.w, .int .i64 e.pl, .int .i64 e.ar, .int .i64 e.ap, .int .i64 e.k, .int .i64 e.m, .int .i64 e.n, .string e.s, .int .i64 e.x, .int .i64 e.y]] w fun r w' => r = .returned (.tuple #[qV (actP A e), .bool true]) ∧ PW w' g (actP A e) ∧ Kx [g] w w' := by
  unfold actP
  split
  next h => rw [h]; exact act_tell g A e.pl e.ar e.ap e.k e.m e.n e.s e.x e.y w hP hI hB hT hs
  next h0 =>
    split
    next h => rw [h]; exact act_take g A e.pl e.ar e.ap e.k e.m e.n e.s e.x e.y w hP hI hB hT
    next h1 => exact act_ref g A e.w e.pl e.ar e.ap e.k e.m e.n e.s e.x e.y w hP hI hB hT h0 h1
end Go.Proofs.YtcahkcbenanfnaaGreatDoor
