
/- The document's wheel: Set, done. -/
import Derived.Test.YtfdfmmmfklodgaaWhZ
namespace Go.Proofs.Ytfdfmmmfklodgaa
set_option linter.unusedSimpArgs false
set_option linter.unusedVariables false
open Go.RowKit
structure InsI (d : Int × Int) (D : List (Int × Int)) (k : Nat) (pb : Bool) (O : List (Int × Int)) : Prop where
  yes : pb = true → O ++ D.drop k = insD d D
  no : pb = false → O = D.take k ∧ insD d D = D.take k ++ insD d (D.drop k)
theorem InsI.start (d : Int × Int) (D : List (Int × Int)) : InsI d D 0 false [] := ⟨fun h => (nomatch h), fun _ => by simp⟩
theorem InsI.stay {d : Int × Int} {D O : List (Int × Int)} {k : Nat} {x : Int × Int} (h : InsI d D k true O) (hx : D[k]? = some x) : InsI d D (k + 1) true (O ++ [x]) := by
  refine ⟨fun _ => ?_, fun h => (nomatch h)⟩
  obtain ⟨hk, rfl⟩ := List.getElem?_eq_some_iff.1 hx
  rw [← h.yes rfl, List.drop_eq_getElem_cons hk]
  simp
theorem InsI.put {d : Int × Int} {D O : List (Int × Int)} {k : Nat} {x : Int × Int} (h : InsI d D k false O) (hx : D[k]? = some x) (ha : aheadB d x = true) : InsI d D (k + 1) true (O ++ [d] ++ [x]) := by
  refine ⟨fun _ => ?_, fun h => (nomatch h)⟩
  obtain ⟨hk, rfl⟩ := List.getElem?_eq_some_iff.1 hx
  obtain ⟨h1, h2⟩ := h.no rfl
  rw [h2, h1, List.drop_eq_getElem_cons hk]
  unfold insD
  rw [if_pos ha]
  simp
theorem InsI.pass {d : Int × Int} {D O : List (Int × Int)} {k : Nat} {x : Int × Int} (h : InsI d D k false O) (hx : D[k]? = some x) (ha : aheadB d x = false) : InsI d D (k + 1) false (O ++ [x]) := by
  refine ⟨fun h => (nomatch h), fun _ => ?_⟩
  obtain ⟨hk, rfl⟩ := List.getElem?_eq_some_iff.1 hx
  obtain ⟨h1, h2⟩ := h.no rfl
  have e : D.take (k + 1) = D.take k ++ [D[k]] := by rw [List.take_add_one]; simp [hk]
  refine ⟨by rw [h1, e], ?_⟩
  rw [h2, List.drop_eq_getElem_cons hk]
  conv => lhs; arg 2; unfold insD
  rw [if_neg (by rw [ha]; simp), e, List.append_assoc]
  rfl
theorem InsI.end1 {d : Int × Int} {D O : List (Int × Int)} {k : Nat} (h : InsI d D k true O) (hk : D.length ≤ k) : O = insD d D := by
  have := h.yes rfl
  rwa [List.drop_eq_nil_of_le hk, List.append_nil] at this
theorem InsI.end0 {d : Int × Int} {D O : List (Int × Int)} {k : Nat} (h : InsI d D k false O) (hk : D.length ≤ k) : O ++ [d] = insD d D := by
  obtain ⟨h1, h2⟩ := h.no rfl
  rw [h2, h1, List.drop_eq_nil_of_le hk]
  rfl
set_option maxRecDepth 100000 in
set_option maxHeartbeats 8000000 in
theorem refSet_yes (now : Int) (a : Option Addr) (c : Nat) (L : List (Int × Int)) (id after : Int) (w : World) (h : RowD w 0 (.slice a L.length c) L) (hl : L.length ≤ 5000) (n0 : 0 ≤ now) (n1 : now ≤ 4611686018427387904) (h1 : inI id 0 = true) (h2 : inI after 1 = true) (h6 : (getF L id).isSome = true ∨ L.length < 4096) (h7 : now ≤ 4611686018427387904 - after) :
    Calls Try.prog 30 #[.agg #[.int .i64 now, .slice a L.length c], .int .i64 id, .int .i64 after] w (RefP w (.slice a L.length c) now (insD (id, now + after) (delF L id)) [.int .i64 (now + after), .int .i64 0]) := by
  obtain ⟨i0, hi0, hz0, hz1, hz2⟩ := info_parts info_due
  have hpos := pos_get L id
  obtain ⟨h1, h3⟩ := inI_yes h1
  obtain ⟨h4, h5⟩ := inI_yes h2
  have cA := fun W (hW : RowD W 0 (.slice a L.length c) L) => refAt_any 0 now a c L id W hW hl
  have cW := fun W (hW : RowD W 0 (.slice a L.length c) L) => without_any 0 now a c L id W hW hl
  have hDl : (delF L id).length ≤ L.length := List.length_filter_le _ _
  obtain ⟨N, hN⟩ : ∃ N, L.length = N := ⟨_, rfl⟩
  obtain ⟨P, hP⟩ : ∃ P, posD L id = P := ⟨_, rfl⟩
  obtain ⟨D, hD⟩ : ∃ D, delF L id = D := ⟨_, rfl⟩
  obtain ⟨t, ht⟩ : ∃ t, now + after = t := ⟨_, rfl⟩
  have hw1 : IntKind.i64.wrap (now + after) = t := (IntWalk.i64_in _ (by omega)).trans ht
  rw [hN, hP] at cA
  rw [hN, hD] at cW
  rw [hP] at hpos
  rw [hN] at h h6 hl hDl ⊢
  rw [hD] at hDl ⊢
  obtain ⟨M, hM⟩ : ∃ M, D.length = M := ⟨_, rfl⟩
  rw [hM] at cW hDl
  have hdec : (¬ P < 0) ∨ (P < 0 ∧ ¬ (4096 : Int) ≤ (N : Int)) := by
    rcases hpos with ⟨h8, h9⟩ | ⟨k, p, h8, _, _, _⟩
    · right
      rw [h9] at h6
      have : N < 4096 := h6.resolve_left (by simp)
      omega
    · left; omega
  clear hpos h6 hP hD hN
  rw [ht]
  have HM := Lib.hid hM
  clear hM
  have HT := Lib.hid ht
  clear ht
  rcases hdec with hd1 | ⟨hd1, hd2⟩
  all_goals
    have hb := From.refl w
    go_enter Try.func30, Try.ntmps30
    go_upto_region 1 with fail
    obtain ⟨gX, hgX⟩ : ∃ g, (w).heap.size = g := ⟨_, rfl⟩
    have X := Blk.newV hgX 28 #[.int .i64 now, .slice a N c]
    have hbn := (Below.refl (w).heap.size w).alloc (Nat.le_refl _) (.cells #[.int .i64 now, .slice a N c] 28)
    replace hb := hb.step hbn
    replace h := h.step hbn
    clear hbn
    rw [hgX]
    have szX := alloc_size hgX (.cells #[.int .i64 now, .slice a N c] 28)
    generalize (w).alloc (.cells #[.int .i64 now, .slice a N c] 28) = w1 at *
    obtain ⟨gR, hgR⟩ : ∃ g, (w1).heap.size = g := ⟨_, rfl⟩
    have lt_X_R := X.lt
    rw [hgR] at lt_X_R
    have R := Blk.newV hgR 28 #[.int .i64 0, .slice none 0 0]
    have hbn := (Below.refl (w1).heap.size w1).alloc (Nat.le_refl _) (.cells #[.int .i64 0, .slice none 0 0] 28)
    replace hb := hb.step hbn
    replace h := h.step hbn
    replace X := X.step hbn
    clear hbn
    have egR : gX + 1 = gR := szX.symm.trans hgR
    rw [egR]
    clear szX
    generalize (w1).alloc (.cells #[.int .i64 0, .slice none 0 0] 28) = w2 at *
    have X_0 := X.cell (j := 0) rfl
    have X_1 := X.cell (j := 1) rfl
    have hXR : gX < gR := by omega
    have hXw : w.heap.size ≤ gX := by omega
    have HGX := Lib.hid hgX
    clear hgX
    go_wp2_with fail
    refine (cA _ h).mono ?_
    rintro e w3 ⟨rfl, hbn⟩
    replace X := X.step hbn
    replace X_0 := X.cell (j := 0) rfl
    replace X_1 := X.cell (j := 1) rfl
    replace R := R.step hbn
    replace h := h.step hbn
    replace hb := hb.step hbn
    clear hbn
    clear cA
    go_upto_region 6 with fail
  all_goals
    obtain ⟨gE, hgE⟩ : ∃ g, (w3).heap.size = g := ⟨_, rfl⟩
    have lt_X_E := X.lt
    rw [hgE] at lt_X_E
    have lt_R_E := R.lt
    rw [hgE] at lt_R_E
    have E := Blk.newV hgE 50 #[.int .i64 t, .int .i64 id]
    have hbn := (Below.refl (w3).heap.size w3).alloc (Nat.le_refl _) (.cells #[.int .i64 t, .int .i64 id] 50)
    replace X := X.step hbn
    replace X_0 := X.cell (j := 0) rfl
    replace X_1 := X.cell (j := 1) rfl
    replace R := R.step hbn
    replace h := h.step hbn
    replace hb := hb.step hbn
    clear hbn
    rw [hgE]
    generalize (w3).alloc (.cells #[.int .i64 t, .int .i64 id] 50) = w4 at *
    go_wp2_with fail
    refine (cW _ h).mono ?_
    rintro e w5 ⟨⟨a', c', rfl, hD⟩, hbn⟩
    have hz4 : gE < w4.heap.size := E.lt
    have hz5 := hbn.size
    replace X := X.step hbn
    replace X_0 := X.cell (j := 0) rfl
    replace X_1 := X.cell (j := 1) rfl
    replace R := R.step hbn
    replace E := E.step hbn
    replace hb := hb.step hbn
    clear hbn cW h
    go_upto_region 7 with fail
    have hDB := hD.hasB rfl
    have hDr := hD.ge
    obtain ⟨gG, hgG⟩ : ∃ g, (w5).heap.size = g := ⟨_, rfl⟩
    have lt_X_G := X.lt
    rw [hgG] at lt_X_G
    have lt_R_G := R.lt
    rw [hgG] at lt_R_G
    have lt_E_G := E.lt
    rw [hgG] at lt_E_G
    have G := Blk.newV hgG 28 #[.int .i64 now, .slice a' M c']
    have hbn := (Below.refl (w5).heap.size w5).alloc (Nat.le_refl _) (.cells #[.int .i64 now, .slice a' M c'] 28)
    replace X := X.step hbn
    replace X_0 := X.cell (j := 0) rfl
    replace X_1 := X.cell (j := 1) rfl
    replace R := R.step hbn
    replace E := E.step hbn
    replace hb := hb.step hbn
    replace hDB := hDB.step hbn
    clear hbn
    rw [hgG]
    generalize (w5).alloc (.cells #[.int .i64 now, .slice a' M c'] 28) = w6 at *
    rw [hgG] at hDB hz5
    have oE : gE < gG := by omega
    have oX : gX < gG := by omega
    have oR : gR < gG := by omega
    have oRE : gR < gE := by omega
    clear X_0 X_1
    clear hD hDr hgG hgE hgR lt_X_E lt_R_E lt_X_G lt_R_G lt_E_G hz4 hz5
  all_goals
    go_wp2_with fail
    go_loopw [11, 12, 13] (fun v11 v12 v13 wr => ∃ (k : Nat) (pb : Bool) (Ol : List (Int × Int)), v13 = .int .i64 k ∧ v12 = .bool pb ∧ k ≤ M ∧ Hid (InsI (id, t) D k pb Ol) ∧ RowD wr (gG + 1) v11 Ol ∧ HasB wr gG a' D ∧ Blk wr gX 28 [.int .i64 now, .slice a N c] ∧ Blk wr gR 28 [.int .i64 0, .slice none 0 0] ∧ Blk wr gE 50 [.int .i64 t, .int .i64 id] ∧ Blk wr gG 28 [.int .i64 now, .slice a' M c'] ∧ From w wr ∧ Ol.length ≤ k + pb.toNat) (fun _ _ i _ => M - (intOf i).toNat)
    case atStart => exact ⟨0, false, [], rfl, rfl, by omega, Lib.hid (InsI.start _ _), World.ownsRow_nil _ _ _ _, hDB, X, R, E, G, hb, by simp⟩
    case round =>
      clear hDB X R E G hb
      obtain ⟨k, pb, Ol, rfl, rfl, hk, hI, hv, hDB, X, R, E, G, hb, hOl⟩ := hrel
      have k0 : (0 : Int) ≤ (k : Int) := by omega
      have k2 : (k : Int) ≤ 5000 := by omega
      by_cases hlt : k < M
      · obtain ⟨p, hp⟩ : ∃ p, D[k]? = some p := ⟨D[k]'(by rw [HM.out]; exact hlt), by simp [HM.out, hlt]⟩
        have k1 : (k : Int) < (M : Int) := by omega
        have caE := fun W => ahead_any (id, t) p W
        cases pb
        · have hOl : Ol.length ≤ k := hOl
          cases hah : aheadB (id, t) p
          · have hI2 := Lib.hid (hI.out.pass hp hah)
            rw [hah] at caE
            obtain ⟨p1, p2⟩ := p
            simp only at caE
            obtain ⟨b, off, rfl, d0, d1⟩ := hDB.1 k (p1, p2) hp
            simp only at d0 d1
            have HP := Lib.hid hp
            clear hp hI
            have g1 := G.cell (j := 1) rfl
            go_upto_region 12 with fail
            clear g1
            have d0 := extA_cell d0
            have d1 := extA_cell d1
            have g0 := extA_cell (G.cell (j := 1) rfl)
            have e0 := extA_cell (E.cell (j := 0) rfl)
            have e1 := extA_cell (E.cell (j := 1) rfl)
            refine wp_region_extB (by kernel_rfl) (by kernel_rfl) ?_
            repeat
              (first
                | go_big_quiet_skip
                | (go_big_quiet_want
                   go_big_quiet_op
                   first
                     | go_big_quiet_on
                     | (apply Exists.intro
                        refine ⟨fun w' hC => ?_, ?_⟩
                        · (first
                            | with_reducible rfl
                            | (go_at_call 43; refine (caE _).mono ?_; rintro e w2 ⟨rfl, hb9⟩; exact ⟨rfl, extB_then hC hb9⟩)
                            | (go_simp; done)
                            | (go_simp; with_reducible rfl))
                        go_big_quiet_on)))
            refine wpQuiet_nil ?_
            intro w9 hbn
            replace d0 := d0 _ hbn
            replace d1 := d1 _ hbn
            clear g0 e0 e1 caE
            replace X := X.step hbn
            replace R := R.step hbn
            replace E := E.step hbn
            replace G := G.step hbn
            replace hb := hb.step hbn
            replace hDB := hDB.step hbn
            replace hv := hv.step hbn
            clear hbn
            have g0 := G.cell (j := 1) rfl
            have e0 := E.cell (j := 0) rfl
            have e1 := E.cell (j := 1) rfl
            have hRl := G.lt
            go_wp2_with (first
              | (at_builtin
                 refine wpList_append_own_at _ rfl (.tmp 78) (.tmp 84) 26 rfl (gG + 1) 50 i0 (.agg #[.int .i64 0, .int .i64 0]) 2 16 Try.underlying26 hi0 hz0 hz1 hz2 rfl (by decide) u11 (Ol).length (cellsD (Ol)) (by rfl) (hv.step ((Below.refl _ _).alloc (Nat.le_refl _) _)) ⟨w9.heap.size, 0, none⟩ 1 1 [.int .i64 p2, .int .i64 p1] (by rfl) rfl (Blk.new w9 50 [.int .i64 p2, .int .i64 p1]).news (by simp [Value.oneCell']) (by unfold maxLen; omega) (by omega) (by simp; omega) ?_
                 intro v3 w10 row3 hgr3 _ _)
              | fail)
            have hk3 : Kx (u11).ownBlock.toList w9 w10 := (((Kx.refl [] w9).alloc _).mono (by simp)).trans (kx_grown hgr3)
            have hv1 : ∀ z, z ∈ (u11).ownBlock.toList → gG + 1 ≤ z := fun z hz => (hv.ge z (by simpa using hz)).1
            replace hDB := hDB.kx hk3 (fun z hz => by have := hv1 z hz; omega)
            replace X := X.kx hk3 (fun hm => by have := hv1 _ hm; omega)
            replace R := R.kx hk3 (fun hm => by have := hv1 _ hm; omega)
            replace E := E.kx hk3 (fun hm => by have := hv1 _ hm; omega)
            replace G := G.kx hk3 (fun hm => by have := hv1 _ hm; omega)
            replace hb := hb.kx hk3 (fun z hz => by have := hv1 z hz; omega)
            rw [cellsD_app] at row3
            replace hv : RowD w10 (gG + 1) v3 (Ol ++ [(p1, p2)]) := by
              unfold RowD
              rw [List.length_append, List.length_cons, List.length_nil]
              exact row3
            clear hgr3 hk3 row3 hv1
            go_roundw
            case rel => exact ⟨k + 1, false, Ol ++ [(p1, p2)], by go_num, rfl, by omega, hI2, hv, hDB, X, R, E, G, hb, by simp [Bool.toNat]; omega⟩
            case measure => simp [intOf]; omega
          · have hI2 := Lib.hid (hI.out.put hp hah)
            rw [hah] at caE
            obtain ⟨p1, p2⟩ := p
            simp only at caE
            obtain ⟨b, off, rfl, d0, d1⟩ := hDB.1 k (p1, p2) hp
            simp only at d0 d1
            have HP := Lib.hid hp
            clear hp hI
            have g1 := G.cell (j := 1) rfl
            go_upto_region 12 with fail
            clear g1
            have d0 := extA_cell d0
            have d1 := extA_cell d1
            have g0 := extA_cell (G.cell (j := 1) rfl)
            have e0 := extA_cell (E.cell (j := 0) rfl)
            have e1 := extA_cell (E.cell (j := 1) rfl)
            refine wp_region_extB (by kernel_rfl) (by kernel_rfl) ?_
            repeat
              (first
                | go_big_quiet_skip
                | (go_big_quiet_want
                   go_big_quiet_op
                   first
                     | go_big_quiet_on
                     | (apply Exists.intro
                        refine ⟨fun w' hC => ?_, ?_⟩
                        · (first
                            | with_reducible rfl
                            | (go_at_call 43; refine (caE _).mono ?_; rintro e w2 ⟨rfl, hb9⟩; exact ⟨rfl, extB_then hC hb9⟩)
                            | (go_simp; done)
                            | (go_simp; with_reducible rfl))
                        go_big_quiet_on)))
            refine wpQuiet_nil ?_
            intro w9 hbn
            replace d0 := d0 _ hbn
            replace d1 := d1 _ hbn
            clear g0 e0 e1 caE
            replace X := X.step hbn
            replace R := R.step hbn
            replace E := E.step hbn
            replace G := G.step hbn
            replace hb := hb.step hbn
            replace hDB := hDB.step hbn
            replace hv := hv.step hbn
            clear hbn
            have g0 := G.cell (j := 1) rfl
            have e0 := E.cell (j := 0) rfl
            have e1 := E.cell (j := 1) rfl
            have hRl := G.lt
            go_upto_region 14 with (first
              | (at_builtin
                 refine wpList_append_own_at _ rfl (.tmp 74) (.tmp 76) 26 rfl (gG + 1) 50 i0 (.agg #[.int .i64 0, .int .i64 0]) 2 16 Try.underlying26 hi0 hz0 hz1 hz2 rfl (by decide) u11 (Ol).length (cellsD (Ol)) (by rfl) (hv.step ((Below.refl _ _).alloc (Nat.le_refl _) _)) ⟨w9.heap.size, 0, none⟩ 1 1 [.int .i64 t, .int .i64 id] (by rfl) rfl (Blk.new w9 50 [.int .i64 t, .int .i64 id]).news (by simp [Value.oneCell']) (by unfold maxLen; omega) (by omega) (by simp; omega) ?_
                 intro v3 w10 row3 hgr3 _ _)
              | fail)
            have hk3 : Kx (u11).ownBlock.toList w9 w10 := (((Kx.refl [] w9).alloc _).mono (by simp)).trans (kx_grown hgr3)
            have hv1 : ∀ z, z ∈ (u11).ownBlock.toList → gG + 1 ≤ z := fun z hz => (hv.ge z (by simpa using hz)).1
            replace hDB := hDB.kx hk3 (fun z hz => by have := hv1 z hz; omega)
            replace X := X.kx hk3 (fun hm => by have := hv1 _ hm; omega)
            replace R := R.kx hk3 (fun hm => by have := hv1 _ hm; omega)
            replace E := E.kx hk3 (fun hm => by have := hv1 _ hm; omega)
            replace G := G.kx hk3 (fun hm => by have := hv1 _ hm; omega)
            replace hb := hb.kx hk3 (fun z hz => by have := hv1 z hz; omega)
            rw [cellsD_app] at row3
            replace hv : RowD w10 (gG + 1) v3 (Ol ++ [(id, t)]) := by
              unfold RowD
              rw [List.length_append, List.length_cons, List.length_nil]
              exact row3
            clear hgr3 hk3 row3 hv1
            obtain ⟨b2, off2, hA, d0, d1⟩ := hDB.1 k (p1, p2) HP.out
            cases hA
            simp only at d0 d1
            have hOl2 : (Ol ++ [(id, t)]).length ≤ k + 1 := by simp; omega
            clear g0 e0 e1 hRl
            generalize hO3 : Ol ++ [(id, t)] = O3 at *
            clear hO3 hOl
            have g0 := G.cell (j := 1) rfl
            have e0 := E.cell (j := 0) rfl
            have e1 := E.cell (j := 1) rfl
            have hRl := G.lt
            go_wp2_with (first
              | (at_builtin
                 refine wpList_append_own_at _ rfl (.tmp 78) (.tmp 84) 26 rfl (gG + 1) 50 i0 (.agg #[.int .i64 0, .int .i64 0]) 2 16 Try.underlying26 hi0 hz0 hz1 hz2 rfl (by decide) v3 (O3).length (cellsD (O3)) (by rfl) (hv.step ((Below.refl _ _).alloc (Nat.le_refl _) _)) ⟨w10.heap.size, 0, none⟩ 1 1 [.int .i64 p2, .int .i64 p1] (by rfl) rfl (Blk.new w10 50 [.int .i64 p2, .int .i64 p1]).news (by simp [Value.oneCell']) (by unfold maxLen; omega) (by omega) (by simp; omega) ?_
                 intro v4 w11 row3 hgr3 _ _)
              | fail)
            have hk3 : Kx (v3).ownBlock.toList w10 w11 := (((Kx.refl [] w10).alloc _).mono (by simp)).trans (kx_grown hgr3)
            have hv1 : ∀ z, z ∈ (v3).ownBlock.toList → gG + 1 ≤ z := fun z hz => (hv.ge z (by simpa using hz)).1
            replace hDB := hDB.kx hk3 (fun z hz => by have := hv1 z hz; omega)
            replace X := X.kx hk3 (fun hm => by have := hv1 _ hm; omega)
            replace R := R.kx hk3 (fun hm => by have := hv1 _ hm; omega)
            replace E := E.kx hk3 (fun hm => by have := hv1 _ hm; omega)
            replace G := G.kx hk3 (fun hm => by have := hv1 _ hm; omega)
            replace hb := hb.kx hk3 (fun z hz => by have := hv1 z hz; omega)
            rw [cellsD_app] at row3
            replace hv : RowD w11 (gG + 1) v4 (O3 ++ [(p1, p2)]) := by
              unfold RowD
              rw [List.length_append, List.length_cons, List.length_nil]
              exact row3
            clear hgr3 hk3 row3 hv1
            go_roundw
            case rel => exact ⟨k + 1, true, O3 ++ [(p1, p2)], by go_num, rfl, by omega, hI2, hv, hDB, X, R, E, G, hb, by simp [Bool.toNat]; omega⟩
            case measure => simp [intOf]; omega
        · have hOl : Ol.length ≤ k + 1 := hOl
          have hI2 := Lib.hid (hI.out.stay hp)
          obtain ⟨p1, p2⟩ := p
          simp only at caE
          obtain ⟨b, off, rfl, d0, d1⟩ := hDB.1 k (p1, p2) hp
          simp only at d0 d1
          have HP := Lib.hid hp
          clear hp hI
          have g1 := G.cell (j := 1) rfl
          go_upto_region 12 with fail
          clear g1
          have d0 := extA_cell d0
          have d1 := extA_cell d1
          have g0 := extA_cell (G.cell (j := 1) rfl)
          have e0 := extA_cell (E.cell (j := 0) rfl)
          have e1 := extA_cell (E.cell (j := 1) rfl)
          refine wp_region_extB (by kernel_rfl) (by kernel_rfl) ?_
          repeat
            (first
              | go_big_quiet_skip
              | (go_big_quiet_want
                 go_big_quiet_op
                 first
                   | go_big_quiet_on
                   | (apply Exists.intro
                      refine ⟨fun w' hC => ?_, ?_⟩
                      · (first
                          | with_reducible rfl
                          | fail
                          | (go_simp; done)
                          | (go_simp; with_reducible rfl))
                      go_big_quiet_on)))
          refine wpQuiet_nil ?_
          intro w9 hbn
          replace d0 := d0 _ hbn
          replace d1 := d1 _ hbn
          clear g0 e0 e1 caE
          replace X := X.step hbn
          replace R := R.step hbn
          replace E := E.step hbn
          replace G := G.step hbn
          replace hb := hb.step hbn
          replace hDB := hDB.step hbn
          replace hv := hv.step hbn
          clear hbn
          have g0 := G.cell (j := 1) rfl
          have e0 := E.cell (j := 0) rfl
          have e1 := E.cell (j := 1) rfl
          have hRl := G.lt
          go_wp2_with (first
            | (at_builtin
               refine wpList_append_own_at _ rfl (.tmp 78) (.tmp 84) 26 rfl (gG + 1) 50 i0 (.agg #[.int .i64 0, .int .i64 0]) 2 16 Try.underlying26 hi0 hz0 hz1 hz2 rfl (by decide) u11 (Ol).length (cellsD (Ol)) (by rfl) (hv.step ((Below.refl _ _).alloc (Nat.le_refl _) _)) ⟨w9.heap.size, 0, none⟩ 1 1 [.int .i64 p2, .int .i64 p1] (by rfl) rfl (Blk.new w9 50 [.int .i64 p2, .int .i64 p1]).news (by simp [Value.oneCell']) (by unfold maxLen; omega) (by omega) (by simp; omega) ?_
               intro v3 w10 row3 hgr3 _ _)
            | fail)
          have hk3 : Kx (u11).ownBlock.toList w9 w10 := (((Kx.refl [] w9).alloc _).mono (by simp)).trans (kx_grown hgr3)
          have hv1 : ∀ z, z ∈ (u11).ownBlock.toList → gG + 1 ≤ z := fun z hz => (hv.ge z (by simpa using hz)).1
          replace hDB := hDB.kx hk3 (fun z hz => by have := hv1 z hz; omega)
          replace X := X.kx hk3 (fun hm => by have := hv1 _ hm; omega)
          replace R := R.kx hk3 (fun hm => by have := hv1 _ hm; omega)
          replace E := E.kx hk3 (fun hm => by have := hv1 _ hm; omega)
          replace G := G.kx hk3 (fun hm => by have := hv1 _ hm; omega)
          replace hb := hb.kx hk3 (fun z hz => by have := hv1 z hz; omega)
          rw [cellsD_app] at row3
          replace hv : RowD w10 (gG + 1) v3 (Ol ++ [(p1, p2)]) := by
            unfold RowD
            rw [List.length_append, List.length_cons, List.length_nil]
            exact row3
          clear hgr3 hk3 row3 hv1
          go_roundw
          case rel => exact ⟨k + 1, true, Ol ++ [(p1, p2)], by go_num, rfl, by omega, hI2, hv, hDB, X, R, E, G, hb, by simp [Bool.toNat]; omega⟩
          case measure => simp [intOf]; omega
      · obtain rfl : k = M := by omega
        have g1 := G.cell (j := 1) rfl
        have e0 := E.cell (j := 0) rfl
        have e1 := E.cell (j := 1) rfl
        have hRl := G.lt
        have hm := HM.out
        cases pb
        case' false =>
          have hOl : Ol.length ≤ k := hOl
          have hfin := Lib.hid (hI.out.end0 (by omega))
          clear hm
          go_upto_region 17 with (first
            | (at_builtin
               refine wpList_append_own_at _ rfl (.tmp 88) (.tmp 90) 26 rfl (gG + 1) 50 i0 (.agg #[.int .i64 0, .int .i64 0]) 2 16 Try.underlying26 hi0 hz0 hz1 hz2 rfl (by decide) u11 (Ol).length (cellsD (Ol)) (by rfl) (hv.step ((Below.refl _ _).alloc (Nat.le_refl _) _)) ⟨wr.heap.size, 0, none⟩ 1 1 [.int .i64 t, .int .i64 id] (by rfl) rfl (Blk.new wr 50 [.int .i64 t, .int .i64 id]).news (by simp [Value.oneCell']) (by unfold maxLen; omega) (by omega) (by simp; omega) ?_
               intro v3 w10 row3 hgr3 _ _)
            | fail)
          have hk3 : Kx (u11).ownBlock.toList wr w10 := (((Kx.refl [] wr).alloc _).mono (by simp)).trans (kx_grown hgr3)
          have hv1 : ∀ z, z ∈ (u11).ownBlock.toList → gG + 1 ≤ z := fun z hz => (hv.ge z (by simpa using hz)).1
          replace hDB := hDB.kx hk3 (fun z hz => by have := hv1 z hz; omega)
          replace X := X.kx hk3 (fun hm => by have := hv1 _ hm; omega)
          replace R := R.kx hk3 (fun hm => by have := hv1 _ hm; omega)
          replace E := E.kx hk3 (fun hm => by have := hv1 _ hm; omega)
          replace G := G.kx hk3 (fun hm => by have := hv1 _ hm; omega)
          replace hb := hb.kx hk3 (fun z hz => by have := hv1 z hz; omega)
          rw [cellsD_app] at row3
          replace hv : RowD w10 (gG + 1) v3 (Ol ++ [(id, t)]) := by
            unfold RowD
            rw [List.length_append, List.length_cons, List.length_nil]
            exact row3
          clear hgr3 hk3 row3 hv1
          clear g1 e0 e1 hRl
          generalize Ol ++ [(id, t)] = O3 at *
        case' true =>
          have hfin := Lib.hid (hI.out.end1 (by omega))
          clear hm
          go_upto_region 17 with fail
          clear g1 e0 e1 hRl
          generalize wr = w10 at *
          generalize u11 = v3 at *
          generalize Ol = O3 at *
        all_goals
          obtain ⟨a4, c4, rfl, -⟩ := row_form hv
          have x0 := kx_all (ws := [gR]) (X.cell (j := 0) rfl) (by simp; omega)
          have e0 := kx_all (ws := [gR]) (E.cell (j := 0) rfl) (by simp; omega)
          clear hDB G hI hOl
          refine wp_region_held (S := Kx [gR] w10) (by kernel_rfl) ?_
          have hst : Below (w10).heap.size w10 { w10 with drawn := (w10).drawn + 1 } := ⟨rfl, rfl, rfl, Nat.le_refl _, fun _ _ => rfl⟩
          have hS : (Kx [gR] w10) { w10 with drawn := (w10).drawn + 1 } := by first | exact ⟨rfl, rfl, rfl, Nat.le_refl _, fun _ _ _ => rfl⟩ | exact ⟨rfl, rfl, rfl, Nat.le_refl _, fun _ _ => rfl⟩ | exact hS0
          replace R := R.step hst
          replace hv := hv.step hst
          replace hb := hb.step hst
          clear hst
          generalize ({ w10 with drawn := (w10).drawn + 1 } : World) = wq at *
          refine wpAnyH_take (i := 0) (v := ?_) rfl (by kernel_rfl) (by kernel_rfl) (by kernel_rfl) (fun _ _ _ h => h) (Or.inl ⟨by kernel_rfl, ?_⟩) hS ?_
          rotate_left
          · intro W hSW
            have y0 := x0 _ hSW
            have y1 := e0 _ hSW
            go_simp
            try with_reducible rfl
          dsimp only [Act.put]
          refine wpAnyH_take (i := 1) (v := ?_) rfl (by kernel_rfl) (by kernel_rfl) (by kernel_rfl) (fun _ _ _ h => h) (Or.inl ⟨by kernel_rfl, ?_⟩) hS ?_
          rotate_left
          · intro W hSW
            have y0 := x0 _ hSW
            have y1 := e0 _ hSW
            go_simp
            try with_reducible rfl
          dsimp only [Act.put]
          refine wpAnyH_take (i := 2) (v := ?_) rfl (by kernel_rfl) (by kernel_rfl) (by kernel_rfl) (fun _ _ _ h => h) (Or.inl ⟨by kernel_rfl, ?_⟩) hS ?_
          rotate_left
          · intro W hSW
            have y0 := x0 _ hSW
            have y1 := e0 _ hSW
            go_simp
            try with_reducible rfl
          dsimp only [Act.put]
          refine wpAnyH_take (i := 3) (v := ?_) rfl (by kernel_rfl) (by kernel_rfl) (by kernel_rfl) (fun _ _ _ h => h) (Or.inl ⟨by kernel_rfl, ?_⟩) hS ?_
          rotate_left
          · intro W hSW
            have y0 := x0 _ hSW
            have y1 := e0 _ hSW
            go_simp
            try with_reducible rfl
          dsimp only [Act.put]
          refine wpAnyH_take (i := 4) (v := ?_) rfl (by kernel_rfl) (by kernel_rfl) (by kernel_rfl) (fun _ _ _ h => h) (Or.inl ⟨by kernel_rfl, ?_⟩) hS ?_
          rotate_left
          · intro W hSW
            have y0 := x0 _ hSW
            have y1 := e0 _ hSW
            go_simp
            try with_reducible rfl
          dsimp only [Act.put]
          refine wpAnyH_take (i := 5) (v := ?_) rfl (by kernel_rfl) (by kernel_rfl) (by kernel_rfl) (fun _ _ _ h => h) (Or.inl ⟨by kernel_rfl, ?_⟩) hS ?_
          rotate_left
          · intro W hSW
            have y0 := x0 _ hSW
            have y1 := e0 _ hSW
            go_simp
            try with_reducible rfl
          dsimp only [Act.put]
          have R_0 := R.cell (j := 0) rfl
          have R_1 := R.cell (j := 1) rfl
          have Rf0 := R.frozen 0
          have Rf1 := R.frozen 1
          refine wpAnyH_ready (rs := [6]) (by kernel_rfl) (by simp) ?_
          refine AllReadyH.cons rfl (fun K hK => ?_) AllReadyH.nil
          go_simp
          have hkk : Kx [gR] wq ((wq.setCell ⟨gR, 0, none⟩ (.int .i64 now)).setCell ⟨gR, 1, none⟩ (.slice a4 O3.length c4)) := ((Kx.refl _ _).setCell (.inl (by simp)) _).setCell (.inl (by simp)) _
          replace hv := hv.kx hkk (fun j hj hm => by have := (hv.ge j hj).1; simp at hm; omega)
          replace hb := hb.kx hkk (fun x hx => by simp at hx; omega)
          refine hK.out _ _ (hS.trans hkk) (fun hS => ?_)
          clear hkk
          clear hK K
          refine wpAnyH_ready (rs := [7]) (by kernel_rfl) (by simp) ?_
          refine AllReadyH.cons rfl (fun K hK => ?_) AllReadyH.nil
          go_simp
          refine hK.out _ _ hS (fun hS => ?_)
          clear hK K
          refine wpAnyH_ready (rs := [8]) (by kernel_rfl) (by simp) ?_
          refine AllReadyH.cons rfl (fun K hK => ?_) AllReadyH.nil
          go_simp
          refine hK.out _ _ hS (fun hS => ?_)
          clear hK K
          refine wpAnyH_done (by kernel_rfl) ?_ _
          have HQ : ∀ e, e = .returned (.tuple #[.agg #[.int .i64 now, .slice a4 O3.length c4], .int .i64 t, .int .i64 0]) → RefP w (.slice a N c) now (insD (id, t) D) [.int .i64 t, .int .i64 0] e _ := fun e he => by
            rw [← hfin.out]
            exact refP_new he hv (by omega) hb
          clear hv hb hS
          go_wp2_with fail
          refine bodyPost_ret (v := .tuple #[.agg #[.int .i64 now, .slice a4 O3.length c4], .int .i64 t, .int .i64 0]) ?_ rfl (HQ _ rfl)
          rw [r_cell1tt rfl]
          go_simp
theorem refSet_any (now : Int) (a : Option Addr) (c : Nat) (L : List (Int × Int)) (id after : Int) (w : World) (h : RowD w 0 (.slice a L.length c) L) (hG : GoodW now L) :
    Calls Try.prog 30 #[.agg #[.int .i64 now, .slice a L.length c], .int .i64 id, .int .i64 after] w (RefP w (.slice a L.length c) now (setL now L id after) [.int .i64 (setA now L id after), .int .i64 (setE now L id after)]) := by
  have hl : L.length ≤ 5000 := by have := hG.len; omega
  unfold setA setL setE
  cases h1 : inI id 0
  · simp only [true_or, if_true]
    exact refSet_bad now a c L id after w h hl (.inl h1)
  · cases h2 : inI after 1
    · simp only [or_true, if_true]
      exact refSet_bad now a c L id after w h hl (.inr h2)
    · simp only [Bool.true_eq_false, or_self, if_false]
      by_cases h3 : ((getF L id).isSome = false ∧ 4096 ≤ L.length) ∨ 4611686018427387904 - after < now
      · rw [if_pos h3]
        exact refSet_long now a c L id after w h hl hG.n0 hG.n1 h1 h2 h3
      · rw [if_neg h3]
        refine refSet_yes now a c L id after w h hl hG.n0 hG.n1 h1 h2 ?_ ?_
        · cases h4 : (getF L id).isSome
          · right
            by_cases h5 : 4096 ≤ L.length
            · exact absurd (.inl ⟨h4, h5⟩) h3
            · omega
          · exact .inl rfl
        · by_cases h6 : 4611686018427387904 - after < now
          · exact absurd (.inr h6) h3
          · omega
end Go.Proofs.Ytfdfmmmfklodgaa
