
/- Package wheel: Copy. -/
import Derived.Test.YtfdfmmmfklodgaaWhN
import Derived.Deep.MidRow
namespace Go.Proofs.Ytfdfmmmfklodgaa
set_option linter.unusedSimpArgs false
set_option linter.unusedVariables false
open Go.RowKit Go.Maps Go.Shelf
theorem Blk.range {W : World} {b : Nat} {t : TypeId} {cs : List Value} (h : Blk W b t cs) : W.rangeAt b 0 cs := fun j u hj => by
  rw [Nat.zero_add]; exact h.cell hj
theorem clone_map {w : World} {b : Nat} {l : List (Int × Int)} (h : MapF w b l) : Calls Try.prog 41 #[.map (some b)] w fun e w' => e = .returned (.map (some w.heap.size)) ∧ MapF w' w.heap.size l ∧ Below w.heap.size w w' := by
  obtain ⟨es, ho, hp, hn⟩ := h
  refine (AnyW.maps_Clone_owns Try.cloneM 2 (plainElem (H := Unit) Try.prog 2) b l.length _ w ho).mono ?_
  rintro e w' ⟨h1, h2, _, h4⟩
  exact ⟨h1, ⟨es, h2, hp, hn⟩, h4⟩
theorem clone_nil (w : World) : Calls Try.prog 41 #[.map none] w fun e w' => e = .returned (.map none) ∧ w = w' :=
  (AnyW.maps_Clone_nil Try.cloneM w).mono (fun _ _ ⟨h1, h2⟩ => ⟨h1, h2.symm⟩)
theorem index_slots (sb : Nat → Option Nat) (k : Nat) (hk : k < 64) (w : World) : (Instr.index 65 (.agg (slotsV sb).toArray) (.int .i64 k)).run Try.prog w = .ok (.map (sb k)) w := by
  have hn : (0 : Int) ≤ (k : Int) ∧ (k : Int) < ((64 : Nat) : Int) := by omega
  have hag : (isAgg 64).run Try.prog w = .ok false w := by kernel_rfl
  have hsz : (sizeOf 64).run Try.prog w = .ok 1 w := by kernel_rfl
  have hx : (slotsV sb)[k]? = some (.map (sb k)) := by simp [slotsV, hk]
  have hp : (part 64 (slotsV sb).toArray (k * 1)).run Try.prog w = .ok (.map (sb k)) w := by
    unfold part
    rw [Sem.run_bind, hag]
    simp only [Result.andThen_ok]
    simp [hx]
  simp only [Instr.index, asIntOf, Sem.run_bind, Sem.run_pure, Result.andThen_ok, run_underlying Try.underlying65]
  rw [if_pos hn, Sem.run_bind, hsz]
  simp only [Result.andThen_ok, Int.toNat_natCast]
  exact hp
/-- A slot's map is laid. -/
theorem WhT.putSlot {w : World} {xs : List Nat} {g : Nat} {now : Int} {A : List (Int × Int)} {F : Nat → List (Int × Int)} {sb : Nat → Option Nat} {ba i m : Nat} {l : List (Int × Int)} (h : WhT w xs g now A F sb ba) (hi : i < 64) (hm : MapF w m l) (hx : m ∉ xs) :
    WhT (w.setCell ⟨g, 1 + i, none⟩ (.map (some m))) (m :: xs) g now A (updF F i l) (updS sb i m) ba := by
  have hkx : Kx [g] w (w.setCell ⟨g, 1 + i, none⟩ (.map (some m))) := (Kx.refl [g] w).setCell (.inl (by simp)) _
  refine ⟨?_, h.all.kx hkx (by simpa using h.all.ne_blk h.blk), ?_, ?_, ?_, ?_, fun x hx => ?_⟩
  · have := h.blk.set (1 + i) (.map (some m))
    rw [Nat.add_comm 1 i, whL_set hi] at this
    rw [Nat.add_comm 1 i]
    exact this
  · intro j hj
    by_cases e : j = i
    · subst e
      refine .inr ⟨m, by simp [updS], ?_⟩
      simp only [updF, if_true]
      exact hm.kx hkx (by simpa using hm.ne_blk h.blk)
    · rcases h.slot j hj with ⟨e1, e2⟩ | ⟨b', e1, hm'⟩
      · exact .inl ⟨by simp [updS, e, e1], by simp [updF, e, e2]⟩
      · exact .inr ⟨b', by simp [updS, e, e1], by simp only [updF, if_neg e]; exact hm'.kx hkx (by simpa using hm'.ne_blk h.blk)⟩
  · intro j k b hj hk e1 e2
    unfold updS at e1 e2
    split at e1 <;> split at e2
    · omega
    · cases e1; exact absurd (h.own.2.2 k _ hk e2) hx
    · cases e2; exact absurd (h.own.2.2 j _ hj e1) hx
    · exact h.one j k b hj hk e1 e2
  · intro j hj e1
    unfold updS at e1
    split at e1
    · cases e1; exact hx h.own.2.1
    · exact h.apart j hj e1
  · refine ⟨List.mem_cons_of_mem _ h.own.1, List.mem_cons_of_mem _ h.own.2.1, fun j b hj e1 => ?_⟩
    unfold updS at e1
    split at e1
    · cases e1; simp
    · exact List.mem_cons_of_mem _ (h.own.2.2 j b hj e1)
  · have h2 : (w.setCell ⟨g, 1 + i, none⟩ (.map (some m))).heap.size = w.heap.size := by simp [World.setCell]
    rw [h2]
    rcases List.mem_cons.1 hx with rfl | h3
    · exact hm.lt
    · exact h.lt x h3
/-- A slot without a map, laid anew. -/
theorem WhT.putNone {w : World} {xs : List Nat} {g : Nat} {now : Int} {A : List (Int × Int)} {F : Nat → List (Int × Int)} {sb : Nat → Option Nat} {ba i : Nat} (h : WhT w xs g now A F sb ba) (hi : i < 64) (hs : sb i = none) :
    WhT (w.setCell ⟨g, 1 + i, none⟩ (.map none)) xs g now A F sb ba := by
  have hkx : Kx [g] w (w.setCell ⟨g, 1 + i, none⟩ (.map none)) := (Kx.refl [g] w).setCell (.inl (by simp)) _
  refine ⟨?_, h.all.kx hkx (by simpa using h.all.ne_blk h.blk), ?_, h.one, h.apart, h.own, fun x hx => Nat.lt_of_lt_of_le (h.lt x hx) hkx.size⟩
  · have h1 := h.blk.set (1 + i) (.map none)
    have h2 : (whL now sb ba).set (1 + i) (.map none) = whL now sb ba := by
      have h3 := whL_slot (now := now) (sb := sb) (ba := ba) i hi
      rw [hs] at h3
      rw [Nat.add_comm]
      apply List.ext_getElem?
      intro j
      rw [List.getElem?_set]
      split
      next e =>
        subst e
        have := (List.getElem?_eq_some_iff.1 h3).1
        rw [if_pos this, h3]
      next => rfl
    rw [h2] at h1
    exact h1
  · intro j hj
    rcases h.slot j hj with ⟨e1, e2⟩ | ⟨b', e1, hm'⟩
    · exact .inl ⟨e1, e2⟩
    · exact .inr ⟨b', e1, hm'.kx hkx (by simpa using hm'.ne_blk h.blk)⟩
/-- A wheel whose slots from k on are not laid yet. -/
def lowF (F : Nat → List (Int × Int)) (k : Nat) : Nat → List (Int × Int) := fun i => if i < k then F i else []
theorem lowF_next (F : Nat → List (Int × Int)) (k : Nat) (i : Nat) : updF (lowF F k) k (F k) i = lowF F (k + 1) i := by
  unfold updF lowF
  by_cases h1 : i = k
  · subst h1; simp
  · by_cases h2 : i < k
    · have : i < k + 1 := by omega
      simp [h1, h2, this]
    · have : ¬ i < k + 1 := by omega
      simp [h1, h2, this]
theorem load_clock {w : World} {g : Nat} {v : Value} (h : w.cell? ⟨g, 0, none⟩ = some v) : (loadVar 63 ⟨g, 0, none⟩).run Try.prog w = .ok (.agg #[v]) w := by
  refine run_loadVar_mid (P := Try.prog) w g 0 63 [v] _ ?_ Try.underlying63 rfl (by kernel_rfl)
  intro j u hj
  match j, hj with
  | 0, hj => simp at hj; subst hj; exact h
  | j + 1, hj => simp at hj
theorem zero_wh2 (now : Int) (ba : Nat) : (Try.zeroCells67.setIfInBounds 0 (.int .i64 now)).setIfInBounds 65 (.map (some ba)) = (whL now (fun _ => none) ba).toArray := by kernel_rfl
theorem WhT.range {w : World} {xs : List Nat} {g : Nat} {now : Int} {A : List (Int × Int)} {F : Nat → List (Int × Int)} {sb : Nat → Option Nat} {ba : Nat} (h : WhT w xs g now A F sb ba) : w.rangeAt g 1 (slotsV sb) := by
  intro j u hj
  have hl := (List.getElem?_eq_some_iff.1 hj).1
  rw [slots_len] at hl
  have hc := h.blk.cell (whL_slot j hl)
  rw [Nat.add_comm] at hc
  have : (slotsV sb)[j]? = some (.map (sb j)) := by simp [slotsV, hl]
  rw [this] at hj
  cases hj
  exact hc
theorem WhT.born {W : World} {gc bc : Nat} {now : Int} {L : List (Int × Int)} {F : Nat → List (Int × Int)} (hg : W.heap.size = gc) (hM : MapF W bc L) :
    WhT (W.alloc (.cells (whL now (fun _ => none) bc).toArray 67)) [bc, gc] gc now L (lowF F 0) (fun _ => none) bc where
  blk := Blk.newV hg _ _
  all := hM.step ((Below.refl _ _).alloc (Nat.le_refl _) _)
  slot _ _ := .inl ⟨rfl, by simp [lowF]⟩
  one _ _ _ _ _ h := by cases h
  apart _ _ h := by cases h
  own := ⟨by simp, by simp, fun _ _ _ h => by cases h⟩
  lt x hx := by
    rw [alloc_size hg]
    simp at hx
    have := hM.lt
    omega
set_option maxRecDepth 100000 in
set_option maxHeartbeats 4000000 in
theorem copy_wh (xs : List Nat) (g : Nat) (now : Int) (L : List (Int × Int)) (sb : Nat → Option Nat) (ba : Nat) (w : World) (h : WhW w xs g now L sb ba) :
    Calls Try.prog 26 #[.pointer (some ⟨g, 0, none⟩)] w fun e w' => (∃ gc xs', e = .returned (.pointer (some ⟨gc, 0, none⟩)) ∧ WhV w' xs' gc now L ∧ ∀ x, x ∈ xs' → w.heap.size ≤ x) ∧ Below w.heap.size w w' := by
  have cn := none_wh xs g now L _ sb ba w h
  have e0 := extA_cell (h.blk.cell (j := 0) rfl)
  have e65 := extA_cell h.cat
  go_enter Try.func26, Try.ntmps26
  go_wp2_with fail
  refine (cn).mono ?_
  rintro e _ ⟨rfl, rfl⟩
  go_upto_region 3 with fail
  refine wp_region_held (S := ExtA w) (by kernel_rfl) ?_
  have hst : Below (w).heap.size w { w with drawn := (w).drawn + 1 } := ⟨rfl, rfl, rfl, Nat.le_refl _, fun _ _ => rfl⟩
  have hS : (ExtA w) { w with drawn := (w).drawn + 1 } := by first | exact ⟨rfl, rfl, rfl, Nat.le_refl _, fun _ _ _ => rfl⟩ | exact ⟨rfl, rfl, rfl, Nat.le_refl _, fun _ _ => rfl⟩ | exact hS0
  have hq := h.step hst
  clear hst
  generalize ({ w with drawn := (w).drawn + 1 } : World) = wq at *
  refine wpAnyH_take (i := 0) (v := ?_) rfl (by kernel_rfl) (by kernel_rfl) (by kernel_rfl) (fun _ _ _ h => h) (Or.inl ⟨by kernel_rfl, ?_⟩) hS ?_
  rotate_left
  · intro W hSW
    have y0 := e0 _ hSW
    have y1 := e65 _ hSW
    go_simp
    try with_reducible rfl
  dsimp only [Act.put]
  refine wpAnyH_take (i := 1) (v := ?_) rfl (by kernel_rfl) (by kernel_rfl) (by kernel_rfl) (fun _ _ _ h => h) (Or.inl ⟨by kernel_rfl, ?_⟩) hS ?_
  rotate_left
  · intro W hSW
    have y0 := e0 _ hSW
    have y1 := e65 _ hSW
    go_simp
    try with_reducible rfl
  dsimp only [Act.put]
  refine wpAnyH_take (i := 2) (v := ?_) rfl (by kernel_rfl) (by kernel_rfl) (by kernel_rfl) (fun _ _ _ h => h) (Or.inl ⟨by kernel_rfl, ?_⟩) hS ?_
  rotate_left
  · intro W hSW
    have y0 := e0 _ hSW
    have y1 := e65 _ hSW
    go_simp
    try with_reducible rfl
  dsimp only [Act.put]
  refine wpAnyH_take (i := 3) (v := ?_) rfl (by kernel_rfl) (by kernel_rfl) (by kernel_rfl) (fun _ _ _ h => h) (Or.inl ⟨by kernel_rfl, ?_⟩) hS ?_
  rotate_left
  · intro W hSW
    have y0 := e0 _ hSW
    have y1 := e65 _ hSW
    go_simp
    try with_reducible rfl
  dsimp only [Act.put]
  refine wpAnyH_take (i := 4) (v := ?_) rfl (by kernel_rfl) (by kernel_rfl) (by kernel_rfl) (fun _ _ _ h => h) (Or.inl ⟨by kernel_rfl, ?_⟩) hS ?_
  rotate_left
  · intro W hSW
    have y0 := e0 _ hSW
    have y1 := e65 _ hSW
    go_simp
    try with_reducible rfl
  dsimp only [Act.put]
  refine wpAnyH_take (i := 5) (v := ?_) rfl (by kernel_rfl) (by kernel_rfl) (by kernel_rfl) (fun _ _ _ h => h) (Or.inl ⟨by kernel_rfl, ?_⟩) hS ?_
  rotate_left
  · intro W hSW
    have y0 := e0 _ hSW
    have y1 := e65 _ hSW
    go_simp
    try with_reducible rfl
  dsimp only [Act.put]
  refine wpAnyH_take (i := 6) (v := ?_) rfl (by kernel_rfl) (by kernel_rfl) (by kernel_rfl) (fun _ _ _ h => h) (Or.inl ⟨by kernel_rfl, ?_⟩) hS ?_
  rotate_left
  · intro W hSW
    have y0 := e0 _ hSW
    have y1 := e65 _ hSW
    go_simp
    try with_reducible rfl
  dsimp only [Act.put]
  refine wpAnyH_take (i := 7) (v := ?_) rfl (by kernel_rfl) (by kernel_rfl) (by kernel_rfl) (fun _ _ _ h => h) (Or.inl ⟨by kernel_rfl, ?_⟩) hS ?_
  rotate_left
  · intro W hSW
    have y0 := e0 _ hSW
    have y1 := e65 _ hSW
    go_simp
    try with_reducible rfl
  dsimp only [Act.put]
  refine wpAnyH_ready (rs := [8]) (by kernel_rfl) (by simp) ?_
  refine AllReadyH.cons rfl (fun K hK => ?_) AllReadyH.nil
  go_simp
  refine (clone_map hq.all).mono ?_
  rintro e wa ⟨rfl, hM, hbn⟩
  have ha := hq.step hbn
  obtain ⟨bc, hbc⟩ : ∃ b, wq.heap.size = b := ⟨_, rfl⟩
  have hwle : w.heap.size ≤ bc := by have := hS.size; omega
  rw [hbc] at hM ⊢
  refine hK.out _ _ (extB_then hS hbn) (fun hS => ?_)
  clear hbn hq
  clear hK K
  refine wpAnyH_ready (rs := [9]) (by kernel_rfl) (by simp) ?_
  refine AllReadyH.cons rfl (fun K hK => ?_) AllReadyH.nil
  go_simp
  rw [zero_wh2 now bc]
  refine hK.out _ _ (hS) (fun hS => ?_)
  clear hK K
  refine wpAnyH_ready (rs := [10]) (by kernel_rfl) (by simp) ?_
  refine AllReadyH.cons rfl (fun K hK => ?_) AllReadyH.nil
  go_simp
  obtain ⟨gc, hgc⟩ : ∃ n, wa.heap.size = n := ⟨_, rfl⟩
  have hC := WhT.born (now := now) (F := slotF L) hgc hM
  have hba := (Below.refl wa.heap.size wa).alloc (Nat.le_refl _) (.cells (whL now (fun _ => none) bc).toArray 67)
  have hb2 := ha.step hba
  have hle : w.heap.size ≤ bc ∧ w.heap.size ≤ gc := ⟨hwle, by have := hS.size; omega⟩
  refine hK.out _ _ (extB_then hS hba) (fun hS => ?_)
  rw [hgc]
  generalize wa.alloc (.cells (whL now (fun _ => none) bc).toArray 67) = wb at *
  clear hba hgc hM ha hwle
  clear hK K
  refine wpAnyH_ready (rs := [11]) (by kernel_rfl) (by simp) ?_
  refine AllReadyH.cons rfl (fun K hK => ?_) AllReadyH.nil
  go_simp
  refine hK.out _ _ hS (fun hS => ?_)
  clear hK K
  refine wpAnyH_done (by kernel_rfl) ?_ _
  skip
  have hRg := hb2.range
  have hi1 : (Try.prog.info? 65).map (·.size) = some (slotsV sb).length := by rw [slots_len]; kernel_rfl
  have hxs := Lib.hid h.lt
  clear h cn e0 e65
  go_wp2_with (first
    | (refine wpList_load_mid rfl 65 (.tmp 21) rfl g 1 (by rfl) (slotsV sb) _ hRg Try.underlying65 rfl hi1 ?_)
    | fail)
  clear hRg hi1
  go_loopw [23] (fun i wr => ∃ (k : Nat) (sbc : Nat → Option Nat) (xs' : List Nat), i = .int .i64 k ∧ k ≤ 64 ∧ WhT wr xs' gc now L (lowF (slotF L) k) sbc bc ∧ Hid (∀ x, x ∈ xs' → w.heap.size ≤ x) ∧ WhW wr xs g now L sb ba ∧ From w wr ∧ Hid (∀ i, k ≤ i → sbc i = none)) (fun i _ => 64 - (intOf i).toNat)
  case atStart => exact ⟨0, _, _, rfl, by omega, hC, Lib.hid (fun x hx => by simp at hx; rcases hx with rfl | rfl; exact hle.1; exact hle.2), hb2, hS, Lib.hid (fun _ _ => rfl)⟩
  case round =>
    clear hC hb2 hS
    obtain ⟨k, sbc, xs', rfl, hk, hC, hx', hO, hF, hN⟩ := hrel
    by_cases hlt : k < 64
    · have k0 : (0 : Int) ≤ (k : Int) := by omega
      have k1 : (k : Int) < 64 := by omega
      have qi := fun W => index_slots sb k hlt W
      have hsl := hO.slot k hlt
      have hsn := hN.out k (Nat.le_refl _)
      have hgcx := hx'.out gc hC.own.1
      go_upto_region 7 with fail
      rcases hsl with ⟨hs, hFk⟩ | ⟨m, hs, hm⟩
      · rw [hs] at qi ⊢
        refine wp_region_held (S := Kx [gc] wr) (by kernel_rfl) ?_
        have hst : Below (wr).heap.size wr { wr with drawn := (wr).drawn + 1 } := ⟨rfl, rfl, rfl, Nat.le_refl _, fun _ _ => rfl⟩
        have hS : (Kx [gc] wr) { wr with drawn := (wr).drawn + 1 } := by first | exact ⟨rfl, rfl, rfl, Nat.le_refl _, fun _ _ _ => rfl⟩ | exact ⟨rfl, rfl, rfl, Nat.le_refl _, fun _ _ => rfl⟩ | exact hS0
        have hCq := hC.step hst
        have hOq := hO.step hst
        have hFq := hF.step hst
        clear hst
        generalize ({ wr with drawn := (wr).drawn + 1 } : World) = wq at *
        refine wpAnyH_take (i := 0) (v := ?_) rfl (by kernel_rfl) (by kernel_rfl) (by kernel_rfl) (fun _ _ _ h => h) (Or.inl ⟨by kernel_rfl, ?_⟩) hS ?_
        rotate_left
        · intro W hSW
          go_simp
          try with_reducible rfl
        dsimp only [Act.put]
        refine wpAnyH_take (i := 1) (v := ?_) rfl (by kernel_rfl) (by kernel_rfl) (by kernel_rfl) (fun _ _ _ h => h) (Or.inl ⟨by kernel_rfl, ?_⟩) hS ?_
        rotate_left
        · intro W hSW
          go_simp
          try with_reducible rfl
        dsimp only [Act.put]
        refine wpAnyH_take (i := 2) (v := ?_) rfl (by kernel_rfl) (by kernel_rfl) (by kernel_rfl) (fun _ _ _ h => h) (Or.inl ⟨by kernel_rfl, ?_⟩) hS ?_
        rotate_left
        · intro W hSW
          go_simp
          try with_reducible rfl
        dsimp only [Act.put]
        refine wpAnyH_ready (rs := [3, 4]) (by kernel_rfl) (by simp) ?_
        refine AllReadyH.cons rfl (fun K hK => ?_) (AllReadyH.cons rfl (fun K hK => ?_) AllReadyH.nil)
        ·
          go_simp
          refine (clone_nil _).mono ?_
          rintro e wx ⟨rfl, rfl⟩
          refine hK.out _ _ (hS) (fun hS => ?_)
          clear hK K
          refine wpAnyH_ready (rs := [4]) (by kernel_rfl) (by simp) ?_
          refine AllReadyH.cons rfl (fun K hK => ?_) AllReadyH.nil
          go_simp
          refine hK.out _ _ (hS) (fun hS => ?_)
          clear hK K
          refine wpAnyH_ready (rs := [5]) (by kernel_rfl) (by simp) ?_
          refine AllReadyH.cons rfl (fun K hK => ?_) AllReadyH.nil
          go_simp
          refine hK.out _ _ (hS) (fun hS => ?_)
          clear hK K
          refine wpAnyH_ready (rs := [6]) (by kernel_rfl) (by simp) ?_
          refine AllReadyH.cons rfl (fun K hK => ?_) AllReadyH.nil
          go_simp
          refine hK.out _ _ (hS) (fun hS => ?_)
          clear hK K
          have fz := hCq.blk.frozen (1 + k)
          have cz := hCq.blk.cell (whL_slot k hlt)
          rw [Nat.add_comm] at cz
          refine wpAnyH_ready (rs := [7]) (by kernel_rfl) (by simp) ?_
          refine AllReadyH.cons rfl (fun K hK => ?_) AllReadyH.nil
          go_simp
          have hC2 := (hCq.putNone hlt hsn).slotsTo (F' := lowF (slotF L) (k + 1)) (fun i => by
            unfold lowF
            by_cases h1 : i < k
            · rw [if_pos h1, if_pos (by omega)]
            · rw [if_neg h1]
              by_cases h2 : i = k
              · subst h2; rw [if_pos (by omega), hFk]
              · rw [if_neg (by omega)])
          have hkk : Kx [gc] wq (wq.setCell ⟨gc, 1 + k, none⟩ (.map none)) := (Kx.refl _ _).setCell (.inl (by simp)) _
          have hO2 := hOq.kx hkk (fun x hx hm => by have := hxs.out x hx; simp at hm; omega)
          have hF2 := hFq.kx hkk (fun x hx => by simp at hx; omega)
          refine hK.out _ _ (hS.trans hkk) (fun hS => ?_)
          generalize wq.setCell ⟨gc, 1 + k, none⟩ (.map none) = wz at *
          clear hkk
          clear hK K
          refine wpAnyH_done (by kernel_rfl) ?_ _
          go_wp2_with fail
          go_roundw
          case rel => exact ⟨k + 1, sbc, xs', by go_num, by omega, hC2, hx', hO2, hF2, Lib.hid (fun i hi => hN.out i (by omega))⟩
          case measure => simp [intOf]; omega
        ·
          go_simp
          refine hK.out _ _ (hS) (fun hS => ?_)
          clear hK K
          refine wpAnyH_ready (rs := [3, 5]) (by kernel_rfl) (by simp) ?_
          refine AllReadyH.cons rfl (fun K hK => ?_) (AllReadyH.cons rfl (fun K hK => ?_) AllReadyH.nil)
          ·
            go_simp
            refine (clone_nil _).mono ?_
            rintro e wx ⟨rfl, rfl⟩
            refine hK.out _ _ (hS) (fun hS => ?_)
            clear hK K
            refine wpAnyH_ready (rs := [5]) (by kernel_rfl) (by simp) ?_
            refine AllReadyH.cons rfl (fun K hK => ?_) AllReadyH.nil
            go_simp
            refine hK.out _ _ (hS) (fun hS => ?_)
            clear hK K
            refine wpAnyH_ready (rs := [6]) (by kernel_rfl) (by simp) ?_
            refine AllReadyH.cons rfl (fun K hK => ?_) AllReadyH.nil
            go_simp
            refine hK.out _ _ (hS) (fun hS => ?_)
            clear hK K
            have fz := hCq.blk.frozen (1 + k)
            have cz := hCq.blk.cell (whL_slot k hlt)
            rw [Nat.add_comm] at cz
            refine wpAnyH_ready (rs := [7]) (by kernel_rfl) (by simp) ?_
            refine AllReadyH.cons rfl (fun K hK => ?_) AllReadyH.nil
            go_simp
            have hC2 := (hCq.putNone hlt hsn).slotsTo (F' := lowF (slotF L) (k + 1)) (fun i => by
              unfold lowF
              by_cases h1 : i < k
              · rw [if_pos h1, if_pos (by omega)]
              · rw [if_neg h1]
                by_cases h2 : i = k
                · subst h2; rw [if_pos (by omega), hFk]
                · rw [if_neg (by omega)])
            have hkk : Kx [gc] wq (wq.setCell ⟨gc, 1 + k, none⟩ (.map none)) := (Kx.refl _ _).setCell (.inl (by simp)) _
            have hO2 := hOq.kx hkk (fun x hx hm => by have := hxs.out x hx; simp at hm; omega)
            have hF2 := hFq.kx hkk (fun x hx => by simp at hx; omega)
            refine hK.out _ _ (hS.trans hkk) (fun hS => ?_)
            generalize wq.setCell ⟨gc, 1 + k, none⟩ (.map none) = wz at *
            clear hkk
            clear hK K
            refine wpAnyH_done (by kernel_rfl) ?_ _
            go_wp2_with fail
            go_roundw
            case rel => exact ⟨k + 1, sbc, xs', by go_num, by omega, hC2, hx', hO2, hF2, Lib.hid (fun i hi => hN.out i (by omega))⟩
            case measure => simp [intOf]; omega
          ·
            go_simp
            refine hK.out _ _ (hS) (fun hS => ?_)
            clear hK K
            refine wpAnyH_ready (rs := [3]) (by kernel_rfl) (by simp) ?_
            refine AllReadyH.cons rfl (fun K hK => ?_) AllReadyH.nil
            go_simp
            refine (clone_nil _).mono ?_
            rintro e wx ⟨rfl, rfl⟩
            refine hK.out _ _ (hS) (fun hS => ?_)
            clear hK K
            refine wpAnyH_ready (rs := [6]) (by kernel_rfl) (by simp) ?_
            refine AllReadyH.cons rfl (fun K hK => ?_) AllReadyH.nil
            go_simp
            refine hK.out _ _ (hS) (fun hS => ?_)
            clear hK K
            have fz := hCq.blk.frozen (1 + k)
            have cz := hCq.blk.cell (whL_slot k hlt)
            rw [Nat.add_comm] at cz
            refine wpAnyH_ready (rs := [7]) (by kernel_rfl) (by simp) ?_
            refine AllReadyH.cons rfl (fun K hK => ?_) AllReadyH.nil
            go_simp
            have hC2 := (hCq.putNone hlt hsn).slotsTo (F' := lowF (slotF L) (k + 1)) (fun i => by
              unfold lowF
              by_cases h1 : i < k
              · rw [if_pos h1, if_pos (by omega)]
              · rw [if_neg h1]
                by_cases h2 : i = k
                · subst h2; rw [if_pos (by omega), hFk]
                · rw [if_neg (by omega)])
            have hkk : Kx [gc] wq (wq.setCell ⟨gc, 1 + k, none⟩ (.map none)) := (Kx.refl _ _).setCell (.inl (by simp)) _
            have hO2 := hOq.kx hkk (fun x hx hm => by have := hxs.out x hx; simp at hm; omega)
            have hF2 := hFq.kx hkk (fun x hx => by simp at hx; omega)
            refine hK.out _ _ (hS.trans hkk) (fun hS => ?_)
            generalize wq.setCell ⟨gc, 1 + k, none⟩ (.map none) = wz at *
            clear hkk
            clear hK K
            refine wpAnyH_done (by kernel_rfl) ?_ _
            go_wp2_with fail
            go_roundw
            case rel => exact ⟨k + 1, sbc, xs', by go_num, by omega, hC2, hx', hO2, hF2, Lib.hid (fun i hi => hN.out i (by omega))⟩
            case measure => simp [intOf]; omega
      · rw [hs] at qi ⊢
        refine wp_region_held (S := Kx [gc] wr) (by kernel_rfl) ?_
        have hst : Below (wr).heap.size wr { wr with drawn := (wr).drawn + 1 } := ⟨rfl, rfl, rfl, Nat.le_refl _, fun _ _ => rfl⟩
        have hS : (Kx [gc] wr) { wr with drawn := (wr).drawn + 1 } := by first | exact ⟨rfl, rfl, rfl, Nat.le_refl _, fun _ _ _ => rfl⟩ | exact ⟨rfl, rfl, rfl, Nat.le_refl _, fun _ _ => rfl⟩ | exact hS0
        have hCq := hC.step hst
        have hOq := hO.step hst
        have hFq := hF.step hst
        clear hst
        generalize ({ wr with drawn := (wr).drawn + 1 } : World) = wq at *
        refine wpAnyH_take (i := 0) (v := ?_) rfl (by kernel_rfl) (by kernel_rfl) (by kernel_rfl) (fun _ _ _ h => h) (Or.inl ⟨by kernel_rfl, ?_⟩) hS ?_
        rotate_left
        · intro W hSW
          go_simp
          try with_reducible rfl
        dsimp only [Act.put]
        refine wpAnyH_take (i := 1) (v := ?_) rfl (by kernel_rfl) (by kernel_rfl) (by kernel_rfl) (fun _ _ _ h => h) (Or.inl ⟨by kernel_rfl, ?_⟩) hS ?_
        rotate_left
        · intro W hSW
          go_simp
          try with_reducible rfl
        dsimp only [Act.put]
        refine wpAnyH_take (i := 2) (v := ?_) rfl (by kernel_rfl) (by kernel_rfl) (by kernel_rfl) (fun _ _ _ h => h) (Or.inl ⟨by kernel_rfl, ?_⟩) hS ?_
        rotate_left
        · intro W hSW
          go_simp
          try with_reducible rfl
        dsimp only [Act.put]
        refine wpAnyH_ready (rs := [3, 4]) (by kernel_rfl) (by simp) ?_
        refine AllReadyH.cons rfl (fun K hK => ?_) (AllReadyH.cons rfl (fun K hK => ?_) AllReadyH.nil)
        ·
          go_simp
          refine (clone_map (hOq.slot_map hlt hs)).mono ?_
          rintro e wx ⟨rfl, hM, hbn⟩
          have hCx := hCq.step hbn
          have hOx := hOq.step hbn
          have hFx := hFq.step hbn
          have hmx : wq.heap.size ∉ xs' := fun hm => by have := hCq.lt _ hm; omega
          have hmw := hFq.size
          obtain ⟨mm, hmm⟩ : ∃ n, wq.heap.size = n := ⟨_, rfl⟩
          refine hK.out _ _ (hS.step hbn) (fun hS => ?_)
          rw [hmm] at hM hmx hmw ⊢
          clear hbn hmm hCq hOq hFq
          clear hK K
          refine wpAnyH_ready (rs := [4]) (by kernel_rfl) (by simp) ?_
          refine AllReadyH.cons rfl (fun K hK => ?_) AllReadyH.nil
          go_simp
          refine hK.out _ _ (hS) (fun hS => ?_)
          clear hK K
          refine wpAnyH_ready (rs := [5]) (by kernel_rfl) (by simp) ?_
          refine AllReadyH.cons rfl (fun K hK => ?_) AllReadyH.nil
          go_simp
          refine hK.out _ _ (hS) (fun hS => ?_)
          clear hK K
          refine wpAnyH_ready (rs := [6]) (by kernel_rfl) (by simp) ?_
          refine AllReadyH.cons rfl (fun K hK => ?_) AllReadyH.nil
          go_simp
          refine hK.out _ _ (hS) (fun hS => ?_)
          clear hK K
          have fz := hCx.blk.frozen (1 + k)
          have cz := hCx.blk.cell (whL_slot k hlt)
          rw [Nat.add_comm] at cz
          refine wpAnyH_ready (rs := [7]) (by kernel_rfl) (by simp) ?_
          refine AllReadyH.cons rfl (fun K hK => ?_) AllReadyH.nil
          go_simp
          have hC2 := (hCx.putSlot hlt hM hmx).slotsTo (F' := lowF (slotF L) (k + 1)) (fun i => lowF_next _ _ i)
          have hkk : Kx [gc] wx (wx.setCell ⟨gc, 1 + k, none⟩ (.map (some mm))) := (Kx.refl _ _).setCell (.inl (by simp)) _
          have hO2 := hOx.kx hkk (fun x hx hm => by have := hxs.out x hx; simp at hm; omega)
          have hF2 := hFx.kx hkk (fun x hx => by simp at hx; omega)
          refine hK.out _ _ (hS.trans hkk) (fun hS => ?_)
          generalize wx.setCell ⟨gc, 1 + k, none⟩ (.map (some mm)) = wz at *
          clear hkk
          clear hK K
          refine wpAnyH_done (by kernel_rfl) ?_ _
          go_wp2_with fail
          go_roundw
          case rel => exact ⟨k + 1, _, mm :: xs', by go_num, by omega, hC2, Lib.hid (fun x hx => by rcases List.mem_cons.1 hx with rfl | h1; exact hmw; exact hx'.out x h1), hO2, hF2, Lib.hid (fun i hi => by unfold updS; rw [if_neg (by omega)]; exact hN.out i (by omega))⟩
          case measure => simp [intOf]; omega
        ·
          go_simp
          refine hK.out _ _ (hS) (fun hS => ?_)
          clear hK K
          refine wpAnyH_ready (rs := [3, 5]) (by kernel_rfl) (by simp) ?_
          refine AllReadyH.cons rfl (fun K hK => ?_) (AllReadyH.cons rfl (fun K hK => ?_) AllReadyH.nil)
          ·
            go_simp
            refine (clone_map (hOq.slot_map hlt hs)).mono ?_
            rintro e wx ⟨rfl, hM, hbn⟩
            have hCx := hCq.step hbn
            have hOx := hOq.step hbn
            have hFx := hFq.step hbn
            have hmx : wq.heap.size ∉ xs' := fun hm => by have := hCq.lt _ hm; omega
            have hmw := hFq.size
            obtain ⟨mm, hmm⟩ : ∃ n, wq.heap.size = n := ⟨_, rfl⟩
            refine hK.out _ _ (hS.step hbn) (fun hS => ?_)
            rw [hmm] at hM hmx hmw ⊢
            clear hbn hmm hCq hOq hFq
            clear hK K
            refine wpAnyH_ready (rs := [5]) (by kernel_rfl) (by simp) ?_
            refine AllReadyH.cons rfl (fun K hK => ?_) AllReadyH.nil
            go_simp
            refine hK.out _ _ (hS) (fun hS => ?_)
            clear hK K
            refine wpAnyH_ready (rs := [6]) (by kernel_rfl) (by simp) ?_
            refine AllReadyH.cons rfl (fun K hK => ?_) AllReadyH.nil
            go_simp
            refine hK.out _ _ (hS) (fun hS => ?_)
            clear hK K
            have fz := hCx.blk.frozen (1 + k)
            have cz := hCx.blk.cell (whL_slot k hlt)
            rw [Nat.add_comm] at cz
            refine wpAnyH_ready (rs := [7]) (by kernel_rfl) (by simp) ?_
            refine AllReadyH.cons rfl (fun K hK => ?_) AllReadyH.nil
            go_simp
            have hC2 := (hCx.putSlot hlt hM hmx).slotsTo (F' := lowF (slotF L) (k + 1)) (fun i => lowF_next _ _ i)
            have hkk : Kx [gc] wx (wx.setCell ⟨gc, 1 + k, none⟩ (.map (some mm))) := (Kx.refl _ _).setCell (.inl (by simp)) _
            have hO2 := hOx.kx hkk (fun x hx hm => by have := hxs.out x hx; simp at hm; omega)
            have hF2 := hFx.kx hkk (fun x hx => by simp at hx; omega)
            refine hK.out _ _ (hS.trans hkk) (fun hS => ?_)
            generalize wx.setCell ⟨gc, 1 + k, none⟩ (.map (some mm)) = wz at *
            clear hkk
            clear hK K
            refine wpAnyH_done (by kernel_rfl) ?_ _
            go_wp2_with fail
            go_roundw
            case rel => exact ⟨k + 1, _, mm :: xs', by go_num, by omega, hC2, Lib.hid (fun x hx => by rcases List.mem_cons.1 hx with rfl | h1; exact hmw; exact hx'.out x h1), hO2, hF2, Lib.hid (fun i hi => by unfold updS; rw [if_neg (by omega)]; exact hN.out i (by omega))⟩
            case measure => simp [intOf]; omega
          ·
            go_simp
            refine hK.out _ _ (hS) (fun hS => ?_)
            clear hK K
            refine wpAnyH_ready (rs := [3]) (by kernel_rfl) (by simp) ?_
            refine AllReadyH.cons rfl (fun K hK => ?_) AllReadyH.nil
            go_simp
            refine (clone_map (hOq.slot_map hlt hs)).mono ?_
            rintro e wx ⟨rfl, hM, hbn⟩
            have hCx := hCq.step hbn
            have hOx := hOq.step hbn
            have hFx := hFq.step hbn
            have hmx : wq.heap.size ∉ xs' := fun hm => by have := hCq.lt _ hm; omega
            have hmw := hFq.size
            obtain ⟨mm, hmm⟩ : ∃ n, wq.heap.size = n := ⟨_, rfl⟩
            refine hK.out _ _ (hS.step hbn) (fun hS => ?_)
            rw [hmm] at hM hmx hmw ⊢
            clear hbn hmm hCq hOq hFq
            clear hK K
            refine wpAnyH_ready (rs := [6]) (by kernel_rfl) (by simp) ?_
            refine AllReadyH.cons rfl (fun K hK => ?_) AllReadyH.nil
            go_simp
            refine hK.out _ _ (hS) (fun hS => ?_)
            clear hK K
            have fz := hCx.blk.frozen (1 + k)
            have cz := hCx.blk.cell (whL_slot k hlt)
            rw [Nat.add_comm] at cz
            refine wpAnyH_ready (rs := [7]) (by kernel_rfl) (by simp) ?_
            refine AllReadyH.cons rfl (fun K hK => ?_) AllReadyH.nil
            go_simp
            have hC2 := (hCx.putSlot hlt hM hmx).slotsTo (F' := lowF (slotF L) (k + 1)) (fun i => lowF_next _ _ i)
            have hkk : Kx [gc] wx (wx.setCell ⟨gc, 1 + k, none⟩ (.map (some mm))) := (Kx.refl _ _).setCell (.inl (by simp)) _
            have hO2 := hOx.kx hkk (fun x hx hm => by have := hxs.out x hx; simp at hm; omega)
            have hF2 := hFx.kx hkk (fun x hx => by simp at hx; omega)
            refine hK.out _ _ (hS.trans hkk) (fun hS => ?_)
            generalize wx.setCell ⟨gc, 1 + k, none⟩ (.map (some mm)) = wz at *
            clear hkk
            clear hK K
            refine wpAnyH_done (by kernel_rfl) ?_ _
            go_wp2_with fail
            go_roundw
            case rel => exact ⟨k + 1, _, mm :: xs', by go_num, by omega, hC2, Lib.hid (fun x hx => by rcases List.mem_cons.1 hx with rfl | h1; exact hmw; exact hx'.out x h1), hO2, hF2, Lib.hid (fun i hi => by unfold updS; rw [if_neg (by omega)]; exact hN.out i (by omega))⟩
            case measure => simp [intOf]; omega
    · obtain rfl : k = 64 := by omega
      have hC2 := hC.perm (List.Perm.refl L) (F' := slotF L) (fun i hi => by unfold lowF; rw [if_pos hi])
      have hb := hF.out
      clear hC hO hF
      go_wp2
      go_ret
      exact ⟨⟨gc, xs', rfl, ⟨_, _, hC2⟩, hx'.out⟩, hb⟩
end Go.Proofs.Ytfdfmmmfklodgaa
