
/- The statements of the wheel: works. -/
import Derived.Test.YtfdfmmmfklodgaaWiE
namespace Go.Proofs.Ytfdfmmmfklodgaa
set_option linter.unusedSimpArgs false
set_option linter.unusedVariables false
open Go.RowKit
/-- A wheel made since w0, apart from the blocks ys. -/
def WhN (w0 : World) (ys : List Nat) (W : World) (g : Nat) (now : Int) (L : List (Int × Int)) : Prop :=
  From w0 W ∧ (∀ y, y ∈ ys → y < W.heap.size) ∧ ∃ xs, WhV W xs g now L ∧ GoodW now L ∧ ∀ x, x ∈ xs → w0.heap.size ≤ x ∧ x ∉ ys
/-- What lies in the blocks ys is as it was. -/
def Stay (ys : List Nat) (w w' : World) : Prop := ∃ zs, Kx zs w w' ∧ ∀ y, y ∈ ys → y ∉ zs
theorem Stay.below {ys : List Nat} {w w' : World} (h : Below w.heap.size w w') : Stay ys w w' := ⟨[], (Kx.refl _ _).step h, fun _ _ h => by cases h⟩
theorem WhN.of {w0 w w' : World} {ys xs : List Nat} {g : Nat} {now2 : Int} {L2 : List (Int × Int)} (hb : From w0 w) (hy : ∀ y, y ∈ ys → y < w.heap.size) (hx : ∀ x, x ∈ xs → w0.heap.size ≤ x ∧ x ∉ ys) (hG2 : GoodW now2 L2)
    {xs' : List Nat} (hV : WhV w' xs' g now2 L2) (hgr : Grow w.heap.size xs xs') (hk : Kx xs w w') : WhN w0 ys w' g now2 L2 ∧ Stay ys w w' := by
  refine ⟨⟨hb.kx hk (fun x h => (hx x h).1), fun y h => Nat.lt_of_lt_of_le (hy y h) hk.size, xs', hV, hG2, fun x h => ?_⟩, xs, hk, fun y h hm => (hx y hm).2 h⟩
  rcases hgr.2 x h with h1 | h1
  · exact hx x h1
  · exact ⟨Nat.le_trans hb.size h1, fun h2 => by have := hy x h2; omega⟩
theorem WhN.step {w0 w w' : World} {ys : List Nat} {g : Nat} {now : Int} {L : List (Int × Int)} (h : WhN w0 ys w g now L) (hb : Below w.heap.size w w') : WhN w0 ys w' g now L := by
  obtain ⟨h1, h2, xs, h3, h4, h5⟩ := h
  exact ⟨h1.step hb, fun y hy => Nat.lt_of_lt_of_le (h2 y hy) hb.size, xs, h3.step hb, h4, h5⟩
theorem WhN.add {w0 w w' : World} {ys : List Nat} {g y : Nat} {now : Int} {L : List (Int × Int)} (h : WhN w0 ys w g now L) (hb : Below w.heap.size w w') (h1 : w.heap.size ≤ y) (h2 : y < w'.heap.size) : WhN w0 (y :: ys) w' g now L := by
  obtain ⟨h3, h4, xs, h5, h6, h7⟩ := h
  refine ⟨h3.step hb, fun z hz => ?_, xs, h5.step hb, h6, fun x hx => ⟨(h7 x hx).1, fun hm => ?_⟩⟩
  · simp at hz
    rcases hz with rfl | hz
    · exact h2
    · exact Nat.lt_of_lt_of_le (h4 z hz) hb.size
  · simp at hm
    have := h5.lt x hx
    rcases hm with rfl | hm
    · omega
    · exact (h7 x hx).2 hm
theorem set_n {w0 w : World} {ys : List Nat} {g : Nat} {now : Int} {L : List (Int × Int)} (h : WhN w0 ys w g now L) (id n : Int) (hid : wf64 id) {L2 : List (Int × Int)} {m e : Int} (h1 : setL now L id n = L2) (h2 : setA now L id n = m) (h3 : setE now L id n = e) :
    Calls Try.prog 14 #[.pointer (some ⟨g, 0, none⟩), .int .i64 id, .int .i64 n] w fun r w' => r = .returned (.tuple #[.int .i64 m, .int .i64 e]) ∧ WhN w0 ys w' g now L2 ∧ Stay ys w w' := by
  obtain ⟨hb, hy, xs, hV, hG, hx⟩ := h
  refine (set_any xs g now L id n hid w hV hG).mono ?_
  rintro r w' ⟨rfl, xs', hV', hgr, hk⟩
  have hG2 := hG.set id n
  rw [h1] at hV' hG2
  rw [h2, h3]
  exact ⟨rfl, WhN.of hb hy hx hG2 hV' hgr hk⟩
theorem can_n {w0 w : World} {ys : List Nat} {g : Nat} {now : Int} {L : List (Int × Int)} (h : WhN w0 ys w g now L) (id : Int) (hid : wf64 id) {L2 : List (Int × Int)} {e : Int} (h1 : canL L id = L2) (h3 : canE L id = e) :
    Calls Try.prog 16 #[.pointer (some ⟨g, 0, none⟩), .int .i64 id] w fun r w' => r = .returned (.int .i64 e) ∧ WhN w0 ys w' g now L2 ∧ Stay ys w w' := by
  obtain ⟨hb, hy, xs, hV, hG, hx⟩ := h
  refine (cancel_any xs g now L id hid w hV hG).mono ?_
  rintro r w' ⟨rfl, xs', hV', hgr, hk⟩
  have hG2 := hG.can id
  rw [h1] at hV' hG2
  rw [h3]
  exact ⟨rfl, WhN.of hb hy hx hG2 hV' hgr hk⟩
theorem adv_n {w0 w : World} {ys : List Nat} {g : Nat} {now : Int} {L : List (Int × Int)} (h : WhN w0 ys w g now L) (n : Int) {L2 O2 : List (Int × Int)} {now2 e : Int} (h1 : advL now L n = L2) (h2 : advO now L n = O2) (h3 : advN now n = now2) (h4 : advE now n = e) :
    Calls Try.prog 23 #[.pointer (some ⟨g, 0, none⟩), .int .i64 n] w fun r w' => ∃ a c, r = .returned (.tuple #[.slice a O2.length c, .int .i64 e]) ∧ RowD w' 0 (.slice a O2.length c) O2 ∧ WhN w0 ((Value.slice a O2.length c).ownBlock.toList ++ ys) w' g now2 L2 ∧ Stay ys w w' := by
  obtain ⟨hb, hy, xs, hV, hG, hx⟩ := h
  refine (advance_any xs g now L n w hV hG).mono ?_
  rintro r w' ⟨v, rfl, hR, xs', hV', hgr, hk, ho⟩
  have hG2 := hG.adv n
  rw [h1, h3] at hV' hG2
  rw [h2] at hR
  rw [h4]
  obtain ⟨a, c, rfl, -⟩ := row_form hR
  obtain ⟨⟨g1, g2, xs2, g3, g4, g5⟩, g6⟩ := WhN.of hb hy hx hG2 hV' hgr hk
  refine ⟨a, c, rfl, hR.low (Nat.zero_le _), ⟨g1, ?_, xs', hV', hG2, ?_⟩, g6⟩
  · intro y hm
    simp at hm
    rcases hm with hm | hm
    · exact (hR.ge y hm).2
    · exact g2 y hm
  · intro x hm
    refine ⟨?_, ?_⟩
    · rcases hgr.2 x hm with q | q
      · exact (hx x q).1
      · exact Nat.le_trans hb.size q
    · intro hh
      simp at hh
      rcases hh with hh | hh
      · exact ho x hh hm
      · rcases hgr.2 x hm with q | q
        · exact (hx x q).2 hh
        · have := hy x hh
          omega
theorem new_n (w0 w : World) (hb : From w0 w) : Calls Try.prog 11 #[] w fun r w' => ∃ g, r = .returned (.pointer (some ⟨g, 0, none⟩)) ∧ WhN w0 [] w' g 0 [] ∧ Below w.heap.size w w' := by
  refine (new_any w).mono ?_
  rintro r w' ⟨⟨g, ba, xs, rfl, hW, hx⟩, hbn⟩
  exact ⟨g, rfl, ⟨hb.step hbn, fun _ h => (by cases h), xs, ⟨_, _, hW⟩, good0, fun x hm => ⟨Nat.le_trans hb.size (hx x hm), fun h => (by cases h)⟩⟩, hbn⟩
theorem next_n {w0 w : World} {ys : List Nat} {g : Nat} {now : Int} {L : List (Int × Int)} (h : WhN w0 ys w g now L) : Calls Try.prog 28 #[.pointer (some ⟨g, 0, none⟩)] w fun r w' => r = .returned (nextV L) ∧ Below w.heap.size w w' := by
  obtain ⟨hb, hy, xs, hV, hG, hx⟩ := h
  exact next_any xs g now L w hV hG
theorem len_n {w0 w : World} {ys : List Nat} {g : Nat} {now : Int} {L : List (Int × Int)} (h : WhN w0 ys w g now L) : Calls Try.prog 17 #[.pointer (some ⟨g, 0, none⟩)] w fun e w' => e = .returned (.int .i64 L.length) ∧ w = w' := by
  obtain ⟨hb, hy, xs, hV, hG, hx⟩ := h
  exact len_any xs g now L w hV
theorem now_n {w0 w : World} {ys : List Nat} {g : Nat} {now : Int} {L : List (Int × Int)} (h : WhN w0 ys w g now L) : Calls Try.prog 29 #[.pointer (some ⟨g, 0, none⟩)] w fun e w' => e = .returned (.int .i64 now) ∧ w = w' := by
  obtain ⟨hb, hy, xs, hV, hG, hx⟩ := h
  exact now_any xs g now L w hV
def WorksP (w : World) (e : Ending) (w' : World) : Prop := e = .returned (.bool true) ∧ Below w.heap.size w w'
set_option maxRecDepth 100000 in
set_option maxHeartbeats 4000000 in
theorem works_any (w : World) : Calls Try.prog 10 #[] w (WorksP w) := by
  go_enter Try.func10, Try.ntmps10
  go_wp2_with fail
  refine (new_n w w (From.refl w)).mono ?_
  rintro e w1 ⟨g, rfl, h, -⟩
  go_wp2_with fail
  refine (set_n h 7 5 (wf_of (by omega) (by omega)) (L2 := [(7, 5)]) (m := 5) (e := 0) (by decide) (by decide) (by decide)).mono ?_
  rintro e w2 ⟨rfl, h, -⟩
  go_wp2_with fail
  refine (set_n h 3 5 (wf_of (by omega) (by omega)) (L2 := [(3, 5), (7, 5)]) (m := 5) (e := 0) (by decide) (by decide) (by decide)).mono ?_
  rintro e w2 ⟨rfl, h, -⟩
  go_wp2_with fail
  refine (set_n h 9 2 (wf_of (by omega) (by omega)) (L2 := [(9, 2), (3, 5), (7, 5)]) (m := 2) (e := 0) (by decide) (by decide) (by decide)).mono ?_
  rintro e w2 ⟨rfl, h, -⟩
  go_wp2_with fail
  refine (next_n h).mono ?_
  rintro e w1 ⟨rfl, hbn⟩
  replace h := h.step hbn
  clear hbn
  simp only [show nextV [(9, 2), (3, 5), (7, 5)] = .tuple #[.agg #[.int .i64 2, .int .i64 9], .bool true] from rfl]
  go_upto_region 6 with fail
  obtain ⟨gD, hgD⟩ : ∃ gD, w1.heap.size = gD := ⟨_, rfl⟩
  have D := Blk.newV hgD 50 #[.int .i64 2, .int .i64 9]
  replace h := h.add (y := gD) ((Below.refl _ _).alloc (Nat.le_refl _) (.cells #[.int .i64 2, .int .i64 9] 50)) (by omega) D.lt
  rw [hgD]
  generalize w1.alloc (.cells #[.int .i64 2, .int .i64 9] 50) = w2 at *
  clear hgD
  go_wp2_with fail
  refine (set_n h 9 6 (wf_of (by omega) (by omega)) (L2 := [(3, 5), (7, 5), (9, 6)]) (m := 6) (e := 0) (by decide) (by decide) (by decide)).mono ?_
  rintro e w3 ⟨rfl, h, ⟨zs, hk, hz⟩⟩
  replace D := D.kx hk (hz _ (by simp))
  clear hk hz
  go_wp2_with fail
  refine (adv_n h 5 (L2 := [(9, 6)]) (O2 := [(3, 5), (7, 5)]) (now2 := 5) (e := 0) (by decide) (by decide) (by decide) (by decide)).mono ?_
  rintro e w4 ⟨a, c, rfl, hR, h, ⟨zs, hk, hz⟩⟩
  replace D := D.kx hk (hz _ (by simp))
  clear hk hz
  go_wp2_with fail
  refine (can_n h 3 (wf_of (by omega) (by omega)) (L2 := [(9, 6)]) (e := 5) (by decide) (by decide)).mono ?_
  rintro e w5 ⟨rfl, h, ⟨zs, hk, hz⟩⟩
  replace D := D.kx hk (hz _ (by simp))
  replace hR := hR.kx hk (fun k hk => hz _ (List.mem_append.2 (.inl (Option.mem_toList.2 hk))))
  clear hk hz
  go_wp2_with fail
  refine (len_n h).mono ?_
  rintro e _ ⟨rfl, rfl⟩
  go_wp2_with fail
  refine (can_n h 9 (wf_of (by omega) (by omega)) (L2 := []) (e := 0) (by decide) (by decide)).mono ?_
  rintro e w6 ⟨rfl, h, ⟨zs, hk, hz⟩⟩
  replace D := D.kx hk (hz _ (by simp))
  replace hR := hR.kx hk (fun k hk => hz _ (List.mem_append.2 (.inl (Option.mem_toList.2 hk))))
  clear hk hz
  go_wp2_with fail
  refine (adv_n h (-1) (L2 := []) (O2 := []) (now2 := 5) (e := 2) (by decide) (by decide) (by decide) (by decide)).mono ?_
  rintro e w7 ⟨a2, c2, rfl, -, h, ⟨zs, hk, hz⟩⟩
  replace D := D.kx hk (hz _ (by simp))
  replace hR := hR.kx hk (fun k hk => hz _ (List.mem_append.2 (.inl (Option.mem_toList.2 hk))))
  clear hk hz
  have hb := h.1
  have hv := h
  clear h
  have d0 := extA_cell (D.cell (j := 0) rfl)
  have d1 := extA_cell (D.cell (j := 1) rfl)
  have he := fun W => eq_due 2 9 2 9 W
  simp only [and_self, decide_true] at he
  clear d0 d1
  have d0 := D.cell (j := 0) rfl
  have d1 := D.cell (j := 1) rfl
  go_wp2_with fail
  refine (num_any _ _).mono ?_
  rintro e _ ⟨rfl, rfl⟩
  go_wp2_with fail
  refine (num_any _ _).mono ?_
  rintro e _ ⟨rfl, rfl⟩
  go_wp2_with fail
  refine (num_any _ _).mono ?_
  rintro e _ ⟨rfl, rfl⟩
  go_wp2_with fail
  refine (num_any _ _).mono ?_
  rintro e _ ⟨rfl, rfl⟩
  go_wp2_with fail
  refine (num_any _ _).mono ?_
  rintro e _ ⟨rfl, rfl⟩
  go_wp2_with fail
  refine (num_any _ _).mono ?_
  rintro e _ ⟨rfl, rfl⟩
  go_wp2_with fail
  clear d0 d1 he D hb h
  obtain ⟨gO, hgO⟩ : ∃ gO, w7.heap.size = gO := ⟨_, rfl⟩
  have M : RowD (w7.alloc (.cells #[.int .i64 5, .int .i64 3, .int .i64 5, .int .i64 7] 50)) 0 (.slice (some ⟨gO, 0, none⟩) 2 2) [(3, 5), (7, 5)] := by
    rw [← hgO]
    exact World.ownsRow_lit w7 #[.int .i64 5, .int .i64 3, .int .i64 5, .int .i64 7] 2 (Nat.zero_le _) (by decide) rfl
  have hba := (Below.refl w7.heap.size w7).alloc (Nat.le_refl _) (.cells #[.int .i64 5, .int .i64 3, .int .i64 5, .int .i64 7] 50)
  replace hv := hv.step hba
  replace hR := hR.step hba
  rw [hgO]
  generalize w7.alloc (.cells #[.int .i64 5, .int .i64 3, .int .i64 5, .int .i64 7] 50) = w8 at *
  clear hba hgO
  refine (sameList_any 0 0 a c [(3, 5), (7, 5)] _ 2 [(3, 5), (7, 5)] _ hR M (by decide) (by decide)).mono ?_
  rintro e w9 ⟨rfl, hbn⟩
  replace hv := hv.step hbn
  clear hbn hR M
  rw [show decide ([((3 : Int), (5 : Int)), (7, 5)] = [(3, 5), (7, 5)]) = true from rfl]
  go_wp2_with fail
  refine (num_any _ _).mono ?_
  rintro e _ ⟨rfl, rfl⟩
  go_wp2_with fail
  refine (num_any _ _).mono ?_
  rintro e _ ⟨rfl, rfl⟩
  go_wp2_with fail
  refine (now_n hv).mono ?_
  rintro e _ ⟨rfl, rfl⟩
  go_wp2_with fail
  go_ret
  exact ⟨rfl, hv.1⟩
end Go.Proofs.Ytfdfmmmfklodgaa
