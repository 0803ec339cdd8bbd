
/- Package wheel: Set and Cancel, whole. -/
import Derived.Test.YtfdfmmmfklodgaaWhE
namespace Go.Proofs.Ytfdfmmmfklodgaa
set_option linter.unusedSimpArgs false
set_option linter.unusedVariables false
open Go.RowKit
theorem set_any (xs : List Nat) (g : Nat) (now : Int) (L : List (Int × Int)) (id after : Int) (hid : wf64 id) (w : World) (h : WhV w xs g now L) (hG : GoodW now L) :
    Calls Try.prog 14 #[.pointer (some ⟨g, 0, none⟩), .int .i64 id, .int .i64 after] w fun e w' => e = .returned (.tuple #[.int .i64 (setA now L id after), .int .i64 (setE now L id after)]) ∧ Goes w w' xs g now (setL now L id after) := by
  have h0 := h
  obtain ⟨sb, ba, hW⟩ := h
  unfold setA setL setE
  cases h1 : inI id 0
  · simp only [true_or, if_true]
    refine (set_bad1 xs g now L sb ba id after w hW h1).mono ?_
    rintro e w' ⟨rfl, rfl⟩
    exact ⟨rfl, Goes.refl h0⟩
  · cases h2 : inI after 1
    · simp only [or_true, if_true]
      refine (set_bad2 xs g now L sb ba id after w hW h1 h2).mono ?_
      rintro e w' ⟨rfl, rfl⟩
      exact ⟨rfl, Goes.refl h0⟩
    · simp only [Bool.true_eq_false, or_self, if_false]
      by_cases h3 : ((getF L id).isSome = false ∧ 4096 ≤ L.length) ∨ 4611686018427387904 - after < now
      · rw [if_pos h3]
        refine (set_long xs g now L sb ba id after w hW hid hG h1 h2 h3).mono ?_
        rintro e w' ⟨rfl, rfl⟩
        exact ⟨rfl, Goes.refl h0⟩
      · rw [if_neg h3]
        have h5 : now ≤ 4611686018427387904 - after := by
          by_cases h6 : 4611686018427387904 - after < now
          · exact absurd (.inr h6) h3
          · omega
        cases h4 : getF L id with
        | none =>
          refine (set_new xs g now L sb ba id after w hW hid hG h1 h2 (by rw [h4]; rfl) ?_ h5).mono (fun e w' h => h)
          by_cases h6 : 4096 ≤ L.length
          · exact absurd (.inl ⟨by rw [h4]; rfl, h6⟩) h3
          · omega
        | some old => exact (set_old xs g now L sb ba id after w hW hid hG h1 h2 old h4 h5).mono (fun e w' h => h)
def canE (L : List (Int × Int)) (id : Int) : Int := if inI id 0 = false then 2 else if (getF L id).isSome = false then 5 else 0
def canL (L : List (Int × Int)) (id : Int) : List (Int × Int) := if canE L id = 0 then delF L id else L
set_option maxRecDepth 100000 in
set_option maxHeartbeats 1000000 in
theorem can_bad (xs : List Nat) (g : Nat) (now : Int) (L : List (Int × Int)) (sb : Nat → Option Nat) (ba : Nat) (id : Int) (w : World) (h : WhW w xs g now L sb ba) (hid : wf64 id) (h1 : inI id 0 = false) :
    Calls Try.prog 16 #[.pointer (some ⟨g, 0, none⟩), .int .i64 id] w
      fun e w' => e = .returned (.int .i64 2) ∧ w = w' := by
  have cn := none_wh xs g now L _ sb ba w h
  have c1 := in_any id 0 w
  rw [h1] at c1
  clear h1
  have c := h.cat
  have q := h.all.look id hid
  go_enter Try.func16, Try.ntmps16
  go_wp2_with fail
  refine (cn).mono ?_
  rintro e _ ⟨rfl, rfl⟩
  go_wp2_with fail
  refine (c1).mono ?_
  rintro e _ ⟨rfl, rfl⟩
  go_wp2
  go_ret
  exact ⟨rfl, rfl⟩
set_option maxRecDepth 100000 in
set_option maxHeartbeats 1000000 in
theorem can_none (xs : List Nat) (g : Nat) (now : Int) (L : List (Int × Int)) (sb : Nat → Option Nat) (ba : Nat) (id : Int) (w : World) (h : WhW w xs g now L sb ba) (hid : wf64 id) (h1 : inI id 0 = true) (h2 : (getF L id).isSome = false) :
    Calls Try.prog 16 #[.pointer (some ⟨g, 0, none⟩), .int .i64 id] w
      fun e w' => e = .returned (.int .i64 5) ∧ w = w' := by
  obtain ⟨V, hV⟩ : ∃ Y, (getF L id).getD 0 = Y := ⟨_, rfl⟩
  have cn := none_wh xs g now L _ sb ba w h
  have c1 := in_any id 0 w
  rw [h1] at c1
  clear h1
  have c := h.cat
  have q := h.all.look id hid
  go_enter Try.func16, Try.ntmps16
  go_wp2_with fail
  refine (cn).mono ?_
  rintro e _ ⟨rfl, rfl⟩
  go_wp2_with fail
  refine (c1).mono ?_
  rintro e _ ⟨rfl, rfl⟩
  rw [h2, hV] at q
  clear h2 hV
  go_wp2
  go_ret
  exact ⟨rfl, rfl⟩
set_option maxRecDepth 100000 in
set_option maxHeartbeats 1000000 in
theorem can_yes (xs : List Nat) (g : Nat) (now : Int) (L : List (Int × Int)) (sb : Nat → Option Nat) (ba : Nat) (id : Int) (w : World) (h : WhW w xs g now L sb ba) (hid : wf64 id) (hG : GoodW now L) (h1 : inI id 0 = true) (old : Int) (h2 : getF L id = some old) :
    Calls Try.prog 16 #[.pointer (some ⟨g, 0, none⟩), .int .i64 id] w
      fun e w' => e = .returned (.int .i64 0) ∧ Goes w w' xs g now (delF L id) := by
  have hold := get_mem h2
  have ho := (hG.each _ hold).2.2.1
  simp only at ho
  have ho0 : 0 ≤ old := by have := hG.n0; omega
  obtain ⟨w1, r1, m1, t1⟩ := h.all.del id hid 0
  have hT := h.allTo m1 t1
  have hfx := (FromX.refl xs w).kx (kx_turned t1) (fun x hx => by simp at hx; subst hx; exact .inl h.own.2.1)
  have hg := h.own.1
  have hw1 := hfx.size
  clear m1 t1
  have cn := none_wh xs g now L _ sb ba w h
  have c1 := in_any id 0 w
  rw [h1] at c1
  clear h1
  have c := h.cat
  have q := h.all.look id hid
  go_enter Try.func16, Try.ntmps16
  go_wp2_with fail
  refine (cn).mono ?_
  rintro e _ ⟨rfl, rfl⟩
  go_wp2_with fail
  refine (c1).mono ?_
  rintro e _ ⟨rfl, rfl⟩
  rw [h2] at q
  simp only [Option.getD_some, Option.isSome_some] at q
  clear h2
  go_wp2_with fail
  refine (slot_mk g w1).mono ?_
  rintro e w2 ⟨⟨b, rfl, hB, -⟩, hbn⟩
  replace hT := hT.step hbn
  replace hfx := hfx.step hbn
  clear hbn
  go_wp2_with fail
  refine (slot_any _ g now _ _ _ ba b old w2 hT hB ho0).mono ?_
  rintro e w3 ⟨rfl, sb, xs', m, hT2, hs, hgr, hk⟩
  replace hgr := hgr.from hfx.size
  replace hfx := hfx.kx hk (fun x hx => by simp at hx; subst hx; exact .inl hg)
  have cm := hT2.slot_cell (by omega) hs
  obtain ⟨w4, r3, m3, t3⟩ := (hT2.slot_map (by omega) hs).del id hid 0
  replace hfx := hfx.kx (kx_turned t3) (fun x hx => by simp at hx; subst hx; exact hgr.2 _ (hT2.slot_in (by omega) hs))
  replace hT := (hT2.slotTo (by omega) hs m3 t3).slotsTo (slot_del_old hG.nodup hold)
  clear m3 t3 hT2 hk hB hold
  go_wp2
  go_ret
  exact ⟨rfl, xs', ⟨sb, ba, hT⟩, hgr, hfx⟩
theorem cancel_any (xs : List Nat) (g : Nat) (now : Int) (L : List (Int × Int)) (id : Int) (hid : wf64 id) (w : World) (h : WhV w xs g now L) (hG : GoodW now L) :
    Calls Try.prog 16 #[.pointer (some ⟨g, 0, none⟩), .int .i64 id] w fun e w' => e = .returned (.int .i64 (canE L id)) ∧ Goes w w' xs g now (canL L id) := by
  have h0 := h
  obtain ⟨sb, ba, hW⟩ := h
  unfold canL canE
  cases h1 : inI id 0
  · simp only [if_true]
    refine (can_bad xs g now L sb ba id w hW hid h1).mono ?_
    rintro e w' ⟨rfl, rfl⟩
    exact ⟨rfl, Goes.refl h0⟩
  · simp only [Bool.true_eq_false, if_false]
    cases h2 : getF L id with
    | none =>
      refine (can_none xs g now L sb ba id w hW hid h1 (by rw [h2]; rfl)).mono ?_
      rintro e w' ⟨rfl, rfl⟩
      exact ⟨rfl, Goes.refl h0⟩
    | some old => exact (can_yes xs g now L sb ba id w hW hid hG h1 old h2).mono (fun e w' h => h)
end Go.Proofs.Ytfdfmmmfklodgaa
