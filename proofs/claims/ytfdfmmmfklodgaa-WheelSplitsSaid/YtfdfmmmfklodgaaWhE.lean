
/- Package wheel: Set. -/
import Derived.Test.YtfdfmmmfklodgaaWhD
import Derived.Test.YtfdfmmmfklodgaaMem
namespace Go.Proofs.Ytfdfmmmfklodgaa
set_option linter.unusedSimpArgs false
set_option linter.unusedVariables false
open Go.RowKit
/-- Is one ahead of another one? Pairs of an ID and a tick. -/
def aheadB (a b : Int × Int) : Bool := decide (a.2 < b.2) || (decide (a.2 = b.2) && decide (a.1 < b.1))
def insD (d : Int × Int) : List (Int × Int) → List (Int × Int)
  | [] => [d]
  | x :: r => if aheadB d x then d :: x :: r else x :: insD d r
theorem insD_perm (d : Int × Int) (l : List (Int × Int)) : (insD d l).Perm (d :: l) := by
  induction l with
  | nil => exact List.Perm.refl _
  | cons x r ih =>
    unfold insD
    split
    · exact List.Perm.refl _
    · exact (ih.cons x).trans (List.Perm.swap d x r)
def setE (now : Int) (L : List (Int × Int)) (id after : Int) : Int :=
  if inI id 0 = false ∨ inI after 1 = false then 2 else if ((getF L id).isSome = false ∧ 4096 ≤ L.length) ∨ 4611686018427387904 - after < now then 3 else 0
def setL (now : Int) (L : List (Int × Int)) (id after : Int) : List (Int × Int) := if setE now L id after = 0 then insD (id, now + after) (delF L id) else L
def setA (now : Int) (L : List (Int × Int)) (id after : Int) : Int := if setE now L id after = 0 then now + after else 0
/-- What is set: IDs and ticks in their bounds, in order, no ID twice. -/
structure GoodW (now : Int) (L : List (Int × Int)) : Prop where
  n0 : 0 ≤ now
  n1 : now ≤ 4611686018427387904
  len : L.length ≤ 4096
  nodup : (L.map (·.1)).Nodup
  each : ∀ p, p ∈ L → 0 ≤ p.1 ∧ p.1 ≤ 2147483647 ∧ now < p.2 ∧ p.2 ≤ 4611686018427387904
  ord : L.Pairwise (fun a b => aheadB a b = true)
def updF (F : Nat → List (Int × Int)) (i : Nat) (l : List (Int × Int)) : Nat → List (Int × Int) := fun j => if j = i then l else F j
theorem kx_turned {W W' : World} {b : Nat} (h : W.mapTurned W' b) : Kx [b] W W' := by
  have hg := h.grown
  exact ⟨hg.os, hg.tape, hg.output, hg.size, fun k hk hw => hg.block k hk (fun e => hw (by cases e; simp))⟩
/-- Behind a change of a slot's map. -/
theorem WhT.slotTo {w w' : World} {xs : List Nat} {g : Nat} {now : Int} {A : List (Int × Int)} {F : Nat → List (Int × Int)} {sb : Nat → Option Nat} {ba i m : Nat} {l : List (Int × Int)} (h : WhT w xs g now A F sb ba) (hi : i < 64) (hs : sb i = some m)
    (hm : MapF w' m l) (ht : w.mapTurned w' m) : WhT w' xs g now A (updF F i l) sb ba := by
  have hk := kx_turned ht
  have hold := h.slot_map hi hs
  refine ⟨h.blk.kx hk (by simpa using (hold.ne_blk h.blk).symm), h.all.kx hk (by simp; rintro rfl; exact h.apart i hi hs), ?_, h.one, h.apart, h.own, fun x hx => Nat.lt_of_lt_of_le (h.lt x hx) hk.size⟩
  intro j hj
  by_cases e : j = i
  · subst e
    exact .inr ⟨m, hs, by simpa [updF] using hm⟩
  · rcases h.slot j hj with ⟨e1, e2⟩ | ⟨b', e1, hm'⟩
    · exact .inl ⟨e1, by simp [updF, e, e2]⟩
    · refine .inr ⟨b', e1, ?_⟩
      simp only [updF, if_neg e]
      exact hm'.kx hk (by simp; rintro rfl; exact e (h.one j i _ hj hi e1 hs))
/-- Behind a change of the map of all. -/
theorem WhT.allTo {w w' : World} {xs : List Nat} {g : Nat} {now : Int} {A : List (Int × Int)} {F : Nat → List (Int × Int)} {sb : Nat → Option Nat} {ba : Nat} {l : List (Int × Int)} (h : WhT w xs g now A F sb ba)
    (hm : MapF w' ba l) (ht : w.mapTurned w' ba) : WhT w' xs g now l F sb ba := by
  have hk := kx_turned ht
  refine ⟨h.blk.kx hk (by simpa using (h.all.ne_blk h.blk).symm), hm, ?_, h.one, h.apart, h.own, fun x hx => Nat.lt_of_lt_of_le (h.lt x hx) hk.size⟩
  intro j hj
  rcases h.slot j hj with ⟨e1, e2⟩ | ⟨b', e1, hm'⟩
  · exact .inl ⟨e1, e2⟩
  · exact .inr ⟨b', e1, hm'.kx hk (by simp; rintro rfl; exact h.apart j hj e1)⟩
theorem WhT.perm {w : World} {xs : List Nat} {g : Nat} {now : Int} {A A' : List (Int × Int)} {F F' : Nat → List (Int × Int)} {sb : Nat → Option Nat} {ba : Nat} (h : WhT w xs g now A F sb ba)
    (hA : A.Perm A') (hF : ∀ i, i < 64 → (F i).Perm (F' i)) : WhT w xs g now A' F' sb ba := by
  refine ⟨h.blk, h.all.perm hA, ?_, h.one, h.apart, h.own, h.lt⟩
  intro j hj
  rcases h.slot j hj with ⟨e1, e2⟩ | ⟨b', e1, hm'⟩
  · exact .inl ⟨e1, by have := hF j hj; rw [e2] at this; exact this.nil_eq.symm⟩
  · exact .inr ⟨b', e1, hm'.perm (hF j hj)⟩
theorem WhT.slot_in {w : World} {xs : List Nat} {g : Nat} {now : Int} {A : List (Int × Int)} {F : Nat → List (Int × Int)} {sb : Nat → Option Nat} {ba i m : Nat} (h : WhT w xs g now A F sb ba) (hi : i < 64) (hs : sb i = some m) : m ∈ xs := h.own.2.2 i m hi hs
/-- A wheel, behind a call. -/
def WhV (W : World) (xs : List Nat) (g : Nat) (now : Int) (L : List (Int × Int)) : Prop := ∃ sb ba, WhW W xs g now L sb ba
def Goes (w w' : World) (xs : List Nat) (g : Nat) (now : Int) (L : List (Int × Int)) : Prop := ∃ xs', WhV w' xs' g now L ∧ Grow w.heap.size xs xs' ∧ Kx xs w w'
theorem Goes.refl {w : World} {xs : List Nat} {g : Nat} {now : Int} {L : List (Int × Int)} (h : WhV w xs g now L) : Goes w w xs g now L := ⟨xs, h, Grow.refl _ _, Kx.refl _ _⟩
set_option maxRecDepth 100000 in
set_option maxHeartbeats 400000 in
theorem set_bad1 (xs : List Nat) (g : Nat) (now : Int) (L : List (Int × Int)) (sb : Nat → Option Nat) (ba : Nat) (id after : Int) (w : World) (h : WhW w xs g now L sb ba) (h1 : inI id 0 = false) :
    Calls Try.prog 14 #[.pointer (some ⟨g, 0, none⟩), .int .i64 id, .int .i64 after] w
      fun e w' => e = .returned (.tuple #[.int .i64 0, .int .i64 2]) ∧ w = w' := by
  have c1 := in_any id 0 w
  rw [h1] at c1
  clear h1
  have cn := none_wh xs g now L _ sb ba w h
  go_enter Try.func14, Try.ntmps14
  go_wp2_with fail
  refine wp_scope_fwd 0 rfl ?_
  intro Q2 hR hGo
  go_wp2_with fail
  refine (cn).mono ?_
  rintro e _ ⟨rfl, rfl⟩
  go_wp2_with fail
  refine (c1).mono ?_
  rintro e _ ⟨rfl, rfl⟩
  go_wp2
  apply wp_goto
  (try simp only [Exit.then])
  refine hGo.out _ _ ?_
  go_wp2
  rw [Exit.noGoto_ret]
  go_ret2
  exact ⟨rfl, rfl⟩
set_option maxRecDepth 100000 in
set_option maxHeartbeats 400000 in
theorem set_bad2 (xs : List Nat) (g : Nat) (now : Int) (L : List (Int × Int)) (sb : Nat → Option Nat) (ba : Nat) (id after : Int) (w : World) (h : WhW w xs g now L sb ba) (h1 : inI id 0 = true) (h2 : inI after 1 = false) :
    Calls Try.prog 14 #[.pointer (some ⟨g, 0, none⟩), .int .i64 id, .int .i64 after] w
      fun e w' => e = .returned (.tuple #[.int .i64 0, .int .i64 2]) ∧ w = w' := by
  have c1 := in_any id 0 w
  have c2 := in_any after 1 w
  rw [h1] at c1
  rw [h2] at c2
  clear h1 h2
  have cn := none_wh xs g now L _ sb ba w h
  go_enter Try.func14, Try.ntmps14
  go_wp2_with fail
  refine wp_scope_fwd 0 rfl ?_
  intro Q2 hR hGo
  go_wp2_with fail
  refine (cn).mono ?_
  rintro e _ ⟨rfl, rfl⟩
  go_wp2_with fail
  refine (c1).mono ?_
  rintro e _ ⟨rfl, rfl⟩
  go_wp2_with fail
  refine (c2).mono ?_
  rintro e _ ⟨rfl, rfl⟩
  go_wp2
  apply wp_goto
  (try simp only [Exit.then])
  refine hGo.out _ _ ?_
  go_wp2
  rw [Exit.noGoto_ret]
  go_ret2
  exact ⟨rfl, rfl⟩
set_option maxRecDepth 100000 in
set_option maxHeartbeats 400000 in
theorem set_long (xs : List Nat) (g : Nat) (now : Int) (L : List (Int × Int)) (sb : Nat → Option Nat) (ba : Nat) (id after : Int) (w : World) (h : WhW w xs g now L sb ba) (hid : wf64 id) (hG : GoodW now L) (h1 : inI id 0 = true) (h2 : inI after 1 = true) (h3 : ((getF L id).isSome = false ∧ 4096 ≤ L.length) ∨ 4611686018427387904 - after < now) :
    Calls Try.prog 14 #[.pointer (some ⟨g, 0, none⟩), .int .i64 id, .int .i64 after] w
      fun e w' => e = .returned (.tuple #[.int .i64 0, .int .i64 3]) ∧ w = w' := by
  obtain ⟨Y, hY⟩ : ∃ Y, (getF L id).isSome = Y := ⟨_, rfl⟩
  obtain ⟨V, hV⟩ : ∃ Y, (getF L id).getD 0 = Y := ⟨_, rfl⟩
  rw [hY] at h3
  obtain ⟨N, hN⟩ : ∃ N, L.length = N := ⟨_, rfl⟩
  rw [hN] at h3
  have hl := hG.len
  rw [hN] at hl
  by_cases ha : Y = false ∧ 4096 ≤ N
  · obtain ⟨rfl, hb⟩ := ha
    have hb2 : (4096 : Int) ≤ (N : Int) := by omega
    have c1 := in_any id 0 w
    have c2 := in_any after 1 w
    rw [h1] at c1
    rw [h2] at c2
    have bd : 1 ≤ after ∧ after ≤ 2147483647 := by simpa [inI] using h2
    obtain ⟨b1, b2⟩ := bd
    clear h1 h2
    have c := h.cat
    have n0 := hG.n0
    have n1 := hG.n1
    have cw := h.blk.cell (j := 0) rfl
    have q := h.all.look id hid
    have ql := h.all.len
    have cn := none_wh xs g now L _ sb ba w h
    go_enter Try.func14, Try.ntmps14
    go_wp2_with fail
    refine wp_scope_fwd 0 rfl ?_
    intro Q2 hR hGo
    go_wp2_with fail
    refine (cn).mono ?_
    rintro e _ ⟨rfl, rfl⟩
    go_wp2_with fail
    refine (c1).mono ?_
    rintro e _ ⟨rfl, rfl⟩
    go_wp2_with fail
    refine (c2).mono ?_
    rintro e _ ⟨rfl, rfl⟩
    rw [hY, hV] at q
    rw [hN] at ql
    clear hN hY hV h3
    go_wp2
    apply wp_goto
    (try simp only [Exit.then])
    refine hGo.out _ _ ?_
    go_wp2
    rw [Exit.noGoto_ret]
    go_ret2
    exact ⟨rfl, rfl⟩
  · have hc : 4611686018427387904 - after < now := h3.resolve_left ha
    cases Y
    · have hb2 : ¬ (4096 : Int) ≤ (N : Int) := by have : ¬ 4096 ≤ N := fun h => ha ⟨rfl, h⟩; omega
      have hb3 : (N : Int) < 4096 := by omega
      have c1 := in_any id 0 w
      have c2 := in_any after 1 w
      rw [h1] at c1
      rw [h2] at c2
      have bd : 1 ≤ after ∧ after ≤ 2147483647 := by simpa [inI] using h2
      obtain ⟨b1, b2⟩ := bd
      clear h1 h2
      have c := h.cat
      have n0 := hG.n0
      have n1 := hG.n1
      have cw := h.blk.cell (j := 0) rfl
      have q := h.all.look id hid
      have ql := h.all.len
      have cn := none_wh xs g now L _ sb ba w h
      go_enter Try.func14, Try.ntmps14
      go_wp2_with fail
      refine wp_scope_fwd 0 rfl ?_
      intro Q2 hR hGo
      go_wp2_with fail
      refine (cn).mono ?_
      rintro e _ ⟨rfl, rfl⟩
      go_wp2_with fail
      refine (c1).mono ?_
      rintro e _ ⟨rfl, rfl⟩
      go_wp2_with fail
      refine (c2).mono ?_
      rintro e _ ⟨rfl, rfl⟩
      rw [hY, hV] at q
      rw [hN] at ql
      clear hN hY hV h3 ha
      go_wp2
      apply wp_goto
      (try simp only [Exit.then])
      refine hGo.out _ _ ?_
      go_wp2
      rw [Exit.noGoto_ret]
      go_ret2
      exact ⟨rfl, rfl⟩
    · have c1 := in_any id 0 w
      have c2 := in_any after 1 w
      rw [h1] at c1
      rw [h2] at c2
      have bd : 1 ≤ after ∧ after ≤ 2147483647 := by simpa [inI] using h2
      obtain ⟨b1, b2⟩ := bd
      clear h1 h2
      have c := h.cat
      have n0 := hG.n0
      have n1 := hG.n1
      have cw := h.blk.cell (j := 0) rfl
      have q := h.all.look id hid
      have ql := h.all.len
      have cn := none_wh xs g now L _ sb ba w h
      go_enter Try.func14, Try.ntmps14
      go_wp2_with fail
      refine wp_scope_fwd 0 rfl ?_
      intro Q2 hR hGo
      go_wp2_with fail
      refine (cn).mono ?_
      rintro e _ ⟨rfl, rfl⟩
      go_wp2_with fail
      refine (c1).mono ?_
      rintro e _ ⟨rfl, rfl⟩
      go_wp2_with fail
      refine (c2).mono ?_
      rintro e _ ⟨rfl, rfl⟩
      rw [hY, hV] at q
      rw [hN] at ql
      clear hN hY hV h3 ha
      go_wp2
      apply wp_goto
      (try simp only [Exit.then])
      refine hGo.out _ _ ?_
      go_wp2
      rw [Exit.noGoto_ret]
      go_ret2
      exact ⟨rfl, rfl⟩
theorem del_none {L : List (Int × Int)} {id : Int} (h : (getF L id).isSome = false) : delF L id = L := by
  unfold delF
  rw [List.filter_eq_self]
  intro p hp
  have h1 : L.find? (fun p => p.1 == id) = none := by
    unfold getF at h
    rw [Option.isSome_map] at h
    exact Option.not_isSome_iff_eq_none.1 (by simp [h])
  have h2 := List.find?_eq_none.1 h1 p hp
  simpa using h2
theorem get_mem {L : List (Int × Int)} {id at_ : Int} (h : getF L id = some at_) : (id, at_) ∈ L := by
  unfold getF at h
  obtain ⟨p, hp, rfl⟩ := Option.map_eq_some_iff.1 h
  have h1 := List.mem_of_find?_eq_some hp
  have h2 := List.find?_some hp
  simp only [beq_iff_eq] at h2
  subst h2
  exact h1
theorem slot_del (L : List (Int × Int)) (id : Int) (j : Nat) : slotF (delF L id) j = delF (slotF L j) id := by
  unfold slotF delF
  rw [List.filter_filter, List.filter_filter]
  congr 1
  funext p
  exact Bool.and_comm _ _
theorem slot_del_old {L : List (Int × Int)} {id old : Int} (hn : (L.map (·.1)).Nodup) (hm : (id, old) ∈ L) (j : Nat) :
    updF (slotF L) (old % 64).toNat (delF (slotF L (old % 64).toNat) id) j = slotF (delF L id) j := by
  rw [slot_del]
  unfold updF
  split
  next h => rw [h]
  next h =>
    symm
    unfold delF
    rw [List.filter_eq_self]
    intro p hp
    obtain ⟨h1, h2⟩ := List.mem_filter.1 hp
    simp only [beq_iff_eq] at h2
    by_cases e : p.1 = id
    · have e2 := key_one hn p h1 (id, old) hm e
      rw [e2] at h2
      simp only at h2
      omega
    · simpa using e
theorem slot_put {K : List (Int × Int)} {id at_ : Int} (hK : delF K id = K) (j : Nat) :
    (updF (slotF K) (at_ % 64).toNat (putF (slotF K (at_ % 64).toNat) id at_) j).Perm (slotF (insD (id, at_) K) j) := by
  have h1 := (insD_perm (id, at_) K).filter (fun p => p.2 % 64 == (j : Int))
  refine List.Perm.trans ?_ h1.symm
  unfold updF putF
  rw [← slot_del, hK]
  split
  next h =>
    subst h
    rw [List.filter_cons_of_pos (by simp; omega)]
    exact List.Perm.refl _
  next h =>
    rw [List.filter_cons_of_neg (by simp; omega)]
    exact List.Perm.refl _
theorem del_del (L : List (Int × Int)) (id : Int) : delF (delF L id) id = delF L id := by
  unfold delF
  rw [List.filter_filter]
  congr 1
  funext p
  exact Bool.and_self _
theorem Grow.from {n m : Nat} {xs ys : List Nat} (h : Grow m xs ys) (hm : n ≤ m) : Grow n xs ys := (Grow.refl n xs).trans h hm
theorem WhT.slotsTo {w : World} {xs : List Nat} {g : Nat} {now : Int} {A : List (Int × Int)} {F F' : Nat → List (Int × Int)} {sb : Nat → Option Nat} {ba : Nat} (h : WhT w xs g now A F sb ba)
    (hF : ∀ i, F i = F' i) : WhT w xs g now A F' sb ba := h.perm (List.Perm.refl _) (fun i _ => by rw [hF i])
theorem wf_of {x : Int} (h0 : -9223372036854775808 ≤ x) (h1 : x ≤ 9223372036854775807) : wf64 x := by
  unfold wf64
  simp [Lit.wf, show IntKind.i64.min = -9223372036854775808 from rfl, show IntKind.i64.max = 9223372036854775807 from rfl, h0, h1]
set_option maxRecDepth 100000 in
set_option maxHeartbeats 400000 in
theorem set_new (xs : List Nat) (g : Nat) (now : Int) (L : List (Int × Int)) (sb : Nat → Option Nat) (ba : Nat) (id after : Int) (w : World) (h : WhW w xs g now L sb ba) (hid : wf64 id) (hG : GoodW now L) (h1 : inI id 0 = true) (h2 : inI after 1 = true) (h3 : (getF L id).isSome = false) (h4 : L.length < 4096) (h5 : now ≤ 4611686018427387904 - after) :
    Calls Try.prog 14 #[.pointer (some ⟨g, 0, none⟩), .int .i64 id, .int .i64 after] w
      fun e w' => e = .returned (.tuple #[.int .i64 (now + after), .int .i64 0]) ∧ Goes w w' xs g now (insD (id, now + after) (delF L id)) := by
  obtain ⟨V, hV⟩ : ∃ Y, (getF L id).getD 0 = Y := ⟨_, rfl⟩
  obtain ⟨N, hN⟩ : ∃ N, L.length = N := ⟨_, rfl⟩
  have hb2 : ¬ (4096 : Int) ≤ (N : Int) := by omega
  have hb3 : (N : Int) < 4096 := by omega
  have hT : WhT w xs g now L (slotF (delF L id)) sb ba := by rw [del_none h3]; exact h
  have hg := h.own.1
  have hgr := Grow.refl w.heap.size xs
  have hfx : FromX xs w w := FromX.refl _ _
  have c1 := in_any id 0 w
  have c2 := in_any after 1 w
  rw [h1] at c1
  rw [h2] at c2
  have bd : 1 ≤ after ∧ after ≤ 2147483647 := by simpa [inI] using h2
  obtain ⟨b1, b2⟩ := bd
  clear h1 h2
  have c := h.cat
  have n0 := hG.n0
  have n1 := hG.n1
  have cw := h.blk.cell (j := 0) rfl
  have q := h.all.look id hid
  have ql := h.all.len
  have cn := none_wh xs g now L _ sb ba w h
  go_enter Try.func14, Try.ntmps14
  go_wp2_with fail
  refine wp_scope_fwd 0 rfl ?_
  intro Q2 hR hGo
  go_wp2_with fail
  refine (cn).mono ?_
  rintro e _ ⟨rfl, rfl⟩
  go_wp2_with fail
  refine (c1).mono ?_
  rintro e _ ⟨rfl, rfl⟩
  go_wp2_with fail
  refine (c2).mono ?_
  rintro e _ ⟨rfl, rfl⟩
  rw [h3, hV] at q
  rw [hN] at ql
  clear hN hV h3 h4 h
  obtain ⟨at_, hat⟩ : ∃ a, now + after = a := ⟨_, rfl⟩
  have a0 : 0 ≤ at_ := by omega
  have hwa : wf64 at_ := wf_of (by omega) (by omega)
  obtain ⟨w1, r1, m1, t1⟩ := hT.all.put id at_ hid hwa (by have := hG.len; unfold maxLen; omega)
  have cat := hT.cat
  have cnow := hT.blk.cell (j := 0) rfl
  have h5 := hT.allTo m1 t1
  have hfx2 := hfx.kx (kx_turned t1) (fun x hx => by simp at hx; subst hx; rcases hgr.2 _ hT.own.2.1 with h1 | h1; exact .inl h1; exact .inr h1)
  clear m1 t1 hT hfx
  go_wp2_with fail
  refine (slot_mk g w1).mono ?_
  rintro e w2 ⟨⟨b, rfl, hB, -⟩, hbn⟩
  have h6 := h5.step hbn
  have hfx3 := hfx2.step hbn
  clear hbn h5 hfx2
  go_wp2_with fail
  refine (slot_any _ g now _ _ _ ba b at_ w2 h6 hB a0).mono ?_
  rintro e w3 ⟨rfl, sb', xs', m, h7, hs, hgr2, hk⟩
  have hgr3 := hgr.trans hgr2 hfx3.size
  have hfx4 := hfx3.kx hk (fun x hx => by simp at hx; subst hx; exact .inl hg)
  have cm := h7.slot_cell (by omega) hs
  obtain ⟨w4, r4, m4, t4⟩ := (h7.slot_map (by omega) hs).put id at_ hid hwa (by have := hG.len; unfold maxLen slotF; have := List.length_filter_le (fun p : Int × Int => p.2 % 64 == (((at_ % 64).toNat : Nat) : Int)) (delF L id); have := List.length_filter_le (fun p : Int × Int => !(p.1 == id)) L; unfold delF at *; omega)
  have h8 := (h7.slotTo (by omega) hs m4 t4).perm (F' := slotF (insD (id, at_) (delF L id))) (insD_perm (id, at_) (delF L id)).symm (fun j _ => slot_put (del_del L id) j)
  have hfx5 := hfx4.kx (kx_turned t4) (fun x hx => by simp at hx; subst hx; exact hgr3.2 _ (h7.slot_in (by omega) hs))
  clear m4 t4 h7 hfx4 hk
  go_wp2
  refine hR.out _ _ ?_
  go_ret2
  rw [hat]
  exact ⟨rfl, xs', ⟨sb', ba, h8⟩, hgr3, hfx5⟩
set_option maxRecDepth 100000 in
set_option maxHeartbeats 1000000 in
theorem set_old (xs : List Nat) (g : Nat) (now : Int) (L : List (Int × Int)) (sb : Nat → Option Nat) (ba : Nat) (id after : Int) (w : World) (h : WhW w xs g now L sb ba) (hid : wf64 id) (hG : GoodW now L) (h1 : inI id 0 = true) (h2 : inI after 1 = true) (old : Int) (h3 : getF L id = some old) (h5 : now ≤ 4611686018427387904 - after) :
    Calls Try.prog 14 #[.pointer (some ⟨g, 0, none⟩), .int .i64 id, .int .i64 after] w
      fun e w' => e = .returned (.tuple #[.int .i64 (now + after), .int .i64 0]) ∧ Goes w w' xs g now (insD (id, now + after) (delF L id)) := by
  have hT := h
  have hold := get_mem h3
  have ho := (hG.each _ hold).2.2.1
  simp only at ho
  have ho0 : 0 ≤ old := by have := hG.n0; omega
  have hg := h.own.1
  have hgr := Grow.refl w.heap.size xs
  have hfx : FromX xs w w := FromX.refl _ _
  have c1 := in_any id 0 w
  have c2 := in_any after 1 w
  rw [h1] at c1
  rw [h2] at c2
  have bd : 1 ≤ after ∧ after ≤ 2147483647 := by simpa [inI] using h2
  obtain ⟨b1, b2⟩ := bd
  clear h1 h2
  have c := h.cat
  have n0 := hG.n0
  have n1 := hG.n1
  have cw := h.blk.cell (j := 0) rfl
  have q := h.all.look id hid
  have ql := h.all.len
  have cn := none_wh xs g now L _ sb ba w h
  go_enter Try.func14, Try.ntmps14
  go_wp2_with fail
  refine wp_scope_fwd 0 rfl ?_
  intro Q2 hR hGo
  go_wp2_with fail
  refine (cn).mono ?_
  rintro e _ ⟨rfl, rfl⟩
  go_wp2_with fail
  refine (c1).mono ?_
  rintro e _ ⟨rfl, rfl⟩
  go_wp2_with fail
  refine (c2).mono ?_
  rintro e _ ⟨rfl, rfl⟩
  rw [h3] at q
  simp only [Option.getD_some, Option.isSome_some] at q
  clear h3 h ql
  go_wp2_with fail
  refine (slot_mk g w).mono ?_
  rintro e w1 ⟨⟨b, rfl, hB, -⟩, hbn⟩
  replace hT := hT.step hbn
  replace hfx := hfx.step hbn
  clear hbn
  go_wp2_with fail
  refine (slot_any _ g now _ _ _ ba b old w1 hT hB ho0).mono ?_
  rintro e w2 ⟨rfl, sb, xs', m, hT2, hs, hgr2, hk⟩
  replace hgr := hgr.trans hgr2 hfx.size
  replace hfx := hfx.kx hk (fun x hx => by simp at hx; subst hx; exact .inl hg)
  have cm := hT2.slot_cell (by omega) hs
  obtain ⟨w3, r3, m3, t3⟩ := (hT2.slot_map (by omega) hs).del id hid 0
  replace hfx := hfx.kx (kx_turned t3) (fun x hx => by simp at hx; subst hx; exact hgr.2 _ (hT2.slot_in (by omega) hs))
  replace hT := (hT2.slotTo (by omega) hs m3 t3).slotsTo (slot_del_old hG.nodup hold)
  clear m3 t3 hT2 hk hB hold
  obtain ⟨at_, hat⟩ : ∃ a, now + after = a := ⟨_, rfl⟩
  have a0 : 0 ≤ at_ := by omega
  have hwa : wf64 at_ := wf_of (by omega) (by omega)
  obtain ⟨w1, r1, m1, t1⟩ := hT.all.put id at_ hid hwa (by have := hG.len; unfold maxLen; omega)
  have cat := hT.cat
  have cnow := hT.blk.cell (j := 0) rfl
  have h5 := hT.allTo m1 t1
  have hfx2 := hfx.kx (kx_turned t1) (fun x hx => by simp at hx; subst hx; rcases hgr.2 _ hT.own.2.1 with h1 | h1; exact .inl h1; exact .inr h1)
  clear m1 t1 hT hfx
  go_wp2_with fail
  refine (slot_mk g w1).mono ?_
  rintro e w2 ⟨⟨b, rfl, hB, -⟩, hbn⟩
  have h6 := h5.step hbn
  have hfx3 := hfx2.step hbn
  clear hbn h5 hfx2
  go_wp2_with fail
  refine (slot_any _ g now _ _ _ ba b at_ w2 h6 hB a0).mono ?_
  rintro e w3 ⟨rfl, sb', xs', m, h7, hs, hgr2, hk⟩
  have hgr3 := hgr.trans hgr2 hfx3.size
  have hfx4 := hfx3.kx hk (fun x hx => by simp at hx; subst hx; exact .inl hg)
  have cm := h7.slot_cell (by omega) hs
  obtain ⟨w4, r4, m4, t4⟩ := (h7.slot_map (by omega) hs).put id at_ hid hwa (by have := hG.len; unfold maxLen slotF; have := List.length_filter_le (fun p : Int × Int => p.2 % 64 == (((at_ % 64).toNat : Nat) : Int)) (delF L id); have := List.length_filter_le (fun p : Int × Int => !(p.1 == id)) L; unfold delF at *; omega)
  have h8 := (h7.slotTo (by omega) hs m4 t4).perm (F' := slotF (insD (id, at_) (delF L id))) (insD_perm (id, at_) (delF L id)).symm (fun j _ => slot_put (del_del L id) j)
  have hfx5 := hfx4.kx (kx_turned t4) (fun x hx => by simp at hx; subst hx; exact hgr3.2 _ (h7.slot_in (by omega) hs))
  clear m4 t4 h7 hfx4 hk
  go_wp2
  refine hR.out _ _ ?_
  go_ret2
  rw [hat]
  exact ⟨rfl, xs', ⟨sb', ba, h8⟩, hgr3, hfx5⟩
end Go.Proofs.Ytfdfmmmfklodgaa
