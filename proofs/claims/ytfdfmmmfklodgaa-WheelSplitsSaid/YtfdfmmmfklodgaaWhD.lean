
/- Package wheel: slot. -/
import Derived.Test.YtfdfmmmfklodgaaWhC
namespace Go.Proofs.Ytfdfmmmfklodgaa
set_option linter.unusedSimpArgs false
set_option linter.unusedVariables false
open Go.RowKit
attribute [local go_sem] run_makeMap_plain
/-- The blocks of a wheel, behind a call: those that were, and new ones. -/
def Grow (n : Nat) (xs xs' : List Nat) : Prop := (∀ x, x ∈ xs → x ∈ xs') ∧ ∀ x, x ∈ xs' → x ∈ xs ∨ n ≤ x
theorem Grow.refl (n : Nat) (xs : List Nat) : Grow n xs xs := ⟨fun _ h => h, fun _ h => .inl h⟩
theorem Grow.trans {n m : Nat} {xs ys zs : List Nat} (h : Grow n xs ys) (k : Grow m ys zs) (hm : n ≤ m) : Grow n xs zs :=
  ⟨fun x hx => k.1 x (h.1 x hx), fun x hx => by
    rcases k.2 x hx with h1 | h1
    · exact h.2 x h1
    · exact .inr (Nat.le_trans hm h1)⟩
theorem Grow.not {n : Nat} {xs ys : List Nat} (h : Grow n xs ys) {b : Nat} (hb : b ∉ xs) (hn : b < n) : b ∉ ys := fun hm => by
  rcases h.2 b hm with h1 | h1
  · exact hb h1
  · omega
def updS (sb : Nat → Option Nat) (i m : Nat) : Nat → Option Nat := fun j => if j = i then some m else sb j
theorem whL_set {now : Int} {sb : Nat → Option Nat} {ba i m : Nat} (hi : i < 64) : (whL now sb ba).set (i + 1) (.map (some m)) = whL now (updS sb i m) ba := by
  unfold whL
  rw [List.set_cons_succ, List.set_append_left _ _ (by rw [slots_len]; exact hi)]
  congr 2
  unfold slotsV
  apply List.ext_getElem
  · simp
  · intro k h1 h2
    rw [List.getElem_set]
    by_cases e : i = k
    · subst e; simp [updS]
    · have e' : ¬ k = i := fun h => e h.symm
      simp [updS, e, e']
set_option maxRecDepth 100000 in
set_option maxHeartbeats 400000 in
theorem slot_mk (g : Nat) (w : World) : Calls Try.prog 35 #[.pointer (some ⟨g, 0, none⟩)] w fun e w' => (∃ b, e = .returned (.func (.func 44) #[] #[.pointer (some ⟨b, 0, none⟩)]) ∧ Boxed w' b 24 (.pointer (some ⟨g, 0, none⟩)) ∧ w.heap.size ≤ b) ∧ Below w.heap.size w w' := by
  go_enter Try.func35, Try.ntmps35
  go_wp2
  go_ret
  exact ⟨⟨_, rfl, boxed_newA rfl _ _, Nat.le_refl _⟩, (Below.refl _ _).alloc (Nat.le_refl _) _⟩
set_option maxRecDepth 100000 in
set_option maxHeartbeats 400000 in
theorem slot_old (xs : List Nat) (g : Nat) (now : Int) (A : List (Int × Int)) (F : Nat → List (Int × Int)) (sb : Nat → Option Nat) (ba b m : Nat) (at_ : Int) (w : World) (h : WhT w xs g now A F sb ba) (hB : Boxed w b 24 (.pointer (some ⟨g, 0, none⟩))) (h0 : 0 ≤ at_) (hs : sb (at_ % 64).toNat = some m) :
    Calls Try.prog 44 #[.int .i64 at_, .pointer (some ⟨b, 0, none⟩)] w fun e w' => e = .returned (.pointer (some ⟨g, 1 + (at_ % 64).toNat, none⟩)) ∧ w = w' := by
  have hc := h.blk.cell (whL_slot (at_ % 64).toNat (by omega))
  rw [Nat.add_comm, hs] at hc
  have hb := hB.cell
  have q := fun (W : World) => run_eql_map_nil W 64 2 2 (some m) Try.underlying64
  simp only [Option.isNone_some] at q
  go_enter Try.func44, Try.ntmps44
  go_wp2
  go_ret
  exact ⟨rfl, rfl⟩
set_option maxRecDepth 100000 in
set_option maxHeartbeats 400000 in
theorem slot_new (xs : List Nat) (g : Nat) (now : Int) (A : List (Int × Int)) (F : Nat → List (Int × Int)) (sb : Nat → Option Nat) (ba b : Nat) (at_ : Int) (w : World) (h : WhT w xs g now A F sb ba) (hB : Boxed w b 24 (.pointer (some ⟨g, 0, none⟩))) (h0 : 0 ≤ at_) (hs : sb (at_ % 64).toNat = none) :
    Calls Try.prog 44 #[.int .i64 at_, .pointer (some ⟨b, 0, none⟩)] w fun e w' => e = .returned (.pointer (some ⟨g, 1 + (at_ % 64).toNat, none⟩)) ∧ w' = (w.alloc (.map #[] 0)).setCell ⟨g, 1 + (at_ % 64).toNat, none⟩ (.map (some w.heap.size)) := by
  have hc := h.blk.cell (whL_slot (at_ % 64).toNat (by omega))
  rw [Nat.add_comm, hs] at hc
  have hb := hB.cell
  have q := fun (W : World) => run_eql_map_nil W 64 2 2 none Try.underlying64
  simp only [Option.isNone_none] at q
  have hn := h.blk.alloc (.map #[] 0)
  have hf := hn.frozen (1 + (at_ % 64).toNat)
  have hc1 := hn.cell (whL_slot (at_ % 64).toNat (by omega))
  rw [Nat.add_comm] at hc1
  go_enter Try.func44, Try.ntmps44
  go_wp2
  go_ret
  exact ⟨rfl, rfl⟩
theorem MapF.obj {W : World} {b : Nat} {l : List (Int × Int)} (h : MapF W b l) : ∃ es c, W.heap[b]? = some (.map es c) := by
  obtain ⟨es, ⟨e0, clock, h1, h2⟩, hp⟩ := h
  exact ⟨_, _, h1⟩
theorem MapF.ne_blk {W : World} {b g : Nat} {l : List (Int × Int)} {t : TypeId} {cs : List Value} (h : MapF W b l) (hB : Blk W g t cs) : b ≠ g := by
  rintro rfl
  obtain ⟨es, c, h1⟩ := h.obj
  rw [show W.heap[b]? = _ from hB] at h1
  cases h1
/-- Behind slot: the slot has a map. -/
theorem WhT.opened {w : World} {xs : List Nat} {g : Nat} {now : Int} {A : List (Int × Int)} {F : Nat → List (Int × Int)} {sb : Nat → Option Nat} {ba : Nat} (h : WhT w xs g now A F sb ba) {i : Nat} (hi : i < 64) (hs : sb i = none) :
    WhT ((w.alloc (.map #[] 0)).setCell ⟨g, 1 + i, none⟩ (.map (some w.heap.size))) (w.heap.size :: xs) g now A F (updS sb i w.heap.size) ba := by
  have hA := (h.slot i hi).elim (fun x => x.2) (fun ⟨b, e, _⟩ => by rw [hs] at e; cases e)
  have hg := h.blk.lt
  have hkx : Kx [g] w ((w.alloc (.map #[] 0)).setCell ⟨g, 1 + i, none⟩ (.map (some w.heap.size))) := ((Kx.refl [g] w).alloc _).setCell (.inl (by simp)) _
  have hold : ∀ j b, j < 64 → sb j = some b → b < w.heap.size := fun j b hj e => by
    rcases h.slot j hj with ⟨e1, _⟩ | ⟨b', e1, hm⟩
    · rw [e] at e1; cases e1
    · rw [e] at e1; cases e1; exact hm.lt
  refine ⟨?_, h.all.kx hkx (by simpa using h.all.ne_blk h.blk), ?_, ?_, ?_, ?_, fun x hx => by
    have h1 := hkx.size
    have h2 : ((w.alloc (.map #[] 0)).setCell ⟨g, 1 + i, none⟩ (.map (some w.heap.size))).heap.size = w.heap.size + 1 := by simp [World.setCell]
    rw [h2]
    rcases List.mem_cons.1 hx with rfl | h3
    · omega
    · have := h.lt x h3; omega⟩
  · have := (h.blk.alloc (.map #[] 0)).set (1 + i) (.map (some w.heap.size))
    rw [Nat.add_comm 1 i, whL_set hi] at this
    rw [Nat.add_comm 1 i]
    exact this
  · intro j hj
    by_cases e : j = i
    · subst e
      refine .inr ⟨w.heap.size, by simp [updS], ?_⟩
      rw [hA]
      exact (MapF.made w).heap (Below.heap_setCell _ _ _ _ (by show w.heap.size ≠ g; omega))
    · rcases h.slot j hj with ⟨e1, e2⟩ | ⟨b', e1, hm⟩
      · exact .inl ⟨by simp [updS, e, e1], e2⟩
      · exact .inr ⟨b', by simp [updS, e, e1], hm.kx hkx (by simpa using hm.ne_blk h.blk)⟩
  · intro j k b hj hk e1 e2
    unfold updS at e1 e2
    split at e1 <;> split at e2
    · omega
    · cases e1; have := hold k _ hk e2; omega
    · cases e2; have := hold j _ hj e1; omega
    · exact h.one j k b hj hk e1 e2
  · intro j hj e1
    unfold updS at e1
    split at e1
    · cases e1; have := h.all.lt; omega
    · exact h.apart j hj e1
  · refine ⟨List.mem_cons_of_mem _ h.own.1, List.mem_cons_of_mem _ h.own.2.1, fun j b hj e1 => ?_⟩
    unfold updS at e1
    split at e1
    · cases e1; simp
    · exact List.mem_cons_of_mem _ (h.own.2.2 j b hj e1)
theorem slot_any (xs : List Nat) (g : Nat) (now : Int) (A : List (Int × Int)) (F : Nat → List (Int × Int)) (sb : Nat → Option Nat) (ba b : Nat) (at_ : Int) (w : World) (h : WhT w xs g now A F sb ba) (hB : Boxed w b 24 (.pointer (some ⟨g, 0, none⟩))) (h0 : 0 ≤ at_) :
    Calls Try.prog 44 #[.int .i64 at_, .pointer (some ⟨b, 0, none⟩)] w fun e w' => e = .returned (.pointer (some ⟨g, 1 + (at_ % 64).toNat, none⟩)) ∧ ∃ sb' xs' m, WhT w' xs' g now A F sb' ba ∧ sb' (at_ % 64).toNat = some m ∧ Grow w.heap.size xs xs' ∧ Kx [g] w w' := by
  cases hs : sb (at_ % 64).toNat with
  | none =>
    refine (slot_new xs g now A F sb ba b at_ w h hB h0 hs).mono ?_
    rintro e w' ⟨rfl, rfl⟩
    exact ⟨rfl, _, _, w.heap.size, h.opened (by omega) hs, by simp [updS], ⟨fun x hx => List.mem_cons_of_mem _ hx, fun x hx => by
      rcases List.mem_cons.1 hx with rfl | h1
      · exact .inr (Nat.le_refl _)
      · exact .inl h1⟩, ((Kx.refl [g] w).alloc _).setCell (.inl (by simp)) _⟩
  | some m =>
    refine (slot_old xs g now A F sb ba b m at_ w h hB h0 hs).mono ?_
    rintro e w' ⟨rfl, rfl⟩
    exact ⟨rfl, sb, xs, m, h, hs, Grow.refl _ _, Kx.refl _ _⟩
theorem WhT.slot_cell {w : World} {xs : List Nat} {g : Nat} {now : Int} {A : List (Int × Int)} {F : Nat → List (Int × Int)} {sb : Nat → Option Nat} {ba m : Nat} (h : WhT w xs g now A F sb ba) {i : Nat} (hi : i < 64) (hs : sb i = some m) : w.cell? ⟨g, 1 + i, none⟩ = some (.map (some m)) := by
  have hc := h.blk.cell (whL_slot (sb := sb) i hi)
  rw [Nat.add_comm, hs] at hc
  exact hc
theorem WhT.slot_map {w : World} {xs : List Nat} {g : Nat} {now : Int} {A : List (Int × Int)} {F : Nat → List (Int × Int)} {sb : Nat → Option Nat} {ba m : Nat} (h : WhT w xs g now A F sb ba) {i : Nat} (hi : i < 64) (hs : sb i = some m) : MapF w m (F i) := by
  rcases h.slot i hi with ⟨e, _⟩ | ⟨b, e, hm⟩
  · rw [hs] at e; cases e
  · rw [hs] at e; cases e; exact hm
end Go.Proofs.Ytfdfmmmfklodgaa
