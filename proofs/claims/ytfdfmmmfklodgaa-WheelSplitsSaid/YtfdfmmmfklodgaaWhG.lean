
/- Package wheel: takes. -/
import Derived.Test.YtfdfmmmfklodgaaWhF
import Derived.Test.YtfdfmmmfklodgaaRw
namespace Go.Proofs.Ytfdfmmmfklodgaa
set_option linter.unusedSimpArgs false
set_option linter.unusedVariables false
open Go.RowKit Go.Maps
/-- The cells of things that are due (pairs of an ID and a tick). -/
def cellsD (l : List (Int × Int)) : List Value := l.flatMap fun p => [.int .i64 p.2, .int .i64 p.1]
theorem cellsD_app (l : List (Int × Int)) (x y : Int) : cellsD l ++ [.int .i64 y, .int .i64 x] = cellsD (l ++ [(x, y)]) := by simp [cellsD]
theorem cellsD_len (l : List (Int × Int)) : (cellsD l).length = l.length * 2 := by
  induction l with
  | nil => rfl
  | cons b t ih => simp only [cellsD, List.flatMap_cons, List.length_append, List.length_cons, List.length_nil] at ih ⊢; omega
theorem info_due : (Try.prog.info? 50).map (fun i => (i.zero, i.size, i.bytes)) = some (some (.agg #[.int .i64 0, .int .i64 0]), 2, 16) := by kernel_rfl
def ids (O : List (Int × Int)) : List (Int × Int) → List (Int × Int) := fun A => A.filter (fun p => !(O.map (·.1)).contains p.1)
structure TakeI (w0 : World) (m ba : Nat) (to : Int) (Fi A : List (Int × Int)) (v : Value) (W : World) (left : Lit → Bool) (cnt : Nat) (C O : List (Int × Int)) : Prop where
  rg : ∃ es n, W.ranges Try.prog 2 (plainElem (H := Unit) Try.prog 2) m w0.heap.size n (.map es) left cnt ∧ es.Perm (C.map pe)
  nd : (C.map (·.1)).Nodup
  pm : (C ++ O).Perm Fi
  due : ∀ p, p ∈ O → p.2 ≤ to
  stay : ∀ p, p ∈ C → left (.int .i64 p.1) = false → to < p.2
  row : W.ownsRow (w0.heap.size + 1) 50 2 v O.length (cellsD O)
  all : MapF W ba (ids O A)
  kx : Kx [ba, m] w0 W
theorem mem_of_at {es : List (Lit × DataW Unit)} {C : List (Int × Int)} (hp : es.Perm (C.map pe)) {x c : Int} (h : ∀ zd, (DataW.map es).atKey (.int .i64 x) zd = .lit (.int .i64 c)) : (x, c) ∈ C := by
  have h1 := h (.lit (.int .i64 (c + 1)))
  unfold DataW.atKey at h1
  simp only at h1
  cases hf : es.find? (fun q => q.1.sameKey (.int .i64 x)) with
  | none =>
    rw [hf] at h1
    simp at h1
    omega
  | some q =>
    rw [hf] at h1
    have h2 := List.find?_some hf
    have h3 := hp.mem_iff.1 (List.mem_of_find?_eq_some hf)
    obtain ⟨p, hp1, rfl⟩ := List.mem_map.1 h3
    simp only [pe, same64, beq_iff_eq] at h2
    simp only [pe, Option.map_some, Option.getD_some] at h1
    cases h1
    cases h2
    exact hp1
theorem has_left {es : List (Lit × DataW Unit)} {C : List (Int × Int)} (hp : es.Perm (C.map pe)) {p : Int × Int} (hm : p ∈ C) : Maps.has (.map es) (.int .i64 p.1) = true := by
  rw [Maps.has_eq, List.any_eq_true]
  exact ⟨pe p, hp.mem_iff.2 (List.mem_map_of_mem hm), by simp [pe, same64]⟩
theorem ids_snoc (O A : List (Int × Int)) (x c : Int) : delF (ids O A) x = ids (O ++ [(x, c)]) A := by
  unfold delF ids
  rw [List.filter_filter]
  congr 1
  funext p
  simp only [List.map_append, List.map_cons, List.map_nil, List.contains_eq_mem, List.mem_append, List.mem_singleton]
  by_cases h1 : p.1 = x <;> by_cases h2 : p.1 ∈ O.map (·.1) <;> simp [h1, h2]
theorem del_snoc {C O Fi : List (Int × Int)} {x c : Int} (hn : (C.map (·.1)).Nodup) (hm : (x, c) ∈ C) (hp : (C ++ O).Perm Fi) : (delF C x ++ (O ++ [(x, c)])).Perm Fi := by
  have h1 : C.Perm ((x, c) :: delF C x) := by
    clear hp
    induction C with
    | nil => cases hm
    | cons a r ih =>
      rw [List.map_cons, List.nodup_cons] at hn
      by_cases e : a.1 = x
      · have e2 : a = (x, c) := by
          rcases List.mem_cons.1 hm with h | h
          · exact h.symm
          · exact absurd (List.mem_map_of_mem (f := (·.1)) h) (by rw [e] at hn; exact hn.1)
        subst e2
        have : delF ((x, c) :: r) x = r := by
          unfold delF
          rw [List.filter_cons_of_neg (by simp), List.filter_eq_self]
          intro q hq
          have : q.1 ≠ x := fun h => hn.1 (by rw [← h]; exact List.mem_map_of_mem (f := (·.1)) hq)
          simpa using this
        rw [this]
      · have hm2 : (x, c) ∈ r := by
          rcases List.mem_cons.1 hm with h | h
          · rw [← h] at e; exact absurd rfl e
          · exact h
        have : delF (a :: r) x = a :: delF r x := by
          unfold delF
          rw [List.filter_cons_of_pos (by simpa using e)]
        rw [this]
        exact ((ih hn.2 hm2).cons a).trans (List.Perm.swap _ _ _)
  refine List.Perm.trans ?_ hp
  refine List.Perm.trans ?_ (h1.append_right O).symm
  rw [← List.append_assoc]
  refine (List.perm_append_singleton _ _).trans ?_
  rw [List.cons_append]
theorem mem_del {C : List (Int × Int)} {x : Int} {p : Int × Int} (h : p ∈ delF C x) : p ∈ C ∧ p.1 ≠ x := by
  unfold delF at h
  have := List.mem_filter.1 h
  exact ⟨this.1, by simpa using this.2⟩
/-- Behind a change of the map of all and of one slot's. -/
theorem WhT.two {w w' : World} {xs : List Nat} {g : Nat} {now : Int} {A A' : List (Int × Int)} {F : Nat → List (Int × Int)} {sb : Nat → Option Nat} {ba i m : Nat} {l : List (Int × Int)} (h : WhT w xs g now A F sb ba) (hi : i < 64) (hs : sb i = some m)
    (hA : MapF w' ba A') (hm : MapF w' m l) (hk : Kx [ba, m] w w') : WhT w' xs g now A' (updF F i l) sb ba := by
  have hold := h.slot_map hi hs
  refine ⟨h.blk.kx hk (by have := (hold.ne_blk h.blk).symm; have := (h.all.ne_blk h.blk).symm; simp; exact ⟨by assumption, by assumption⟩), hA, ?_, h.one, h.apart, h.own, fun x hx => Nat.lt_of_lt_of_le (h.lt x hx) hk.size⟩
  intro j hj
  by_cases e : j = i
  · subst e
    exact .inr ⟨m, hs, by simpa [updF] using hm⟩
  · rcases h.slot j hj with ⟨e1, e2⟩ | ⟨b', e1, hm'⟩
    · exact .inl ⟨e1, by simp [updF, e, e2]⟩
    · refine .inr ⟨b', e1, ?_⟩
      simp only [updF, if_neg e]
      exact hm'.kx hk (by
        simp
        refine ⟨?_, ?_⟩
        · rintro rfl; exact h.apart j hj e1
        · rintro rfl; exact e (h.one j i _ hj hi e1 hs))
theorem part_le {C O Fi : List (Int × Int)} {to : Int} (hp : (C ++ O).Perm Fi) (hO : ∀ p, p ∈ O → p.2 ≤ to) (hC : ∀ p, p ∈ C → to < p.2) :
    O.Perm (Fi.filter (fun p => decide (p.2 ≤ to))) ∧ C.Perm (Fi.filter (fun p => decide (to < p.2))) := by
  have h1 := hp.filter (fun p => decide (p.2 ≤ to))
  have h2 := hp.filter (fun p => decide (to < p.2))
  rw [List.filter_append] at h1 h2
  rw [show C.filter (fun p => decide (p.2 ≤ to)) = [] from List.filter_eq_nil_iff.2 (fun p hp => by have := hC p hp; simp; omega), List.nil_append, show O.filter (fun p => decide (p.2 ≤ to)) = O from List.filter_eq_self.2 (fun p hp => by simpa using hO p hp)] at h1
  rw [show O.filter (fun p => decide (to < p.2)) = [] from List.filter_eq_nil_iff.2 (fun p hp => by have := hO p hp; simp; omega), List.append_nil, show C.filter (fun p => decide (to < p.2)) = C from List.filter_eq_self.2 (fun p hp => by simpa using hC p hp)] at h2
  exact ⟨h1, h2⟩
def TakeP (w : World) (xs : List Nat) (g : Nat) (now : Int) (A : List (Int × Int)) (F : Nat → List (Int × Int)) (sb : Nat → Option Nat) (ba i m : Nat) (to : Int) (e : Ending) (w' : World) : Prop :=
  ∃ v O, e = .returned v ∧ w'.ownsRow w.heap.size 50 2 v O.length (cellsD O) ∧ O.Perm ((F i).filter (fun p => decide (p.2 ≤ to))) ∧
    WhT w' xs g now (ids O A) (updF F i ((F i).filter (fun p => decide (to < p.2)))) sb ba ∧ Kx [ba, m] w w'
set_option maxRecDepth 100000 in
set_option maxHeartbeats 4000000 in
theorem takes_any (xs : List Nat) (g : Nat) (now : Int) (A : List (Int × Int)) (F : Nat → List (Int × Int)) (sb : Nat → Option Nat) (ba i m : Nat) (to : Int) (w : World) (h : WhT w xs g now A F sb ba) (hi : i < 64) (hs : sb i = some m) (hl : (F i).length ≤ 4096) :
    Calls Try.prog 38 #[.pointer (some ⟨g, 0, none⟩), .map (some m), .int .i64 to] w (TakeP w xs g now A F sb ba i m to) := by
  obtain ⟨i0, hi0, hz0, hz1, hz2⟩ := info_parts info_due
  obtain ⟨es0, ho0, hp0, hn0⟩ := h.slot_map hi hs
  have cat := h.cat
  have hall := h.all
  have hmb : m ≠ ba := by rintro rfl; exact h.apart i hi hs
  have hgb : g ≠ ba := (h.all.ne_blk h.blk).symm
  have hgm : g ≠ m := ((h.slot_map hi hs).ne_blk h.blk).symm
  have hgl := h.blk.lt
  have hml := (h.slot_map hi hs).lt
  have hbl := h.all.lt
  go_enter Try.func38, Try.ntmps38
  go_wp2_with (first
    | (at_range; refine wpList_range_own _ rfl _ 64 rfl 2 2 law64 Try.underlying64 (plainElem (H := Unit) Try.prog 2) m _ _ rfl ho0 ?_; intro w1 hrg0 hg0 hs0; clear hs0)
    | fail)
  go_frame
  go_loopw [6] (fun v wr => ∃ left cnt C O, TakeI w m ba to (F i) A v wr left cnt C O) (fun _ wr => wr.rangeLeft m w.heap.size)
  case atStart =>
    refine ⟨_, _, F i, [], ⟨⟨_, _, hrg0, hp0⟩, hn0, by simp, by simp, fun p hp hf => ?_, World.ownsRow_nil _ _ _ _, ?_, ?_⟩⟩
    · rw [has_left hp0 hp] at hf; cases hf
    · have : ids [] A = A := by unfold ids; rw [List.filter_eq_self]; intro p _; simp
      rw [this]
      exact hall.kx (kx_grown hg0) (by simp)
    · exact (kx_grown hg0).mono (by simp)
  case round =>
    obtain ⟨left, cnt, C, O, hI⟩ := hrel
    obtain ⟨es, n, hrg, hes⟩ := hI.rg
    go_wp2_with (first
      | (at_next; refine wpList_next_ranges_ii _ rfl _ rfl 2 2 .i64 .i64 law64 Try.underlying2 Try.underlying2 m w.heap.size n _ _ _ rfl hrg ?_ ?_)
      | fail)
    · intro hc0 hl0
      go_wp2
      go_ret
      obtain ⟨hO, hC⟩ := part_le hI.pm hI.due (fun p hp => hI.stay p hp (hl0 _))
      have hm : MapF wr m C := by
        refine ⟨es, ?_, hes, hI.nd⟩
        have h4 := tight hrg.owns
        rw [hes.length_eq, List.length_map] at h4
        exact h4
      exact ⟨_, O, rfl, row_low hI.row (by omega), hO, h.two hi hs hI.all (hm.perm hC) hI.kx, hI.kx⟩
    · intro x c w1 cnt1 hwx hwc hlx hat hrg1 hlt hg1 hs1 hen
      clear hs1
      have hxm := mem_of_at hes hat
      have hcat := kx_all (ws := [ba, m]) cat (by simp; exact ⟨hgb, hgm⟩)
      have row1 := row_kx hI.row (kx_grown hg1) (fun k hk => by have := (row_ge hI.row k hk).1; simp; omega)
      by_cases hto : c ≤ to
      · have hO1 : O.length ≤ 4096 := by have := hI.pm.length_eq; rw [List.length_append] at this; omega
        have hx1 : w.heap.size + 1 ≤ w1.heap.size := by have := hrg1.lt; omega
        have hkx1 : Kx [ba, m] w w1 := hI.kx.kx (kx_grown hg1) (by simp)
        have all1 := hI.all.kx (kx_grown hg1) (by simp; omega)
        have hB := Blk.new w1 50 [.int .i64 c, .int .i64 x]
        have hk2 : Kx [] w1 (w1.alloc (.cells #[.int .i64 c, .int .i64 x] 50)) := (Kx.refl [] w1).alloc _
        have row2 := row_kx row1 hk2 (by simp)
        have hz2s : w.heap.size + 1 ≤ (w1.alloc (.cells #[.int .i64 c, .int .i64 x] 50)).heap.size := by rw [alloc_size rfl]; omega
        have hrow3 := row_ge row2
        go_wp2_with (first
          | (at_builtin; refine wpList_append_own_at _ rfl (.tmp 19) (.tmp 23) 26 rfl (w.heap.size + 1) 50 i0 (.agg #[.int .i64 0, .int .i64 0]) 2 16 Try.underlying26 hi0 hz0 hz1 hz2 rfl (by decide) u6 O.length (cellsD O) (by rfl) row2 ⟨w1.heap.size, 0, none⟩ 1 1 [.int .i64 c, .int .i64 x] (by rfl) rfl hB.news (by simp [Value.oneCell']) (by unfold maxLen; omega) (by omega) hz2s ?_
             intro v3 w3 row3 hgr3 _ hob3
             have hgr3' := hgr3
             have hk3 : Kx u6.ownBlock.toList w1 w3 := (hk2.mono (by simp)).trans (kx_grown hgr3)
             have hnb : ba ∉ u6.ownBlock.toList := fun hm => by have := (hrow3 ba (by simpa using hm)).1; omega
             have hnm : m ∉ u6.ownBlock.toList := fun hm => by have := (hrow3 m (by simpa using hm)).1; omega
             have hnr : w.heap.size ∉ u6.ownBlock.toList := fun hm => by have := (hrow3 _ (by simpa using hm)).1; omega
             have hnw : ∀ z, z ∈ u6.ownBlock.toList → w.heap.size ≤ z := fun z hm => by have := (hrow3 z (by simpa using hm)).1; omega
             clear hgr3
             have all3 := all1.kx hk3 hnb
             have kx3 : Kx [ba, m] w w3 := hkx1.kx hk3 (fun z hm => .inr (hnw z hm))
             have hrg3 := (hrg1.alloc (.cells #[.int .i64 c, .int .i64 x] 50)).kept hgr3' (fun e => hnm (by rw [← e]; simp)) (fun e => hnr (by rw [← e]; simp))
             clear hgr3'
             have cat3 := hcat _ kx3
             obtain ⟨w4, r4, m4, t4⟩ := all3.del x hwx 0
             have hrg4 := hrg3.kept t4.grown (by simp; exact hmb) (by simp; omega)
             have hk4 := kx_turned t4
             have kx4 : Kx [ba, m] w w4 := kx3.kx hk4 (fun z hm => .inl (by simp at hm; subst hm; simp))
             have row4 := row_kx row3 hk4 (fun k hk => by have := (row_ge row3 k hk).1; simp; omega)
             clear all3 kx3 hk3 hk4 t4 hrg3)
          | (at_delete; refine wpList_delete_ranges _ rfl (.tmp 30) (.tmp 31) 64 2 rfl 2 law64 Try.underlying64 (plainElem (H := Unit) Try.prog 2) m w.heap.size n _ _ _ rfl hrg4 _ _ rfl (key64 hwx) ?_; intro w5 cnt5 hrg5 hle hturn; go_frame)
          | fail)
        rw [strike_twice] at hrg5
        rw [cellsD_app] at row4
        rw [ids_snoc O A x c] at m4
        have hk5 := kx_turned hturn
        go_roundw
        case rel =>
          rw [DataW.del_eq] at hrg5
          refine ⟨_, cnt5, delF C x, O ++ [(x, c)], ⟨⟨_, n, hrg5, ?_⟩, del_nodup x hI.nd, del_snoc hI.nd hxm hI.pm, ?_, ?_, ?_, m4.kx hk5 (by simpa using hmb.symm), kx4.kx hk5 (fun z hm => .inl (by simp at hm; subst hm; simp))⟩⟩
          · have := hes.filter (ChangeMaps.notKey (.int .i64 x))
            rw [del_pe] at this
            exact this
          · intro p hp
            rcases List.mem_append.1 hp with hp | hp
            · exact hI.due p hp
            · simp at hp; subst hp; exact hto
          · intro p hp hf
            obtain ⟨h1, h2⟩ := mem_del hp
            simp only [Bool.and_eq_false_iff, Bool.not_eq_false'] at hf
            rcases hf with hf | hf
            · exact hI.stay p h1 hf
            · rw [same64, beq_iff_eq] at hf
              exact absurd hf h2
          · rw [List.length_append, List.length_cons, List.length_nil]
            exact row_kx row4 hk5 (fun k hk => by have := (row_ge row4 k hk).1; simp; omega)
        case measure => rw [hrg5.left_eq, hrg.left_eq]; omega
      · have hto2 : to < c := by omega
        go_wp2
        go_roundw
        case rel =>
          refine ⟨_, cnt1, C, O, ⟨⟨es, n, hrg1, hes⟩, hI.nd, hI.pm, hI.due, ?_, row1, hI.all.kx (kx_grown hg1) (by simp; omega), (hI.kx).kx (kx_grown hg1) (by simp)⟩⟩
          intro p hp hf
          simp only [Bool.and_eq_false_iff, Bool.not_eq_false'] at hf
          rcases hf with hf | hf
          · exact hI.stay p hp hf
          · rw [same64, beq_iff_eq] at hf
            rw [key_one hI.nd p hp _ hxm hf]
            exact hto2
        case measure => rw [hrg1.left_eq, hrg.left_eq]; exact hlt
end Go.Proofs.Ytfdfmmmfklodgaa
