
/- Package wheel: a map of whole numbers, as a list of pairs. -/
import Derived.Test.YtfdfmmmfklodgaaMem
import Derived.Maps.OwnSet
import Derived.Maps.OwnOps
import Derived.Maps.RangeWalk
namespace Go.Proofs.Ytfdfmmmfklodgaa
set_option linter.unusedSimpArgs false
set_option linter.unusedVariables false
open Go.RowKit Go.Maps
theorem law64 : Keyed Try.prog 2 := int_keyed Try.underlying2
theorem zero64 (w : World) : (zeroValue 2).run Try.prog w = .ok (.int .i64 0) w := by kernel_rfl
def pe (p : Int × Int) : Lit × DataW Unit := (.int .i64 p.1, .lit (.int .i64 p.2))
/-- What a list of pairs has at a key. -/
def getF (l : List (Int × Int)) (x : Int) : Option Int := (l.find? (fun p => p.1 == x)).map (·.2)
theorem same64 (a b : Int) : (Lit.int .i64 a).sameKey (Lit.int .i64 b) = (a == b) := by
  rw [Bool.eq_iff_iff]
  simp [Lit.sameKey]
theorem has_list (l : List (Int × Int)) (es : List (Lit × DataW Unit)) (h : es.Perm (l.map pe)) (x : Int) : Maps.has (.map es) (.int .i64 x) = (getF l x).isSome := by
  rw [Maps.has_eq, h.any_eq, List.any_map]
  unfold getF
  rw [Option.isSome_map, Bool.eq_iff_iff, List.find?_isSome, List.any_eq_true]
  simp [pe, same64]
theorem find_perm {α : Type} {p : α → Bool} {a b : List α} (h : a.Perm b) (hu : ∀ x ∈ a, ∀ y ∈ a, p x = true → p y = true → x = y) : a.find? p = b.find? p := by
  cases ha : a.find? p with
  | none =>
    symm
    rw [List.find?_eq_none] at *
    intro x hx
    exact ha x (h.mem_iff.2 hx)
  | some x =>
    have h1 := List.find?_some ha
    have h2 := List.mem_of_find?_eq_some ha
    cases hb : b.find? p with
    | none => exact absurd h1 (by simpa using List.find?_eq_none.1 hb x (h.mem_iff.1 h2))
    | some y => rw [hu x h2 y (h.mem_iff.2 (List.mem_of_find?_eq_some hb)) h1 (List.find?_some hb)]
theorem key_one {l : List (Int × Int)} (hn : (l.map (·.1)).Nodup) : ∀ p ∈ l, ∀ q ∈ l, p.1 = q.1 → p = q := by
  induction l with
  | nil => intro p hp; cases hp
  | cons a r ih =>
    rw [List.map_cons, List.nodup_cons] at hn
    intro p hp q hq e
    rcases List.mem_cons.1 hp with rfl | hp1
    · rcases List.mem_cons.1 hq with rfl | hq1
      · rfl
      · exact absurd (e ▸ List.mem_map_of_mem (f := (·.1)) hq1) hn.1
    · rcases List.mem_cons.1 hq with rfl | hq1
      · have h2 : p.1 ∈ r.map (·.1) := List.mem_map_of_mem hp1
        rw [e] at h2
        exact absurd h2 hn.1
      · exact ih hn.2 p hp1 q hq1 e
theorem at_list (l : List (Int × Int)) (hn : (l.map (·.1)).Nodup) (es : List (Lit × DataW Unit)) (h : es.Perm (l.map pe)) (x : Int) : (DataW.map es).atKey (.int .i64 x) (.lit (.int .i64 0)) = .lit (.int .i64 ((getF l x).getD 0)) := by
  have hf := find_perm h.symm (p := fun q => q.1.sameKey (.int .i64 x)) (by
    intro a ha b hb pa pb
    obtain ⟨a, ha', rfl⟩ := List.mem_map.1 ha
    obtain ⟨b, hb', rfl⟩ := List.mem_map.1 hb
    simp only [pe, same64, beq_iff_eq] at pa pb
    rw [key_one hn a ha' b hb' (pa.trans pb.symm)])
  rw [List.find?_map] at hf
  unfold DataW.atKey getF
  simp only
  rw [← hf]
  have hc : ((fun q : Lit × DataW Unit => q.1.sameKey (.int .i64 x)) ∘ pe) = fun p : Int × Int => p.1 == x := by
    funext p
    simp [pe, same64]
  rw [hc]
  cases l.find? (fun p => p.1 == x) <;> simp [pe]
/-- Block b is a map that has these pairs. -/
def MapF (W : World) (b : Nat) (l : List (Int × Int)) : Prop :=
  ∃ es : List (Lit × DataW Unit), W.ownsMap Try.prog 2 (plainElem Try.prog 2) b l.length (.map es) ∧ es.Perm (l.map pe) ∧ (l.map (·.1)).Nodup
def wf64 (x : Int) : Prop := (Lit.int .i64 x).wf = true
def delF (l : List (Int × Int)) (x : Int) : List (Int × Int) := l.filter (fun p => !(p.1 == x))
def putF (l : List (Int × Int)) (x y : Int) : List (Int × Int) := (x, y) :: delF l x
theorem key64 {x : Int} (h : wf64 x) : keyOf Try.prog 2 (.int .i64 x) = some (.int .i64 x) := keyOf_int_mk Try.underlying2 h
theorem MapF.look {W : World} {b : Nat} {l : List (Int × Int)} (h : MapF W b l) (x : Int) (hx : wf64 x) :
    (Instr.lookup 64 (.map (some b)) (.int .i64 x) true).run Try.prog W = .ok (.tuple #[.int .i64 ((getF l x).getD 0), .bool (getF l x).isSome]) W := by
  obtain ⟨es, ho, hp, hn⟩ := h
  obtain ⟨v, ps, hr, hv⟩ := ho.look_ok law64 Try.underlying64 (zero64 W) (plainElem_int Try.underlying2 (by decide)) (key64 hx)
  rw [has_list l es hp] at hr
  rw [at_list l hn es hp] at hv
  obtain ⟨c, rfl, hc, -⟩ := plainElem_int_inv Try.underlying2 hv
  have hc2 := congrArg Prod.fst hc
  simp at hc2
  rw [hr, hc2]
theorem tight {H : Type} {W : World} {P : Program} {k : TypeId} {R : Value → Option (DataW H × List MemPlace)} {b n : Nat} {es : List (Lit × DataW H)} (h : W.ownsMap P k R b n (.map es)) : W.ownsMap P k R b es.length (.map es) := by
  obtain ⟨e0, clock, hb, F, hs, he⟩ := h
  refine ⟨e0, clock, hb, F, ?_, he⟩
  injection he with he
  rw [he, length_sorted]
  simp
theorem MapF.len {W : World} {b : Nat} {l : List (Int × Int)} (h : MapF W b l) (ty : TypeId) : (Builtin.len_ #[64] ty #[.map (some b)]).run Try.prog W = .ok (.int .i64 l.length) W := by
  obtain ⟨es, ho, hp, hn⟩ := h
  have h1 := ho.len Try.underlying64 ty
  rw [Maps.size_eq, hp.length_eq, List.length_map] at h1
  exact h1
theorem del_pe (l : List (Int × Int)) (x : Int) : (l.map pe).filter (ChangeMaps.notKey (.int .i64 x)) = (delF l x).map pe := by
  unfold delF
  rw [List.filter_map]
  congr 1
  apply List.filter_congr
  intro p _
  simp [ChangeMaps.notKey, pe, same64]
theorem del_nodup {l : List (Int × Int)} (x : Int) (hn : (l.map (·.1)).Nodup) : ((delF l x).map (·.1)).Nodup := by
  unfold delF
  exact (List.filter_sublist.map _).nodup hn
theorem MapF.del {W : World} {b : Nat} {l : List (Int × Int)} (h : MapF W b l) (x : Int) (hx : wf64 x) (ty : TypeId) :
    ∃ w', (Builtin.delete_ #[64, 2] ty #[.map (some b), .int .i64 x]).run Try.prog W = .ok (.tuple #[]) w' ∧ MapF w' b (delF l x) ∧ W.mapTurned w' b := by
  obtain ⟨es, ho, hp, hn⟩ := h
  obtain ⟨w', hr, h2, h3⟩ := ho.drop law64 Try.underlying64 (key64 hx) ty
  rw [DataW.del_eq] at h2
  have hq : (ChangeMaps.delKey (.int .i64 x) es).Perm ((delF l x).map pe) := by
    rw [← del_pe]
    exact hp.filter _
  have h4 := tight h2
  rw [hq.length_eq, List.length_map] at h4
  exact ⟨w', hr, ⟨_, h4, hq, del_nodup x hn⟩, h3⟩
theorem MapF.put {W : World} {b : Nat} {l : List (Int × Int)} (h : MapF W b l) (x y : Int) (hx : wf64 x) (hy : wf64 y) (hl : l.length < maxLen) :
    ∃ w', (Instr.mapUpdate 64 (.map (some b)) (.int .i64 x) (.int .i64 y)).run Try.prog W = .ok () w' ∧ MapF w' b (putF l x y) ∧ W.mapTurned w' b := by
  obtain ⟨es, ho, hp, hn⟩ := h
  obtain ⟨w', hr, h2, h3⟩ := ho.store law64 Try.underlying64 hl (key64 hx) (plainElem_int Try.underlying2 hy)
  rw [DataW.put_eq] at h2
  have hq : (ChangeMaps.putKey (.int .i64 x) (.lit (.int .i64 y)) es).Perm ((putF l x y).map pe) := by
    unfold ChangeMaps.putKey putF
    refine (WideShapes.insert_perm _ _).trans ?_
    rw [List.map_cons, ← del_pe]
    exact (hp.filter _).cons _
  have h4 := tight h2
  rw [hq.length_eq, List.length_map] at h4
  refine ⟨w', hr, ⟨_, h4, hq, ?_⟩, h3⟩
  unfold putF
  rw [List.map_cons, List.nodup_cons]
  refine ⟨?_, del_nodup x hn⟩
  intro hm
  obtain ⟨q, hq, e⟩ := List.mem_map.1 hm
  simp only [delF, List.mem_filter] at hq
  simp [e] at hq
theorem MapF.heap {W W' : World} {b : Nat} {l : List (Int × Int)} (h : MapF W b l) (hb : W'.heap[b]? = W.heap[b]?) : MapF W' b l := by
  obtain ⟨es, ⟨e0, clock, h1, h2⟩, hp⟩ := h
  exact ⟨es, ⟨e0, clock, hb.trans h1, h2⟩, hp⟩
theorem MapF.lt {W : World} {b : Nat} {l : List (Int × Int)} (h : MapF W b l) : b < W.heap.size := by
  obtain ⟨es, ⟨e0, clock, h1, h2⟩, hp⟩ := h
  exact (Array.getElem?_eq_some_iff.1 h1).1
theorem MapF.step {W W' : World} {b : Nat} {l : List (Int × Int)} (h : MapF W b l) (hb : Below W.heap.size W W') : MapF W' b l := h.heap (hb.block b h.lt)
theorem MapF.kx {ws : List Nat} {W W' : World} {b : Nat} {l : List (Int × Int)} (h : MapF W b l) (hk : Kx ws W W') (hw : b ∉ ws) : MapF W' b l := h.heap (hk.block b h.lt hw)
theorem MapF.made (W : World) : MapF (W.alloc (.map #[] 0)) W.heap.size [] := by
  refine ⟨[], ?_, by simp, by simp⟩
  exact World.ownsMap_made _ _ _ _
theorem MapF.perm {W : World} {b : Nat} {l l' : List (Int × Int)} (h : MapF W b l) (hp : l.Perm l') : MapF W b l' := by
  obtain ⟨es, ho, hq, hn⟩ := h
  exact ⟨es, by rw [← hp.length_eq]; exact ho, hq.trans (hp.map _), (hp.map _).nodup_iff.1 hn⟩
theorem getF_perm {l l' : List (Int × Int)} (hn : (l.map (·.1)).Nodup) (hp : l.Perm l') (x : Int) : getF l x = getF l' x := by
  unfold getF
  rw [find_perm hp (fun a ha b hb pa pb => key_one hn a ha b hb (by simp only [beq_iff_eq] at pa pb; exact pa.trans pb.symm))]
theorem MapF.nodup {W : World} {b : Nat} {l : List (Int × Int)} (h : MapF W b l) : (l.map (·.1)).Nodup := by
  obtain ⟨_, _, _, hn⟩ := h
  exact hn
end Go.Proofs.Ytfdfmmmfklodgaa
