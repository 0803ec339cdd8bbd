
/- A map of whatever keys and elements, as a list of pairs. -/
import Derived.Test.YthhpblchiodahaaGreatDoorM1
import Derived.Maps.OwnSet
import Derived.Maps.OwnOps
namespace Go.Proofs.YthhpblchiodahaaGreatDoor
set_option linter.unusedSimpArgs false
set_option linter.unusedVariables false
open Go.RowKit Go.Maps Go.ChangeMaps Go.MapKept
open Go.WideElems (Fit rd rg pl rd_key rd_val rg_of rd_mk)
def heldR (v : Value) : Option (DataW Value × List MemPlace) := some (.held v, [])
/-- What is asked of a type of keys, and of how they are written. -/
structure KeyE (P : Program) (k : TypeId) {α : Type} (ok : α → Prop) (ek : α → Value) : Prop where
  keyed : Keyed P k
  reads : ∀ x, ok x → ∃ l, keyOf P k (ek x) = some l
  inj : ∀ x y, ek x = ek y → x = y
/-- Block b is a map that has these pairs. -/
def MapG (P : Program) (k : TypeId) {α β : Type} (ek : α → Value) (ev : β → Value) (W : World) (b : Nat) (L : List (α × β)) : Prop :=
  ∃ es clock, W.heap[b]? = some (.map es clock) ∧ Fit P k heldR es clock ∧ (es.toList.map fun e => (e.key, e.val)).Perm (L.map fun p => (ek p.1, ev p.2)) ∧ (L.map (·.1)).Nodup
section
variable {P : Program} {k t e : TypeId} {α β : Type} {ok : α → Prop} {ek : α → Value} {ev : β → Value} {W : World} {b : Nat} {L : List (α × β)}
theorem MapG.nodup (h : MapG P k ek ev W b L) : (L.map (·.1)).Nodup := by obtain ⟨_, _, _, _, _, hn⟩ := h; exact hn
theorem MapG.heap {W' : World} (h : MapG P k ek ev W b L) (hb : W'.heap[b]? = W.heap[b]?) : MapG P k ek ev W' b L := by
  obtain ⟨es, clock, h1, h2⟩ := h
  exact ⟨es, clock, hb.trans h1, h2⟩
theorem MapG.lt (h : MapG P k ek ev W b L) : b < W.heap.size := by
  obtain ⟨es, clock, h1, h2⟩ := h
  exact (Array.getElem?_eq_some_iff.1 h1).1
theorem MapG.step {W' : World} (h : MapG P k ek ev W b L) (hb : Below W.heap.size W W') : MapG P k ek ev W' b L := h.heap (hb.block b h.lt)
theorem MapG.kx {ws : List Nat} {W' : World} (h : MapG P k ek ev W b L) (hk : Kx ws W W') (hw : b ∉ ws) : MapG P k ek ev W' b L := h.heap (hk.block b h.lt hw)
theorem MapG.made (W : World) : MapG P k ek ev (W.alloc (.map #[] 0)) W.heap.size ([] : List (α × β)) :=
  ⟨#[], 0, (MapKept.heap_alloc W _).1, ⟨by simp, stamped_empty 0, by simp⟩, by simp, by simp⟩
theorem MapG.perm {L' : List (α × β)} (h : MapG P k ek ev W b L) (hp : L.Perm L') : MapG P k ek ev W b L' := by
  obtain ⟨es, clock, h1, h2, h3, h4⟩ := h
  exact ⟨es, clock, h1, h2, h3.trans (hp.map _), (hp.map _).nodup_iff.1 h4⟩
theorem MapG.size (h : MapG P k ek ev W b L) : ∃ es clock, W.heap[b]? = some (.map es clock) ∧ es.size = L.length := by
  obtain ⟨es, clock, h1, h2, h3, h4⟩ := h
  have := h3.length_eq
  simp at this
  exact ⟨es, clock, h1, this⟩
/-- The entries as they read. -/
theorem rg_held {es : Array MapEntry} {clock : Nat} (F : Fit P k heldR es clock) {x : MapEntry} (hx : x ∈ es.toList) : ∃ l, keyOf P k x.key = some l ∧ rg P k heldR x = (l, .held x.val) := by
  obtain ⟨y, hy⟩ := F.reads x hx
  have h1 := rd_key hy
  obtain ⟨zv, h2, h3⟩ := rd_val hy
  refine ⟨y.1, h1, ?_⟩
  rw [rg_of hy]
  cases h2
  obtain ⟨y1, y2⟩ := y
  simp only at h3 ⊢
  rw [h3]
open Classical in
noncomputable def backV (P : Program) (k : TypeId) (p : Lit × DataW Value) : Value × Value :=
  (if h : ∃ v, keyOf P k v = some p.1 then h.choose else undef, match p.2 with | .held v => v | _ => undef)
theorem backV_rg (K : Keyed P k) {es : Array MapEntry} {clock : Nat} (F : Fit P k heldR es clock) {x : MapEntry} (hx : x ∈ es.toList) : backV P k (rg P k heldR x) = (x.key, x.val) := by
  obtain ⟨l, h1, h2⟩ := rg_held F hx
  rw [h2]
  unfold backV
  have hex : ∃ v, keyOf P k v = some l := ⟨_, h1⟩
  rw [dif_pos hex]
  rw [K.inj hex.choose_spec h1]
theorem backV_mk (K : Keyed P k) {key v : Value} {l : Lit} (h1 : keyOf P k key = some l) : backV P k (l, .held v) = (key, v) := by
  unfold backV
  have hex : ∃ v, keyOf P k v = some l := ⟨_, h1⟩
  rw [dif_pos hex, K.inj hex.choose_spec h1]
theorem kv_of (K : Keyed P k) {es : Array MapEntry} {clock : Nat} (F : Fit P k heldR es clock) : (es.toList.map (rg P k heldR)).map (backV P k) = es.toList.map fun e => (e.key, e.val) := by
  rw [List.map_map]
  apply List.map_congr_left
  intro x hx
  exact backV_rg K F hx
theorem MapG.len (h : MapG P k ek ev W b L) (ht : P.underlying t = some (.map k e)) (ty : TypeId) : (Builtin.len_ #[t] ty #[.map (some b)]).run P W = .ok (.int .i64 L.length) W := by
  obtain ⟨es, clock, hb, F, hp, hn⟩ := h
  have hs := hp.length_eq
  simp at hs
  simp [Builtin.len_, run_underlying ht, MapKept.run_getObj_map hb, goInt, Result.andThen, hs]
end
section
variable {P : Program} {k t e : TypeId} {α β : Type} [DecidableEq α] {ok : α → Prop} {ek : α → Value} {ev : β → Value} {W : World} {b : Nat} {L : List (α × β)}
def getG (L : List (α × β)) (x : α) : Option β := (L.find? (fun p => decide (p.1 = x))).map (·.2)
def delG (L : List (α × β)) (x : α) : List (α × β) := L.filter (fun p => decide (p.1 ≠ x))
def putG (L : List (α × β)) (x : α) (y : β) : List (α × β) := (x, y) :: delG L x
theorem getG_mem {x : α} {y : β} (hn : (L.map (·.1)).Nodup) (h : (x, y) ∈ L) : getG L x = some y := by
  unfold getG
  induction L with
  | nil => cases h
  | cons a r ih =>
    rw [List.map_cons, List.nodup_cons] at hn
    rw [List.find?_cons]
    rcases List.mem_cons.1 h with rfl | h1
    · simp
    · have : a.1 ≠ x := fun e => hn.1 (e ▸ List.mem_map_of_mem (f := (·.1)) h1)
      rw [decide_eq_false this]
      exact ih hn.2 h1
theorem mem_getG {x : α} {y : β} (h : getG L x = some y) : (x, y) ∈ L := by
  unfold getG at h
  cases hf : L.find? (fun p => decide (p.1 = x)) with
  | none => rw [hf] at h; cases h
  | some p =>
    rw [hf] at h
    have h1 := List.find?_some hf
    have h2 := List.mem_of_find?_eq_some hf
    simp at h h1
    obtain ⟨a, c⟩ := p
    simp at h h1
    subst h h1
    exact h2
theorem getG_none {x : α} : getG L x = none ↔ ∀ y, (x, y) ∉ L := by
  constructor
  · intro h y hm
    unfold getG at h
    rw [Option.map_eq_none_iff, List.find?_eq_none] at h
    simpa using h (x, y) hm
  · intro h
    cases hg : getG L x with
    | none => rfl
    | some y => exact absurd (mem_getG hg) (h y)
theorem getG_put (x z : α) (y : β) : getG (putG L x y) z = if z = x then some y else getG L z := by
  unfold getG putG delG
  rw [List.find?_cons]
  by_cases h : z = x
  · subst h; simp
  · rw [if_neg h, decide_eq_false (fun e => h e.symm)]
    congr 1
    induction L with
    | nil => rfl
    | cons a r ih =>
      rw [List.find?_cons]
      by_cases ha : a.1 = x
      · have : a.1 ≠ z := fun e => h (e.symm.trans ha)
        rw [List.filter_cons_of_neg (by simp [ha]), decide_eq_false this]
        exact ih
      · rw [List.filter_cons_of_pos (by simp [ha]), List.find?_cons]
        by_cases hz : a.1 = z
        · simp [hz]
        · rw [decide_eq_false hz]; exact ih
theorem getG_del (x z : α) : getG (delG L x) z = if z = x then none else getG L z := by
  by_cases h : z = x
  · subst h
    rw [if_pos rfl, getG_none]
    intro y hm
    simp [delG] at hm
  · rw [if_neg h]
    cases hg : getG L z with
    | none =>
      rw [getG_none] at hg ⊢
      intro y hm
      simp only [delG, List.mem_filter] at hm
      exact hg y hm.1
    | some y =>
      unfold getG delG at *
      rw [← hg]
      congr 1
      clear hg
      induction L with
      | nil => rfl
      | cons a r ih =>
        rw [List.find?_cons]
        by_cases ha : a.1 = x
        · have : a.1 ≠ z := fun e => h (e.symm.trans ha)
          rw [List.filter_cons_of_neg (by simp [ha]), decide_eq_false this]
          exact ih
        · rw [List.filter_cons_of_pos (by simp [ha]), List.find?_cons]
          by_cases hz : a.1 = z
          · simp [hz]
          · rw [decide_eq_false hz]; exact ih
theorem delG_nodup (x : α) (hn : (L.map (·.1)).Nodup) : ((delG L x).map (·.1)).Nodup := (List.filter_sublist.map _).nodup hn
theorem putG_nodup (x : α) (y : β) (hn : (L.map (·.1)).Nodup) : ((putG L x y).map (·.1)).Nodup := by
  unfold putG
  rw [List.map_cons, List.nodup_cons]
  refine ⟨?_, delG_nodup x hn⟩
  intro hm
  obtain ⟨q, hq, e⟩ := List.mem_map.1 hm
  simp only [delG, List.mem_filter] at hq
  simp [e] at hq
theorem MapG.look (h : MapG P k ek ev W b L) (K : KeyE P k ok ek) (ht : P.underlying t = some (.map k e)) {z : Value} (hz : (zeroValue e).run P W = .ok z W) (x : α) (hx : ok x) :
    (Instr.lookup t (.map (some b)) (ek x) true).run P W = .ok (match getG L x with | some y => .tuple #[ev y, .bool true] | none => .tuple #[z, .bool false]) W := by
  obtain ⟨es, clock, hb, F, hp, hn⟩ := h
  obtain ⟨kl, hk⟩ := K.reads x hx
  rcases Maps.fit_look true K.keyed ht hz hb F hk with ⟨hr, h2, -⟩ | ⟨e0, y, hm, hke, hr, -⟩
  · have hg : getG L x = none := by
      rw [getG_none]
      intro y hy
      have h3 : (ek x, ev y) ∈ es.toList.map fun e => (e.key, e.val) := hp.mem_iff.2 (List.mem_map.2 ⟨(x, y), hy, rfl⟩)
      obtain ⟨e0, h4, h5⟩ := List.mem_map.1 h3
      exact h2 e0 h4 (congrArg Prod.fst h5)
    rw [hr, hg]
    simp
  · have h3 := hp.mem_iff.1 (List.mem_map.2 ⟨e0, hm, rfl⟩)
    obtain ⟨⟨x', y'⟩, h4, h5⟩ := List.mem_map.1 h3
    have e1 := congrArg Prod.fst h5
    have e2 := congrArg Prod.snd h5
    simp only at e1 e2
    have hx' : x' = x := K.inj _ _ (e1.trans hke)
    subst hx'
    rw [hr, getG_mem hn h4, ← e2]
    simp
/-- 'm[k]' without 'ok'. -/
theorem MapG.look1 (h : MapG P k ek ev W b L) (K : KeyE P k ok ek) (ht : P.underlying t = some (.map k e)) {z : Value} (hz : (zeroValue e).run P W = .ok z W) (x : α) (hx : ok x) :
    (Instr.lookup t (.map (some b)) (ek x) false).run P W = .ok (match getG L x with | some y => ev y | none => z) W := by
  obtain ⟨es, clock, hb, F, hp, hn⟩ := h
  obtain ⟨kl, hk⟩ := K.reads x hx
  rcases Maps.fit_look false K.keyed ht hz hb F hk with ⟨hr, h2, -⟩ | ⟨e0, y, hm, hke, hr, -⟩
  · have hg : getG L x = none := by
      rw [getG_none]
      intro y hy
      have h3 : (ek x, ev y) ∈ es.toList.map fun e => (e.key, e.val) := hp.mem_iff.2 (List.mem_map.2 ⟨(x, y), hy, rfl⟩)
      obtain ⟨e0, h4, h5⟩ := List.mem_map.1 h3
      exact h2 e0 h4 (congrArg Prod.fst h5)
    rw [hr, hg]
    simp
  · have h3 := hp.mem_iff.1 (List.mem_map.2 ⟨e0, hm, rfl⟩)
    obtain ⟨⟨x', y'⟩, h4, h5⟩ := List.mem_map.1 h3
    have e1 := congrArg Prod.fst h5
    have e2 := congrArg Prod.snd h5
    simp only at e1 e2
    have hx' : x' = x := K.inj _ _ (e1.trans hke)
    subst hx'
    rw [hr, getG_mem hn h4, ← e2]
    simp
theorem kv_filter (K : KeyE P k ok ek) {es : Array MapEntry} {clock : Nat} (F : Fit P k heldR es clock) (hp : (es.toList.map fun e => (e.key, e.val)).Perm (L.map fun p => (ek p.1, ev p.2))) {x : α} {kl : Lit} (hk : keyOf P k (ek x) = some kl) :
    (((es.toList.map (rg P k heldR)).filter (notKey kl)).map (backV P k)).Perm ((delG L x).map fun p => (ek p.1, ev p.2)) := by
  classical
  have e1 : (es.toList.map (rg P k heldR)).filter (notKey kl) = (es.toList.filter (fun e => decide (e.key ≠ ek x))).map (rg P k heldR) := by
    rw [List.filter_map]
    congr 1
    apply List.filter_congr
    intro y hy
    obtain ⟨l, h1, h2⟩ := rg_held F hy
    rw [Bool.eq_iff_iff]
    simp only [Function.comp]
    rw [h2, decide_eq_true_iff, Maps.notKey_iff (K.keyed.key hk)]
    simp only
    constructor
    · intro h e
      rw [e, hk] at h1
      exact h (Option.some.inj h1).symm
    · intro h e
      subst e
      exact h (K.keyed.inj h1 hk)
  have e2 : ((es.toList.filter (fun e => decide (e.key ≠ ek x))).map (rg P k heldR)).map (backV P k) = (es.toList.map fun e => (e.key, e.val)).filter (fun q => decide (q.1 ≠ ek x)) := by
    rw [List.filter_map, List.map_map]
    apply List.map_congr_left
    intro y hy
    exact backV_rg K.keyed F (List.mem_filter.1 hy).1
  have e3 : (L.map fun p => (ek p.1, ev p.2)).filter (fun q => decide (q.1 ≠ ek x)) = (delG L x).map fun p => (ek p.1, ev p.2) := by
    rw [List.filter_map]
    unfold delG
    congr 1
    apply List.filter_congr
    intro p _
    simp only [Function.comp]
    rw [decide_eq_decide]
    exact not_congr ⟨fun h => K.inj _ _ h, fun h => by rw [h]⟩
  rw [e1, e2, ← e3]
  exact hp.filter _
theorem MapG.put (h : MapG P k ek ev W b L) (K : KeyE P k ok ek) (ht : P.underlying t = some (.map k e)) (x : α) (y : β) (hx : ok x) (hl : L.length < maxLen) :
    ∃ w', (Instr.mapUpdate t (.map (some b)) (ek x) (ev y)).run P W = .ok () w' ∧ MapG P k ek ev w' b (putG L x y) ∧ Kx [b] W w' ∧ w'.heap.size = W.heap.size := by
  obtain ⟨es, clock, hb, F, hp, hn⟩ := h
  obtain ⟨kl, hk⟩ := K.reads x hx
  have hsz : es.size < maxLen := by have := hp.length_eq; simp at this; omega
  obtain ⟨es', clock', hr, F', hd, -⟩ := Maps.fit_store (R := heldR) (R' := heldR) (yv := (.held (ev y), [])) K.keyed ht hb F hsz (fun x _ _ z h => h) hk rfl
  have hlt := (Array.getElem?_eq_some_iff.1 hb).1
  refine ⟨_, hr, ⟨es', clock', ?_, F', ?_, putG_nodup x y hn⟩, ?_, ?_⟩
  · simp [setBlock, hlt]
  · have p1 : (es'.toList.map (rg P k heldR)).Perm ((kl, .held (ev y)) :: (es.toList.map (rg P k heldR)).filter (notKey kl)) := by
      refine (Go.WideShapes.sorted_perm _).symm.trans ?_
      rw [hd]
      unfold putKey
      refine (Go.WideShapes.insert_perm _ _).trans ?_
      exact ((Go.WideShapes.sorted_perm _).filter _).cons _
    have p2 := p1.map (backV P k)
    rw [kv_of K.keyed F', List.map_cons, backV_mk K.keyed hk] at p2
    refine p2.trans ?_
    unfold putG
    rw [List.map_cons]
    exact (kv_filter K F hp hk).cons _
  · refine ⟨rfl, rfl, rfl, by simp [setBlock], fun j hj hw => ?_⟩
    simp only [setBlock]
    rw [Array.getElem?_setIfInBounds_ne (by intro e; subst e; simp at hw)]
  · simp [setBlock]
theorem MapG.del (h : MapG P k ek ev W b L) (K : KeyE P k ok ek) (ht : P.underlying t = some (.map k e)) (x : α) (hx : ok x) (ty : TypeId) :
    ∃ w', (Builtin.delete_ #[t, k] ty #[.map (some b), ek x]).run P W = .ok (.tuple #[]) w' ∧ MapG P k ek ev w' b (delG L x) ∧ Kx [b] W w' ∧ w'.heap.size = W.heap.size := by
  obtain ⟨es, clock, hb, F, hp, hn⟩ := h
  obtain ⟨kl, hk⟩ := K.reads x hx
  obtain ⟨es', hr, F', -, hd, -⟩ := Maps.fit_drop (ty := ty) K.keyed ht hb F hk
  have hlt := (Array.getElem?_eq_some_iff.1 hb).1
  refine ⟨_, hr, ⟨es', clock, ?_, F', ?_, delG_nodup x hn⟩, ?_, ?_⟩
  · simp [setBlock, hlt]
  · have p1 : (es'.toList.map (rg P k heldR)).Perm ((es.toList.map (rg P k heldR)).filter (notKey kl)) := by
      refine (Go.WideShapes.sorted_perm _).symm.trans ?_
      rw [hd]
      exact (Go.WideShapes.sorted_perm _).filter _
    have p2 := p1.map (backV P k)
    rw [kv_of K.keyed F'] at p2
    exact p2.trans (kv_filter K F hp hk)
  · refine ⟨rfl, rfl, rfl, by simp [setBlock], fun j hj hw => ?_⟩
    simp only [setBlock]
    rw [Array.getElem?_setIfInBounds_ne (by intro e; subst e; simp at hw)]
  · simp [setBlock]
end
end Go.Proofs.YthhpblchiodahaaGreatDoor
