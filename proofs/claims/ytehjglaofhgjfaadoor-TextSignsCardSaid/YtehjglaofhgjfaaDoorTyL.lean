
/- Package text: a set of names; Named. -/
import Derived.Test.YtehjglaofhgjfaaDoorTyK
import Derived.Test.YtehjglaofhgjfaaDoorMem
import Derived.Test.YtehjglaofhgjfaaDoorAcO
import Derived.Maps.OwnSet
import Derived.Maps.OwnOps
import Derived.Maps.OwnIn
import Derived.StringKeys
namespace Go.Proofs.YtehjglaofhgjfaaDoor
set_option linter.unusedSimpArgs false
set_option linter.unusedVariables false
open Go.RowKit Go.Maps
attribute [local go_sem] Oper.semAt_some
theorem lawStr : Keyed Tryd.prog 9 := string_keyed Tryd.underlying9
theorem zeroInt (w : World) : (zeroValue 3).run Tryd.prog w = .ok (.int .i64 0) w := by kernel_rfl
def one1 : DataW Unit := .lit (.int .i64 1)
/-- Block b is a map that has 1 at these texts. -/
def MapS (W : World) (b : Nat) (ks : List BL) : Prop :=
  ∃ (n : Nat) (es : List (Lit × DataW Unit)), n ≤ ks.length ∧ W.ownsMap Tryd.prog 9 (plainElem Tryd.prog 3) b n (.map es) ∧ (∀ p, p ∈ es → ∃ k, k ∈ ks ∧ p = (.string k, one1)) ∧ (∀ k, k ∈ ks → (Lit.string k, one1) ∈ es)
theorem MapS.heap {W W' : World} {b : Nat} {ks : List BL} (h : MapS W b ks) (hb : W'.heap[b]? = W.heap[b]?) : MapS W' b ks := by
  obtain ⟨n, es, hn, ⟨e0, clock, h1, h2⟩, hp⟩ := h
  exact ⟨n, es, hn, ⟨e0, clock, hb.trans h1, h2⟩, hp⟩
theorem MapS.lt {W : World} {b : Nat} {ks : List BL} (h : MapS W b ks) : b < W.heap.size := by
  obtain ⟨n, es, hn, ho, -⟩ := h
  exact ho.lt
theorem MapS.step {W W' : World} {b : Nat} {ks : List BL} (h : MapS W b ks) (hb : Below W.heap.size W W') : MapS W' b ks := h.heap (hb.block b h.lt)
theorem MapS.made (W : World) : MapS (W.alloc (.map #[] 0)) W.heap.size [] := ⟨0, [], Nat.le_refl _, World.ownsMap_made _ _ _ _, by simp, by simp⟩
theorem MapS.look {W : World} {b : Nat} {ks : List BL} (h : MapS W b ks) (x : BL) (hx : x.length ≤ maxLen) :
    (Instr.lookup 58 (.map (some b)) (.string (mkS x)) false).run Tryd.prog W = .ok (.int .i64 (if x ∈ ks then 1 else 0)) W := by
  obtain ⟨n, es, hn, ho, h1, h2⟩ := h
  have hk : keyOf Tryd.prog 9 (.string (mkS x)) = some (.string x) := by
    have := WideMaps.keyOf_string_mk (P := Tryd.prog) Tryd.underlying9 (s := mkS x) (by rw [mkS_size]; exact hx)
    rw [mkS_data] at this
    exact this
  obtain ⟨c, hr, ha, -⟩ := ho.lookup_int lawStr Tryd.underlying58 Tryd.underlying3 (zeroInt W) hk
  rw [hr]
  have hc : c = if x ∈ ks then 1 else 0 := by
    unfold DataW.atKey at ha
    simp only at ha
    cases hf : es.find? (fun p => p.1.sameKey (.string x)) with
    | none =>
      rw [hf] at ha
      simp at ha
      rw [if_neg ?_, ← ha]
      intro hm
      have := List.find?_eq_none.1 hf _ (h2 x hm)
      simp [Lit.sameKey] at this
    | some p =>
      rw [hf] at ha
      obtain ⟨k, hkk, rfl⟩ := h1 p (List.mem_of_find?_eq_some hf)
      have := List.find?_some hf
      simp [Lit.sameKey] at this
      subst this
      simp [one1] at ha
      rw [if_pos hkk, ← ha]
  rw [hc]
theorem MapS.put {W : World} {b : Nat} {ks : List BL} (h : MapS W b ks) (x : BL) (hx : x.length ≤ maxLen) (hl : ks.length < maxLen) (hm : x ∉ ks) :
    ∃ w', (Instr.mapUpdate 58 (.map (some b)) (.string (mkS x)) (.int .i64 1)).run Tryd.prog W = .ok () w' ∧ MapS w' b (ks ++ [x]) ∧ W.grownBy w' (some b) := by
  obtain ⟨n, es, hn, ho, h1, h2⟩ := h
  have hk : keyOf Tryd.prog 9 (.string (mkS x)) = some (.string x) := by
    have := WideMaps.keyOf_string_mk (P := Tryd.prog) Tryd.underlying9 (s := mkS x) (by rw [mkS_size]; exact hx)
    rw [mkS_data] at this
    exact this
  obtain ⟨w', hr, h3, h4⟩ := ho.update lawStr Tryd.underlying58 (by omega) hk (plainElem_int Tryd.underlying3 (by decide : (Lit.int .i64 1).wf = true))
  refine ⟨w', hr, ⟨n + 1, _, by simp; omega, h3, ?_, ?_⟩, h4⟩
  · intro p hp
    have hp2 := (WideShapes.insert_perm _ _).mem_iff.1 hp
    rcases List.mem_cons.1 hp2 with rfl | hp3
    · exact ⟨x, by simp, rfl⟩
    · obtain ⟨k, hk, rfl⟩ := h1 p (List.mem_filter.1 hp3).1
      exact ⟨k, by simp [hk], rfl⟩
  · intro k hk
    refine (WideShapes.insert_perm _ _).mem_iff.2 ?_
    rcases List.mem_append.1 hk with hk | hk
    · refine List.mem_cons_of_mem _ (List.mem_filter.2 ⟨h2 k hk, ?_⟩)
      have hne : k ≠ x := fun e => hm (e ▸ hk)
      simp [Lit.sameKey, hne]
    · rw [List.mem_singleton.1 hk]
      exact List.mem_cons_self
def addN (o : List BL) (x : BL) : List BL := if x ∈ o then o else o ++ [x]
theorem nubF_snoc : ∀ (a o : List BL) (x : BL), nubF o (a ++ [x]) = addN (nubF o a) x
  | [], o, x => rfl
  | y :: a, o, x => by rw [List.cons_append, nubF, nubF, nubF_snoc a _ x]
theorem nubF_len : ∀ (a o : List BL), (nubF o a).length ≤ o.length + a.length
  | [], o => by simp [nubF]
  | y :: a, o => by
    rw [nubF]
    have h := nubF_len a (if y ∈ o then o else o ++ [y])
    have h2 : (if y ∈ o then o else o ++ [y]).length ≤ o.length + 1 := by split <;> simp
    simp only [List.length_cons]
    omega
theorem nms_len : ∀ (l : BL) (p : Bool), (nms p l).length ≤ l.length
  | [], _ => by simp [nms]
  | c :: t, p => by
    have := nms_len t (isN c)
    rw [nms]
    split
    · simp only [List.length_cons]; omega
    · simp only [List.length_cons]; omega
theorem nms_short : ∀ (l : BL) (p : Bool), ∀ x ∈ nms p l, x.length ≤ 16
  | [], _, x, h => by simp [nms] at h
  | c :: t, p, x, h => by
    rw [nms] at h
    split at h
    · rename_i hc
      rcases List.mem_cons.1 h with rfl | h
      · rw [List.length_take]; omega
      · exact nms_short t _ x h
    · exact nms_short t _ x h
def strL (l : List BL) : List Value := l.map fun x => .string (mkS x)
/-- A slice of texts, its row from base on. -/
def OwnL (W : World) (base : Nat) (v : Value) (l : List BL) : Prop := W.ownsRow base 9 1 v l.length (strL l)
theorem OwnL.step {W W' : World} {base : Nat} {v : Value} {l : List BL} (h : OwnL W base v l) (hb : Below W.heap.size W W') : OwnL W' base v l := own_step h hb
theorem OwnL.form {W : World} {base : Nat} {v : Value} {l : List BL} (h : OwnL W base v l) : ∃ a c, v = .slice a l.length c := by
  rcases h.2 with ⟨e, e2⟩ | ⟨g', cap', cur, e, -⟩
  · exact ⟨none, 0, by rw [e, e2]⟩
  · exact ⟨_, _, e⟩
theorem info_str : (Tryd.prog.info? 9).map (fun i => (i.zero, i.size, i.bytes)) = some (some (.string ⟨#[]⟩), 1, 16) := by kernel_rfl
end Go.Proofs.YtehjglaofhgjfaaDoor
