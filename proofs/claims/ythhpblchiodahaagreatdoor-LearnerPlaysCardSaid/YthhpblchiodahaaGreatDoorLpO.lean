
/- Law 16: numbers that are counted up where they lie. -/
import Derived.Test.YthhpblchiodahaaGreatDoorLpN
namespace Go.Proofs.YthhpblchiodahaaGreatDoor
set_option linter.unusedSimpArgs false
set_option linter.unusedVariables false
open Go.RowKit Go.Maps
/-- A slice of n numbers, whose block lies from base on. -/
def AnyI (W : World) (base : Nat) (v : Value) (n : Nat) : Prop := ∃ l : List Int, l.length = n ∧ RowI W base v l
theorem AnyI.form {W : World} {base n : Nat} {v : Value} (h : AnyI W base v n) : ∃ a c, v = .slice a n c := by
  obtain ⟨l, rfl, h⟩ := h
  exact h.form
theorem AnyI.step {W W' : World} {base n : Nat} {v : Value} (h : AnyI W base v n) (hb : Below W.heap.size W W') : AnyI W' base v n := by
  obtain ⟨l, h1, h⟩ := h
  exact ⟨l, h1, h.step hb⟩
theorem intsL_set (l : List Int) (k : Nat) (z : Int) : (intsL l).set k (.int .i64 z) = intsL (l.set k z) := by
  unfold intsL
  rw [List.map_set]
theorem AnyI.cell {W : World} {base n : Nat} {v : Value} (h : AnyI W base v n) {k : Nat} (hk : k < n) :
    ∃ g c x cur, v = .slice (some ⟨g, 0, none⟩) n c ∧ base ≤ g ∧ Blk W g 3 cur ∧ cur[k]? = some (.int .i64 x) := by
  obtain ⟨l, rfl, h1, h2⟩ := h
  rcases h2 with ⟨-, h0⟩ | ⟨g, cap, cur, rfl, hg, hh, hle, hcap, hsz, htk⟩
  · omega
  · refine ⟨g, cap, l[k], cur.toList, rfl, hg, by simpa [Blk] using hh, ?_⟩
    have e1 : (cur.toList.take (l.length * 1))[k]? = (intsL l)[k]? := by rw [htk]
    rw [List.getElem?_take_of_lt (by omega)] at e1
    rw [e1]
    unfold intsL
    rw [List.getElem?_map, List.getElem?_eq_getElem hk]
    rfl
theorem AnyI.set {W : World} {base n : Nat} {v : Value} (h : AnyI W base v n) {q k : Nat} {cur : List Value} (B : Blk W q 3 cur) (z : Int) : AnyI (W.setCell ⟨q, k, none⟩ (.int .i64 z)) base v n := by
  obtain ⟨l, rfl, h1, h2⟩ := h
  rcases h2 with ⟨rfl, h0⟩ | ⟨g, cap, cs, rfl, hg, hh, hle, hcap, hsz, htk⟩
  · exact ⟨l, rfl, h1, .inl ⟨rfl, h0⟩⟩
  · by_cases hq : g = q
    · subst hq
      have hcs : cur = cs.toList := by
        have e : W.heap[g]? = _ := B
        rw [hh] at e
        injection e with e
        injection e with e _ _
        simpa using congrArg Array.toList e.symm
      subst hcs
      have B2 := B.set k (.int .i64 z)
      refine ⟨l.set k z, by simp, by simp [intsL], .inr ⟨g, cap, (cs.toList.set k (.int .i64 z)).toArray, by simp, hg, B2, by simpa using hle, hcap, by simpa using hsz, ?_⟩⟩
      rw [List.length_set]
      show (cs.toList.set k (.int .i64 z)).take (l.length * 1) = _
      rw [List.take_set, htk, intsL_set]
    · refine ⟨l, rfl, h1, .inr ⟨g, cap, cs, rfl, hg, ?_, hle, hcap, hsz, htk⟩⟩
      have hk2 : Kx [q] W (W.setCell ⟨q, k, none⟩ (.int .i64 z)) := (Kx.refl _ _).setCell (.inl (by simp)) _
      have B3 : Blk W g 3 cs.toList := by simpa [Blk] using hh
      have := hk2.blk B3 (by simpa using hq)
      simpa [Blk] using this
/-- What was heard, as it lies, but for the places' numbers. -/
structure IncI (base : Nat) (v : Value) (L : HMap) (us : List Value) (W : World) : Prop where
  len : us.length = L.length
  out : W.ownsRow base 81 7 v L.length (hdC L us)
  rows : ∀ (j : Nat) x u, L[j]? = some x → us[j]? = some u → AnyI W base u (plK 0 x.2.vs).length
theorem HdR.inc {W : World} {base : Nat} {v : Value} {L : HMap} (h : HdR W base v L) : ∃ us, IncI base v L us W := by
  obtain ⟨us, h1, h2, h3⟩ := h
  exact ⟨us, h1, h2, fun j x u hx hu => ⟨_, rfl, h3 j x u hx hu⟩⟩
theorem IncI.step {base : Nat} {v : Value} {L : HMap} {us : List Value} {W W' : World} (h : IncI base v L us W) (hb : Below W.heap.size W W') : IncI base v L us W' :=
  ⟨h.len, own_step h.out hb, fun j x u hx hu => (h.rows j x u hx hu).step hb⟩
theorem IncI.set {base : Nat} {v : Value} {L : HMap} {us : List Value} {W : World} (h : IncI base v L us W) {q k : Nat} {cur : List Value} (B : Blk W q 3 cur) (z : Int) : IncI base v L us (W.setCell ⟨q, k, none⟩ (.int .i64 z)) := by
  have hk2 : Kx [q] W (W.setCell ⟨q, k, none⟩ (.int .i64 z)) := (Kx.refl _ _).setCell (.inl (by simp)) _
  refine ⟨h.len, row_kx h.out hk2 (fun g hg hm => ?_), fun j x u hx hu => (h.rows j x u hx hu).set B z⟩
  simp at hm
  subst hm
  obtain ⟨cs, fz, h3⟩ := row_cellsT h.out g hg
  rw [show W.heap[g]? = _ from B] at h3
  injection h3 with h3
  injection h3 with _ h3 _
  exact absurd h3 (by decide)
theorem IncI.row {base : Nat} {v : Value} {L : HMap} {us : List Value} {W : World} (h : IncI base v L us W) {j : Nat} {x : (Int × Int) × Hd} (hx : L[j]? = some x) :
    ∃ g c u, v = .slice (some ⟨g, 0, none⟩) L.length c ∧ us[j]? = some u ∧ AnyI W base u (plK 0 x.2.vs).length ∧ ∀ i t, (h7 x u)[i]? = some t → W.cell? ⟨g, j * 7 + i, none⟩ = some t := by
  obtain ⟨h1, h2, h3⟩ := h
  have hj := (List.getElem?_eq_some_iff.1 hx).1
  obtain ⟨u, hu⟩ : ∃ u, us[j]? = some u := ⟨us[j], List.getElem?_eq_getElem (by omega)⟩
  rcases id h2 with ⟨-, ⟨rfl, h0⟩ | ⟨g, c, cur, rfl, hg, hh, r⟩⟩
  · omega
  · refine ⟨g, c, u, rfl, hu, h3 j x u hx hu, fun i t ht => ?_⟩
    have hi : i < 7 := by
      have := (List.getElem?_eq_some_iff.1 ht).1
      simpa [h7] using this
    have := World.ownsRow.cells h2 (g := g) rfl (j * 7 + i) t (by rw [hdC_get L us j i x u hx hu hi]; exact ht)
    simpa [Addr.add_lit] using this
end Go.Proofs.YthhpblchiodahaaGreatDoor
