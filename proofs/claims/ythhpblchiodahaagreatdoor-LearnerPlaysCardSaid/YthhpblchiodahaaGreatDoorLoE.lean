
/- Package learner: rows of what was heard, as they lie in a slice; one more is put behind. -/
import Derived.Test.YthhpblchiodahaaGreatDoorLoD
import Derived.Test.YthhpblchiodahaaGreatDoorRndP
namespace Go.Proofs.YthhpblchiodahaaGreatDoor
set_option linter.unusedSimpArgs false
set_option linter.unusedVariables false
open Go.RowKit Go.Maps
theorem info_hrd : (Tryz.prog.info? 81).map (fun i => (i.zero, i.size, i.bytes)) = some (some (.agg #[.int .i64 0, .int .i64 0, .int .i64 0, .int .i64 0, .int .i64 0, .string ⟨#[]⟩, .slice none 0 0]), 7, 80) := by kernel_rfl
def h7 (x : (Int × Int) × Hd) (u : Value) : List Value := [.int .i64 x.1.1, .int .i64 x.1.2, .int .i64 x.2.k, .int .i64 x.2.m, .int .i64 x.2.n, .string x.2.s, u]
def hdC (L : HMap) (us : List Value) : List Value := (L.zip us).flatMap fun p => h7 p.1 p.2
theorem hdC_snoc (L : HMap) (us : List Value) (x : (Int × Int) × Hd) (u : Value) (h : us.length = L.length) : hdC (L ++ [x]) (us ++ [u]) = hdC L us ++ h7 x u := by
  unfold hdC
  rw [List.zip_append h.symm, List.flatMap_append]
  simp
theorem hdC_len : ∀ (L : HMap) (us : List Value), us.length = L.length → (hdC L us).length = L.length * 7
  | [], us, h => by simp [hdC]
  | x :: r, [], h => by simp at h
  | x :: r, u :: us, h => by
    have := hdC_len r us (by simpa using h)
    unfold hdC at this ⊢
    rw [List.zip_cons_cons, List.flatMap_cons, List.length_append, this]
    simp [h7]; omega
theorem hdC_get : ∀ (L : HMap) (us : List Value) (j i : Nat) (x : (Int × Int) × Hd) (u : Value), L[j]? = some x → us[j]? = some u → i < 7 → (hdC L us)[j * 7 + i]? = (h7 x u)[i]?
  | [], us, j, i, x, u, h, _, _ => by simp at h
  | y :: r, [], j, i, x, u, _, h, _ => by simp at h
  | y :: r, t :: us, 0, i, x, u, h1, h2, hi => by
    simp at h1 h2
    subst h1 h2
    unfold hdC
    rw [List.zip_cons_cons, List.flatMap_cons, Nat.zero_mul, Nat.zero_add, List.getElem?_append_left (by simp [h7]; omega)]
  | y :: r, t :: us, j + 1, i, x, u, h1, h2, hi => by
    have := hdC_get r us j i x u (by simpa using h1) (by simpa using h2) hi
    unfold hdC at this ⊢
    rw [List.zip_cons_cons, List.flatMap_cons, List.getElem?_append_right (by simp [h7]; omega), show (j + 1) * 7 + i - (h7 y t).length = j * 7 + i by simp [h7]; omega]
    exact this
/-- A slice of what was heard, whose rows and places lie from base on. -/
def HdR (W : World) (base : Nat) (v : Value) (L : HMap) : Prop :=
  ∃ us : List Value, us.length = L.length ∧ W.ownsRow base 81 7 v L.length (hdC L us) ∧ ∀ (j : Nat) x u, L[j]? = some x → us[j]? = some u → RowI W base u (plK 0 x.2.vs)
theorem RowI.step {W W' : World} {base : Nat} {v : Value} {l : List Int} (h : RowI W base v l) (hb : Below W.heap.size W W') : RowI W' base v l := own_step h hb
theorem RowI.low {W : World} {base base' : Nat} {v : Value} {l : List Int} (h : RowI W base v l) (hb : base' ≤ base) : RowI W base' v l := row_low h hb
theorem HdR.step {W W' : World} {base : Nat} {v : Value} {L : HMap} (h : HdR W base v L) (hb : Below W.heap.size W W') : HdR W' base v L := by
  obtain ⟨us, h1, h2, h3⟩ := h
  exact ⟨us, h1, own_step h2 hb, fun j x u hx hu => (h3 j x u hx hu).step hb⟩
theorem HdR.low {W : World} {base base' : Nat} {v : Value} {L : HMap} (h : HdR W base v L) (hb : base' ≤ base) : HdR W base' v L := by
  obtain ⟨us, h1, h2, h3⟩ := h
  exact ⟨us, h1, row_low h2 hb, fun j x u hx hu => (h3 j x u hx hu).low hb⟩
theorem HdR.nil (W : World) (base : Nat) : HdR W base (.slice none 0 0) [] := ⟨[], rfl, World.ownsRow_nil _ _ _ _, fun j x u hx => by simp at hx⟩
theorem HdR.form {W : World} {base : Nat} {v : Value} {L : HMap} (h : HdR W base v L) : ∃ a c, v = .slice a L.length c ∧ L.length ≤ c := by
  obtain ⟨us, h1, h2, h3⟩ := h
  exact row_form h2
theorem HdR.ge {W : World} {base : Nat} {v : Value} {L : HMap} (h : HdR W base v L) : ∀ k, v.ownBlock = some k → base ≤ k ∧ k < W.heap.size := by
  obtain ⟨us, h1, h2, h3⟩ := h
  exact row_ge h2
/-- The cells of a row. -/
theorem HdR.row {W : World} {base : Nat} {v : Value} {L : HMap} (h : HdR W base v L) {j : Nat} {x : (Int × Int) × Hd} (hx : L[j]? = some x) :
    ∃ g c u, v = .slice (some ⟨g, 0, none⟩) L.length c ∧ RowI W base u (plK 0 x.2.vs) ∧ ∀ i t, (h7 x u)[i]? = some t → W.cell? ⟨g, j * 7 + i, none⟩ = some t := by
  obtain ⟨us, h1, h2, h3⟩ := h
  have hj := (List.getElem?_eq_some_iff.1 hx).1
  obtain ⟨u, hu⟩ : ∃ u, us[j]? = some u := ⟨us[j], List.getElem?_eq_getElem (by omega)⟩
  rcases id h2 with ⟨-, ⟨rfl, h0⟩ | ⟨g, c, cur, rfl, hg, hh, r⟩⟩
  · omega
  · refine ⟨g, c, u, rfl, h3 j x u hx hu, fun i t ht => ?_⟩
    have hi := (List.getElem?_eq_some_iff.1 ht).1
    have := World.ownsRow.cells h2 (g := g) rfl (j * 7 + i) t (by rw [hdC_get L us j i x u hx hu (by simpa [h7] using hi)]; exact ht)
    simpa [Addr.add_lit] using this
theorem row_cellsT {W : World} {base n : Nat} {e : TypeId} {size : Nat} {v : Value} {xs : List Value} (h : W.ownsRow base e size v n xs) : ∀ k, v.ownBlock = some k → ∃ cs fz, W.heap[k]? = some (.cells cs e fz) := fun k hk => by
  rcases h.2 with ⟨e2, -⟩ | ⟨g, c, cur, hv, hgb, hh, -⟩
  · rw [e2] at hk; cases hk
  · rw [hv] at hk; cases hk; exact ⟨_, _, hh⟩
theorem HdR.cellsT {W : World} {base : Nat} {v : Value} {L : HMap} (h : HdR W base v L) : ∀ k, v.ownBlock = some k → ∃ cs fz, W.heap[k]? = some (.cells cs 81 fz) := by
  obtain ⟨us, h1, h2, h3⟩ := h
  exact row_cellsT h2
theorem HdR.kx {ws : List Nat} {W W' : World} {base : Nat} {v : Value} {L : HMap} (h : HdR W base v L) (hk : Kx ws W W') (hw : ∀ k ∈ ws, k < base) : HdR W' base v L := by
  obtain ⟨us, h1, h2, h3⟩ := h
  exact ⟨us, h1, row_kx h2 hk (fun k hk2 hm => by have := (row_ge h2 k hk2).1; have := hw k hm; omega), fun j x u hx hu => row_kx (h3 j x u hx hu) hk (fun k hk2 hm => by have := (row_ge (h3 j x u hx hu) k hk2).1; have := hw k hm; omega)⟩
theorem HdR.app {W : World} {base : Nat} {v : Value} {L : HMap} (h : HdR W base v L) (x : (Int × Int) × Hd) {u : Value} (hu : RowI W base u (plK 0 x.2.vs)) (hn : L.length ≤ 10000) (hb : base ≤ W.heap.size) (ty : TypeId) :
    ∃ v' w', (Builtin.append_ #[53, 53] ty #[v, .slice (some ⟨W.heap.size, 0, none⟩) 1 1]).run Tryz.prog (W.alloc (.cells (h7 x u).toArray 81)) = .ok v' w' ∧ HdR w' base v' (L ++ [x]) ∧
      (W.alloc (.cells (h7 x u).toArray 81)).grownBy w' v.ownBlock ∧ (v'.ownBlock = v.ownBlock ∨ v'.ownBlock = some (W.heap.size + 1)) := by
  obtain ⟨i0, hi, hz0, hz1, hz2⟩ := info_parts info_hrd
  have h0 := h
  obtain ⟨us, h1, h2, h3⟩ := h
  have hba := (Below.refl W.heap.size W).alloc (Nat.le_refl _) (.cells (h7 x u).toArray 81)
  have hsz : (W.alloc (.cells (h7 x u).toArray 81)).heap.size = W.heap.size + 1 := Array.size_push ..
  have T0 := Blk.newV (W := W) rfl 81 (h7 x u).toArray
  have hown2 : (W.alloc (.cells (h7 x u).toArray 81)).ownsRow 0 81 7 (.slice (some ⟨W.heap.size, 0, none⟩) 1 1) 1 (h7 x u) :=
    ⟨rfl, .inr ⟨W.heap.size, 1, (h7 x u).toArray, rfl, Nat.zero_le _, T0, Nat.le_refl _, by decide, rfl, rfl⟩⟩
  have hone : ∀ t ∈ h7 x u, t.oneCell' = true := by
    obtain ⟨a, c, rfl⟩ := RowI.form hu
    intro t ht
    simp [h7] at ht
    rcases ht with rfl | rfl | rfl | rfl | rfl | rfl | rfl <;> rfl
  obtain ⟨v', w', hrun, own5, hgrow, hwhere⟩ := run_append_rows (P := Tryz.prog) (W.alloc (.cells (h7 x u).toArray 81)) base 0 53 ty 81 i0 (.agg #[.int .i64 0, .int .i64 0, .int .i64 0, .int .i64 0, .int .i64 0, .string ⟨#[]⟩, .slice none 0 0]) 7 80 Tryz.underlying53 hi hz0 hz1 hz2 rfl (by decide) _ _ _ (own_step h2 hba) _ _ _ hown2 hone (by unfold maxLen; omega) (by omega) (by omega)
  rw [hsz] at hwhere
  refine ⟨v', w', hrun, ⟨us ++ [u], by simp [h1], ?_, fun j y t hy ht => ?_⟩, hgrow, hwhere⟩
  · rw [hdC_snoc L us x u h1, List.length_append]
    exact own5
  · have hrow : RowI W base t (plK 0 y.2.vs) := by
      by_cases hj : j < L.length
      · rw [List.getElem?_append_left hj] at hy
        rw [List.getElem?_append_left (by omega)] at ht
        exact h3 j y t hy ht
      · have hjl := (List.getElem?_eq_some_iff.1 hy).1
        obtain rfl : j = L.length := by simp at hjl; omega
        simp at hy
        rw [← h1] at ht
        simp at ht
        subst hy ht
        exact hu
    refine World.ownsRow.kept (own_step hrow hba) hgrow ?_
    cases hob : t.ownBlock with
    | none => exact .inl rfl
    | some k =>
      refine .inr fun e => ?_
      obtain ⟨cs, fz, hc⟩ := row_cellsT hrow k hob
      obtain ⟨cs2, fz2, hc2⟩ := h0.cellsT k e.symm
      rw [hc] at hc2
      injection hc2 with hc2
      injection hc2 with _ e2 _
      exact absurd e2 (by decide)
end Go.Proofs.YthhpblchiodahaaGreatDoor
