
/- Blocks of cells that are known whole; loops by a number. -/
import Derived.Test.YtcahkcbenanfnaaDoorIter
import Derived.Deep.LoopGhost
namespace Go.Proofs.YtcahkcbenanfnaaDoor
set_option linter.unusedSimpArgs false
set_option linter.unusedVariables false
open Go.RowKit

/-- Block g is a row of cells cs of element type t, none of them shared by a string. -/
def Blk (W : World) (g : Nat) (t : TypeId) (cs : List Value) : Prop := W.heap[g]? = some (.cells cs.toArray t (0, 0))
theorem Blk.lt {W : World} {g : Nat} {t : TypeId} {cs : List Value} (h : Blk W g t cs) : g < W.heap.size := (Array.getElem?_eq_some_iff.1 h).1
theorem Blk.cell {W : World} {g : Nat} {t : TypeId} {cs : List Value} (h : Blk W g t cs) {j : Nat} {v : Value} (hj : cs[j]? = some v) : W.cell? ⟨g, j, none⟩ = some v := by
  simp [World.cell?, show W.heap[g]? = _ from h, hj]
theorem Blk.frozen {W : World} {g : Nat} {t : TypeId} {cs : List Value} (h : Blk W g t cs) (j : Nat) : W.frozen? ⟨g, j, none⟩ = false := by
  simp [World.frozen?, show W.heap[g]? = _ from h]
theorem Blk.set {W : World} {g : Nat} {t : TypeId} {cs : List Value} (h : Blk W g t cs) (j : Nat) (v : Value) : Blk (W.setCell ⟨g, j, none⟩ v) g t (cs.set j v) := by
  have hl := h.lt
  have hg : W.heap[g] = .cells cs.toArray t (0, 0) := by simpa [Array.getElem?_eq_getElem hl] using (show W.heap[g]? = _ from h)
  show (W.heap.modify g _)[g]? = _
  rw [Array.getElem?_eq_getElem (by rw [Array.size_modify]; exact hl), Array.getElem_modify_self, hg]
  simp
theorem Blk.other {W : World} {g b : Nat} {t : TypeId} {cs : List Value} (h : Blk W g t cs) (hne : g ≠ b) (o : Nat) (u : Value) : Blk (W.setCell ⟨b, o, none⟩ u) g t cs := (Below.heap_setCell W ⟨b, o, none⟩ u g hne).trans h
theorem Blk.alloc {W : World} {g : Nat} {t : TypeId} {cs : List Value} (h : Blk W g t cs) (o : Obj) : Blk (W.alloc o) g t cs := (Below.heap_alloc W o g h.lt).trans h
theorem Blk.below {W w1 : World} {B g : Nat} {t : TypeId} {cs : List Value} (h : Blk W g t cs) (hb : Below B W w1) (hlt : g < B) : Blk w1 g t cs := (hb.block g hlt).trans h
theorem Blk.step {W w1 : World} {g : Nat} {t : TypeId} {cs : List Value} (h : Blk W g t cs) (hb : Below W.heap.size W w1) : Blk w1 g t cs := (hb.block g h.lt).trans h
theorem Blk.new (W : World) (t : TypeId) (cs : List Value) : Blk (W.alloc (.cells cs.toArray t)) W.heap.size t cs := World.alloc_heap_new W _
theorem Blk.putObj {w1 : World} {b D : Nat} {t : TypeId} {cs : List Value} {o : Obj} (h : Blk w1 b t cs) (hD : w1.heap[D]? = some o) (ho : o.isCells = false) (o' : Obj) : Blk (w1.putObj D o') b t cs := by
  have : b ≠ D := by intro e; subst e; rw [show w1.heap[b]? = _ from h] at hD; cases hD; cases ho
  exact (World.putObj_heap_other this).trans h
theorem Kx.blk {ws : List Nat} {A W : World} (h : Kx ws A W) {b : Nat} {t : TypeId} {cs : List Value} (hb : Blk A b t cs) (hw : b ∉ ws) : Blk W b t cs := (h.block b hb.lt hw).trans hb
theorem blk_own {β : Type} (g : Nat) (t : TypeId) (f : β → List Value) : Own (fun s W => Blk W g t (f s)) := fun _ _ _ _ hs hg hr => (grownBy_keeps_cells hg hr hs rfl).trans hs
theorem box_step {W w1 : World} {b : Nat} {t : TypeId} {v : Value} (h : Boxed W b t v) (hb : Below W.heap.size W w1) : Boxed w1 b t v := (hb.block b h.lt).trans h

theorem arr_eta (t : Array Value) (n : Nat) (h : t.size = n) : t = ((List.range n).map (fun i => t.getD i undef)).toArray := by
  apply Array.ext
  · simp [h]
  · intro i h1 h2
    simp [h1]

variable {F : Fence} {n : Nat} {P : Program}

theorem leaves_list {fn : Func} {a : Act} {R : Ending → World → Prop} {v : Value} (B : Nat) (Ds : List Nat) {W : World} (hd : a.defers = Ds.map fun D => { target := .collected D, args := #[] })
    (hD : ∀ D, D ∈ Ds → B ≤ D ∧ W.heap[D]? = some (.deferred (some []))) (hn : Ds.Nodup)
    (h : ∀ W', Below B W W' → (∀ (k : Nat) (o : Obj), W.heap[k]? = some o → o.isCells = true → W'.heap[k]? = some o) → (results fn a.tmps).run P W' = .ok v W' ∧ R (.returned v) W') : bodyPostM F n P fn R .ret a W := by
  show LeavesInM F n P fn a.tmps R a.defers .returning W
  rw [hd]; exact leaves_many B Ds W hD hn h

/-- A loop whose invariant bears a number that every round lowers; what a round hands on stands behind a name. -/
theorem wpIn_loop_num {c : Code} {Q : Exit → Act → World → Prop} {a : Act} {w : World} (I : Nat → Act → World → Prop) (n₀ : Nat) (h₀ : I n₀ a w)
    (round : ∀ j a w, I j a w → ∀ K : Act → World → Prop, (∀ j' a' w', j' < j → I j' a' w' → K a' w') → c.wpIn F n P (Exit.then K Q) a w) : (Code.loop c).wpIn F n P Q a w := by
  refine wpIn_loop (fun a w => ∃ j, I j a w) (fun a w => leastOf (fun j => I j a w)) ⟨n₀, h₀⟩ ?_
  intro a w hI
  refine wpIn_mono (round _ a w (leastOf_spec hI).1 (fun a' w' => ∃ j', j' < leastOf (fun j => I j a w) ∧ I j' a' w') (fun j' _ _ h1 h2 => ⟨j', h1, h2⟩)) ?_
  intro e a' w' hq
  cases e with
  | normal =>
    obtain ⟨j', hlt, hI'⟩ := hq
    exact show (∃ j, I j a' w') ∧ leastOf (fun j => I j a' w') < leastOf (fun j => I j a w) from ⟨⟨j', hI'⟩, Nat.lt_of_le_of_lt ((leastOf_spec ⟨j', hI'⟩).2 j' hI') hlt⟩
  | exit id => exact hq
  | goto l => exact hq
  | ret => exact hq
  | panic ch => exact hq
  | outgrown => exact hq
theorem wp_loop_num {c : Code} {Q : Exit → Act → World → Prop} {a : Act} {w : World} (I : Nat → Act → World → Prop) (n₀ : Nat) (h₀ : I n₀ a w)
    (round : ∀ j a w, I j a w → ∀ K : Act → World → Prop, (∀ j' a' w', j' < j → I j' a' w' → K a' w') → c.wp P (Exit.then K Q) a w) : (Code.loop c).wp P Q a w :=
  (wpIn_wide (n := 3)).1 (wpIn_loop_num I n₀ h₀ (fun j a w h K hK => (wpIn_wide (n := 3)).2 (round j a w h K hK)))
end Go.Proofs.YtcahkcbenanfnaaDoor
