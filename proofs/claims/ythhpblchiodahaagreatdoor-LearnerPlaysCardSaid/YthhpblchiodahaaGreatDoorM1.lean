
import Derived.RangeFuncNested
import Derived.RangeFuncBound
import Derived.RangeFuncCalls
import Derived.RangeFuncLeaves
import Derived.RangeFuncBox
import Derived.Scope
import Derived.Deep.LoopGhost
import Derived.BigQuiet
import Derived.StillTail
import Derived.Deep.RegionWith
import Derived.Test.YthhpblchiodahaaGreatDoorRows
import Derived.WalkKit
import Derived.WalkSpells
import Derived.WalkLawsBesides
import Derived.LoopTactic
import Derived.Lib.Hide
import Derived.ScopeJumps
import Derived.WalkMore
import Derived.Laws.AppendOwn
import Derived.Maps.AppendAt
/- A range over a function whose iterator hands over the items of a list in order: one law for the caller (over the items' index), and what an iterator's contract says. -/
namespace Go.Proofs.YthhpblchiodahaaGreatDoor
set_option linter.unusedSimpArgs false
set_option linter.unusedVariables false
open Go.RowKit

/-- THE ITERATOR's CONTRACT: function g with the captured values lb hands over the items xs, in order, as far as the rounds go on. 'Kp': what a round that goes on keeps. -/
def SeqXs {α : Type} (P : Program) (g : Nat) (lb : Array Value) (encs : α → Array Value) (xs : List α) (Kp : World → World → Prop) (w : World) : Prop :=
  ∀ (l : Nat) (J Jx : Nat → World → Prop) (W : World), Below w.heap.size w W → AbidesFrom W.heap.size J → AbidesFrom W.heap.size Jx →
    (∀ k x W1, xs[k]? = some x → J k W1 → YieldAt Fence.wide 1 P l (encs x) W1 fun e W' =>
      (e = .returned (.bool true) ∧ J (k + 1) W' ∧ Kp W1 W') ∨ (e = .returned (.bool false) ∧ Jx (k + 1) W')) →
    J 0 W →
    CallsIn Fence.wide 2 P g (#[.func (.yield l) #[] #[]] ++ lb) W fun e W' => (∃ v, e = .returned v) ∧ (J xs.length W' ∨ ∃ k, k < xs.length ∧ Jx (k + 1) W')

/-- The blocks of a set lie as they lay. -/
def Kb (S : Nat → Prop) (W W' : World) : Prop := ∀ k, S k → W'.heap[k]? = W.heap[k]?
theorem Kb.refl (S : Nat → Prop) (W : World) : Kb S W W := fun _ _ => rfl
theorem Kb.trans {S : Nat → Prop} {A B C : World} (h : Kb S A B) (k : Kb S B C) : Kb S A C := fun i hi => (k i hi).trans (h i hi)
theorem Kb.setCell {S : Nat → Prop} {A B : World} (h : Kb S A B) {p : Addr} (hp : ¬ S p.block) (u : Value) : Kb S A (B.setCell p u) := h.trans (fun k hk => Below.heap_setCell B p u k (by intro e; subst e; exact hp hk))
theorem Kb.putObj {S : Nat → Prop} {A B : World} (h : Kb S A B) {D : Nat} (hD : ¬ S D) (o : Obj) : Kb S A (B.putObj D o) := h.trans (fun k hk => World.putObj_heap_other (by intro e; subst e; exact hD hk))
theorem Kb.below {S : Nat → Prop} {A B C : World} (h : Kb S A B) {n : Nat} (hb : Below n B C) (hS : ∀ k, S k → k < n) : Kb S A C := h.trans (fun k hk => hb.block k (hS k hk))
theorem Kb.cell {S : Nat → Prop} {A B : World} (h : Kb S A B) {p : Addr} (hp : S p.block) : B.cell? p = A.cell? p := World.cell?_of_block (h p.block hp)

/-- How a round's body may be left. -/
def xsPost (B : Nat) (Kp : World → World → Prop) (I : Nat → World → Prop) (Ix : Code → Nat → World → Prop) (k : Nat) (W : World) : Exit → Act → World → Prop
  | .normal, _, W' => KeepsFrom B W W' ∧ Kp W W' ∧ I k W'
  | .ret, _, W' => KeepsFrom B W W' ∧ Ix .ret k W'
  | .exit id, _, W' => KeepsFrom B W W' ∧ Ix (.exit id) k W'
  | .goto t, _, W' => KeepsFrom B W W' ∧ Ix (.goto t) k W'
  | .panic _, _, _ => False
  | .outgrown, _, _ => False

theorem SeqXs.later {α : Type} {P : Program} {g : Nat} {lb : Array Value} {encs : α → Array Value} {xs : List α} {Kp : World → World → Prop} {w w' : World}
    (h : SeqXs P g lb encs xs Kp w) (hb : Below w.heap.size w w') : SeqXs P g lb encs xs Kp w' :=
  fun l J Jx W hW => h l J Jx W (hb.trans (hW.mono hb.size))

theorem grown_of_below {W w1 : World} (h : Below W.heap.size W w1) : W.grownBy w1 none := ⟨h.os, h.tape, h.output, h.size, fun k hk _ => h.block k hk⟩
theorem abides_below {β : Type} {B : Nat} {J : β → World → Prop} (h : AbidesFrom B J) {s : β} {W w1 : World} (hs : J s W) (hb : Below W.heap.size W w1) : J s w1 := h s W w1 none hs (grown_of_below hb) (fun r e => by cases e)
theorem own_below {β : Type} {B : Nat} {J : β → World → Prop} (h : OwnFrom B J) {s : β} {W w1 : World} (hs : J s W) (hb : Below W.heap.size W w1) : J s w1 := h s W w1 none hs (grown_of_below hb) (fun r e => by cases e)

theorem box_below {W w1 : World} {b : Nat} {t : TypeId} {v : Value} {B : Nat} (h : Boxed W b t v) (hb : Below B W w1) (hlt : b < B) : Boxed w1 b t v := (hb.block b hlt).trans h
theorem box_set_other {W : World} {b b' : Nat} {t : TypeId} {v : Value} (h : Boxed W b t v) (hne : b ≠ b') (o : Nat) (u : Value) : Boxed (W.setCell ⟨b', o, none⟩ u) b t v := (Below.heap_setCell W ⟨b', o, none⟩ u b hne).trans h

theorem leaves_nil {F : Fence} {n : Nat} {P : Program} {fn : Func} {a : Act} {R : Ending → World → Prop} {w : World} {v : Value} (hd : a.defers = []) (hr : (results fn a.tmps).run P w = .ok v w) (hR : R (.returned v) w) : bodyPostM F n P fn R .ret a w := by
  show LeavesInM F n P fn a.tmps R a.defers .returning w
  rw [hd]; exact ⟨v, hr, hR⟩
theorem leaves_col {F : Fence} {n : Nat} {P : Program} {fn : Func} {a : Act} {R : Ending → World → Prop} {w : World} {v : Value} {D : Nat} (hd : a.defers = [{ target := .collected D, args := #[] }]) (hK : w.heap[D]? = some (.deferred (some [])))
    (hr : (results fn a.tmps).run P (w.putObj D (.deferred none)) = .ok v (w.putObj D (.deferred none))) (hR : R (.returned v) (w.putObj D (.deferred none))) : bodyPostM F n P fn R .ret a w := by
  show LeavesInM F n P fn a.tmps R a.defers .returning w
  rw [hd]; exact ⟨by simp, .inl ⟨_, _, rfl, run_takeDeferred hK, ⟨v, hr, hR⟩⟩⟩
theorem below_putObj {B : Nat} {W w1 : World} (h : Below B W w1) {D : Nat} (hD : B ≤ D) (o : Obj) : Below B W (w1.putObj D o) :=
  h.trans ⟨rfl, rfl, rfl, by simp, fun k hk => World.putObj_heap_other (by omega)⟩
theorem box_putObj {w1 : World} {b D : Nat} {t : TypeId} {v : Value} {o : Obj} (h : Boxed w1 b t v) (hD : w1.heap[D]? = some o) (ho : o.isCells = false) (o' : Obj) : Boxed (w1.putObj D o') b t v := by
  have : b ≠ D := by intro e; subst e; rw [show w1.heap[b]? = _ from h] at hD; cases hD; cases ho
  exact (World.putObj_heap_other this).trans h

theorem two_boxes {W : World} {b c : Nat} {t u : TypeId} {v z : Value} (h1 : Boxed W b t v) (h2 : Boxed W c u z) (hne : b ≠ c) (x y : Value) :
    Boxed ((W.setCell ⟨b, 0, none⟩ x).setCell ⟨c, 0, none⟩ y) b t x ∧ Boxed ((W.setCell ⟨b, 0, none⟩ x).setCell ⟨c, 0, none⟩ y) c u y :=
  ⟨box_set_other (h1.set x) hne 0 y, (box_set_other h2 (Ne.symm hne) 0 x).set y⟩

/-- What lay in W0 lies in W as it lay, but for the blocks of a list. -/
structure Kx (ws : List Nat) (W0 W : World) : Prop where
  os : W.os = W0.os
  tape : W.tape = W0.tape
  output : W.output = W0.output
  size : W0.heap.size ≤ W.heap.size
  block : ∀ k, k < W0.heap.size → k ∉ ws → W.heap[k]? = W0.heap[k]?
theorem Kx.refl (ws : List Nat) (W : World) : Kx ws W W := ⟨rfl, rfl, rfl, Nat.le_refl _, fun _ _ _ => rfl⟩
theorem Kx.trans {ws : List Nat} {A B C : World} (h : Kx ws A B) (k : Kx ws B C) : Kx ws A C :=
  ⟨k.os.trans h.os, k.tape.trans h.tape, k.output.trans h.output, Nat.le_trans h.size k.size, fun i hi hw => (k.block i (Nat.lt_of_lt_of_le hi h.size) hw).trans (h.block i hi hw)⟩
theorem Kx.mono {ws ws' : List Nat} {A B : World} (h : Kx ws A B) (hs : ∀ x, x ∈ ws → x ∈ ws') : Kx ws' A B := ⟨h.os, h.tape, h.output, h.size, fun k hk hw => h.block k hk (fun e => hw (hs k e))⟩
theorem Kx.of_below (ws : List Nat) {B : Nat} {A W : World} (h : Below B A W) (hB : A.heap.size ≤ B) : Kx ws A W := ⟨h.os, h.tape, h.output, h.size, fun k hk _ => h.block k (by omega)⟩
theorem Kx.step {ws : List Nat} {A W W' : World} (h : Kx ws A W) (hb : Below W.heap.size W W') : Kx ws A W' := h.trans (Kx.of_below ws hb (Nat.le_refl _))
theorem Kx.alloc {ws : List Nat} {A W : World} (h : Kx ws A W) (o : Obj) : Kx ws A (W.alloc o) := h.step ((Below.refl _ W).alloc (Nat.le_refl _) o)
theorem Kx.drew {ws : List Nat} {A W : World} (h : Kx ws A W) : Kx ws A W.drew := ⟨h.os, h.tape, h.output, h.size, h.block⟩
theorem Kx.setCell {ws : List Nat} {A W : World} (h : Kx ws A W) {p : Addr} (hp : p.block ∈ ws ∨ A.heap.size ≤ p.block) (u : Value) : Kx ws A (W.setCell p u) :=
  ⟨h.os, h.tape, h.output, by simp [World.setCell]; exact h.size, fun k hk hw => (Below.heap_setCell W p u k (by intro e; subst e; rcases hp with hp | hp; exact hw hp; omega)).trans (h.block k hk hw)⟩
theorem Kx.putObj {ws : List Nat} {A W : World} (h : Kx ws A W) {D : Nat} (hD : D ∈ ws ∨ A.heap.size ≤ D) (o : Obj) : Kx ws A (W.putObj D o) :=
  ⟨h.os, h.tape, h.output, by rw [World.putObj_size]; exact h.size, fun k hk hw => (World.putObj_heap_other (by intro e; subst e; rcases hD with hp | hp; exact hw hp; omega)).trans (h.block k hk hw)⟩
theorem Kx.grown {ws : List Nat} {A W W' : World} {row : Option Nat} (h : Kx ws A W) (hg : W.grownBy W' row) (hr : ∀ k, row = some k → k ∈ ws ∨ A.heap.size ≤ k) : Kx ws A W' :=
  ⟨hg.os.trans h.os, hg.tape.trans h.tape, hg.output.trans h.output, Nat.le_trans h.size hg.size, fun k hk hw => (hg.block k (by have := h.size; omega) (fun e => by rcases hr k e.symm with hp | hp; exact hw hp; omega)).trans (h.block k hk hw)⟩
theorem Kx.box {ws : List Nat} {A W : World} (h : Kx ws A W) {b : Nat} {t : TypeId} {v : Value} (hb : Boxed A b t v) (hw : b ∉ ws) : Boxed W b t v := (h.block b hb.lt hw).trans hb
theorem Kx.obj {ws : List Nat} {A W : World} (h : Kx ws A W) {b : Nat} {o : Obj} (hb : A.heap[b]? = some o) (hw : b ∉ ws) : W.heap[b]? = some o := (h.block b (Array.getElem?_eq_some_iff.1 hb).1 hw).trans hb
theorem Kx.below {ws : List Nat} {A W : World} (h : Kx ws A W) {B : Nat} (hB : B ≤ A.heap.size) (hw : ∀ x, x ∈ ws → B ≤ x) : Below B A W := ⟨h.os, h.tape, h.output, h.size, fun k hk => h.block k (by omega) (fun e => by have := hw k e; omega)⟩
theorem ownFrom_kx {β : Type} (ws : List Nat) (A : World) : OwnFrom A.heap.size (fun (_ : β) W => Kx ws A W) := fun _ _ _ _ hs hg hr => hs.grown hg (fun k e => .inr (hr k e).1)

/-- The way out of a function that has gone over some iterators. -/
theorem leaves_many {F : Fence} {n : Nat} {P : Program} {fn : Func} {tmps : Array Value} {R : Ending → World → Prop} {v : Value} (B : Nat) : ∀ (Ds : List Nat) (W : World),
    (∀ D, D ∈ Ds → B ≤ D ∧ W.heap[D]? = some (.deferred (some []))) → Ds.Nodup →
    (∀ W', Below B W W' → (∀ (k : Nat) (o : Obj), W.heap[k]? = some o → o.isCells = true → W'.heap[k]? = some o) → (results fn tmps).run P W' = .ok v W' ∧ R (.returned v) W') →
    LeavesInM F n P fn tmps R (Ds.map fun D => { target := .collected D, args := #[] }) .returning W := by
  intro Ds
  induction Ds with
  | nil => intro W _ _ h; exact ⟨v, h W (Below.refl _ _) (fun _ _ h _ => h)⟩
  | cons D Ds ih =>
    intro W hD hn h
    obtain ⟨hB, hK⟩ := hD D (by simp)
    refine ⟨by simp, .inl ⟨D, _, rfl, run_takeDeferred hK, ih _ ?_ (List.nodup_cons.1 hn).2 ?_⟩⟩
    · intro E hE
      obtain ⟨e1, e2⟩ := hD E (by simp [hE])
      exact ⟨e1, (World.putObj_heap_other (by intro e; subst e; exact (List.nodup_cons.1 hn).1 hE)).trans e2⟩
    · intro W' hb hc
      refine h W' ((below_putObj (Below.refl B W) hB _).trans hb) (fun k o hk ho => hc k o ?_ ho)
      exact (World.putObj_heap_other (by intro e; subst e; rw [hK] at hk; cases hk; cases ho)).trans hk
theorem leaves_two {F : Fence} {n : Nat} {P : Program} {fn : Func} {a : Act} {R : Ending → World → Prop} {v : Value} (B D E : Nat) {W : World} (hd : a.defers = [{ target := .collected D, args := #[] }, { target := .collected E, args := #[] }])
    (hD : W.heap[D]? = some (.deferred (some []))) (hE : W.heap[E]? = some (.deferred (some []))) (hBD : B ≤ D) (hBE : B ≤ E) (hne : D ≠ E)
    (h : ∀ W', Below B W W' → (∀ (k : Nat) (o : Obj), W.heap[k]? = some o → o.isCells = true → W'.heap[k]? = some o) → (results fn a.tmps).run P W' = .ok v W' ∧ R (.returned v) W') : bodyPostM F n P fn R .ret a W := by
  show LeavesInM F n P fn a.tmps R a.defers .returning W
  rw [hd]
  exact leaves_many B [D, E] W (by intro x hx; simp at hx; rcases hx with rfl | rfl <;> exact ⟨by assumption, by assumption⟩) (by simp [hne]) h

variable {P : Program}

/-- A labelled body, through which the run goes without a goto, at the wide fence. -/
theorem wpIn_scope_wide {n : Nat} {c : Code} {Q : Exit → Act → World → Prop} {a : Act} {w : World} (h : c.wpIn Fence.wide n P (Exit.noGoto Q) a w) : (Code.scope c).wpIn Fence.wide n P Q a w :=
  (wpIn_wide (n := n)).2 (wp_scope_straight ((wpIn_wide (n := n)).1 h))

theorem wpIn_range_xs {α : Type} {g : Operand} {ps : Array Tmp} {assign body : Code} {Q : Exit → Act → World → Prop} {a : Act} {w : World}
    (gf : Nat) (lb : Array Value) (hg : a.eval g = .func (.func gf) #[] lb) (eg : ∀ args w, (callFunc gf args).run P w = .ok (.enter gf args) w)
    {encs : α → Array Value} {xs : List α} (S : Nat → Prop) {w0 : World} (hseq : SeqXs P gf lb encs xs (Kb S) w0)
    (hn : ∀ k, S k → k < w.heap.size) (hb0 : Below w0.heap.size w0 w) (hps : ∀ x, (encs x).size = ps.size)
    (I : Nat → World → Prop) (Ix : Code → Nat → World → Prop) (hI : OwnFrom w.heap.size I) (hIx : ∀ c, OwnFrom w.heap.size (Ix c)) (h0 : I 0 w) (a₁ : α → Act)
    (hassign : ∀ (l : Nat) (x : α) (W : World) (K : Act → World → Prop), K (a₁ x) W →
      assign.wpIn (Fence.wide.inRound l) 1 P (Exit.then K (fun _ _ _ => False)) { tmps := (ps.zip (encs x)).foldl (fun t (p, v) => t.setIfInBounds p v) a.tmps, defers := [] } W)
    (hbody : ∀ (l k : Nat) (x : α) (W : World), xs[k]? = some x → I k W → w.heap.size ≤ W.heap.size → body.wpIn (Fence.wide.inRound l) 1 P (xsPost w.heap.size (Kb S) I Ix (k + 1) W) (a₁ x) W)
    (hdone : ∀ (D : Nat) (W : World), w.heap.size ≤ D → I xs.length W → W.heap[D]? = some (.deferred (some [])) → Q .normal { a with defers := { target := .collected D, args := #[] } :: a.defers } W)
    (hstop : ∀ (D : Nat) (c : Code) (k : Nat) (W : World), w.heap.size ≤ D → k < xs.length → Ix c (k + 1) W → W.heap[D]? = some (.deferred (some [])) → c.wpIn Fence.wide 3 P Q { a with defers := { target := .collected D, args := #[] } :: a.defers } W) :
    (Code.rangeFunc g ps assign body).wpIn Fence.wide 3 P Q a w := by
  refine wpIn_rangeFunc ?_
  intro fn hfn
  show ∃ l mark w₁ d w₁' f args w₂, (Instr.enterLoop fn a.tmps ps assign body none).run P w = .ok (l, mark) w₁ ∧ _
  obtain ⟨rec, hrec⟩ : ∃ rec : LoopState → Option Code → Loop, rec = fun st pe => { state := st, pending := pe, fn, tmps := a.tmps, params := ps, assign, body, defers := w.heap.size } := ⟨_, rfl⟩
  obtain ⟨W1, hW1⟩ : ∃ W1, (w.alloc (.deferred (some []))).alloc (.loop (rec .ready none)) = W1 := ⟨_, rfl⟩
  have hL1 : W1.heap[w.heap.size + 1]? = some (.loop (rec .ready none)) := by
    rw [← hW1]; have := World.alloc_heap_new (w.alloc (.deferred (some []))) (.loop (rec .ready none)); rwa [World.size_alloc] at this
  have hK1 : W1.heap[w.heap.size]? = some (.deferred (some [])) := by
    rw [← hW1]; exact (Below.heap_alloc _ _ _ (by simp)).trans (World.alloc_heap_new w _)
  have hI1 : I 0 W1 := by rw [← hW1]; exact hI.alloc _ (hI.alloc _ h0)
  have hsz : w.heap.size ≤ W1.heap.size := by rw [← hW1]; simp; omega
  have hb1 : Below w0.heap.size w0 W1 := by
    rw [← hW1]; exact hb0.trans ((((Below.refl _ w).alloc (Nat.le_refl _) _).alloc (by simp) _).mono hb0.size)
  refine ⟨w.heap.size + 1, [{ target := .collected w.heap.size, args := #[] }], W1, { target := .fn (.func gf) lb, args := #[.func (.yield (w.heap.size + 1)) #[] #[]] }, W1, gf,
    #[.func (.yield (w.heap.size + 1)) #[] #[]] ++ lb, W1, ?_, ?_, fun _ _ => trivial, ?_, fun h => by simp [Fence.wide] at h, ?_⟩
  · rw [← hW1, hrec]; exact run_enterLoop_outer _ _ _ _ _
  · simp only [resolve, hg]
    simp [go_sem]
  · simp [invoke, go_sem, eg]
  have hnw : ∀ {A B : World} {row : Option Nat}, (∀ r, row = some r → W1.heap.size ≤ r ∧ ∃ o : Obj, A.heap[r]? = some o ∧ o.isWalk = true) → (∀ r, row = some r → w.heap.size ≤ r ∧ ∃ o : Obj, A.heap[r]? = some o ∧ o.isCells = false) :=
    fun hr r e => by obtain ⟨hB, o, ho, hw⟩ := hr r e; exact ⟨by omega, o, ho, Obj.not_cells_of_walk hw⟩
  refine (hseq (w.heap.size + 1)
    (fun k W => I k W ∧ w.heap.size ≤ W.heap.size ∧ W.heap[w.heap.size + 1]? = some (.loop (rec .ready none)) ∧ W.heap[w.heap.size]? = some (.deferred (some [])))
    (fun k W => ∃ c, Ix c k W ∧ W.heap[w.heap.size + 1]? = some (.loop (rec .done (some c))) ∧ W.heap[w.heap.size]? = some (.deferred (some [])))
    W1 hb1
    (fun s A B row hs hg' hr => ⟨hI s A B row hs.1 hg' (hnw (B := B) hr), Nat.le_trans hs.2.1 hg'.size, (grownBy_keeps hg' (fun r e => (hr r e).2) hs.2.2.1 rfl).trans hs.2.2.1, (grownBy_keeps hg' (fun r e => (hr r e).2) hs.2.2.2 rfl).trans hs.2.2.2⟩)
    (fun s A B row hs hg' hr => by
      obtain ⟨c, hc, hl, hk⟩ := hs
      exact ⟨c, hIx c s A B row hc hg' (hnw (B := B) hr), (grownBy_keeps hg' (fun r e => (hr r e).2) hl rfl).trans hl, (grownBy_keeps hg' (fun r e => (hr r e).2) hk rfl).trans hk⟩)
    ?_ ⟨hI1, hsz, hL1, hK1⟩).mono ?_
  · rintro k x W hx ⟨hi, hs, hl, hk⟩
    have hlt : w.heap.size + 1 < W.heap.size := (Array.getElem?_eq_some_iff.1 hl).1
    have hy := run_yield (P := P) (args := encs x) hl (by rw [hrec]; exact hps x)
    rw [hrec] at hy
    refine ⟨fn, _, assign, body, hy, roundIn_of_wpIn hfn (hassign _ x W _ ⟨_, run_beginRound hl (by rw [hrec]), ?_⟩)⟩
    have hl2 : (W.putObj (w.heap.size + 1) (.loop { rec .ready none with state := .busy })).heap[w.heap.size + 1]? = some (.loop { rec .ready none with state := .busy }) := World.putObj_heap_same hlt
    have hk2 : (W.putObj (w.heap.size + 1) (.loop { rec .ready none with state := .busy })).heap[w.heap.size]? = some (.deferred (some [])) := (World.putObj_heap_other (by omega)).trans hk
    have hw2 : Kb S W (W.putObj (w.heap.size + 1) (.loop { rec .ready none with state := .busy })) := (Kb.refl S W).putObj (fun h => by have := hn _ h; omega) _
    have hbod := hbody (w.heap.size + 1) k x _ hx (hI.putObj (.loop { rec .ready none with state := .busy }) hi (by omega) hl rfl) (by rw [World.putObj_size]; exact hs)
    refine wpIn_mono hbod ?_
    have fin : ∀ (jump : Option Code) (W3 : World), KeepsFrom w.heap.size (W.putObj (w.heap.size + 1) (.loop { rec .ready none with state := .busy })) W3 →
        (Instr.endRound (w.heap.size + 1) jump).run P W3 = .ok (.bool jump.isNone) (W3.putObj (w.heap.size + 1) (.loop (rec (if jump.isNone then .ready else .done) jump))) ∧
        W3.heap[w.heap.size + 1]? = some (.loop { rec .ready none with state := .busy }) ∧
        (W3.putObj (w.heap.size + 1) (.loop (rec (if jump.isNone then .ready else .done) jump))).heap[w.heap.size + 1]? = some (.loop (rec (if jump.isNone then .ready else .done) jump)) ∧
        (W3.putObj (w.heap.size + 1) (.loop (rec (if jump.isNone then .ready else .done) jump))).heap[w.heap.size]? = some (.deferred (some [])) := fun jump W3 hk3 => by
      have hl3 := hk3.same _ _ (by omega) hl2 rfl
      have hr := run_endRound (P := P) jump hl3
      rw [hrec] at hr ⊢
      exact ⟨hr, by rw [hrec] at hl3; exact hl3, World.putObj_heap_same (Array.getElem?_eq_some_iff.1 hl3).1, (World.putObj_heap_other (by omega)).trans (hk3.same _ _ (Nat.le_refl _) hk2 rfl)⟩
    rintro e a3 W3 hp
    cases e with
    | normal =>
      obtain ⟨hk3, hkp3, hi3⟩ := hp
      obtain ⟨hr, hl3, hl4, hk4⟩ := fin none W3 hk3
      exact ⟨_, _, hr, .inl ⟨rfl, ⟨hI.putObj _ hi3 (by omega) hl3 rfl, by rw [World.putObj_size]; have := hk3.size; rw [World.putObj_size] at this; omega, hl4, hk4⟩, hw2.trans (hkp3.putObj (fun h => by have := hn _ h; omega) _)⟩⟩
    | ret =>
      obtain ⟨hk3, hi3⟩ := hp
      obtain ⟨hr, hl3, hl4, hk4⟩ := fin (some .ret) W3 hk3
      exact ⟨_, _, hr, .inr ⟨rfl, .ret, (hIx _).putObj _ hi3 (by omega) hl3 rfl, hl4, hk4⟩⟩
    | exit id =>
      obtain ⟨hk3, hi3⟩ := hp
      obtain ⟨hr, hl3, hl4, hk4⟩ := fin (some (.exit id)) W3 hk3
      exact ⟨_, _, hr, .inr ⟨rfl, .exit id, (hIx _).putObj _ hi3 (by omega) hl3 rfl, hl4, hk4⟩⟩
    | goto t =>
      obtain ⟨hk3, hi3⟩ := hp
      obtain ⟨hr, hl3, hl4, hk4⟩ := fin (some (.goto t)) W3 hk3
      exact ⟨_, _, hr, .inr ⟨rfl, .goto t, (hIx _).putObj _ hi3 (by omega) hl3 rfl, hl4, hk4⟩⟩
    | panic ch => exact hp.elim
    | outgrown => exact hp.elim
  · rintro e W2 ⟨⟨v, rfl⟩, (⟨hi, hs, hl, hk⟩ | ⟨k, hlt, c, hi, hl, hk⟩)⟩
    · exact ⟨none, _, by have := run_endLoop (P := P) hl (by rw [hrec]; simp); rw [hrec] at this; exact this, hdone _ _ (Nat.le_refl _) (hI.putObj _ hi (by omega) hl rfl) ((World.putObj_heap_other (by omega)).trans hk)⟩
    · exact ⟨some c, _, by have := run_endLoop (P := P) hl (by rw [hrec]; simp); rw [hrec] at this; exact this, hstop _ c k _ (Nat.le_refl _) hlt ((hIx c).putObj _ hi (by omega) hl rfl) ((World.putObj_heap_other (by omega)).trans hk)⟩
end Go.Proofs.YthhpblchiodahaaGreatDoor

/- Blocks of cells that are known whole; loops by a number. -/
namespace Go.Proofs.YthhpblchiodahaaGreatDoor
open Go.RowKit

/-- Block g is a row of cells cs of element type t, none of them shared by a string. -/
def Blk (W : World) (g : Nat) (t : TypeId) (cs : List Value) : Prop := W.heap[g]? = some (.cells cs.toArray t (0, 0))
theorem Blk.lt {W : World} {g : Nat} {t : TypeId} {cs : List Value} (h : Blk W g t cs) : g < W.heap.size := (Array.getElem?_eq_some_iff.1 h).1
theorem Blk.cell {W : World} {g : Nat} {t : TypeId} {cs : List Value} (h : Blk W g t cs) {j : Nat} {v : Value} (hj : cs[j]? = some v) : W.cell? ⟨g, j, none⟩ = some v := by
  simp [World.cell?, show W.heap[g]? = _ from h, hj]
theorem Blk.frozen {W : World} {g : Nat} {t : TypeId} {cs : List Value} (h : Blk W g t cs) (j : Nat) : W.frozen? ⟨g, j, none⟩ = false := by
  simp [World.frozen?, show W.heap[g]? = _ from h]
theorem Blk.set {W : World} {g : Nat} {t : TypeId} {cs : List Value} (h : Blk W g t cs) (j : Nat) (v : Value) : Blk (W.setCell ⟨g, j, none⟩ v) g t (cs.set j v) := by
  have hl := h.lt
  have hg : W.heap[g] = .cells cs.toArray t (0, 0) := by simpa [Array.getElem?_eq_getElem hl] using (show W.heap[g]? = _ from h)
  show (W.heap.modify g _)[g]? = _
  rw [Array.getElem?_eq_getElem (by rw [Array.size_modify]; exact hl), Array.getElem_modify_self, hg]
  simp
theorem Blk.other {W : World} {g b : Nat} {t : TypeId} {cs : List Value} (h : Blk W g t cs) (hne : g ≠ b) (o : Nat) (u : Value) : Blk (W.setCell ⟨b, o, none⟩ u) g t cs := (Below.heap_setCell W ⟨b, o, none⟩ u g hne).trans h
theorem Blk.alloc {W : World} {g : Nat} {t : TypeId} {cs : List Value} (h : Blk W g t cs) (o : Obj) : Blk (W.alloc o) g t cs := (Below.heap_alloc W o g h.lt).trans h
theorem Blk.below {W w1 : World} {B g : Nat} {t : TypeId} {cs : List Value} (h : Blk W g t cs) (hb : Below B W w1) (hlt : g < B) : Blk w1 g t cs := (hb.block g hlt).trans h
theorem Blk.step {W w1 : World} {g : Nat} {t : TypeId} {cs : List Value} (h : Blk W g t cs) (hb : Below W.heap.size W w1) : Blk w1 g t cs := (hb.block g h.lt).trans h
theorem Blk.new (W : World) (t : TypeId) (cs : List Value) : Blk (W.alloc (.cells cs.toArray t)) W.heap.size t cs := World.alloc_heap_new W _
theorem Blk.putObj {w1 : World} {b D : Nat} {t : TypeId} {cs : List Value} {o : Obj} (h : Blk w1 b t cs) (hD : w1.heap[D]? = some o) (ho : o.isCells = false) (o' : Obj) : Blk (w1.putObj D o') b t cs := by
  have : b ≠ D := by intro e; subst e; rw [show w1.heap[b]? = _ from h] at hD; cases hD; cases ho
  exact (World.putObj_heap_other this).trans h
theorem Kx.blk {ws : List Nat} {A W : World} (h : Kx ws A W) {b : Nat} {t : TypeId} {cs : List Value} (hb : Blk A b t cs) (hw : b ∉ ws) : Blk W b t cs := (h.block b hb.lt hw).trans hb
theorem blk_own {β : Type} (g : Nat) (t : TypeId) (f : β → List Value) : Own (fun s W => Blk W g t (f s)) := fun _ _ _ _ hs hg hr => (grownBy_keeps_cells hg hr hs rfl).trans hs
theorem box_step {W w1 : World} {b : Nat} {t : TypeId} {v : Value} (h : Boxed W b t v) (hb : Below W.heap.size W w1) : Boxed w1 b t v := (hb.block b h.lt).trans h

theorem arr_eta (t : Array Value) (n : Nat) (h : t.size = n) : t = ((List.range n).map (fun i => t.getD i undef)).toArray := by
  apply Array.ext
  · simp [h]
  · intro i h1 h2
    simp [h1]

variable {F : Fence} {n : Nat} {P : Program}

theorem leaves_list {fn : Func} {a : Act} {R : Ending → World → Prop} {v : Value} (B : Nat) (Ds : List Nat) {W : World} (hd : a.defers = Ds.map fun D => { target := .collected D, args := #[] })
    (hD : ∀ D, D ∈ Ds → B ≤ D ∧ W.heap[D]? = some (.deferred (some []))) (hn : Ds.Nodup)
    (h : ∀ W', Below B W W' → (∀ (k : Nat) (o : Obj), W.heap[k]? = some o → o.isCells = true → W'.heap[k]? = some o) → (results fn a.tmps).run P W' = .ok v W' ∧ R (.returned v) W') : bodyPostM F n P fn R .ret a W := by
  show LeavesInM F n P fn a.tmps R a.defers .returning W
  rw [hd]; exact leaves_many B Ds W hD hn h

/-- A loop whose invariant bears a number that every round lowers; what a round hands on stands behind a name. -/
theorem wpIn_loop_num {c : Code} {Q : Exit → Act → World → Prop} {a : Act} {w : World} (I : Nat → Act → World → Prop) (n₀ : Nat) (h₀ : I n₀ a w)
    (round : ∀ j a w, I j a w → ∀ K : Act → World → Prop, (∀ j' a' w', j' < j → I j' a' w' → K a' w') → c.wpIn F n P (Exit.then K Q) a w) : (Code.loop c).wpIn F n P Q a w := by
  refine wpIn_loop (fun a w => ∃ j, I j a w) (fun a w => leastOf (fun j => I j a w)) ⟨n₀, h₀⟩ ?_
  intro a w hI
  refine wpIn_mono (round _ a w (leastOf_spec hI).1 (fun a' w' => ∃ j', j' < leastOf (fun j => I j a w) ∧ I j' a' w') (fun j' _ _ h1 h2 => ⟨j', h1, h2⟩)) ?_
  intro e a' w' hq
  cases e with
  | normal =>
    obtain ⟨j', hlt, hI'⟩ := hq
    exact show (∃ j, I j a' w') ∧ leastOf (fun j => I j a' w') < leastOf (fun j => I j a w) from ⟨⟨j', hI'⟩, Nat.lt_of_le_of_lt ((leastOf_spec ⟨j', hI'⟩).2 j' hI') hlt⟩
  | exit id => exact hq
  | goto l => exact hq
  | ret => exact hq
  | panic ch => exact hq
  | outgrown => exact hq
theorem wp_loop_num {c : Code} {Q : Exit → Act → World → Prop} {a : Act} {w : World} (I : Nat → Act → World → Prop) (n₀ : Nat) (h₀ : I n₀ a w)
    (round : ∀ j a w, I j a w → ∀ K : Act → World → Prop, (∀ j' a' w', j' < j → I j' a' w' → K a' w') → c.wp P (Exit.then K Q) a w) : (Code.loop c).wp P Q a w :=
  (wpIn_wide (n := 3)).1 (wpIn_loop_num I n₀ h₀ (fun j a w h K hK => (wpIn_wide (n := 3)).2 (round j a w h K hK)))
end Go.Proofs.YthhpblchiodahaaGreatDoor

/- A region that draws its order: a quiet head (it may make new memory) is walked once in the text's order; a tail that waits for it follows. -/
namespace Go.Proofs.YthhpblchiodahaaGreatDoor
open Go.RowKit
section
variable {P : Program} {ops : Array Oper} {md : Region.Mode} {C : World → Prop}

/-- Each operation behind number n waits for one from n on that stands ahead of it. -/
def hangB (md : Region.Mode) (ops : Array Oper) (n : Nat) : Bool := (List.range ops.size).all fun t => decide (t ≤ n) || (List.range t).any fun u => decide (n ≤ u) && Region.waitsFor md ops t u
/-- The head in the text's order, up to the listing e. -/
def goB (md : Region.Mode) (ops : Array Oper) (e : Array Bool) : Nat → Nat → Array Bool → Bool
  | 0, _, s => s == e
  | f + 1, k, s => (Region.ready md ops s).contains k && (Region.free md ops s k && goB md ops e f (k + 1) (s.setIfInBounds k true))
def headL (n m : Nat) : Array Bool := (List.replicate n true ++ List.replicate (m - n) false).toArray
def headB (md : Region.Mode) (ops : Array Oper) (n : Nat) : Bool :=
  Region.noSelect ops && (Region.sinkB md ops n && (hangB md ops n && (goB md ops (headL n ops.size) n 0 (Array.replicate ops.size false) && ((Region.ready md ops (headL n ops.size)).all fun j => decide (n ≤ j)))))

/-- As long as one of the head is out, none of the tail comes up. -/
theorem first_waits {n : Nat} {s : Array Bool} (hs : Region.sinkB md ops n = true) (inv : HeadInv md ops n s) : ∀ (d i : Nat), n - i ≤ d → i < n → s.getD i true = false → n ∉ Region.ready md ops s
  | 0, i, hd, hi, _, _ => by omega
  | d + 1, i, hd, hi, hu, hr => by
    obtain ⟨j, hj, hw⟩ := List.any_eq_true.1 (List.all_eq_true.1 hs i (List.mem_range.2 hi))
    have hjn := List.mem_range.1 hj
    simp only [Bool.and_eq_true, decide_eq_true_eq] at hw
    obtain ⟨oj, hoj, e, he, hb, hon⟩ := Region.waitsFor_spec hw.2
    obtain ⟨_, o, ho, hall⟩ := mem_ready.1 hr
    have hout : s.getD e.on false = false := by rw [hon]; exact getD_both hu
    by_cases hjn' : j = n
    · subst hjn'
      obtain rfl : oj = o := Option.some.inj (hoj.symm.trans ho)
      rw [hall e he hb] at hout
      cases hout
    · cases hl : s.getD j false
      · have hlt : j < s.size := by rw [inv.size]; exact (Array.getElem?_eq_some_iff.1 hoj).1
        exact first_waits hs inv d j (by omega) (by omega) (getD_in hlt hl) hr
      · rw [inv.closed j oj hoj hl e he hb] at hout
        cases hout
theorem behind {n i t : Nat} {s : Array Bool} (hs : Region.sinkB md ops n = true) (hc : hangB md ops n = true) (inv : HeadInv md ops n s) (hi : i < n) (hu : s.getD i true = false) (ht : n ≤ t) : t ∉ Region.ready md ops s := by
  intro hr
  by_cases htn : t = n
  · subst htn
    exact first_waits hs inv _ i (Nat.le_refl _) hi hu hr
  · obtain ⟨_, o, ho, hall⟩ := mem_ready.1 hr
    have hlt := (Array.getElem?_eq_some_iff.1 ho).1
    have h := List.all_eq_true.1 hc t (List.mem_range.2 hlt)
    simp only [Bool.or_eq_true, decide_eq_true_eq] at h
    obtain ⟨u, hu1, hu2⟩ := List.any_eq_true.1 (h.resolve_left (by omega))
    simp only [Bool.and_eq_true, decide_eq_true_eq] at hu2
    have hut := List.mem_range.1 hu1
    obtain ⟨oj, hoj, e, he, hb, hon⟩ := Region.waitsFor_spec hu2.2
    obtain rfl : oj = o := Option.some.inj (hoj.symm.trans ho)
    have h1 := hall e he hb
    rw [hon, getD_both (inv.tail u hu2.1 (by omega))] at h1
    cases h1

/-- Whatever of the first n comes up is quiet, and nothing behind them comes up ahead of their end: then L. -/
def hd (P : Program) (md : Region.Mode) (ops : Array Oper) (C : World → Prop) (n : Nat) (L : Array Bool → Act → Prop) : Nat → Array Bool → Act → Prop
  | 0, s, a => L s a
  | f + 1, s, a => Region.ready md ops s ≠ [] ∧ ∀ i ∈ Region.ready md ops s, i < n ∧ qOp P ops C i (hd P md ops C n L f (s.setIfInBounds i true)) a
theorem hd_any {n g : Nat} {L : Array Bool → Act → Prop} {Q : Exit → Act → World → Prop} (hL : ∀ s a w, C w → L s a → wpAny P md ops Q g s a w) :
    ∀ (f : Nat) (s : Array Bool) (a : Act) (w : World), C w → hd P md ops C n L f s a → wpAny P md ops Q (f + g) s a w
  | 0, s, a, w, hw, h => by rw [Nat.zero_add]; exact hL s a w hw h
  | f + 1, s, a, w, hw, h => by
    have := fun i hi => wpOp_of_qOp (Q' := Q) hw (fun a' w' hw' h' => hd_any hL f (s.setIfInBounds i true) a' w' hw' h') (h.2 i hi).2
    rw [Nat.add_right_comm]
    exact ⟨fun e => absurd e h.1, this⟩
theorem hd_first {n i : Nat} {oi : Oper} {v : Value} {L : Array Bool → Act → Prop} (hi : ops[i]? = some oi) (hsel : Region.noSelect ops = true) (hs : Region.sinkB md ops n = true) (hc : hangB md ops n = true)
    (hin : i < n) (hL : ∀ s a, L s a → ∀ j ∈ Region.ready md ops s, n ≤ j) : ∀ (f : Nat) (s : Array Bool) (a : Act), HeadInv md ops n s →
      (∀ j oj, ops[j]? = some oj → j ≠ i → s.getD j true = false → (∀ e ∈ oj.after, Region.binds md e = true → e.on ≠ i) → oi.apart ops oj = true) →
      i ∈ Region.ready md ops s → YieldsIn P ops C oi v a → hd P md ops C n L f (s.setIfInBounds i true) (a.put oi.dst v) → hd P md ops C n L (f + 1) s a := by
  intro f
  induction f with
  | zero =>
    intro s a inv _ hr hy H
    refine ⟨List.ne_nil_of_mem hr, fun j hj => ?_⟩
    have hjn : j < n := Nat.lt_of_not_le fun h => behind hs hc inv hin (mem_ready.1 hr).1 h hj
    refine ⟨hjn, ?_⟩
    by_cases e : j = i
    · subst e; exact hy.qOp hi H
    · exact absurd (hL _ _ H j (ready_mono hj e)) (by omega)
  | succ f ih =>
    intro s a inv hap hr hy H
    refine ⟨List.ne_nil_of_mem hr, fun j hj => ?_⟩
    have hjn : j < n := Nat.lt_of_not_le fun h => behind hs hc inv hin (mem_ready.1 hr).1 h hj
    refine ⟨hjn, ?_⟩
    by_cases e : j = i
    · subst e; exact hy.qOp hi H
    · obtain ⟨hju, oj, hoj, hall⟩ := mem_ready.1 hj
      have hnot : ∀ x ∈ oj.after, Region.binds md x = true → x.on ≠ i := fun x hx hb h => by
        have h1 := hall x hx hb
        rw [h, getD_both (mem_ready.1 hr).1] at h1
        cases h1
      refine qOp_mono (fun a' h => ?_) (qOp_put hoj (hap j oj hoj e hju hnot) (fun cs b => Region.noSelect_spec hsel i oi cs b hi) (fun cs b => Region.noSelect_spec hsel j oj cs b hoj) hy (H.2 j (ready_mono hj e)).2)
      refine ih (s.setIfInBounds j true) a' (inv.set hj hjn) (fun k ok hk hki hku hno => hap k ok hk hki ?_ hno) (ready_mono hr (Ne.symm e)) h.1 ?_
      · by_cases hjk : j = k
        · subst hjk; exact hju
        · rw [getD_set_ne true hjk] at hku; exact hku
      · rw [Array.setIfInBounds_comm _ _ e]
        exact h.2
theorem hd_go {n : Nat} {e : Array Bool} {K : Act → Prop} (hsel : Region.noSelect ops = true) (hs : Region.sinkB md ops n = true) (hc : hangB md ops n = true) (he : ∀ j ∈ Region.ready md ops e, n ≤ j) :
    ∀ (l : List Oper) (k : Nat) (s : Array Bool) (a : Act), (∀ j, j < l.length → l[j]? = ops[k + j]?) → k + l.length = n → HeadInv md ops n s → goB md ops e l.length k s = true →
      wpQuiet P ops C K l a → hd P md ops C n (fun s' a' => s' = e ∧ K a') l.length s a
  | [], k, s, a, _, _, _, hB, h => ⟨by simpa [goB] using hB, h⟩
  | o :: l, k, s, a, hl, hk, inv, hB, h => by
    have h0 : ops[k]? = some o := by simpa using (hl 0 (by simp)).symm
    simp only [List.length_cons, goB, Bool.and_eq_true] at hB
    simp only [List.length_cons] at hk
    have hr : k ∈ Region.ready md ops s := by simpa using hB.1
    obtain ⟨v, hy, hK⟩ := yieldsIn_of_qOp (K := wpQuiet P ops C K l) h0 (by unfold qOp; simp only [h0]; exact h)
    refine hd_first (L := fun s' a' => s' = e ∧ K a') h0 hsel hs hc (by omega) (fun s' a' hL => hL.1 ▸ he) l.length s a inv (Region.free_spec h0 hB.2.1) hr hy ?_
    exact hd_go hsel hs hc he l (k + 1) _ _ (fun j hj => by have := hl (j + 1) (by simp; omega); simpa [Nat.add_assoc, Nat.add_comm 1 j] using this) (by omega) (inv.set hr (by omega)) hB.2.2 hK

/-- One of the tail that yields its value in whatever world is taken first. -/
theorem take_dst {Q : Exit → Act → World → Prop} {i d : Nat} {oi : Oper} {v : Value} {fuel : Nat} {listed : Array Bool} {a : Act} {w : World} (hi : ops[i]? = some oi) (hd : oi.dst = some d)
    (hs : Region.noSelect ops = true) (hf : Region.free md ops listed i = true) (hr : (Region.ready md ops listed).contains i = true)
    (hQ : ∀ c a w, Q (.panic c) (a.put (some d) v) w → Q (.panic c) a w) (hy : Yields P ops oi v a)
    (h : wpAny P md ops Q fuel (listed.setIfInBounds i true) (a.put (some d) v) w) : wpAny P md ops Q (fuel + 1) listed a w :=
  wpAny_take hi hs hf hr (by rw [hd]; exact hQ) hy (by rw [hd]; exact h)
/-- The region: its first n operations are walked once, in the text's order, quietly in the class C; behind them whatever comes up comes up. -/
theorem wp_region_head {id : Nat} {Q : Exit → Act → World → Prop} {a : Act} {w : World} {l : List Oper} (n : Nat) (hm : P.follows .mixedOrders = true) (hn : n ≤ l.length) (hB : headB .any l.toArray n = true) (hC : C { w with drawn := w.drawn + 1 })
    (h : wpQuiet P l.toArray C (fun a' => ∀ w', C w' → wpAny P .any l.toArray Q (l.length - n) (headL n l.length) a' w') (l.take n) a) : (Code.region id l.toArray true).wp P Q a w := by
  simp only [headB, Bool.and_eq_true] at hB
  obtain ⟨hsel, hs, hc, hgo, hall⟩ := hB
  have ht : (l.take n).length = n := by simp; omega
  have he : ∀ j ∈ Region.ready .any l.toArray (headL n l.toArray.size), n ≤ j := fun j hj => by simpa using List.all_eq_true.1 hall j hj
  have H := hd_go (C := C) (P := P) (K := fun a' => ∀ w', C w' → wpAny P .any l.toArray Q (l.length - n) (headL n l.length) a' w') hsel hs hc he (l.take n) 0 (Array.replicate l.toArray.size false) a
    (fun j hj => by rw [ht] at hj; simp [hj]) (by rw [ht, Nat.zero_add])
    ⟨by simp, fun j oj _ hl => (by rw [getD_replicate_false] at hl; cases hl), fun t _ h' => getD_in (by simpa using h') (getD_replicate_false _ _)⟩ (by rw [ht]; exact hgo) h
  refine wp_region_any hm ?_
  have hz : l.toArray.size = (l.take n).length + (l.length - n) := by rw [ht]; simp; omega
  have := hd_any (Q := Q) (g := l.length - n) (fun s a' w' hw' hL => by
    obtain ⟨rfl, hK⟩ := hL
    simpa using hK w' hw') _ _ _ _ hC H
  rw [← hz] at this
  exact this
end
end Go.Proofs.YthhpblchiodahaaGreatDoor

/- Package acceptor: all; worlds with new blocks. -/
namespace Go.Proofs.YthhpblchiodahaaGreatDoor
open Go.RowKit
set_option maxRecDepth 100000 in
set_option maxHeartbeats 1000000 in
theorem allA_any (b : Nat) (bs : List Bool) (n : Nat) (hn : bs.length = n) (hn9 : n ≤ 9) (w : World) (hB : Blk w b 4 (bs.map Value.bool)) :
    Calls Tryz.prog 57 #[.slice (some ⟨b, 0, none⟩) n n] w fun e w' => e = .returned (.bool (bs.all id)) ∧ w = w' := by
  obtain ⟨R, hR⟩ : ∃ R, bs.all id = R := ⟨_, rfl⟩
  rw [hR]
  go_enter Tryz.func57, Tryz.ntmps57
  go_wp2
  go_loopw [7] (fun i wr => ∃ j : Nat, j ≤ n ∧ i = .int .i64 j ∧ wr = w ∧ Hid (∀ k, k < j → bs.getD k false = true)) (fun i _ => n - (intOf i).toNat)
  case atStart => exact ⟨0, by omega, rfl, by first | rfl | trivial, Lib.hid (fun k h => absurd h (Nat.not_lt_zero _))⟩
  case round =>
    obtain ⟨j, hj, rfl, hw, hA⟩ := hrel
    subst hw
    by_cases hlt : j < n
    · obtain ⟨v, hv⟩ : ∃ v, bs.getD j false = v := ⟨_, rfl⟩
      have hjl : j < bs.length := by omega
      have hc : (bs.map Value.bool)[j]? = some (.bool v) := by rw [← hv]; simp [hjl]
      have cj := hB.cell hc
      have hj0 : (0 : Int) ≤ (j : Int) := by omega
      have hj1 : (j : Int) < (n : Int) := by omega
      have hj2 : (j : Int) < 100 := by omega
      clear hc
      cases v
      · have hf : R = false := by
          rw [← hR, List.all_eq_false]
          exact ⟨bs[j], List.getElem_mem hjl, by simpa [hjl] using hv⟩
        subst hf
        clear hv hA
        go_wp2
        go_ret
        exact ⟨rfl, rfl⟩
      · have hA2 : Hid (∀ k, k < j + 1 → bs.getD k false = true) := Lib.hid (fun k hk => by
          by_cases e : k = j
          · subst e; exact hv
          · exact hA.out k (by omega))
        clear hv hA
        go_wp2_with fail
        go_roundw
        case rel => exact ⟨j + 1, by omega, by go_num, by first | rfl | trivial, hA2⟩
        case measure => simp [intOf]; omega
    · obtain rfl : j = n := by omega
      have hf : R = true := by
        rw [← hR, List.all_eq_true]
        intro x hx
        obtain ⟨k, hk, rfl⟩ := List.getElem_of_mem hx
        have := hA.out k (by omega)
        simpa [hk] using this
      subst hf
      clear hA
      go_wp2
      go_ret
      exact ⟨rfl, rfl⟩
def ExtA (W W' : World) : Prop := Below W.heap.size W W'
theorem extA_cell {W : World} {b o : Nat} {v : Value} (h : W.cell? ⟨b, o, none⟩ = some v) (W' : World) (hx : ExtA W W') : W'.cell? ⟨b, o, none⟩ = some v := (Below.cell hx (World.block_lt_of_cell? W _ h)).trans h
theorem Blk.newA {W : World} {g : Nat} (hg : W.heap.size = g) (t : TypeId) (cs : List Value) : Blk (W.alloc (.cells cs.toArray t)) g t cs := hg ▸ Blk.new W t cs
theorem boxed_newA {W : World} {g : Nat} (hg : W.heap.size = g) (t : TypeId) (v : Value) : Boxed (W.alloc (.cells #[v] t)) g t v := hg ▸ Boxed.new W t v
theorem alloc_size {W : World} {g : Nat} (hg : W.heap.size = g) (o : Obj) : (W.alloc o).heap.size = g + 1 := by subst hg; exact Array.size_push ..
end Go.Proofs.YthhpblchiodahaaGreatDoor

/- Blocks, kept and stored whole. -/
namespace Go.Proofs.YthhpblchiodahaaGreatDoor
open Go.RowKit
/-- Cells stored one behind the other. -/
def putsW (W : World) (b : Nat) : Nat → List Value → World
  | _, [] => W
  | o, v :: r => putsW (W.setCell ⟨b, o, none⟩ v) b (o + 1) r
theorem Blk.setCells' {b : Nat} {t : TypeId} : ∀ (vs : List Value) (o : Nat) (W : World) (cs : List Value), Blk W b t cs → o + vs.length ≤ cs.length → Blk (putsW W b o vs) b t (cs.take o ++ vs ++ cs.drop (o + vs.length))
  | [], o, W, cs, h, _ => by simpa [putsW] using h
  | v :: r, o, W, cs, h, hl => by
    simp only [List.length_cons] at hl
    have h2 := Blk.setCells' r (o + 1) _ _ (h.set o v) (by rw [List.length_set]; omega)
    have e : (cs.set o v).take (o + 1) ++ r ++ (cs.set o v).drop (o + 1 + r.length) = cs.take o ++ (v :: r) ++ cs.drop (o + (v :: r).length) := by
      have ho : o < cs.length := by omega
      rw [List.take_set, List.drop_set_of_lt (by omega)]
      rw [List.take_add_one]
      simp only [List.getElem?_eq_getElem ho, Option.toList_some, List.length_cons]
      rw [List.set_append_right _ _ (by rw [List.length_take]; omega)]
      simp [List.length_take, Nat.min_eq_left (by omega : o ≤ cs.length), show o + 1 + r.length = o + (r.length + 1) by omega]
    rw [← e]
    exact h2
/-- A block whose cells are all stored. -/
theorem Blk.puts {b : Nat} {t : TypeId} {W : World} {cs : List Value} (vs : List Value) (h : Blk W b t cs) (hl : vs.length = cs.length) : Blk (putsW W b 0 vs) b t vs := by
  have h2 := Blk.setCells' vs 0 W cs h (by omega)
  rw [List.take_zero, List.nil_append, Nat.zero_add, hl, List.drop_length, List.append_nil] at h2
  exact h2
theorem Kx.setCells {ws : List Nat} {A : World} {b : Nat} : ∀ (vs : List Value) (o : Nat) (W : World), Kx ws A W → (b ∈ ws ∨ A.heap.size ≤ b) → Kx ws A (putsW W b o vs)
  | [], _, _, h, _ => h
  | v :: r, o, _, h, hb => Kx.setCells r (o + 1) _ (h.setCell (p := ⟨b, o, none⟩) hb v) hb
theorem kx_all {ws : List Nat} {W0 : World} {b q : Nat} {v : Value} (h : W0.cell? ⟨b, q, none⟩ = some v) (hw : b ∉ ws) : ∀ W, Kx ws W0 W → W.cell? ⟨b, q, none⟩ = some v :=
  fun _ hK => (World.cell?_of_block (a := ⟨b, q, none⟩) (hK.block b (World.block_lt_of_cell? W0 _ h) hw)).trans h
theorem Blk.kx {ws : List Nat} {A W : World} {b : Nat} {t : TypeId} {cs : List Value} (hb : Blk A b t cs) (h : Kx ws A W) (hw : b ∉ ws) : Blk W b t cs := h.blk hb hw
/-- The world goes on from w: what lay there lies there. -/
def From (w W : World) : Prop := Below w.heap.size w W
theorem From.step {w W W' : World} (h : From w W) (hb : Below W.heap.size W W') : From w W' := Below.trans h (hb.mono h.size)
theorem From.kx {w W W' : World} {ws : List Nat} (h : From w W) (hk : Kx ws W W') (hw : ∀ x, x ∈ ws → w.heap.size ≤ x) : From w W' := Below.trans h (hk.below h.size hw)
theorem From.out {w W : World} (h : From w W) : Below w.heap.size w W := h
theorem From.refl (w : World) : From w w := Below.refl _ _
theorem From.size {w W : World} (h : From w W) : w.heap.size ≤ W.heap.size := Below.size h
/-- The world goes on from w, but for what lies in the blocks ws. -/
def FromX (ws : List Nat) (w W : World) : Prop := Kx ws w W
theorem FromX.step {ws : List Nat} {w W W' : World} (h : FromX ws w W) (hb : Below W.heap.size W W') : FromX ws w W' := Kx.step h hb
theorem FromX.kx {ws us : List Nat} {w W W' : World} (h : FromX ws w W) (hk : Kx us W W') (hw : ∀ x, x ∈ us → x ∈ ws ∨ w.heap.size ≤ x) : FromX ws w W' :=
  ⟨hk.os.trans h.os, hk.tape.trans h.tape, hk.output.trans h.output, Nat.le_trans h.size hk.size, fun k hk1 hk2 => (hk.block k (Nat.lt_of_lt_of_le hk1 h.size) (fun e => by rcases hw k e with h3 | h3; exact hk2 h3; omega)).trans (h.block k hk1 hk2)⟩
theorem Kx.kx {ws us : List Nat} {w W W' : World} (h : Kx ws w W) (hk : Kx us W W') (hw : ∀ x, x ∈ us → x ∈ ws ∨ w.heap.size ≤ x) : Kx ws w W' := FromX.kx h hk hw
theorem FromX.refl (ws : List Nat) (w : World) : FromX ws w w := Kx.refl _ _
theorem FromX.out {ws : List Nat} {w W : World} (h : FromX ws w W) : Kx ws w W := h
/-- A scope whose jumps all go to one label, behind which none jumps any more. -/
theorem wp_scope_fwd {P : Program} {a : Act} {w : World} {Q : Exit → Act → World → Prop} {c rest : Code} (l : Nat) (hf : findLabel c l = some rest)
    (h : ∀ Q2 : Exit → Act → World → Prop, Hid (∀ a w, Q .ret a w → Q2 .ret a w) → Hid (∀ a w, rest.wp P (Exit.noGoto Q) a w → Q2 (.goto l) a w) → c.wp P Q2 a w) : (Code.scope c).wp P Q a w :=
  wp_scope_jumps l (fun a w => rest.wp P (Exit.noGoto Q) a w) (fun _ _ => 0) hf
    (h _ (Lib.hid fun _ _ h => h) (Lib.hid fun _ _ h => ⟨rfl, h⟩))
    (fun a w hJ => wp_mono hJ fun e _ _ hq => by
      cases e with
      | goto l => exact hq.elim
      | normal => exact hq
      | exit id => exact hq
      | ret => exact hq
      | panic ch => exact hq
      | outgrown => exact hq)
end Go.Proofs.YthhpblchiodahaaGreatDoor

/- A region that draws its order, from a point of it on: the rest is quiet and walked once, in the text's order. -/
namespace Go.Proofs.YthhpblchiodahaaGreatDoor
open Go.RowKit
variable {P : Program} {ops : Array Oper} {md : Region.Mode}
/-- What is left of a region behind its n-th operation is quiet in the class C. -/
theorem wp_rest_quiet {Q : Exit → Act → World → Prop} {a : Act} {w : World} {fuel : Nat} {listed : Array Bool} (C : World → Prop) (n : Nat) (l : List Oper) (hl : ops.toList.drop n = l) (hf : l.length = fuel) (hs : Region.noSelect ops = true)
    (hB : Region.lexFrom md ops l.length n listed = true) (hC : C w) (h : wpQuiet P ops C (fun a' => ∀ w', C w' → Q .normal a' w') l a) : wpAny P md ops Q fuel listed a w := by
  subst hf
  refine wpAny_of_quiet (Q := fun a' => ∀ w', C w' → Q .normal a' w') (fun _ w' hw' h => h w' hw') _ _ _ _ hC ?_
  refine wpAnyQ_lex hs l n listed a (fun j => ?_) hB h
  rw [← hl, List.getElem?_drop]
  simp
theorem Kx.out {ws ws' : List Nat} {A W W' : World} (h : Kx ws A W) (k : Kx ws' W W') (hs : ∀ x, x ∈ ws' → x ∈ ws ∨ A.heap.size ≤ x) : Kx ws A W' :=
  ⟨k.os.trans h.os, k.tape.trans h.tape, k.output.trans h.output, Nat.le_trans h.size k.size, fun i hi hw => (k.block i (Nat.lt_of_lt_of_le hi h.size) (fun hm => by
    rcases hs i hm with h1 | h1
    · exact hw h1
    · omega)).trans (h.block i hi hw)⟩
end Go.Proofs.YthhpblchiodahaaGreatDoor

/- Rows of memory of one's own (slices), kept. -/
namespace Go.Proofs.YthhpblchiodahaaGreatDoor
open Go.RowKit
theorem info_parts {P : Program} {t : TypeId} {z : Value} {sz by' : Nat} (h : (P.info? t).map (fun i => (i.zero, i.size, i.bytes)) = some (some z, sz, by')) : ∃ i, P.info? t = some i ∧ i.zero = some z ∧ i.size = sz ∧ i.bytes = by' := by
  cases hi : P.info? t with
  | none => rw [hi] at h; cases h
  | some i => rw [hi] at h; simp at h; exact ⟨i, rfl, h.1, h.2.1, h.2.2⟩
theorem own_step {W W' : World} {base : Nat} {e : TypeId} {size : Nat} {v : Value} {n : Nat} {xs : List Value} (h : W.ownsRow base e size v n xs) (hb : Below W.heap.size W W') : W'.ownsRow base e size v n xs := by
  obtain ⟨h1, h2⟩ := h
  refine ⟨h1, ?_⟩
  rcases h2 with h2 | ⟨g, c, cur, hv, hg, hh, r⟩
  · exact .inl h2
  · exact .inr ⟨g, c, cur, hv, hg, (hb.block g (Array.getElem?_eq_some_iff.1 hh).1).trans hh, r⟩
theorem row_kx {ws : List Nat} {W W' : World} {base n : Nat} {e : TypeId} {size : Nat} {v : Value} {xs : List Value} (h : W.ownsRow base e size v n xs) (hK : Kx ws W W') (hw : ∀ k, v.ownBlock = some k → k ∉ ws) : W'.ownsRow base e size v n xs := by
  refine ⟨h.1, ?_⟩
  rcases h.2 with h0 | ⟨g, cap, cur, rfl, hg, hh, hle, hcap, hsz2, htake⟩
  · exact .inl h0
  · exact .inr ⟨g, cap, cur, rfl, hg, (hK.block g (Array.getElem?_eq_some_iff.1 hh).1 (hw g rfl)).trans hh, hle, hcap, hsz2, htake⟩
theorem row_low {W : World} {base base' n : Nat} {e : TypeId} {size : Nat} {v : Value} {xs : List Value} (h : W.ownsRow base e size v n xs) (hb : base' ≤ base) : W.ownsRow base' e size v n xs := by
  obtain ⟨h1, h2⟩ := h
  refine ⟨h1, ?_⟩
  rcases h2 with h2 | ⟨b, cap, cur, hv, hg, r⟩
  · exact Or.inl h2
  · exact Or.inr ⟨b, cap, cur, hv, Nat.le_trans hb hg, r⟩
theorem row_ge {W : World} {base n : Nat} {e : TypeId} {size : Nat} {v : Value} {xs : List Value} (h : W.ownsRow base e size v n xs) : ∀ k, v.ownBlock = some k → base ≤ k ∧ k < W.heap.size := by
  rcases h.2 with ⟨h2, _⟩ | ⟨b, cap, cur, hv, hg, hh, r⟩
  · rw [h2]; intro k hk; cases hk
  · rw [hv]
    intro k hk
    cases hk
    exact ⟨hg, (Array.getElem?_eq_some_iff.1 hh).1⟩
theorem row_form {W : World} {base n : Nat} {e : TypeId} {size : Nat} {v : Value} {xs : List Value} (h : W.ownsRow base e size v n xs) : ∃ a c, v = .slice a n c ∧ n ≤ c := by
  rcases h.2 with ⟨h2, h3⟩ | ⟨b, cap, cur, hv, hg, hh, hle, r⟩
  · exact ⟨none, 0, by rw [h2, h3], by omega⟩
  · exact ⟨_, cap, hv, hle⟩
theorem cells_kept {w w' : World} (hb : Below w.heap.size w w') : ∀ {b o : Nat} {u : Value}, w.cell? ⟨b, o, none⟩ = some u → w'.cell? ⟨b, o, none⟩ = some u :=
  fun h => (hb.cell (World.block_lt_of_cell? w _ h)).trans h
theorem extB_then {W A B : World} (h : ExtA W A) (k : Below A.heap.size A B) : ExtA W B := Below.trans h (k.mono h.size)
theorem Blk.new' {W : World} {g : Nat} (hg : W.heap.size = g) (t : TypeId) (cs : List Value) : Blk (W.alloc (.cells cs.toArray t)) g t cs := hg ▸ Blk.new W t cs
theorem Blk.news {W : World} {g : Nat} {t : TypeId} {cs : List Value} (h : Blk W g t cs) : ∀ j u, cs[j]? = some u → W.cell? ((⟨g, 0, none⟩ : Addr).add j) = some u := by
  intro j u hu
  rw [Addr.add_lit, Nat.zero_add]
  exact h.cell hu
theorem run_append_of_nil {P : Program} (w : World) (base : Nat) (t ty e : TypeId) (i : TypeInfo) (size : Nat) (ht : P.underlying t = some (.slice e)) (hi : P.info? e = some i)
    (v : Value) (n : Nat) (xs : List Value) (hown : w.ownsRow base e size v n xs) (c : Nat) : (Builtin.append_ #[t, t] ty #[v, .slice none 0 c]).run P w = .ok v w := by
  rcases hown.2 with ⟨rfl, rfl⟩ | ⟨g, cap, cur, rfl, _, _, hnc, _⟩
  · simp [Builtin.append_, run_underlying ht, sizeOf, typeInfo, hi, Builtin.lenOf, Builtin.firstCells]
  · simp [Builtin.append_, run_underlying ht, sizeOf, typeInfo, hi, Builtin.lenOf, Builtin.firstCells, hnc, storeCells]
/-- append of a row to a row. -/
theorem run_append_rows {P : Program} (w : World) (base base2 : Nat) (t ty e : TypeId) (i : TypeInfo) (z : Value) (size bytes : Nat) (ht : P.underlying t = some (.slice e)) (hi : P.info? e = some i) (hz : i.zero = some z)
    (hsize : i.size = size) (hby : i.bytes = bytes) (hzs : z.cells.size = size) (hsz : 0 < size)
    (v : Value) (n : Nat) (xs : List Value) (hown : w.ownsRow base e size v n xs) (v2 : Value) (m : Nat) (ys : List Value) (hown2 : w.ownsRow base2 e size v2 m ys) (h1 : ∀ u ∈ ys, u.oneCell' = true)
    (h63 : n + m ≤ maxLen) (hbytes : (n + m) * bytes ≤ 140737488355328) (hbase : base ≤ w.heap.size) :
    ∃ v' w', (Builtin.append_ #[t, t] ty #[v, v2]).run P w = .ok v' w' ∧ w'.ownsRow base e size v' (n + m) (xs ++ ys) ∧ w.grownBy w' v.ownBlock ∧ (v'.ownBlock = v.ownBlock ∨ v'.ownBlock = some w.heap.size) := by
  rcases hown2 with ⟨hl, ⟨rfl, rfl⟩ | ⟨g, cap, cur, rfl, _, hh, hle, hm, hs, htk⟩⟩
  · obtain rfl : ys = [] := List.eq_nil_of_length_eq_zero (by simpa using hl)
    exact ⟨v, w, run_append_of_nil w base t ty e i size ht hi v n xs hown 0, by simpa using hown, World.grownBy.refl w _, .inl rfl⟩
  · have hnews : ∀ j u, ys[j]? = some u → w.cell? ((⟨g, 0, none⟩ : Addr).add j) = some u := by
      intro j u hj
      have hjl := (List.getElem?_eq_some_iff.1 hj).1
      rw [Addr.add_lit, Nat.zero_add]
      rw [← htk, List.getElem?_take, if_pos (by omega)] at hj
      simp only [World.cell?, hh]
      simpa using hj
    obtain ⟨v', w', hrun, h2, h3, _, h5⟩ := run_append_own_at (P := P) w base t ty e i z size bytes ht hi hz hsize hby hzs hsz v n xs hown ⟨g, 0, none⟩ m cap ys hl hnews h1 h63 hbytes hbase
    exact ⟨v', w', hrun, h2, h3, h5⟩
theorem step_append_run {P : Program} {w w' : World} {ops : Array Oper} {o : Oper} {a : Act} {K : Act → World → Prop} {Q : Exit → Act → World → Prop} {E : Prop} (hgd : o.guard = none) (s x : Operand) (t : TypeId)
    (ho : o.op = .call { callee := .builtin .append, args := #[s, x], argTypes := #[t, t] }) {v v2 v' : Value} (hs : a.eval s = v) (hx : a.eval x = v2) (hrun : (Builtin.append_ #[t, t] o.type #[v, v2]).run P w = .ok v' w') (h : K (a.put o.dst v') w') :
    if Region.wanted o (yielded ops a.tmps) = true then Oper.wp P o a w K Q else E := by
  have hw : Region.wanted o (yielded ops a.tmps) = true := by simp [Region.wanted, hgd]
  rw [if_pos hw]
  unfold Oper.wp execOp
  simp only [ho, resolve, invoke, builtin, Sem.run_bind, Sem.run_pure, Result.andThen_ok, List.map_toArray, List.map_cons, List.map_nil, hs, hx, hrun]
  exact h
theorem kx_grown {W W' : World} {row : Option Nat} (h : W.grownBy W' row) : Kx row.toList W W' :=
  ⟨h.os, h.tape, h.output, h.size, fun k hk hw => h.block k hk (fun e => hw (by rw [← e]; simp))⟩
theorem grown_kx {W W' : World} (h : Kx [] W W') : W.grownBy W' none := ⟨h.os, h.tape, h.output, h.size, fun k hk _ => h.block k hk (by simp)⟩
end Go.Proofs.YthhpblchiodahaaGreatDoor
