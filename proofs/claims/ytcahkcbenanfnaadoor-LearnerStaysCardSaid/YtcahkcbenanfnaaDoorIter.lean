
/- A range over a function whose iterator hands over the items of a list in order: one law for the caller (over the items' index), and what an iterator's contract says. -/
import Derived.RangeFuncNested
import Derived.RangeFuncBound
import Derived.RangeFuncCalls
import Derived.RangeFuncLeaves
import Derived.RangeFuncBox
import Derived.Scope
namespace Go.Proofs.YtcahkcbenanfnaaDoor
set_option linter.unusedSimpArgs false
set_option linter.unusedVariables false
open Go.RowKit

/-- THE ITERATOR's CONTRACT: function g with the captured values lb hands over the items xs, in order, as far as the rounds go on. 'Kp': what a round that goes on keeps. -/
def SeqXs {α : Type} (P : Program) (g : Nat) (lb : Array Value) (encs : α → Array Value) (xs : List α) (Kp : World → World → Prop) (w : World) : Prop :=
  ∀ (l : Nat) (J Jx : Nat → World → Prop) (W : World), Below w.heap.size w W → AbidesFrom W.heap.size J → AbidesFrom W.heap.size Jx →
    (∀ k x W1, xs[k]? = some x → J k W1 → YieldAt Fence.wide 1 P l (encs x) W1 fun e W' =>
      (e = .returned (.bool true) ∧ J (k + 1) W' ∧ Kp W1 W') ∨ (e = .returned (.bool false) ∧ Jx (k + 1) W')) →
    J 0 W →
    CallsIn Fence.wide 2 P g (#[.func (.yield l) #[] #[]] ++ lb) W fun e W' => (∃ v, e = .returned v) ∧ (J xs.length W' ∨ ∃ k, k < xs.length ∧ Jx (k + 1) W')

/-- The blocks of a set lie as they lay. -/
def Kb (S : Nat → Prop) (W W' : World) : Prop := ∀ k, S k → W'.heap[k]? = W.heap[k]?
theorem Kb.refl (S : Nat → Prop) (W : World) : Kb S W W := fun _ _ => rfl
theorem Kb.trans {S : Nat → Prop} {A B C : World} (h : Kb S A B) (k : Kb S B C) : Kb S A C := fun i hi => (k i hi).trans (h i hi)
theorem Kb.setCell {S : Nat → Prop} {A B : World} (h : Kb S A B) {p : Addr} (hp : ¬ S p.block) (u : Value) : Kb S A (B.setCell p u) := h.trans (fun k hk => Below.heap_setCell B p u k (by intro e; subst e; exact hp hk))
theorem Kb.putObj {S : Nat → Prop} {A B : World} (h : Kb S A B) {D : Nat} (hD : ¬ S D) (o : Obj) : Kb S A (B.putObj D o) := h.trans (fun k hk => World.putObj_heap_other (by intro e; subst e; exact hD hk))
theorem Kb.below {S : Nat → Prop} {A B C : World} (h : Kb S A B) {n : Nat} (hb : Below n B C) (hS : ∀ k, S k → k < n) : Kb S A C := h.trans (fun k hk => hb.block k (hS k hk))
theorem Kb.cell {S : Nat → Prop} {A B : World} (h : Kb S A B) {p : Addr} (hp : S p.block) : B.cell? p = A.cell? p := World.cell?_of_block (h p.block hp)

/-- How a round's body may be left. -/
def xsPost (B : Nat) (Kp : World → World → Prop) (I : Nat → World → Prop) (Ix : Code → Nat → World → Prop) (k : Nat) (W : World) : Exit → Act → World → Prop
  | .normal, _, W' => KeepsFrom B W W' ∧ Kp W W' ∧ I k W'
  | .ret, _, W' => KeepsFrom B W W' ∧ Ix .ret k W'
  | .exit id, _, W' => KeepsFrom B W W' ∧ Ix (.exit id) k W'
  | .goto t, _, W' => KeepsFrom B W W' ∧ Ix (.goto t) k W'
  | .panic _, _, _ => False
  | .outgrown, _, _ => False

theorem SeqXs.later {α : Type} {P : Program} {g : Nat} {lb : Array Value} {encs : α → Array Value} {xs : List α} {Kp : World → World → Prop} {w w' : World}
    (h : SeqXs P g lb encs xs Kp w) (hb : Below w.heap.size w w') : SeqXs P g lb encs xs Kp w' :=
  fun l J Jx W hW => h l J Jx W (hb.trans (hW.mono hb.size))

theorem grown_of_below {W w1 : World} (h : Below W.heap.size W w1) : W.grownBy w1 none := ⟨h.os, h.tape, h.output, h.size, fun k hk _ => h.block k hk⟩
theorem abides_below {β : Type} {B : Nat} {J : β → World → Prop} (h : AbidesFrom B J) {s : β} {W w1 : World} (hs : J s W) (hb : Below W.heap.size W w1) : J s w1 := h s W w1 none hs (grown_of_below hb) (fun r e => by cases e)
theorem own_below {β : Type} {B : Nat} {J : β → World → Prop} (h : OwnFrom B J) {s : β} {W w1 : World} (hs : J s W) (hb : Below W.heap.size W w1) : J s w1 := h s W w1 none hs (grown_of_below hb) (fun r e => by cases e)

theorem box_below {W w1 : World} {b : Nat} {t : TypeId} {v : Value} {B : Nat} (h : Boxed W b t v) (hb : Below B W w1) (hlt : b < B) : Boxed w1 b t v := (hb.block b hlt).trans h
theorem box_set_other {W : World} {b b' : Nat} {t : TypeId} {v : Value} (h : Boxed W b t v) (hne : b ≠ b') (o : Nat) (u : Value) : Boxed (W.setCell ⟨b', o, none⟩ u) b t v := (Below.heap_setCell W ⟨b', o, none⟩ u b hne).trans h

theorem leaves_nil {F : Fence} {n : Nat} {P : Program} {fn : Func} {a : Act} {R : Ending → World → Prop} {w : World} {v : Value} (hd : a.defers = []) (hr : (results fn a.tmps).run P w = .ok v w) (hR : R (.returned v) w) : bodyPostM F n P fn R .ret a w := by
  show LeavesInM F n P fn a.tmps R a.defers .returning w
  rw [hd]; exact ⟨v, hr, hR⟩
theorem leaves_col {F : Fence} {n : Nat} {P : Program} {fn : Func} {a : Act} {R : Ending → World → Prop} {w : World} {v : Value} {D : Nat} (hd : a.defers = [{ target := .collected D, args := #[] }]) (hK : w.heap[D]? = some (.deferred (some [])))
    (hr : (results fn a.tmps).run P (w.putObj D (.deferred none)) = .ok v (w.putObj D (.deferred none))) (hR : R (.returned v) (w.putObj D (.deferred none))) : bodyPostM F n P fn R .ret a w := by
  show LeavesInM F n P fn a.tmps R a.defers .returning w
  rw [hd]; exact ⟨by simp, .inl ⟨_, _, rfl, run_takeDeferred hK, ⟨v, hr, hR⟩⟩⟩
theorem below_putObj {B : Nat} {W w1 : World} (h : Below B W w1) {D : Nat} (hD : B ≤ D) (o : Obj) : Below B W (w1.putObj D o) :=
  h.trans ⟨rfl, rfl, rfl, by simp, fun k hk => World.putObj_heap_other (by omega)⟩
theorem box_putObj {w1 : World} {b D : Nat} {t : TypeId} {v : Value} {o : Obj} (h : Boxed w1 b t v) (hD : w1.heap[D]? = some o) (ho : o.isCells = false) (o' : Obj) : Boxed (w1.putObj D o') b t v := by
  have : b ≠ D := by intro e; subst e; rw [show w1.heap[b]? = _ from h] at hD; cases hD; cases ho
  exact (World.putObj_heap_other this).trans h

theorem two_boxes {W : World} {b c : Nat} {t u : TypeId} {v z : Value} (h1 : Boxed W b t v) (h2 : Boxed W c u z) (hne : b ≠ c) (x y : Value) :
    Boxed ((W.setCell ⟨b, 0, none⟩ x).setCell ⟨c, 0, none⟩ y) b t x ∧ Boxed ((W.setCell ⟨b, 0, none⟩ x).setCell ⟨c, 0, none⟩ y) c u y :=
  ⟨box_set_other (h1.set x) hne 0 y, (box_set_other h2 (Ne.symm hne) 0 x).set y⟩

/-- What lay in W0 lies in W as it lay, but for the blocks of a list. -/
structure Kx (ws : List Nat) (W0 W : World) : Prop where
  os : W.os = W0.os
  tape : W.tape = W0.tape
  output : W.output = W0.output
  size : W0.heap.size ≤ W.heap.size
  block : ∀ k, k < W0.heap.size → k ∉ ws → W.heap[k]? = W0.heap[k]?
theorem Kx.refl (ws : List Nat) (W : World) : Kx ws W W := ⟨rfl, rfl, rfl, Nat.le_refl _, fun _ _ _ => rfl⟩
theorem Kx.trans {ws : List Nat} {A B C : World} (h : Kx ws A B) (k : Kx ws B C) : Kx ws A C :=
  ⟨k.os.trans h.os, k.tape.trans h.tape, k.output.trans h.output, Nat.le_trans h.size k.size, fun i hi hw => (k.block i (Nat.lt_of_lt_of_le hi h.size) hw).trans (h.block i hi hw)⟩
theorem Kx.mono {ws ws' : List Nat} {A B : World} (h : Kx ws A B) (hs : ∀ x, x ∈ ws → x ∈ ws') : Kx ws' A B := ⟨h.os, h.tape, h.output, h.size, fun k hk hw => h.block k hk (fun e => hw (hs k e))⟩
theorem Kx.of_below (ws : List Nat) {B : Nat} {A W : World} (h : Below B A W) (hB : A.heap.size ≤ B) : Kx ws A W := ⟨h.os, h.tape, h.output, h.size, fun k hk _ => h.block k (by omega)⟩
theorem Kx.step {ws : List Nat} {A W W' : World} (h : Kx ws A W) (hb : Below W.heap.size W W') : Kx ws A W' := h.trans (Kx.of_below ws hb (Nat.le_refl _))
theorem Kx.alloc {ws : List Nat} {A W : World} (h : Kx ws A W) (o : Obj) : Kx ws A (W.alloc o) := h.step ((Below.refl _ W).alloc (Nat.le_refl _) o)
theorem Kx.drew {ws : List Nat} {A W : World} (h : Kx ws A W) : Kx ws A W.drew := ⟨h.os, h.tape, h.output, h.size, h.block⟩
theorem Kx.setCell {ws : List Nat} {A W : World} (h : Kx ws A W) {p : Addr} (hp : p.block ∈ ws ∨ A.heap.size ≤ p.block) (u : Value) : Kx ws A (W.setCell p u) :=
  ⟨h.os, h.tape, h.output, by simp [World.setCell]; exact h.size, fun k hk hw => (Below.heap_setCell W p u k (by intro e; subst e; rcases hp with hp | hp; exact hw hp; omega)).trans (h.block k hk hw)⟩
theorem Kx.putObj {ws : List Nat} {A W : World} (h : Kx ws A W) {D : Nat} (hD : D ∈ ws ∨ A.heap.size ≤ D) (o : Obj) : Kx ws A (W.putObj D o) :=
  ⟨h.os, h.tape, h.output, by rw [World.putObj_size]; exact h.size, fun k hk hw => (World.putObj_heap_other (by intro e; subst e; rcases hD with hp | hp; exact hw hp; omega)).trans (h.block k hk hw)⟩
theorem Kx.grown {ws : List Nat} {A W W' : World} {row : Option Nat} (h : Kx ws A W) (hg : W.grownBy W' row) (hr : ∀ k, row = some k → k ∈ ws ∨ A.heap.size ≤ k) : Kx ws A W' :=
  ⟨hg.os.trans h.os, hg.tape.trans h.tape, hg.output.trans h.output, Nat.le_trans h.size hg.size, fun k hk hw => (hg.block k (by have := h.size; omega) (fun e => by rcases hr k e.symm with hp | hp; exact hw hp; omega)).trans (h.block k hk hw)⟩
theorem Kx.box {ws : List Nat} {A W : World} (h : Kx ws A W) {b : Nat} {t : TypeId} {v : Value} (hb : Boxed A b t v) (hw : b ∉ ws) : Boxed W b t v := (h.block b hb.lt hw).trans hb
theorem Kx.obj {ws : List Nat} {A W : World} (h : Kx ws A W) {b : Nat} {o : Obj} (hb : A.heap[b]? = some o) (hw : b ∉ ws) : W.heap[b]? = some o := (h.block b (Array.getElem?_eq_some_iff.1 hb).1 hw).trans hb
theorem Kx.below {ws : List Nat} {A W : World} (h : Kx ws A W) {B : Nat} (hB : B ≤ A.heap.size) (hw : ∀ x, x ∈ ws → B ≤ x) : Below B A W := ⟨h.os, h.tape, h.output, h.size, fun k hk => h.block k (by omega) (fun e => by have := hw k e; omega)⟩
theorem ownFrom_kx {β : Type} (ws : List Nat) (A : World) : OwnFrom A.heap.size (fun (_ : β) W => Kx ws A W) := fun _ _ _ _ hs hg hr => hs.grown hg (fun k e => .inr (hr k e).1)

/-- The way out of a function that has gone over some iterators. -/
theorem leaves_many {F : Fence} {n : Nat} {P : Program} {fn : Func} {tmps : Array Value} {R : Ending → World → Prop} {v : Value} (B : Nat) : ∀ (Ds : List Nat) (W : World),
    (∀ D, D ∈ Ds → B ≤ D ∧ W.heap[D]? = some (.deferred (some []))) → Ds.Nodup →
    (∀ W', Below B W W' → (∀ (k : Nat) (o : Obj), W.heap[k]? = some o → o.isCells = true → W'.heap[k]? = some o) → (results fn tmps).run P W' = .ok v W' ∧ R (.returned v) W') →
    LeavesInM F n P fn tmps R (Ds.map fun D => { target := .collected D, args := #[] }) .returning W := by
  intro Ds
  induction Ds with
  | nil => intro W _ _ h; exact ⟨v, h W (Below.refl _ _) (fun _ _ h _ => h)⟩
  | cons D Ds ih =>
    intro W hD hn h
    obtain ⟨hB, hK⟩ := hD D (by simp)
    refine ⟨by simp, .inl ⟨D, _, rfl, run_takeDeferred hK, ih _ ?_ (List.nodup_cons.1 hn).2 ?_⟩⟩
    · intro E hE
      obtain ⟨e1, e2⟩ := hD E (by simp [hE])
      exact ⟨e1, (World.putObj_heap_other (by intro e; subst e; exact (List.nodup_cons.1 hn).1 hE)).trans e2⟩
    · intro W' hb hc
      refine h W' ((below_putObj (Below.refl B W) hB _).trans hb) (fun k o hk ho => hc k o ?_ ho)
      exact (World.putObj_heap_other (by intro e; subst e; rw [hK] at hk; cases hk; cases ho)).trans hk
theorem leaves_two {F : Fence} {n : Nat} {P : Program} {fn : Func} {a : Act} {R : Ending → World → Prop} {v : Value} (B D E : Nat) {W : World} (hd : a.defers = [{ target := .collected D, args := #[] }, { target := .collected E, args := #[] }])
    (hD : W.heap[D]? = some (.deferred (some []))) (hE : W.heap[E]? = some (.deferred (some []))) (hBD : B ≤ D) (hBE : B ≤ E) (hne : D ≠ E)
    (h : ∀ W', Below B W W' → (∀ (k : Nat) (o : Obj), W.heap[k]? = some o → o.isCells = true → W'.heap[k]? = some o) → (results fn a.tmps).run P W' = .ok v W' ∧ R (.returned v) W') : bodyPostM F n P fn R .ret a W := by
  show LeavesInM F n P fn a.tmps R a.defers .returning W
  rw [hd]
  exact leaves_many B [D, E] W (by intro x hx; simp at hx; rcases hx with rfl | rfl <;> exact ⟨by assumption, by assumption⟩) (by simp [hne]) h

variable {P : Program}

/-- A labelled body, through which the run goes without a goto, at the wide fence. -/
theorem wpIn_scope_wide {n : Nat} {c : Code} {Q : Exit → Act → World → Prop} {a : Act} {w : World} (h : c.wpIn Fence.wide n P (Exit.noGoto Q) a w) : (Code.scope c).wpIn Fence.wide n P Q a w :=
  (wpIn_wide (n := n)).2 (wp_scope_straight ((wpIn_wide (n := n)).1 h))

theorem wpIn_range_xs {α : Type} {g : Operand} {ps : Array Tmp} {assign body : Code} {Q : Exit → Act → World → Prop} {a : Act} {w : World}
    (gf : Nat) (lb : Array Value) (hg : a.eval g = .func (.func gf) #[] lb) (eg : ∀ args w, (callFunc gf args).run P w = .ok (.enter gf args) w)
    {encs : α → Array Value} {xs : List α} (S : Nat → Prop) {w0 : World} (hseq : SeqXs P gf lb encs xs (Kb S) w0)
    (hn : ∀ k, S k → k < w.heap.size) (hb0 : Below w0.heap.size w0 w) (hps : ∀ x, (encs x).size = ps.size)
    (I : Nat → World → Prop) (Ix : Code → Nat → World → Prop) (hI : OwnFrom w.heap.size I) (hIx : ∀ c, OwnFrom w.heap.size (Ix c)) (h0 : I 0 w) (a₁ : α → Act)
    (hassign : ∀ (l : Nat) (x : α) (W : World) (K : Act → World → Prop), K (a₁ x) W →
      assign.wpIn (Fence.wide.inRound l) 1 P (Exit.then K (fun _ _ _ => False)) { tmps := (ps.zip (encs x)).foldl (fun t (p, v) => t.setIfInBounds p v) a.tmps, defers := [] } W)
    (hbody : ∀ (l k : Nat) (x : α) (W : World), xs[k]? = some x → I k W → w.heap.size ≤ W.heap.size → body.wpIn (Fence.wide.inRound l) 1 P (xsPost w.heap.size (Kb S) I Ix (k + 1) W) (a₁ x) W)
    (hdone : ∀ (D : Nat) (W : World), w.heap.size ≤ D → I xs.length W → W.heap[D]? = some (.deferred (some [])) → Q .normal { a with defers := { target := .collected D, args := #[] } :: a.defers } W)
    (hstop : ∀ (D : Nat) (c : Code) (k : Nat) (W : World), w.heap.size ≤ D → k < xs.length → Ix c (k + 1) W → W.heap[D]? = some (.deferred (some [])) → c.wpIn Fence.wide 3 P Q { a with defers := { target := .collected D, args := #[] } :: a.defers } W) :
    (Code.rangeFunc g ps assign body).wpIn Fence.wide 3 P Q a w := by
  refine wpIn_rangeFunc ?_
  intro fn hfn
  show ∃ l mark w₁ d w₁' f args w₂, (Instr.enterLoop fn a.tmps ps assign body none).run P w = .ok (l, mark) w₁ ∧ _
  obtain ⟨rec, hrec⟩ : ∃ rec : LoopState → Option Code → Loop, rec = fun st pe => { state := st, pending := pe, fn, tmps := a.tmps, params := ps, assign, body, defers := w.heap.size } := ⟨_, rfl⟩
  obtain ⟨W1, hW1⟩ : ∃ W1, (w.alloc (.deferred (some []))).alloc (.loop (rec .ready none)) = W1 := ⟨_, rfl⟩
  have hL1 : W1.heap[w.heap.size + 1]? = some (.loop (rec .ready none)) := by
    rw [← hW1]; have := World.alloc_heap_new (w.alloc (.deferred (some []))) (.loop (rec .ready none)); rwa [World.size_alloc] at this
  have hK1 : W1.heap[w.heap.size]? = some (.deferred (some [])) := by
    rw [← hW1]; exact (Below.heap_alloc _ _ _ (by simp)).trans (World.alloc_heap_new w _)
  have hI1 : I 0 W1 := by rw [← hW1]; exact hI.alloc _ (hI.alloc _ h0)
  have hsz : w.heap.size ≤ W1.heap.size := by rw [← hW1]; simp; omega
  have hb1 : Below w0.heap.size w0 W1 := by
    rw [← hW1]; exact hb0.trans ((((Below.refl _ w).alloc (Nat.le_refl _) _).alloc (by simp) _).mono hb0.size)
  refine ⟨w.heap.size + 1, [{ target := .collected w.heap.size, args := #[] }], W1, { target := .fn (.func gf) lb, args := #[.func (.yield (w.heap.size + 1)) #[] #[]] }, W1, gf,
    #[.func (.yield (w.heap.size + 1)) #[] #[]] ++ lb, W1, ?_, ?_, fun _ _ => trivial, ?_, fun h => by simp [Fence.wide] at h, ?_⟩
  · rw [← hW1, hrec]; exact run_enterLoop_outer _ _ _ _ _
  · simp only [resolve, hg]
    simp [go_sem]
  · simp [invoke, go_sem, eg]
  have hnw : ∀ {A B : World} {row : Option Nat}, (∀ r, row = some r → W1.heap.size ≤ r ∧ ∃ o : Obj, A.heap[r]? = some o ∧ o.isWalk = true) → (∀ r, row = some r → w.heap.size ≤ r ∧ ∃ o : Obj, A.heap[r]? = some o ∧ o.isCells = false) :=
    fun hr r e => by obtain ⟨hB, o, ho, hw⟩ := hr r e; exact ⟨by omega, o, ho, Obj.not_cells_of_walk hw⟩
  refine (hseq (w.heap.size + 1)
    (fun k W => I k W ∧ w.heap.size ≤ W.heap.size ∧ W.heap[w.heap.size + 1]? = some (.loop (rec .ready none)) ∧ W.heap[w.heap.size]? = some (.deferred (some [])))
    (fun k W => ∃ c, Ix c k W ∧ W.heap[w.heap.size + 1]? = some (.loop (rec .done (some c))) ∧ W.heap[w.heap.size]? = some (.deferred (some [])))
    W1 hb1
    (fun s A B row hs hg' hr => ⟨hI s A B row hs.1 hg' (hnw (B := B) hr), Nat.le_trans hs.2.1 hg'.size, (grownBy_keeps hg' (fun r e => (hr r e).2) hs.2.2.1 rfl).trans hs.2.2.1, (grownBy_keeps hg' (fun r e => (hr r e).2) hs.2.2.2 rfl).trans hs.2.2.2⟩)
    (fun s A B row hs hg' hr => by
      obtain ⟨c, hc, hl, hk⟩ := hs
      exact ⟨c, hIx c s A B row hc hg' (hnw (B := B) hr), (grownBy_keeps hg' (fun r e => (hr r e).2) hl rfl).trans hl, (grownBy_keeps hg' (fun r e => (hr r e).2) hk rfl).trans hk⟩)
    ?_ ⟨hI1, hsz, hL1, hK1⟩).mono ?_
  · rintro k x W hx ⟨hi, hs, hl, hk⟩
    have hlt : w.heap.size + 1 < W.heap.size := (Array.getElem?_eq_some_iff.1 hl).1
    have hy := run_yield (P := P) (args := encs x) hl (by rw [hrec]; exact hps x)
    rw [hrec] at hy
    refine ⟨fn, _, assign, body, hy, roundIn_of_wpIn hfn (hassign _ x W _ ⟨_, run_beginRound hl (by rw [hrec]), ?_⟩)⟩
    have hl2 : (W.putObj (w.heap.size + 1) (.loop { rec .ready none with state := .busy })).heap[w.heap.size + 1]? = some (.loop { rec .ready none with state := .busy }) := World.putObj_heap_same hlt
    have hk2 : (W.putObj (w.heap.size + 1) (.loop { rec .ready none with state := .busy })).heap[w.heap.size]? = some (.deferred (some [])) := (World.putObj_heap_other (by omega)).trans hk
    have hw2 : Kb S W (W.putObj (w.heap.size + 1) (.loop { rec .ready none with state := .busy })) := (Kb.refl S W).putObj (fun h => by have := hn _ h; omega) _
    have hbod := hbody (w.heap.size + 1) k x _ hx (hI.putObj (.loop { rec .ready none with state := .busy }) hi (by omega) hl rfl) (by rw [World.putObj_size]; exact hs)
    refine wpIn_mono hbod ?_
    have fin : ∀ (jump : Option Code) (W3 : World), KeepsFrom w.heap.size (W.putObj (w.heap.size + 1) (.loop { rec .ready none with state := .busy })) W3 →
        (Instr.endRound (w.heap.size + 1) jump).run P W3 = .ok (.bool jump.isNone) (W3.putObj (w.heap.size + 1) (.loop (rec (if jump.isNone then .ready else .done) jump))) ∧
        W3.heap[w.heap.size + 1]? = some (.loop { rec .ready none with state := .busy }) ∧
        (W3.putObj (w.heap.size + 1) (.loop (rec (if jump.isNone then .ready else .done) jump))).heap[w.heap.size + 1]? = some (.loop (rec (if jump.isNone then .ready else .done) jump)) ∧
        (W3.putObj (w.heap.size + 1) (.loop (rec (if jump.isNone then .ready else .done) jump))).heap[w.heap.size]? = some (.deferred (some [])) := fun jump W3 hk3 => by
      have hl3 := hk3.same _ _ (by omega) hl2 rfl
      have hr := run_endRound (P := P) jump hl3
      rw [hrec] at hr ⊢
      exact ⟨hr, by rw [hrec] at hl3; exact hl3, World.putObj_heap_same (Array.getElem?_eq_some_iff.1 hl3).1, (World.putObj_heap_other (by omega)).trans (hk3.same _ _ (Nat.le_refl _) hk2 rfl)⟩
    rintro e a3 W3 hp
    cases e with
    | normal =>
      obtain ⟨hk3, hkp3, hi3⟩ := hp
      obtain ⟨hr, hl3, hl4, hk4⟩ := fin none W3 hk3
      exact ⟨_, _, hr, .inl ⟨rfl, ⟨hI.putObj _ hi3 (by omega) hl3 rfl, by rw [World.putObj_size]; have := hk3.size; rw [World.putObj_size] at this; omega, hl4, hk4⟩, hw2.trans (hkp3.putObj (fun h => by have := hn _ h; omega) _)⟩⟩
    | ret =>
      obtain ⟨hk3, hi3⟩ := hp
      obtain ⟨hr, hl3, hl4, hk4⟩ := fin (some .ret) W3 hk3
      exact ⟨_, _, hr, .inr ⟨rfl, .ret, (hIx _).putObj _ hi3 (by omega) hl3 rfl, hl4, hk4⟩⟩
    | exit id =>
      obtain ⟨hk3, hi3⟩ := hp
      obtain ⟨hr, hl3, hl4, hk4⟩ := fin (some (.exit id)) W3 hk3
      exact ⟨_, _, hr, .inr ⟨rfl, .exit id, (hIx _).putObj _ hi3 (by omega) hl3 rfl, hl4, hk4⟩⟩
    | goto t =>
      obtain ⟨hk3, hi3⟩ := hp
      obtain ⟨hr, hl3, hl4, hk4⟩ := fin (some (.goto t)) W3 hk3
      exact ⟨_, _, hr, .inr ⟨rfl, .goto t, (hIx _).putObj _ hi3 (by omega) hl3 rfl, hl4, hk4⟩⟩
    | panic ch => exact hp.elim
    | outgrown => exact hp.elim
  · rintro e W2 ⟨⟨v, rfl⟩, (⟨hi, hs, hl, hk⟩ | ⟨k, hlt, c, hi, hl, hk⟩)⟩
    · exact ⟨none, _, by have := run_endLoop (P := P) hl (by rw [hrec]; simp); rw [hrec] at this; exact this, hdone _ _ (Nat.le_refl _) (hI.putObj _ hi (by omega) hl rfl) ((World.putObj_heap_other (by omega)).trans hk)⟩
    · exact ⟨some c, _, by have := run_endLoop (P := P) hl (by rw [hrec]; simp); rw [hrec] at this; exact this, hstop _ c k _ (Nat.le_refl _) hlt ((hIx c).putObj _ hi (by omega) hl rfl) ((World.putObj_heap_other (by omega)).trans hk)⟩
end Go.Proofs.YtcahkcbenanfnaaDoor
