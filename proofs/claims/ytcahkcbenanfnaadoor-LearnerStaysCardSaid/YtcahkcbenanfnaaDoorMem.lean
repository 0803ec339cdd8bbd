
/- Blocks, kept and stored whole. -/
import Derived.Test.YtcahkcbenanfnaaDoorAcO
import Derived.ScopeJumps
import Derived.WalkMore
namespace Go.Proofs.YtcahkcbenanfnaaDoor
set_option linter.unusedSimpArgs false
set_option linter.unusedVariables false
open Go.RowKit
/-- Cells stored one behind the other. -/
def putsW (W : World) (b : Nat) : Nat → List Value → World
  | _, [] => W
  | o, v :: r => putsW (W.setCell ⟨b, o, none⟩ v) b (o + 1) r
theorem Blk.setCells' {b : Nat} {t : TypeId} : ∀ (vs : List Value) (o : Nat) (W : World) (cs : List Value), Blk W b t cs → o + vs.length ≤ cs.length → Blk (putsW W b o vs) b t (cs.take o ++ vs ++ cs.drop (o + vs.length))
  | [], o, W, cs, h, _ => by simpa [putsW] using h
  | v :: r, o, W, cs, h, hl => by
    simp only [List.length_cons] at hl
    have h2 := Blk.setCells' r (o + 1) _ _ (h.set o v) (by rw [List.length_set]; omega)
    have e : (cs.set o v).take (o + 1) ++ r ++ (cs.set o v).drop (o + 1 + r.length) = cs.take o ++ (v :: r) ++ cs.drop (o + (v :: r).length) := by
      have ho : o < cs.length := by omega
      rw [List.take_set, List.drop_set_of_lt (by omega)]
      rw [List.take_add_one]
      simp only [List.getElem?_eq_getElem ho, Option.toList_some, List.length_cons]
      rw [List.set_append_right _ _ (by rw [List.length_take]; omega)]
      simp [List.length_take, Nat.min_eq_left (by omega : o ≤ cs.length), show o + 1 + r.length = o + (r.length + 1) by omega]
    rw [← e]
    exact h2
/-- A block whose cells are all stored. -/
theorem Blk.puts {b : Nat} {t : TypeId} {W : World} {cs : List Value} (vs : List Value) (h : Blk W b t cs) (hl : vs.length = cs.length) : Blk (putsW W b 0 vs) b t vs := by
  have h2 := Blk.setCells' vs 0 W cs h (by omega)
  rw [List.take_zero, List.nil_append, Nat.zero_add, hl, List.drop_length, List.append_nil] at h2
  exact h2
theorem Kx.setCells {ws : List Nat} {A : World} {b : Nat} : ∀ (vs : List Value) (o : Nat) (W : World), Kx ws A W → (b ∈ ws ∨ A.heap.size ≤ b) → Kx ws A (putsW W b o vs)
  | [], _, _, h, _ => h
  | v :: r, o, _, h, hb => Kx.setCells r (o + 1) _ (h.setCell (p := ⟨b, o, none⟩) hb v) hb
theorem kx_all {ws : List Nat} {W0 : World} {b q : Nat} {v : Value} (h : W0.cell? ⟨b, q, none⟩ = some v) (hw : b ∉ ws) : ∀ W, Kx ws W0 W → W.cell? ⟨b, q, none⟩ = some v :=
  fun _ hK => (World.cell?_of_block (a := ⟨b, q, none⟩) (hK.block b (World.block_lt_of_cell? W0 _ h) hw)).trans h
theorem Blk.kx {ws : List Nat} {A W : World} {b : Nat} {t : TypeId} {cs : List Value} (hb : Blk A b t cs) (h : Kx ws A W) (hw : b ∉ ws) : Blk W b t cs := h.blk hb hw
/-- The world goes on from w: what lay there lies there. -/
def From (w W : World) : Prop := Below w.heap.size w W
theorem From.step {w W W' : World} (h : From w W) (hb : Below W.heap.size W W') : From w W' := Below.trans h (hb.mono h.size)
theorem From.kx {w W W' : World} {ws : List Nat} (h : From w W) (hk : Kx ws W W') (hw : ∀ x, x ∈ ws → w.heap.size ≤ x) : From w W' := Below.trans h (hk.below h.size hw)
theorem From.out {w W : World} (h : From w W) : Below w.heap.size w W := h
theorem From.refl (w : World) : From w w := Below.refl _ _
theorem From.size {w W : World} (h : From w W) : w.heap.size ≤ W.heap.size := Below.size h
/-- The world goes on from w, but for what lies in the blocks ws. -/
def FromX (ws : List Nat) (w W : World) : Prop := Kx ws w W
theorem FromX.step {ws : List Nat} {w W W' : World} (h : FromX ws w W) (hb : Below W.heap.size W W') : FromX ws w W' := Kx.step h hb
theorem FromX.kx {ws us : List Nat} {w W W' : World} (h : FromX ws w W) (hk : Kx us W W') (hw : ∀ x, x ∈ us → x ∈ ws ∨ w.heap.size ≤ x) : FromX ws w W' :=
  ⟨hk.os.trans h.os, hk.tape.trans h.tape, hk.output.trans h.output, Nat.le_trans h.size hk.size, fun k hk1 hk2 => (hk.block k (Nat.lt_of_lt_of_le hk1 h.size) (fun e => by rcases hw k e with h3 | h3; exact hk2 h3; omega)).trans (h.block k hk1 hk2)⟩
theorem Kx.kx {ws us : List Nat} {w W W' : World} (h : Kx ws w W) (hk : Kx us W W') (hw : ∀ x, x ∈ us → x ∈ ws ∨ w.heap.size ≤ x) : Kx ws w W' := FromX.kx h hk hw
theorem FromX.refl (ws : List Nat) (w : World) : FromX ws w w := Kx.refl _ _
theorem FromX.out {ws : List Nat} {w W : World} (h : FromX ws w W) : Kx ws w W := h
/-- A scope whose jumps all go to one label, behind which none jumps any more. -/
theorem wp_scope_fwd {P : Program} {a : Act} {w : World} {Q : Exit → Act → World → Prop} {c rest : Code} (l : Nat) (hf : findLabel c l = some rest)
    (h : ∀ Q2 : Exit → Act → World → Prop, Hid (∀ a w, Q .ret a w → Q2 .ret a w) → Hid (∀ a w, rest.wp P (Exit.noGoto Q) a w → Q2 (.goto l) a w) → c.wp P Q2 a w) : (Code.scope c).wp P Q a w :=
  wp_scope_jumps l (fun a w => rest.wp P (Exit.noGoto Q) a w) (fun _ _ => 0) hf
    (h _ (Lib.hid fun _ _ h => h) (Lib.hid fun _ _ h => ⟨rfl, h⟩))
    (fun a w hJ => wp_mono hJ fun e _ _ hq => by
      cases e with
      | goto l => exact hq.elim
      | normal => exact hq
      | exit id => exact hq
      | ret => exact hq
      | panic ch => exact hq
      | outgrown => exact hq)
end Go.Proofs.YtcahkcbenanfnaaDoor
