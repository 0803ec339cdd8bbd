
/- A region that draws its order, of operations that only read, walked once in the text's order, inside any fence (in a round of a range over a function too). -/
import Derived.Test.YtkpgdchhdhkpdaaIter
import Derived.OrdersIn
import Derived.BigQuiet
namespace Go.Proofs.Ytkpgdchhdhkpdaa
open Go.RowKit
section
variable {F : Fence} {n : Nat} {P : Program} {ops : Array Oper} {md : Region.Mode} {C : World → Prop}
def plainB (o : Oper) : Bool := match o.op with
  | .move _ | .load _ _ | .binOp _ _ _ _ _ | .indexAddr _ _ _ | .fieldAddr _ _ _ => true
  | _ => false
theorem plain_run {o : Oper} (h : plainB o = true) (ρ : Operand → Value) : ∃ s : Sem Value, execOp ρ o = (do pure (Next.value (← s))) := by
  unfold plainB at h
  split at h
  · rename_i x e; exact ⟨pure (ρ x), by simp [execOp, e]⟩
  · rename_i t a e; exact ⟨_, by simp only [execOp, e]; rfl⟩
  · rename_i op t x y u e; exact ⟨_, by simp only [execOp, e]; rfl⟩
  · rename_i t x i e; exact ⟨_, by simp only [execOp, e]; rfl⟩
  · rename_i t x i e; exact ⟨_, by simp only [execOp, e]; rfl⟩
  · cases h
theorem plain_about {o : Oper} (h : plainB o = true) (w : World) (ρ : Operand → Value) : o.about P w ρ = none := by
  unfold plainB at h
  unfold Oper.about
  split at h <;> first | (rename_i e; rw [e]) | cases h
theorem plain_defer {o : Oper} (h : plainB o = true) (c : Call) : o.op ≠ .defer c := by
  intro e
  unfold plainB at h
  rw [e] at h
  cases h
theorem wpIn_of_quiet {o : Oper} {a : Act} {K : Act → Prop} {K' : Act → World → Prop} {Q : Exit → Act → World → Prop} {w : World} (hp : plainB o = true) (hw : C w) (h : ∀ a w', C w' → K a → K' a w') (hh : o.quiet P a C K) : o.wpIn F n P a w K' Q := by
  obtain ⟨v, h1, h2⟩ := hh
  have h3 := h1 w hw
  refine ⟨fun f e => (by rw [plain_about hp] at e; cases e), ?_⟩
  rw [Oper.semAt_eq _ _ _ (plain_defer hp)]
  obtain ⟨s, hs⟩ := plain_run hp a.eval
  unfold Oper.quietAt at h3
  rw [hs] at h3 ⊢
  simp only [Sem.run_bind] at h3 ⊢
  cases hr : s.run P w with
  | ok u w' =>
    simp only [hr, Result.andThen_ok, Sem.run_pure, Oper.quietUpon, Oper.uponIn] at h3 ⊢
    exact h _ _ (h3.1 ▸ hw) (h3.2 ▸ h2)
  | halt x w' =>
    simp only [hr, Result.andThen, Oper.quietUpon] at h3
theorem wpAnyIn_of_quiet {K : Act → Prop} {Q : Exit → Act → World → Prop} (hp : ∀ (i : Nat) (o : Oper), ops[i]? = some o → plainB o = true) (hQ : ∀ a w, C w → K a → Q .normal a w) : ∀ (f : Nat) (s : Array Bool) (a : Act) (w : World), C w → wpAnyQ P md ops C K f s a → wpAnyIn F n P md ops Q f s a w
  | 0, s, a, w, hw, h => ⟨h.1, hQ _ _ hw h.2⟩
  | f + 1, s, a, w, hw, h => by
    refine ⟨fun e => hQ _ _ hw (h.1 e), fun i hi => ?_⟩
    have h1 := h.2 i hi
    unfold qOp at h1
    unfold wpOpIn
    cases ho : ops[i]? with
    | none =>
      simp only [ho] at h1 ⊢
      exact wpAnyIn_of_quiet hp hQ f _ _ _ hw h1
    | some o =>
      simp only [ho] at h1 ⊢
      split
      · rename_i hwant
        rw [if_pos hwant] at h1
        exact wpIn_of_quiet (hp i o ho) hw (fun a' w' hw' h' => wpAnyIn_of_quiet hp hQ f _ _ _ hw' h') h1
      · rename_i hwant
        rw [if_neg hwant] at h1
        exact ⟨fun g e => (by rw [plain_about (hp i o ho)] at e; cases e), wpAnyIn_of_quiet hp hQ f _ _ _ hw h1⟩
/-- W' is W with new blocks. -/
def ExtR (W W' : World) : Prop := Below W.heap.size W W'
theorem wpIn_region_reads {id : Nat} {Q : Exit → Act → World → Prop} {a : Act} {w : World} {l : List Oper} (hm : P.follows .mixedOrders = true) (hB : Region.lexB .any l.toArray = true) (hp : l.all plainB = true)
    (h : wpQuiet P l.toArray (ExtR w) (fun a' => ∀ w', ExtR w w' → Q .normal a' w') l a) : (Code.region id l.toArray true).wpIn F n P Q a w := by
  refine wpIn_region_any hm ?_
  simp only [Region.lexB, Bool.and_eq_true] at hB
  have h1 := wpAnyQ_lex (C := ExtR w) (md := .any) hB.1 l 0 (Array.replicate l.toArray.size false) a (by simp) (by simpa using hB.2) h
  refine wpAnyIn_of_quiet (C := ExtR w) (K := fun a' => ∀ w', ExtR w w' → Q .normal a' w') (fun i o ho => List.all_eq_true.1 hp o ?_) (fun _ w' hw' h => h w' hw') _ _ _ _ ⟨rfl, rfl, rfl, Nat.le_refl _, fun _ _ => rfl⟩ (by simpa using h1)
  exact List.mem_of_getElem? (by simpa using ho)
end
end Go.Proofs.Ytkpgdchhdhkpdaa
