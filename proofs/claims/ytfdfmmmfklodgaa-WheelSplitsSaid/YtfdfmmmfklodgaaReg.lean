
/- A region that draws its order, from a point of it on: the rest is quiet and walked once, in the text's order. -/
import Derived.Test.YtfdfmmmfklodgaaTail
namespace Go.Proofs.Ytfdfmmmfklodgaa
set_option linter.unusedSimpArgs false
set_option linter.unusedVariables false
open Go.RowKit
variable {P : Program} {ops : Array Oper} {md : Region.Mode}
/-- What is left of a region behind its n-th operation is quiet in the class C. -/
theorem wp_rest_quiet {Q : Exit → Act → World → Prop} {a : Act} {w : World} {fuel : Nat} {listed : Array Bool} (C : World → Prop) (n : Nat) (l : List Oper) (hl : ops.toList.drop n = l) (hf : l.length = fuel) (hs : Region.noSelect ops = true)
    (hB : Region.lexFrom md ops l.length n listed = true) (hC : C w) (h : wpQuiet P ops C (fun a' => ∀ w', C w' → Q .normal a' w') l a) : wpAny P md ops Q fuel listed a w := by
  subst hf
  refine wpAny_of_quiet (Q := fun a' => ∀ w', C w' → Q .normal a' w') (fun _ w' hw' h => h w' hw') _ _ _ _ hC ?_
  refine wpAnyQ_lex hs l n listed a (fun j => ?_) hB h
  rw [← hl, List.getElem?_drop]
  simp
theorem Kx.out {ws ws' : List Nat} {A W W' : World} (h : Kx ws A W) (k : Kx ws' W W') (hs : ∀ x, x ∈ ws' → x ∈ ws ∨ A.heap.size ≤ x) : Kx ws A W' :=
  ⟨k.os.trans h.os, k.tape.trans h.tape, k.output.trans h.output, Nat.le_trans h.size k.size, fun i hi hw => (k.block i (Nat.lt_of_lt_of_le hi h.size) (fun hm => by
    rcases hs i hm with h1 | h1
    · exact hw h1
    · omega)).trans (h.block i hi hw)⟩
end Go.Proofs.Ytfdfmmmfklodgaa
