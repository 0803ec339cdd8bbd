
/- Package acceptor, plain law: what is promised never gets less, what is accepted neither. -/
import Derived.Test.YtcokbljlgbcpkaaDoorAdK
namespace Go.Proofs.YtcokbljlgbcpkaaDoor
open Go.RowKit
theorem less_irr (x y : Int) : lessB x y x y = false := by unfold lessB; simp
theorem less_trans {x y r p s q : Int} (h : lessB x y r p = false) (k : lessB r p s q = false) : lessB x y s q = false := by
  unfold lessB at *
  simp only [Bool.or_eq_false_iff, Bool.and_eq_false_iff, decide_eq_false_iff_not, beq_eq_false_iff_ne, ne_eq] at *
  omega
theorem less_asym {x y r p : Int} (h : lessB r p x y = true) : lessB x y r p = false := by
  unfold lessB at *
  simp only [Bool.or_eq_false_iff, Bool.and_eq_false_iff, decide_eq_false_iff_not, beq_eq_false_iff_ne, ne_eq, Bool.or_eq_true, Bool.and_eq_true, decide_eq_true_eq, beq_iff_eq] at *
  omega
structure RiseF (A A2 : Acc) (x y : Int) (ok : Bool) : Prop where
  f1 : lessB A2.r A2.p A.r A.p = false
  f2 : accH A = true → accH A2 = true ∧ lessB A2.ar A2.ap A.ar A.ap = false
  f3 : accH A2 = true → lessB A2.r A2.p A2.ar A2.ap = false
  f4 : ok = true → lessB x y A.r A.p = false
  f5 : ok = false → A2 = A
structure InvA (A : Acc) : Prop where
  c : A.c ≠ 0
  good : GoodA A
  le : accH A = true → lessB A.r A.p A.ar A.ap = false
theorem RiseF.same {A : Acc} (h : InvA A) (x y : Int) : RiseF A A x y false :=
  ⟨less_irr _ _, fun k => ⟨k, less_irr _ _⟩, h.le, (fun k => by cases k), fun _ => rfl⟩
theorem may_ge {c s r p : Int} (h : mayB c s r p = true) : 0 ≤ r := by
  unfold mayB at h
  simp only [Bool.and_eq_true] at h
  exact (chk_bd h.2.1).2.2.1
theorem rise_pro {A : Acc} (h : InvA A) (x y : Int) : RiseF A (proA A x y) x y (proB A x y) ∧ InvA (proA A x y) := by
  cases hB : proB A x y
  · rw [show proA A x y = A by unfold proA; rw [hB]; rfl]
    exact ⟨RiseF.same h x y, h⟩
  · rw [show proA A x y = { A with r := x, p := y } by unfold proA; rw [hB]; rfl]
    unfold proB at hB
    simp only [Bool.and_eq_true] at hB
    have h1 : lessB A.r A.p x y = true := by rw [less_gt]; exact hB.2
    have h2 := less_asym h1
    exact ⟨⟨h2, fun k => ⟨k, less_irr _ _⟩, fun k => less_trans h2 (h.le k), fun _ => h2, (fun k => by cases k)⟩, h.c, h.good, fun k => less_trans h2 (h.le k)⟩
theorem rise_acc {A : Acc} (h : InvA A) (x y k m n : Int) (s : ByteArray) : RiseF A (accA A x y k m n s) x y (accB A x y k m n s) ∧ InvA (accA A x y k m n s) := by
  cases hB : accB A x y k m n s
  · rw [show accA A x y k m n s = A by unfold accA; rw [hB]; rfl]
    exact ⟨RiseF.same h x y, h⟩
  · rw [show accA A x y k m n s = ⟨x, y, x, y, k, m, n, s, A.c, A.sl⟩ by unfold accA; rw [hB]; rfl]
    unfold accB at hB
    simp only [Bool.and_eq_true] at hB
    have h2 : lessB x y A.r A.p = false := by rw [less_ge, hB.2]; rfl
    have h0 := may_ge hB.1.1
    have hH : (x == -1) = false := by simp; omega
    refine ⟨⟨h2, fun k => ⟨by unfold accH; simp [hH], less_trans h2 (h.le k)⟩, fun _ => less_irr _ _, fun _ => h2, (fun k => by cases k)⟩, h.c, fun k => ?_, fun _ => less_irr _ _⟩
    exfalso
    simp only at k
    omega
theorem inv_first {c sl : Int} (h : opErr c sl = 0) : InvA (first14 c sl) := by
  have h1 := own_mod h
  refine ⟨by simp only [first14]; omega, fun _ => ⟨rfl, rfl, rfl, rfl, rfl⟩, fun k => ?_⟩
  unfold accH first14 at k
  simp at k
theorem accX_at (A : Acc) : ∃ a1 a2 a3 a4 a5 s, accX A = .agg #[.int .i64 a1, .int .i64 a2, .int .i64 a3, .int .i64 a4, .int .i64 a5, .string s] ∧ (accH A = true → a1 = A.ar ∧ a2 = A.ap) := by
  unfold accX accH acV
  split
  · rename_i h
    exact ⟨_, _, _, _, _, _, rfl, fun k => by simp [h] at k⟩
  · exact ⟨_, _, _, _, _, _, rfl, fun _ => ⟨rfl, rfl⟩⟩
theorem kxcN {ws : List Nat} {W0 : World} {b q : Nat} {v : Value} (h : W0.cell? ⟨b, q, none⟩ = some v) (hw : b ∉ ws) : ∀ W, Kx ws W0 W → W.cell? ⟨b, q, none⟩ = some v := fun _ hK => kx_cell hK h hw
theorem proX_formN (A : Acc) (x y : Int) : ∃ a b c d e s, proX A x y = .agg #[.int .i64 a, .int .i64 b, .int .i64 c, .int .i64 d, .int .i64 e, .string s] := by
  unfold proX acV
  split <;> exact ⟨_, _, _, _, _, _, rfl⟩
end Go.Proofs.YtcokbljlgbcpkaaDoor
