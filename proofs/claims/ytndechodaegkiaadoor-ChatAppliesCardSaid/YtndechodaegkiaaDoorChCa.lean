
/- Package chat: which lines, lists, standings, talks are the same. -/
import Derived.Test.YtndechodaegkiaaDoorChT
import Derived.Test.YtndechodaegkiaaDoorMem
import Derived.ChangeKeysEq
namespace Go.Proofs.YtndechodaegkiaaDoor
open Go.RowKit
theorem ba_inj {s t : ByteArray} (h : s.toList = t.toList) : s = t := by
  obtain ⟨⟨l⟩⟩ := s
  obtain ⟨⟨m⟩⟩ := t
  have h1 : (⟨⟨l⟩⟩ : ByteArray).toList = l := by simp
  have h2 : (⟨⟨m⟩⟩ : ByteArray).toList = m := by simp
  rw [h1, h2] at h
  subst h
  rfl
def lnB (x y : Ln) : Bool := decide (x.i = y.i ∧ x.sl = y.sl ∧ x.e.k = y.e.k ∧ x.e.m = y.e.m ∧ x.e.n = y.e.n ∧ x.e.s.toList = y.e.s.toList)
theorem lnB_eq {x y : Ln} : lnB x y = true ↔ x = y := by
  unfold lnB
  rw [decide_eq_true_eq]
  constructor
  · rintro ⟨h1, h2, h3, h4, h5, h6⟩
    obtain ⟨i, sl, ⟨k, m, n, s⟩⟩ := x
    obtain ⟨i2, sl2, ⟨k2, m2, n2, s2⟩⟩ := y
    simp only at *
    obtain rfl := ba_inj h6
    subst h1 h2 h3 h4 h5
    rfl
  · rintro rfl
    exact ⟨rfl, rfl, rfl, rfl, rfl, rfl⟩
def stB (a b : St) : Bool := decide (a.inn = b.inn) && (decide (a.j = b.j) && decide (a.l = b.l))
theorem stB_eq {a b : St} : stB a b = true ↔ a = b := by
  obtain ⟨i, j, l⟩ := a
  obtain ⟨i2, j2, l2⟩ := b
  unfold stB
  simp
def lnsB : List Ln → List Ln → Bool
  | [], [] => true
  | x :: a, y :: b => lnB x y && lnsB a b
  | _, _ => false
theorem lnsB_eq : ∀ {a b : List Ln}, lnsB a b = true ↔ a = b
  | [], [] => by simp [lnsB]
  | [], _ :: _ => by simp [lnsB]
  | _ :: _, [] => by simp [lnsB]
  | x :: a, y :: b => by
    simp only [lnsB, Bool.and_eq_true, List.cons.injEq]
    rw [lnB_eq, lnsB_eq]
def stsB : List St → List St → Bool
  | [], [] => true
  | x :: a, y :: b => stB x y && stsB a b
  | _, _ => false
theorem stsB_eq : ∀ {a b : List St}, stsB a b = true ↔ a = b
  | [], [] => by simp [stsB]
  | [], _ :: _ => by simp [stsB]
  | _ :: _, [] => by simp [stsB]
  | x :: a, y :: b => by
    simp only [stsB, Bool.and_eq_true, List.cons.injEq]
    rw [stB_eq, stsB_eq]
theorem lnsB_ne {a b : List Ln} (h : a ≠ b) : lnsB a b = false := by
  cases hb : lnsB a b
  · rfl
  · exact absurd (lnsB_eq.1 hb) h
theorem lnsB_symm (a b : List Ln) : lnsB a b = lnsB b a := by
  by_cases h : a = b
  · subst h; rfl
  · rw [lnsB_ne h, lnsB_ne (fun e => h e.symm)]
/-- Two talks of the document. -/
def sameT (A B : Tk) : Bool := decide (A.sl = B.sl) && lnsB A.L B.L
/-- Two talks of the program. -/
def sameP (A B : Tk) : Bool := decide (A.sl = B.sl) && (stsB A.M B.M && lnsB A.L B.L)
theorem good_mem {A B : Tk} (hA : Good A) (hB : Good B) (h : A.L = B.L) : A.M = B.M := by
  apply List.ext_getElem (by rw [hA.len, hB.len])
  intro m h1 h2
  have hm : m < 16 := by rw [hA.len] at h1; exact h1
  have e1 := hA.say m hm
  have e2 := hB.say m hm
  rw [h, ← e2] at e1
  rw [List.getD_eq_getElem?_getD, List.getD_eq_getElem?_getD, List.getElem?_eq_getElem h1, List.getElem?_eq_getElem h2] at e1
  exact e1
theorem same_P {A B : Tk} (hA : Good A) (hB : Good B) : sameP A B = sameT A B := by
  unfold sameP sameT
  cases hl : lnsB A.L B.L
  · simp
  · rw [stsB_eq.2 (good_mem hA hB (lnsB_eq.1 hl))]
    simp
theorem sameT_symm (A B : Tk) : sameT A B = sameT B A := by
  unfold sameT
  rw [lnsB_symm]
  congr 1
  exact decide_eq_decide.2 ⟨fun h => h.symm, fun h => h.symm⟩
theorem sameT_self (A : Tk) : sameT A A = true := by
  unfold sameT
  rw [lnsB_eq.2 rfl]
  simp
end Go.Proofs.YtndechodaegkiaaDoor
