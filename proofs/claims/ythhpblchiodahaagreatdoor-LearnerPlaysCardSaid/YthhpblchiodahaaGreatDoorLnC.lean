
/- Package learner, plainly: what is heard, what is told. -/
import Derived.Test.YthhpblchiodahaaGreatDoorLnA
import Derived.Test.YthhpblchiodahaaGreatDoorAcC
namespace Go.Proofs.YthhpblchiodahaaGreatDoor
set_option linter.unusedSimpArgs false
set_option linter.unusedVariables false
open Go.RowKit
def eqE (A : Lrn) (k m n : Int) (s : ByteArray) : Bool := eq4 A.k A.m A.n A.s k m n s
/-- What was heard by a ballot; the zero, where nothing was. -/
def zeroH : Hd := ⟨0, 0, 0, ⟨#[]⟩, List.replicate 9 false⟩
def atH (L : HMap) (r p : Int) : Hd := (getG L (r, p)).getD zeroH
def hasH (L : HMap) (r p : Int) : Bool := (getG L (r, p)).isSome
def hearB (A : Lrn) (pl r p k m n : Int) (s : ByteArray) : Bool := decide (0 ≤ pl) && (decide (pl < A.c) && (mayB A.c A.sl r p && entB k m n s))
def newH (L : HMap) (pl r p k m n : Int) (s : ByteArray) : Hd := ⟨k, m, n, s, (atH L r p).vs.set pl.toNat true⟩
def clashH (L : HMap) (r p k m n : Int) (s : ByteArray) : Bool := hasH L r p && !(eq4 (atH L r p).k (atH L r p).m (atH L r p).n (atH L r p).s k m n s)
def heE (A : Lrn) (L : HMap) (pl r p k m n : Int) (s : ByteArray) : Int :=
  if hearB A pl r p k m n s = false then 2 else if clashH L r p k m n s = true then 260 else
  if (wonP A.c (newH L pl r p k m n s).vs && (A.is && !(eqE A k m n s))) = true then 260 else 0
def heW (A : Lrn) (L : HMap) (pl r p k m n : Int) (s : ByteArray) : Bool := decide (heE A L pl r p k m n s = 0) && wonP A.c (newH L pl r p k m n s).vs
def heV (A : Lrn) (L : HMap) (pl r p k m n : Int) (s : ByteArray) : Bool := heW A L pl r p k m n s && !A.is
def heL (A : Lrn) (L : HMap) (pl r p k m n : Int) (s : ByteArray) : HMap := if heE A L pl r p k m n s = 0 then putG L (r, p) (newH L pl r p k m n s) else L
def knowA (A : Lrn) (k m n : Int) (s : ByteArray) : Lrn := if A.is then A else { A with k := k, m := m, n := n, s := s, is := true }
def heA (A : Lrn) (L : HMap) (pl r p k m n : Int) (s : ByteArray) : Lrn := if heW A L pl r p k m n s then knowA A k m n s else A
def knE (A : Lrn) (k m n : Int) (s : ByteArray) : Int := if (A.is && !(eqE A k m n s)) = true then 260 else 0
def knV (A : Lrn) : Bool := !A.is
def teE (A : Lrn) (k m n : Int) (s : ByteArray) : Int := if entB k m n s = false then 2 else knE A k m n s
def teV (A : Lrn) (k m n : Int) (s : ByteArray) : Bool := decide (teE A k m n s = 0) && !A.is
def teA (A : Lrn) (k m n : Int) (s : ByteArray) : Lrn := if teE A k m n s = 0 then knowA A k m n s else A
structure GoodL (A : Lrn) (L : HMap) : Prop where
  c : opErr A.c A.sl = 0
  vs : ∀ x, x ∈ L → x.2.vs.length = 9
theorem GoodL.at {A : Lrn} {L : HMap} (h : GoodL A L) (r p : Int) : (atH L r p).vs.length = 9 := by
  unfold atH
  cases hg : getG L (r, p) with
  | none => rfl
  | some y => exact h.vs _ (mem_getG hg)
theorem GoodL.hear {A : Lrn} {L : HMap} (h : GoodL A L) (pl r p k m n : Int) (s : ByteArray) : GoodL (heA A L pl r p k m n s) (heL A L pl r p k m n s) := by
  constructor
  · unfold heA knowA
    split
    · split <;> exact h.c
    · exact h.c
  · unfold heL
    split
    · intro x hx
      rcases List.mem_cons.1 hx with rfl | hx
      · simp [newH, h.at]
      · exact h.vs x (List.mem_filter.1 hx).1
    · exact h.vs
theorem GoodL.told {A : Lrn} {L : HMap} (h : GoodL A L) (k m n : Int) (s : ByteArray) : GoodL (teA A k m n s) L := by
  refine ⟨?_, h.vs⟩
  unfold teA knowA
  split
  · split <;> exact h.c
  · exact h.c
theorem GoodL.ne {A : Lrn} {L : HMap} (h : GoodL A L) : A.c ≠ 0 := by
  intro e
  have h1 := h.c
  rw [e] at h1
  simp [opErr, errI, rightB] at h1
theorem heL_len (A : Lrn) (L : HMap) (pl r p k m n : Int) (s : ByteArray) : (heL A L pl r p k m n s).length ≤ L.length + 1 := by
  unfold heL
  split
  · unfold putG delG
    rw [List.length_cons]
    have := List.length_filter_le (fun q : (Int × Int) × Hd => decide (q.1 ≠ (r, p))) L
    omega
  · omega
/-- What is chosen stays. -/
def stays (A A' : Lrn) (V : Bool) : Prop := (A.is = true → A' = A) ∧ V = (A'.is && !A.is)
theorem know_stays (A : Lrn) (k m n : Int) (s : ByteArray) : stays A (knowA A k m n s) (!A.is) := by
  unfold stays knowA
  cases h : A.is <;> simp
theorem hear_stays (A : Lrn) (L : HMap) (pl r p k m n : Int) (s : ByteArray) : stays A (heA A L pl r p k m n s) (heV A L pl r p k m n s) := by
  have h := know_stays A k m n s
  unfold heA heV
  cases hw : heW A L pl r p k m n s
  · simp [stays]
  · simpa using h
theorem told_stays (A : Lrn) (k m n : Int) (s : ByteArray) : stays A (teA A k m n s) (teV A k m n s) := by
  have h := know_stays A k m n s
  unfold teA teV
  by_cases hw : teE A k m n s = 0
  · simpa [hw] using h
  · simp [hw, stays]
end Go.Proofs.YthhpblchiodahaaGreatDoor
