
/- The document's proposer: what is kept of the best; Tell, whole. -/
import Derived.Test.YtcahkcbenanfnaaGreatDoorPsC
import Derived.Test.YtcahkcbenanfnaaGreatDoorPsD
import Derived.Test.YtcahkcbenanfnaaGreatDoorPsE
import Derived.Test.YtcahkcbenanfnaaGreatDoorPsA
namespace Go.Proofs.YtcahkcbenanfnaaGreatDoor
set_option linter.unusedSimpArgs false
set_option linter.unusedVariables false
open Go.RowKit
/-- Where no ballot was told, no entry was. -/
def InvB (A : Prp) : Prop := eq2 A.br A.bp (-1) 0 = true → noneE A.br A.bp A.bk A.bm A.bn A.bs = true
theorem may_neg (c sl y : Int) (x : Int) (h : eq2 x y (-1) 0 = true) : mayB c sl x y = false := by
  unfold eq2 at h
  simp only [decide_eq_true_eq] at h
  cases hm : mayB c sl x y
  · rfl
  · unfold mayB at hm
    simp only [Bool.and_eq_true] at hm
    obtain ⟨c1, c2, c3, c4, c5, c6⟩ := chk_bd hm.2.1
    omega
theorem InvB.best {A : Prp} (h : InvB A) {x y k m n : Int} {s : ByteArray} (ht : toldB A x y k m n s = true) (i : Nat) : InvB (bestA A i x y k m n s) := by
  rw [bestA_eq]
  cases hl : lessB A.br A.bp x y
  · rw [if_neg (by simp)]
    exact h
  · rw [if_pos rfl]
    intro h2
    show noneE x y k m n s = true
    have h2 : eq2 x y (-1) 0 = true := h2
    unfold toldB at ht
    rw [may_neg _ _ _ _ h2, Bool.false_and, Bool.or_false] at ht
    exact ht
theorem InvB.tell {A : Prp} (h : InvB A) {x y k m n : Int} {s : ByteArray} (ht : toldB A x y k m n s = true) (i : Nat) : InvB (tellA A i x y k m n s) := by
  unfold tellA
  split
  · exact h
  · split
    · have := h.best ht i
      unfold giveA
      split <;> exact this
    · exact h.best ht i
theorem rtell_any (A : Prp) (place x y k m n : Int) (s : ByteArray) (w : World) (hI : InvP A) (hB : InvB A) (hp : A.pr.length = 9) (ha : A.ac.length = 9) (hs : s.size ≤ 9223372036854775807) :
    Calls Tryz.prog 62 #[qV A, .int .i64 place, .agg #[.int .i64 x, .int .i64 y, .int .i64 k, .int .i64 m, .int .i64 n, .string s]] w fun e w' => e = .returned (.tuple #[qV (prA A place x y k m n s), .int .i64 (prE A place x y k m n s)]) ∧ Below w.heap.size w w' := by
  cases hin : inB place 0 A.c
  · have e1 : prE A place x y k m n s = 2 := by simp [prE, hin]
    have e2 : prA A place x y k m n s = A := by simp [prA, e1]
    rw [e1, e2]
    exact qtell_out A place x y k m n s w hp ha hs hin
  · cases ht : toldB A x y k m n s
    · have e1 : prE A place x y k m n s = 2 := by simp [prE, ht]
      have e2 : prA A place x y k m n s = A := by simp [prA, e1]
      rw [e1, e2]
      exact qtell_bad A place x y k m n s w hp ha hs hin ht
    · have e1 : prE A place x y k m n s = 0 := by simp [prE, hin, ht]
      rw [e1]
      by_cases h1 : A.ph = 1
      · obtain ⟨j, rfl, hj⟩ := inB_nat hin hI.right
        have e2 : prA A j x y k m n s = tellA A j x y k m n s := by simp [prA, e1, h1]
        rw [e2]
        unfold tellA
        cases hw : A.pr.getD j false
        · have hpr : (bestA A j x y k m n s).pr = A.pr.set j true := by rw [bestA_eq]; split <;> rfl
          rw [hpr]
          simp only [Bool.false_eq_true, if_false]
          cases hwon : wonP A.c (A.pr.set j true)
          · simp only [Bool.false_eq_true, if_false]
            exact qtell_few A j hj x y k m n s w hp ha hI.right hs hin ht h1 hw hwon
          · simp only [if_true]
            have hb := hB.best ht j
            unfold giveA
            cases hnb : eq2 (bestA A j x y k m n s).br (bestA A j x y k m n s).bp (-1) 0
            · have hn : noneE (bestA A j x y k m n s).br (bestA A j x y k m n s).bp (bestA A j x y k m n s).bk (bestA A j x y k m n s).bm (bestA A j x y k m n s).bn (bestA A j x y k m n s).bs = false := by
                rw [noneE_eq, hnb]; rfl
              rw [hn]
              exact qtell_some A j hj x y k m n s w hp ha hI.right hs hin ht h1 hw hwon hnb
            · rw [hb hnb]
              exact qtell_none A j hj x y k m n s w hp ha hI.right hs hin ht h1 hw hwon hnb
        · simp only [if_true]
          exact qtell_was A j hj x y k m n s w hp ha hs hin ht h1 hw
      · have e2 : prA A place x y k m n s = A := by simp [prA, e1, h1]
        rw [e2]
        exact qtell_idle A place x y k m n s w hp ha hs hin ht (by simp [h1])
end Go.Proofs.YtcahkcbenanfnaaGreatDoor
