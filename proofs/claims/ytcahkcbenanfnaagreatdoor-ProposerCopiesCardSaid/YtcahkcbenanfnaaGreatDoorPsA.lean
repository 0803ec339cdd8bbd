
/- The document's proposer: Take, Refuse, whole. -/
import Derived.Test.YtcahkcbenanfnaaGreatDoorPrW
namespace Go.Proofs.YtcahkcbenanfnaaGreatDoor
set_option linter.unusedSimpArgs false
set_option linter.unusedVariables false
open Go.RowKit
theorem rtake_any (A : Prp) (place : Int) (w : World) (hI : InvP A) (hp : A.pr.length = 9) (ha : A.ac.length = 9) :
    Calls Tryz.prog 63 #[qV A, .int .i64 place] w fun e w' => e = .returned (.tuple #[qV (acA A place), .int .i64 (acE A place)]) ∧ Below w.heap.size w w' := by
  cases hin : inB place 0 A.c
  · have e1 : acE A place = 2 := by simp [acE, hin]
    have e2 : acA A place = A := by simp [acA, e1]
    rw [e1, e2]
    exact qtake_out A place w hp ha hin
  · have e1 : acE A place = 0 := by simp [acE, hin]
    rw [e1]
    by_cases h2 : A.ph = 2
    · obtain ⟨j, rfl, hj⟩ := inB_nat hin hI.right
      have e2 : acA A j = takeA A j := by simp [acA, e1, h2]
      rw [e2]
      cases hw : wonP A.c (A.ac.set j true)
      · exact qtake_few A j hj w hp ha hI.right hin h2 hw
      · exact qtake_won A j hj w hp ha hI.right hin h2 hw
    · have e2 : acA A place = A := by simp [acA, e1, h2]
      rw [e2]
      exact qtake_idle A place w hp ha hin (by simp [h2])
theorem gt_less (x y r p : Int) : decide (0 < cmpI x y r p) = lessB r p x y := by
  unfold lessB cmpI or2 c3
  by_cases h1 : r < x
  · have h2 : ¬ x < r := by omega
    simp [h1, h2]
  · by_cases h2 : x < r
    · have h3 : ¬ r = x := by omega
      simp [h1, h2, h3]
    · obtain rfl : r = x := by omega
      by_cases h4 : p < y
      · have h5 : ¬ y < p := by omega
        simp [h4, h5]
      · by_cases h5 : y < p
        · simp [h4, h5]
        · simp [h4, h5]
theorem refB_eq (A : Prp) (x y : Int) : refB A x y = (mayB A.c A.sl x y && lessB A.r A.p x y) := by
  unfold refB
  rw [gt_less, Bool.and_true]
theorem rref_any (A : Prp) (place x y : Int) (w : World) (hI : InvP A) (hp : A.pr.length = 9) (ha : A.ac.length = 9) :
    Calls Tryz.prog 64 #[qV A, .int .i64 place, .agg #[.int .i64 x, .int .i64 y]] w fun e w' => e = .returned (.tuple #[qV (rfA A place x y), .int .i64 (rfE A place x y)]) ∧ Below w.heap.size w w' := by
  cases hin : inB place 0 A.c
  · have e1 : rfE A place x y = 2 := by simp [rfE, hin]
    have e2 : rfA A place x y = A := by simp [rfA, e1]
    rw [e1, e2]
    exact qref_out A place x y w hp ha hin
  · cases hm : mayB A.c A.sl x y
    · have e1 : rfE A place x y = 2 := by simp [rfE, refB_eq, hm]
      have e2 : rfA A place x y = A := by simp [rfA, e1]
      rw [e1, e2]
      exact qref_may A place x y w hp ha hin hm
    · cases hl : lessB A.r A.p x y
      · have e1 : rfE A place x y = 2 := by simp [rfE, refB_eq, hl]
        have e2 : rfA A place x y = A := by simp [rfA, e1]
        rw [e1, e2]
        exact qref_less A place x y w hp ha hin hm hl
      · have e1 : rfE A place x y = 0 := by simp [rfE, refB_eq, hin, hm, hl]
        rw [e1]
        by_cases h1 : A.ph = 1
        · have e2 : rfA A place x y = lostA A x y := by simp [rfA, e1, h1]
          rw [e2]
          exact qref_do1 A place x y w hp ha hin hm hl h1
        · by_cases h2 : A.ph = 2
          · have e2 : rfA A place x y = lostA A x y := by simp [rfA, e1, h2]
            rw [e2]
            exact qref_do2 A place x y w hp ha hin hm hl h2
          · have e2 : rfA A place x y = A := by simp [rfA, e1, h1, h2]
            rw [e2]
            exact qref_idle A place x y w hp ha hin hm hl (by simp [h1]) (by simp [h2])
end Go.Proofs.YtcahkcbenanfnaaGreatDoor
