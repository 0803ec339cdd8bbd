
/- The document's proposer: Tell, a promise that counts. -/
import Derived.Test.YtcahkcbenanfnaaGreatDoorPrW
namespace Go.Proofs.YtcahkcbenanfnaaGreatDoor
set_option linter.unusedSimpArgs false
set_option linter.unusedVariables false
open Go.RowKit
theorem bestA_eq (A : Prp) (i : Nat) (x y k m n : Int) (s : ByteArray) : bestA A i x y k m n s = if lessB A.br A.bp x y then Prp.sBest { A with pr := A.pr.set i true } x y k m n s else { A with pr := A.pr.set i true } := by
  unfold bestA
  rw [lessB_cmp]
  by_cases h : cmpI A.br A.bp x y < 0 <;> simp [h, Prp.sBest]
end Go.Proofs.YtcahkcbenanfnaaGreatDoor
