/-
  DERIVED. GIVEN WITH THE SEED: THE CARDS: each row of YthhpblchiodahaaGreatDoorRows.lean that lists a variable, with what it lists TIED to the program's text (the seventh form; the later family's looks); each row that meets fmt, with fmt's text TOLD by the authors' own Lean function (tested against real Go, not proved from fmt's source: count such statements apart). THE CARD IS WHAT COUNTS. Prove the row's statement (the work); the ties are given (YthhpblchiodahaaGreatDoorTie.lean); close each card by the builder's one call (the guide's Derived/Test/ToyasCard.lean, 'card_holds'). Laid BY PROGRAM, IN A SANDBOX (cutbox-door.mjs). By AI agents, Wed Nov 11 2026. No macro, syntax, notation, axiom, sorry.
-/
import Derived.Test.YthhpblchiodahaaGreatDoorRows
import GoSem.ClaimSeven
namespace Go.Proofs.YthhpblchiodahaaGreatDoor
namespace Rows

/-- THE TIED CARD OF 'antiphonlaw16.LearnerAgrees'. -/
def learnerAgreesCard : Claim7 := { stood := { row := learnerAgreesRow, standIns := [], harness := (true, "1f4f7e21e69db8e30e8557cdc8ec8bd65f5e04a80f46289a7f52bdae302bafca"), looks := true }, kinds := [], alts := [], laidByText := true, laidKinds := [.data, .pinned], laidTests := true, laidLooks := .later }
def LearnerAgreesCardSaid : Prop := Claim7.holds Tryz.pinned (.plain (OpenSpec.ofChange learnerAgreesSpec)) learnerAgreesCard

/-- THE TIED CARD OF 'antiphonlaw16.LearnerPlays'. -/
def learnerPlaysCard : Claim7 := { stood := { row := learnerPlaysRow, standIns := [], harness := (true, "1f4f7e21e69db8e30e8557cdc8ec8bd65f5e04a80f46289a7f52bdae302bafca"), looks := true }, kinds := [], alts := [], laidByText := true, laidKinds := [.data, .pinned], laidTests := true, laidLooks := .later }
def LearnerPlaysCardSaid : Prop := Claim7.holds Tryz.pinned (.plain (OpenSpec.ofChange learnerPlaysSpec)) learnerPlaysCard

/-- THE TIED CARD OF 'antiphonlaw16.LearnerCopies'. -/
def learnerCopiesCard : Claim7 := { stood := { row := learnerCopiesRow, standIns := [], harness := (true, "1f4f7e21e69db8e30e8557cdc8ec8bd65f5e04a80f46289a7f52bdae302bafca"), looks := true }, kinds := [], alts := [], laidByText := true, laidKinds := [.data, .pinned], laidTests := true, laidLooks := .later }
def LearnerCopiesCardSaid : Prop := Claim7.holds Tryz.pinned (.plain (OpenSpec.ofChange learnerCopiesSpec)) learnerCopiesCard

/-- THE SECOND FORM's CARD OF 'antiphonlaw16.LearnerAgrees'. -/
def learnerAgreesUptoCard : Claim7 := { stood := { row := learnerAgreesUptoRow, standIns := [], harness := (true, "1f4f7e21e69db8e30e8557cdc8ec8bd65f5e04a80f46289a7f52bdae302bafca"), looks := true }, kinds := [], alts := [], laidByText := true, laidKinds := [.data, .pinned], laidTests := true, laidLooks := .later }
def LearnerAgreesUptoCardSaid : Prop := Claim7.holds Tryz.pinned (.plain (OpenSpec.upto learnerAgreesSpec)) learnerAgreesUptoCard

/-- THE SECOND FORM's CARD OF 'antiphonlaw16.LearnerPlays'. -/
def learnerPlaysUptoCard : Claim7 := { stood := { row := learnerPlaysUptoRow, standIns := [], harness := (true, "1f4f7e21e69db8e30e8557cdc8ec8bd65f5e04a80f46289a7f52bdae302bafca"), looks := true }, kinds := [], alts := [], laidByText := true, laidKinds := [.data, .pinned], laidTests := true, laidLooks := .later }
def LearnerPlaysUptoCardSaid : Prop := Claim7.holds Tryz.pinned (.plain (OpenSpec.upto learnerPlaysSpec)) learnerPlaysUptoCard

/-- THE SECOND FORM's CARD OF 'antiphonlaw16.LearnerCopies'. -/
def learnerCopiesUptoCard : Claim7 := { stood := { row := learnerCopiesUptoRow, standIns := [], harness := (true, "1f4f7e21e69db8e30e8557cdc8ec8bd65f5e04a80f46289a7f52bdae302bafca"), looks := true }, kinds := [], alts := [], laidByText := true, laidKinds := [.data, .pinned], laidTests := true, laidLooks := .later }
def LearnerCopiesUptoCardSaid : Prop := Claim7.holds Tryz.pinned (.plain (OpenSpec.upto learnerCopiesSpec)) learnerCopiesUptoCard
end Rows
end Go.Proofs.YthhpblchiodahaaGreatDoor
