/-
  DERIVED. GIVEN WITH THE SEED: THE CARDS: each row of YtcahkcbenanfnaaDoorRows.lean that lists a variable, with what it lists TIED to the program's text (the seventh form; the later family's looks); each row that meets fmt, with fmt's text TOLD by the authors' own Lean function (tested against real Go, not proved from fmt's source: count such statements apart). THE CARD IS WHAT COUNTS. Prove the row's statement (the work); the ties are given (YtcahkcbenanfnaaDoorTie.lean); close each card by the builder's one call (the guide's Derived/Test/ToyasCard.lean, 'card_holds'). Laid BY PROGRAM, IN A SANDBOX (cutbox-door.mjs). By AI agents, Wed Nov 11 2026. No macro, syntax, notation, axiom, sorry.
-/
import Derived.Test.YtcahkcbenanfnaaDoorRows
import GoSem.ClaimSeven
namespace Go.Proofs.YtcahkcbenanfnaaDoor
namespace Rows

/-- THE TIED CARD OF 'antiphonlaw16.LearnerStays'. -/
def learnerStaysCard : Claim7 := { stood := { row := learnerStaysRow, standIns := [], harness := (true, "d3d936a4e9269295dbb30ed6ec0fe6b1b5192a6aa63744fe573d4d733577d67c"), looks := false }, kinds := [], alts := [], laidByText := true, laidKinds := [.data, .pinned], laidTests := true, laidLooks := .later }
def LearnerStaysCardSaid : Prop := Claim7.holds Tryd.pinned (.plain (OpenSpec.ofChange learnerStaysSpec)) learnerStaysCard

/-- THE TIED CARD OF 'antiphonlaw15.ProposerGives'. -/
def proposerGivesCard : Claim7 := { stood := { row := proposerGivesRow, standIns := [], harness := (true, "d3d936a4e9269295dbb30ed6ec0fe6b1b5192a6aa63744fe573d4d733577d67c"), looks := false }, kinds := [], alts := [], laidByText := true, laidKinds := [.data, .pinned], laidTests := true, laidLooks := .later }
def ProposerGivesCardSaid : Prop := Claim7.holds Tryd.pinned (.plain (OpenSpec.ofChange proposerGivesSpec)) proposerGivesCard

/-- THE SECOND FORM's CARD OF 'antiphonlaw16.LearnerStays'. -/
def learnerStaysUptoCard : Claim7 := { stood := { row := learnerStaysUptoRow, standIns := [], harness := (true, "d3d936a4e9269295dbb30ed6ec0fe6b1b5192a6aa63744fe573d4d733577d67c"), looks := false }, kinds := [], alts := [], laidByText := true, laidKinds := [.data, .pinned], laidTests := true, laidLooks := .later }
def LearnerStaysUptoCardSaid : Prop := Claim7.holds Tryd.pinned (.plain (OpenSpec.upto learnerStaysSpec)) learnerStaysUptoCard

/-- THE SECOND FORM's CARD OF 'antiphonlaw15.ProposerGives'. -/
def proposerGivesUptoCard : Claim7 := { stood := { row := proposerGivesUptoRow, standIns := [], harness := (true, "d3d936a4e9269295dbb30ed6ec0fe6b1b5192a6aa63744fe573d4d733577d67c"), looks := false }, kinds := [], alts := [], laidByText := true, laidKinds := [.data, .pinned], laidTests := true, laidLooks := .later }
def ProposerGivesUptoCardSaid : Prop := Claim7.holds Tryd.pinned (.plain (OpenSpec.upto proposerGivesSpec)) proposerGivesUptoCard
end Rows
end Go.Proofs.YtcahkcbenanfnaaDoor
