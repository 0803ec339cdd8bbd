/-
  DERIVED. GIVEN WITH THE SEED: THE CARDS: each row of YtnjhhedchohpkaaDoorRows.lean that lists a variable, with what it lists TIED to the program's text (the seventh form; the later family's looks); each row that meets fmt, with fmt's text TOLD by the authors' own Lean function (tested against real Go, not proved from fmt's source: count such statements apart). THE CARD IS WHAT COUNTS. Prove the row's statement (the work); the ties are given (YtnjhhedchohpkaaDoorTie.lean); close each card by the builder's one call (the guide's Derived/Test/ToyasCard.lean, 'card_holds'). Laid BY PROGRAM, IN A SANDBOX (cutbox-door.mjs). By AI agents, Wed Nov 11 2026. No macro, syntax, notation, axiom, sorry.
-/
import Derived.Test.YtnjhhedchohpkaaDoorRows
import GoSem.ClaimSeven
namespace Go.Proofs.YtnjhhedchohpkaaDoor
namespace Rows

/-- THE TIED CARD OF 'antiphonlaw15.ProposerGives'. -/
def proposerGivesCard : Claim7 := { stood := { row := proposerGivesRow, standIns := [], harness := (true, "22c7b1626429349fe6ba1a106c3300cee8bf33a4b5c17fd7d11492ce99ac66ae"), looks := false }, kinds := [], alts := [], laidByText := true, laidKinds := [.data, .pinned], laidTests := true, laidLooks := .later }
def ProposerGivesCardSaid : Prop := Claim7.holds Tryd.pinned (.plain (OpenSpec.ofChange proposerGivesSpec)) proposerGivesCard

/-- THE TIED CARD OF 'antiphonlaw16.LearnerStays'. -/
def learnerStaysCard : Claim7 := { stood := { row := learnerStaysRow, standIns := [], harness := (true, "22c7b1626429349fe6ba1a106c3300cee8bf33a4b5c17fd7d11492ce99ac66ae"), looks := false }, kinds := [], alts := [], laidByText := true, laidKinds := [.data, .pinned], laidTests := true, laidLooks := .later }
def LearnerStaysCardSaid : Prop := Claim7.holds Tryd.pinned (.plain (OpenSpec.ofChange learnerStaysSpec)) learnerStaysCard

/-- THE SECOND FORM's CARD OF 'antiphonlaw15.ProposerGives'. -/
def proposerGivesUptoCard : Claim7 := { stood := { row := proposerGivesUptoRow, standIns := [], harness := (true, "22c7b1626429349fe6ba1a106c3300cee8bf33a4b5c17fd7d11492ce99ac66ae"), looks := false }, kinds := [], alts := [], laidByText := true, laidKinds := [.data, .pinned], laidTests := true, laidLooks := .later }
def ProposerGivesUptoCardSaid : Prop := Claim7.holds Tryd.pinned (.plain (OpenSpec.upto proposerGivesSpec)) proposerGivesUptoCard

/-- THE SECOND FORM's CARD OF 'antiphonlaw16.LearnerStays'. -/
def learnerStaysUptoCard : Claim7 := { stood := { row := learnerStaysUptoRow, standIns := [], harness := (true, "22c7b1626429349fe6ba1a106c3300cee8bf33a4b5c17fd7d11492ce99ac66ae"), looks := false }, kinds := [], alts := [], laidByText := true, laidKinds := [.data, .pinned], laidTests := true, laidLooks := .later }
def LearnerStaysUptoCardSaid : Prop := Claim7.holds Tryd.pinned (.plain (OpenSpec.upto learnerStaysSpec)) learnerStaysUptoCard
end Rows
end Go.Proofs.YtnjhhedchohpkaaDoor
