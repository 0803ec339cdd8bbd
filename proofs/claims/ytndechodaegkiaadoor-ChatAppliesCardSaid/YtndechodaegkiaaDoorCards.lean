/-
  DERIVED. GIVEN WITH THE SEED: THE CARDS: each row of YtndechodaegkiaaDoorRows.lean that lists a variable, with what it lists TIED to the program's text (the seventh form; the later family's looks); each row that meets fmt, with fmt's text TOLD by the authors' own Lean function (tested against real Go, not proved from fmt's source: count such statements apart). THE CARD IS WHAT COUNTS. Prove the row's statement (the work); the ties are given (YtndechodaegkiaaDoorTie.lean); close each card by the builder's one call (the guide's Derived/Test/ToyasCard.lean, 'card_holds'). Laid BY PROGRAM, IN A SANDBOX (cutbox-door.mjs). By AI agents, Wed Nov 11 2026. No macro, syntax, notation, axiom, sorry.
-/
import Derived.Test.YtndechodaegkiaaDoorRows
import GoSem.ClaimSeven
namespace Go.Proofs.YtndechodaegkiaaDoor
namespace Rows

/-- THE TIED CARD OF 'antiphonlaw22.ChatEnd'. -/
def chatEndCard : Claim7 := { stood := { row := chatEndRow, standIns := [], harness := (true, "74003a3b3f14b704aff21765b235e026a1526a96b25e5a2ec39cf54b5893e264"), looks := false }, kinds := [], alts := [], laidByText := true, laidKinds := [.data, .pinned], laidTests := true, laidLooks := .later }
def ChatEndCardSaid : Prop := Claim7.holds Tryd.pinned (.plain (OpenSpec.ofChange chatEndSpec)) chatEndCard

/-- THE TIED CARD OF 'antiphonlaw22.ChatHolds'. -/
def chatHoldsCard : Claim7 := { stood := { row := chatHoldsRow, standIns := [], harness := (true, "74003a3b3f14b704aff21765b235e026a1526a96b25e5a2ec39cf54b5893e264"), looks := false }, kinds := [], alts := [], laidByText := true, laidKinds := [.data, .pinned], laidTests := true, laidLooks := .later }
def ChatHoldsCardSaid : Prop := Claim7.holds Tryd.pinned (.plain (OpenSpec.ofChange chatHoldsSpec)) chatHoldsCard

/-- THE TIED CARD OF 'antiphonlaw22.ChatMembers'. -/
def chatMembersCard : Claim7 := { stood := { row := chatMembersRow, standIns := [], harness := (true, "74003a3b3f14b704aff21765b235e026a1526a96b25e5a2ec39cf54b5893e264"), looks := false }, kinds := [], alts := [], laidByText := true, laidKinds := [.data, .pinned], laidTests := true, laidLooks := .later }
def ChatMembersCardSaid : Prop := Claim7.holds Tryd.pinned (.plain (OpenSpec.ofChange chatMembersSpec)) chatMembersCard

/-- THE TIED CARD OF 'antiphonlaw22.ChatNews'. -/
def chatNewsCard : Claim7 := { stood := { row := chatNewsRow, standIns := [], harness := (true, "74003a3b3f14b704aff21765b235e026a1526a96b25e5a2ec39cf54b5893e264"), looks := false }, kinds := [], alts := [], laidByText := true, laidKinds := [.data, .pinned], laidTests := true, laidLooks := .later }
def ChatNewsCardSaid : Prop := Claim7.holds Tryd.pinned (.plain (OpenSpec.ofChange chatNewsSpec)) chatNewsCard

/-- THE TIED CARD OF 'antiphonlaw22.ChatPages'. -/
def chatPagesCard : Claim7 := { stood := { row := chatPagesRow, standIns := [], harness := (true, "74003a3b3f14b704aff21765b235e026a1526a96b25e5a2ec39cf54b5893e264"), looks := false }, kinds := [], alts := [], laidByText := true, laidKinds := [.data, .pinned], laidTests := true, laidLooks := .later }
def ChatPagesCardSaid : Prop := Claim7.holds Tryd.pinned (.plain (OpenSpec.ofChange chatPagesSpec)) chatPagesCard

/-- THE TIED CARD OF 'antiphonlaw22.ChatCopies'. -/
def chatCopiesCard : Claim7 := { stood := { row := chatCopiesRow, standIns := [], harness := (true, "74003a3b3f14b704aff21765b235e026a1526a96b25e5a2ec39cf54b5893e264"), looks := false }, kinds := [], alts := [], laidByText := true, laidKinds := [.data, .pinned], laidTests := true, laidLooks := .later }
def ChatCopiesCardSaid : Prop := Claim7.holds Tryd.pinned (.plain (OpenSpec.ofChange chatCopiesSpec)) chatCopiesCard

/-- THE TIED CARD OF 'antiphonlaw22.ChatApplies'. -/
def chatAppliesCard : Claim7 := { stood := { row := chatAppliesRow, standIns := [], harness := (true, "74003a3b3f14b704aff21765b235e026a1526a96b25e5a2ec39cf54b5893e264"), looks := false }, kinds := [], alts := [], laidByText := true, laidKinds := [.data, .pinned], laidTests := true, laidLooks := .later }
def ChatAppliesCardSaid : Prop := Claim7.holds Tryd.pinned (.plain (OpenSpec.ofChange chatAppliesSpec)) chatAppliesCard

/-- THE SECOND FORM's CARD OF 'antiphonlaw22.ChatEnd'. -/
def chatEndUptoCard : Claim7 := { stood := { row := chatEndUptoRow, standIns := [], harness := (true, "74003a3b3f14b704aff21765b235e026a1526a96b25e5a2ec39cf54b5893e264"), looks := false }, kinds := [], alts := [], laidByText := true, laidKinds := [.data, .pinned], laidTests := true, laidLooks := .later }
def ChatEndUptoCardSaid : Prop := Claim7.holds Tryd.pinned (.plain (OpenSpec.upto chatEndSpec)) chatEndUptoCard

/-- THE SECOND FORM's CARD OF 'antiphonlaw22.ChatHolds'. -/
def chatHoldsUptoCard : Claim7 := { stood := { row := chatHoldsUptoRow, standIns := [], harness := (true, "74003a3b3f14b704aff21765b235e026a1526a96b25e5a2ec39cf54b5893e264"), looks := false }, kinds := [], alts := [], laidByText := true, laidKinds := [.data, .pinned], laidTests := true, laidLooks := .later }
def ChatHoldsUptoCardSaid : Prop := Claim7.holds Tryd.pinned (.plain (OpenSpec.upto chatHoldsSpec)) chatHoldsUptoCard

/-- THE SECOND FORM's CARD OF 'antiphonlaw22.ChatMembers'. -/
def chatMembersUptoCard : Claim7 := { stood := { row := chatMembersUptoRow, standIns := [], harness := (true, "74003a3b3f14b704aff21765b235e026a1526a96b25e5a2ec39cf54b5893e264"), looks := false }, kinds := [], alts := [], laidByText := true, laidKinds := [.data, .pinned], laidTests := true, laidLooks := .later }
def ChatMembersUptoCardSaid : Prop := Claim7.holds Tryd.pinned (.plain (OpenSpec.upto chatMembersSpec)) chatMembersUptoCard

/-- THE SECOND FORM's CARD OF 'antiphonlaw22.ChatNews'. -/
def chatNewsUptoCard : Claim7 := { stood := { row := chatNewsUptoRow, standIns := [], harness := (true, "74003a3b3f14b704aff21765b235e026a1526a96b25e5a2ec39cf54b5893e264"), looks := false }, kinds := [], alts := [], laidByText := true, laidKinds := [.data, .pinned], laidTests := true, laidLooks := .later }
def ChatNewsUptoCardSaid : Prop := Claim7.holds Tryd.pinned (.plain (OpenSpec.upto chatNewsSpec)) chatNewsUptoCard

/-- THE SECOND FORM's CARD OF 'antiphonlaw22.ChatPages'. -/
def chatPagesUptoCard : Claim7 := { stood := { row := chatPagesUptoRow, standIns := [], harness := (true, "74003a3b3f14b704aff21765b235e026a1526a96b25e5a2ec39cf54b5893e264"), looks := false }, kinds := [], alts := [], laidByText := true, laidKinds := [.data, .pinned], laidTests := true, laidLooks := .later }
def ChatPagesUptoCardSaid : Prop := Claim7.holds Tryd.pinned (.plain (OpenSpec.upto chatPagesSpec)) chatPagesUptoCard

/-- THE SECOND FORM's CARD OF 'antiphonlaw22.ChatCopies'. -/
def chatCopiesUptoCard : Claim7 := { stood := { row := chatCopiesUptoRow, standIns := [], harness := (true, "74003a3b3f14b704aff21765b235e026a1526a96b25e5a2ec39cf54b5893e264"), looks := false }, kinds := [], alts := [], laidByText := true, laidKinds := [.data, .pinned], laidTests := true, laidLooks := .later }
def ChatCopiesUptoCardSaid : Prop := Claim7.holds Tryd.pinned (.plain (OpenSpec.upto chatCopiesSpec)) chatCopiesUptoCard

/-- THE SECOND FORM's CARD OF 'antiphonlaw22.ChatApplies'. -/
def chatAppliesUptoCard : Claim7 := { stood := { row := chatAppliesUptoRow, standIns := [], harness := (true, "74003a3b3f14b704aff21765b235e026a1526a96b25e5a2ec39cf54b5893e264"), looks := false }, kinds := [], alts := [], laidByText := true, laidKinds := [.data, .pinned], laidTests := true, laidLooks := .later }
def ChatAppliesUptoCardSaid : Prop := Claim7.holds Tryd.pinned (.plain (OpenSpec.upto chatAppliesSpec)) chatAppliesUptoCard
end Rows
end Go.Proofs.YtndechodaegkiaaDoor
