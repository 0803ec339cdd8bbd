/-
  DERIVED. GIVEN WITH THE SEED: THE CARDS: each row of YtehjglaofhgjfaaDoorRows.lean that lists a variable, with what it lists TIED to the program's text (the seventh form; the later family's looks); each row that meets fmt, with fmt's text TOLD by the authors' own Lean function (tested against real Go, not proved from fmt's source: count such statements apart). THE CARD IS WHAT COUNTS. Prove the row's statement (the work); the ties are given (YtehjglaofhgjfaaDoorTie.lean); close each card by the builder's one call (the guide's Derived/Test/ToyasCard.lean, 'card_holds'). Laid BY PROGRAM, IN A SANDBOX (cutbox-door.mjs). By AI agents, Wed Nov 11 2026. No macro, syntax, notation, axiom, sorry.
-/
import Derived.Test.YtehjglaofhgjfaaDoorRows
import GoSem.ClaimSeven
namespace Go.Proofs.YtehjglaofhgjfaaDoor
namespace Rows

/-- THE TIED CARD OF 'antiphonlaw03.TextChecks'. -/
def textChecksCard : Claim7 := { stood := { row := textChecksRow, standIns := [], harness := (true, "3f51b7628c0ee8708415d50bd54398894ae732b79727d7f51fda434fdd6300d7"), looks := true }, kinds := [], alts := [], laidByText := true, laidKinds := [.data, .pinned], laidTests := true, laidLooks := .later }
def TextChecksCardSaid : Prop := Claim7.holds Tryd.pinned (.plain (OpenSpec.ofChange textChecksSpec)) textChecksCard

/-- THE TIED CARD OF 'antiphonlaw03.TextNamed'. -/
def textNamedCard : Claim7 := { stood := { row := textNamedRow, standIns := [], harness := (true, "3f51b7628c0ee8708415d50bd54398894ae732b79727d7f51fda434fdd6300d7"), looks := true }, kinds := [], alts := [], laidByText := true, laidKinds := [.data, .pinned], laidTests := true, laidLooks := .later }
def TextNamedCardSaid : Prop := Claim7.holds Tryd.pinned (.plain (OpenSpec.ofChange textNamedSpec)) textNamedCard

/-- THE TIED CARD OF 'antiphonlaw03.TextLines'. -/
def textLinesCard : Claim7 := { stood := { row := textLinesRow, standIns := [], harness := (true, "3f51b7628c0ee8708415d50bd54398894ae732b79727d7f51fda434fdd6300d7"), looks := true }, kinds := [], alts := [], laidByText := true, laidKinds := [.data, .pinned], laidTests := true, laidLooks := .later }
def TextLinesCardSaid : Prop := Claim7.holds Tryd.pinned (.plain (OpenSpec.ofChange textLinesSpec)) textLinesCard

/-- THE TIED CARD OF 'antiphonlaw03.TextQuotes'. -/
def textQuotesCard : Claim7 := { stood := { row := textQuotesRow, standIns := [], harness := (true, "3f51b7628c0ee8708415d50bd54398894ae732b79727d7f51fda434fdd6300d7"), looks := true }, kinds := [], alts := [], laidByText := true, laidKinds := [.data, .pinned], laidTests := true, laidLooks := .later }
def TextQuotesCardSaid : Prop := Claim7.holds Tryd.pinned (.plain (OpenSpec.ofChange textQuotesSpec)) textQuotesCard

/-- THE TIED CARD OF 'antiphonlaw03.TextBounds'. -/
def textBoundsCard : Claim7 := { stood := { row := textBoundsRow, standIns := [], harness := (true, "3f51b7628c0ee8708415d50bd54398894ae732b79727d7f51fda434fdd6300d7"), looks := true }, kinds := [], alts := [], laidByText := true, laidKinds := [.data, .pinned], laidTests := true, laidLooks := .later }
def TextBoundsCardSaid : Prop := Claim7.holds Tryd.pinned (.plain (OpenSpec.ofChange textBoundsSpec)) textBoundsCard

/-- THE TIED CARD OF 'antiphonlaw03.TextSigns'. -/
def textSignsCard : Claim7 := { stood := { row := textSignsRow, standIns := [], harness := (true, "3f51b7628c0ee8708415d50bd54398894ae732b79727d7f51fda434fdd6300d7"), looks := true }, kinds := [], alts := [], laidByText := true, laidKinds := [.data, .pinned], laidTests := true, laidLooks := .later }
def TextSignsCardSaid : Prop := Claim7.holds Tryd.pinned (.plain (OpenSpec.ofChange textSignsSpec)) textSignsCard

/-- THE TIED CARD OF 'antiphonlaw03.TextCuts'. -/
def textCutsCard : Claim7 := { stood := { row := textCutsRow, standIns := [], harness := (true, "3f51b7628c0ee8708415d50bd54398894ae732b79727d7f51fda434fdd6300d7"), looks := true }, kinds := [], alts := [], laidByText := true, laidKinds := [.data, .pinned], laidTests := true, laidLooks := .later }
def TextCutsCardSaid : Prop := Claim7.holds Tryd.pinned (.plain (OpenSpec.ofChange textCutsSpec)) textCutsCard

/-- THE TIED CARD OF 'antiphonlaw03.TextPoint'. -/
def textPointCard : Claim7 := { stood := { row := textPointRow, standIns := [], harness := (true, "3f51b7628c0ee8708415d50bd54398894ae732b79727d7f51fda434fdd6300d7"), looks := true }, kinds := [], alts := [], laidByText := true, laidKinds := [.data, .pinned], laidTests := true, laidLooks := .later }
def TextPointCardSaid : Prop := Claim7.holds Tryd.pinned (.plain (OpenSpec.ofChange textPointSpec)) textPointCard

/-- THE TIED CARD OF 'antiphonlaw03.TextHolds'. -/
def textHoldsCard : Claim7 := { stood := { row := textHoldsRow, standIns := [], harness := (true, "3f51b7628c0ee8708415d50bd54398894ae732b79727d7f51fda434fdd6300d7"), looks := true }, kinds := [], alts := [], laidByText := true, laidKinds := [.data, .pinned], laidTests := true, laidLooks := .later }
def TextHoldsCardSaid : Prop := Claim7.holds Tryd.pinned (.plain (OpenSpec.ofChange textHoldsSpec)) textHoldsCard

/-- THE SECOND FORM's CARD OF 'antiphonlaw03.TextChecks'. -/
def textChecksUptoCard : Claim7 := { stood := { row := textChecksUptoRow, standIns := [], harness := (true, "3f51b7628c0ee8708415d50bd54398894ae732b79727d7f51fda434fdd6300d7"), looks := true }, kinds := [], alts := [], laidByText := true, laidKinds := [.data, .pinned], laidTests := true, laidLooks := .later }
def TextChecksUptoCardSaid : Prop := Claim7.holds Tryd.pinned (.plain (OpenSpec.upto textChecksSpec)) textChecksUptoCard

/-- THE SECOND FORM's CARD OF 'antiphonlaw03.TextNamed'. -/
def textNamedUptoCard : Claim7 := { stood := { row := textNamedUptoRow, standIns := [], harness := (true, "3f51b7628c0ee8708415d50bd54398894ae732b79727d7f51fda434fdd6300d7"), looks := true }, kinds := [], alts := [], laidByText := true, laidKinds := [.data, .pinned], laidTests := true, laidLooks := .later }
def TextNamedUptoCardSaid : Prop := Claim7.holds Tryd.pinned (.plain (OpenSpec.upto textNamedSpec)) textNamedUptoCard

/-- THE SECOND FORM's CARD OF 'antiphonlaw03.TextLines'. -/
def textLinesUptoCard : Claim7 := { stood := { row := textLinesUptoRow, standIns := [], harness := (true, "3f51b7628c0ee8708415d50bd54398894ae732b79727d7f51fda434fdd6300d7"), looks := true }, kinds := [], alts := [], laidByText := true, laidKinds := [.data, .pinned], laidTests := true, laidLooks := .later }
def TextLinesUptoCardSaid : Prop := Claim7.holds Tryd.pinned (.plain (OpenSpec.upto textLinesSpec)) textLinesUptoCard

/-- THE SECOND FORM's CARD OF 'antiphonlaw03.TextQuotes'. -/
def textQuotesUptoCard : Claim7 := { stood := { row := textQuotesUptoRow, standIns := [], harness := (true, "3f51b7628c0ee8708415d50bd54398894ae732b79727d7f51fda434fdd6300d7"), looks := true }, kinds := [], alts := [], laidByText := true, laidKinds := [.data, .pinned], laidTests := true, laidLooks := .later }
def TextQuotesUptoCardSaid : Prop := Claim7.holds Tryd.pinned (.plain (OpenSpec.upto textQuotesSpec)) textQuotesUptoCard

/-- THE SECOND FORM's CARD OF 'antiphonlaw03.TextBounds'. -/
def textBoundsUptoCard : Claim7 := { stood := { row := textBoundsUptoRow, standIns := [], harness := (true, "3f51b7628c0ee8708415d50bd54398894ae732b79727d7f51fda434fdd6300d7"), looks := true }, kinds := [], alts := [], laidByText := true, laidKinds := [.data, .pinned], laidTests := true, laidLooks := .later }
def TextBoundsUptoCardSaid : Prop := Claim7.holds Tryd.pinned (.plain (OpenSpec.upto textBoundsSpec)) textBoundsUptoCard

/-- THE SECOND FORM's CARD OF 'antiphonlaw03.TextSigns'. -/
def textSignsUptoCard : Claim7 := { stood := { row := textSignsUptoRow, standIns := [], harness := (true, "3f51b7628c0ee8708415d50bd54398894ae732b79727d7f51fda434fdd6300d7"), looks := true }, kinds := [], alts := [], laidByText := true, laidKinds := [.data, .pinned], laidTests := true, laidLooks := .later }
def TextSignsUptoCardSaid : Prop := Claim7.holds Tryd.pinned (.plain (OpenSpec.upto textSignsSpec)) textSignsUptoCard

/-- THE SECOND FORM's CARD OF 'antiphonlaw03.TextCuts'. -/
def textCutsUptoCard : Claim7 := { stood := { row := textCutsUptoRow, standIns := [], harness := (true, "3f51b7628c0ee8708415d50bd54398894ae732b79727d7f51fda434fdd6300d7"), looks := true }, kinds := [], alts := [], laidByText := true, laidKinds := [.data, .pinned], laidTests := true, laidLooks := .later }
def TextCutsUptoCardSaid : Prop := Claim7.holds Tryd.pinned (.plain (OpenSpec.upto textCutsSpec)) textCutsUptoCard

/-- THE SECOND FORM's CARD OF 'antiphonlaw03.TextPoint'. -/
def textPointUptoCard : Claim7 := { stood := { row := textPointUptoRow, standIns := [], harness := (true, "3f51b7628c0ee8708415d50bd54398894ae732b79727d7f51fda434fdd6300d7"), looks := true }, kinds := [], alts := [], laidByText := true, laidKinds := [.data, .pinned], laidTests := true, laidLooks := .later }
def TextPointUptoCardSaid : Prop := Claim7.holds Tryd.pinned (.plain (OpenSpec.upto textPointSpec)) textPointUptoCard

/-- THE SECOND FORM's CARD OF 'antiphonlaw03.TextHolds'. -/
def textHoldsUptoCard : Claim7 := { stood := { row := textHoldsUptoRow, standIns := [], harness := (true, "3f51b7628c0ee8708415d50bd54398894ae732b79727d7f51fda434fdd6300d7"), looks := true }, kinds := [], alts := [], laidByText := true, laidKinds := [.data, .pinned], laidTests := true, laidLooks := .later }
def TextHoldsUptoCardSaid : Prop := Claim7.holds Tryd.pinned (.plain (OpenSpec.upto textHoldsSpec)) textHoldsUptoCard
end Rows
end Go.Proofs.YtehjglaofhgjfaaDoor
