/-
  DERIVED. GIVEN WITH THE SEED: THE CARDS: each row of YtcokbljlgbcpkaaDoorRows.lean that lists a variable, with what it lists TIED to the program's text (the seventh form; the later family's looks); each row that meets fmt, with fmt's text TOLD by the authors' own Lean function (tested against real Go, not proved from fmt's source: count such statements apart). THE CARD IS WHAT COUNTS. Prove the row's statement (the work); the ties are given (YtcokbljlgbcpkaaDoorTie.lean); close each card by the builder's one call (the guide's Derived/Test/ToyasCard.lean, 'card_holds'). Laid BY PROGRAM, IN A SANDBOX (cutbox-door.mjs). By AI agents, Wed Nov 11 2026. No macro, syntax, notation, axiom, sorry.
-/
import Derived.Test.YtcokbljlgbcpkaaDoorRows
import GoSem.ClaimSeven
namespace Go.Proofs.YtcokbljlgbcpkaaDoor
namespace Rows

/-- THE TIED CARD OF 'antiphonlaw14.AcceptorEntries'. -/
def acceptorEntriesCard : Claim7 := { stood := { row := acceptorEntriesRow, standIns := [], harness := (true, "a7af13e2434ce82076bbc654a4668751b8de50cb0a6401d662380c74ef1072e2"), looks := false }, kinds := [], alts := [], laidByText := true, laidKinds := [.data, .pinned], laidTests := true, laidLooks := .later }
def AcceptorEntriesCardSaid : Prop := Claim7.holds Tryd.pinned (.plain (OpenSpec.ofChange acceptorEntriesSpec)) acceptorEntriesCard

/-- THE TIED CARD OF 'antiphonlaw14.AcceptorRises'. -/
def acceptorRisesCard : Claim7 := { stood := { row := acceptorRisesRow, standIns := [], harness := (true, "a7af13e2434ce82076bbc654a4668751b8de50cb0a6401d662380c74ef1072e2"), looks := false }, kinds := [], alts := [], laidByText := true, laidKinds := [.data, .pinned], laidTests := true, laidLooks := .later }
def AcceptorRisesCardSaid : Prop := Claim7.holds Tryd.pinned (.plain (OpenSpec.ofChange acceptorRisesSpec)) acceptorRisesCard

/-- THE TIED CARD OF 'antiphonlaw14.AcceptorPlays'. -/
def acceptorPlaysCard : Claim7 := { stood := { row := acceptorPlaysRow, standIns := [], harness := (true, "a7af13e2434ce82076bbc654a4668751b8de50cb0a6401d662380c74ef1072e2"), looks := false }, kinds := [], alts := [], laidByText := true, laidKinds := [.data, .pinned], laidTests := true, laidLooks := .later }
def AcceptorPlaysCardSaid : Prop := Claim7.holds Tryd.pinned (.plain (OpenSpec.ofChange acceptorPlaysSpec)) acceptorPlaysCard

/-- THE TIED CARD OF 'antiphonlaw14.AcceptorCopies'. -/
def acceptorCopiesCard : Claim7 := { stood := { row := acceptorCopiesRow, standIns := [], harness := (true, "a7af13e2434ce82076bbc654a4668751b8de50cb0a6401d662380c74ef1072e2"), looks := false }, kinds := [], alts := [], laidByText := true, laidKinds := [.data, .pinned], laidTests := true, laidLooks := .later }
def AcceptorCopiesCardSaid : Prop := Claim7.holds Tryd.pinned (.plain (OpenSpec.ofChange acceptorCopiesSpec)) acceptorCopiesCard

/-- THE TIED CARD OF 'antiphonlaw14.AcceptorOf'. -/
def acceptorOfCard : Claim7 := { stood := { row := acceptorOfRow, standIns := [], harness := (true, "a7af13e2434ce82076bbc654a4668751b8de50cb0a6401d662380c74ef1072e2"), looks := false }, kinds := [], alts := [], laidByText := true, laidKinds := [.data, .pinned], laidTests := true, laidLooks := .later }
def AcceptorOfCardSaid : Prop := Claim7.holds Tryd.pinned (.plain (OpenSpec.ofChange acceptorOfSpec)) acceptorOfCard

/-- THE SECOND FORM's CARD OF 'antiphonlaw14.AcceptorEntries'. -/
def acceptorEntriesUptoCard : Claim7 := { stood := { row := acceptorEntriesUptoRow, standIns := [], harness := (true, "a7af13e2434ce82076bbc654a4668751b8de50cb0a6401d662380c74ef1072e2"), looks := false }, kinds := [], alts := [], laidByText := true, laidKinds := [.data, .pinned], laidTests := true, laidLooks := .later }
def AcceptorEntriesUptoCardSaid : Prop := Claim7.holds Tryd.pinned (.plain (OpenSpec.upto acceptorEntriesSpec)) acceptorEntriesUptoCard

/-- THE SECOND FORM's CARD OF 'antiphonlaw14.AcceptorRises'. -/
def acceptorRisesUptoCard : Claim7 := { stood := { row := acceptorRisesUptoRow, standIns := [], harness := (true, "a7af13e2434ce82076bbc654a4668751b8de50cb0a6401d662380c74ef1072e2"), looks := false }, kinds := [], alts := [], laidByText := true, laidKinds := [.data, .pinned], laidTests := true, laidLooks := .later }
def AcceptorRisesUptoCardSaid : Prop := Claim7.holds Tryd.pinned (.plain (OpenSpec.upto acceptorRisesSpec)) acceptorRisesUptoCard

/-- THE SECOND FORM's CARD OF 'antiphonlaw14.AcceptorPlays'. -/
def acceptorPlaysUptoCard : Claim7 := { stood := { row := acceptorPlaysUptoRow, standIns := [], harness := (true, "a7af13e2434ce82076bbc654a4668751b8de50cb0a6401d662380c74ef1072e2"), looks := false }, kinds := [], alts := [], laidByText := true, laidKinds := [.data, .pinned], laidTests := true, laidLooks := .later }
def AcceptorPlaysUptoCardSaid : Prop := Claim7.holds Tryd.pinned (.plain (OpenSpec.upto acceptorPlaysSpec)) acceptorPlaysUptoCard

/-- THE SECOND FORM's CARD OF 'antiphonlaw14.AcceptorCopies'. -/
def acceptorCopiesUptoCard : Claim7 := { stood := { row := acceptorCopiesUptoRow, standIns := [], harness := (true, "a7af13e2434ce82076bbc654a4668751b8de50cb0a6401d662380c74ef1072e2"), looks := false }, kinds := [], alts := [], laidByText := true, laidKinds := [.data, .pinned], laidTests := true, laidLooks := .later }
def AcceptorCopiesUptoCardSaid : Prop := Claim7.holds Tryd.pinned (.plain (OpenSpec.upto acceptorCopiesSpec)) acceptorCopiesUptoCard

/-- THE SECOND FORM's CARD OF 'antiphonlaw14.AcceptorOf'. -/
def acceptorOfUptoCard : Claim7 := { stood := { row := acceptorOfUptoRow, standIns := [], harness := (true, "a7af13e2434ce82076bbc654a4668751b8de50cb0a6401d662380c74ef1072e2"), looks := false }, kinds := [], alts := [], laidByText := true, laidKinds := [.data, .pinned], laidTests := true, laidLooks := .later }
def AcceptorOfUptoCardSaid : Prop := Claim7.holds Tryd.pinned (.plain (OpenSpec.upto acceptorOfSpec)) acceptorOfUptoCard
end Rows
end Go.Proofs.YtcokbljlgbcpkaaDoor
