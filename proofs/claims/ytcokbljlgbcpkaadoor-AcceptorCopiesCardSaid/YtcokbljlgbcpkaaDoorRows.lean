/-
  NARROWER THAN 'FOR EVERY INPUT', by the rows' own cells (each row's printed sentence says how): AcceptorEntries: laid · AcceptorRises: laid · AcceptorPlays: laid · AcceptorCopies: laid · AcceptorOf: laid.
  DERIVED. THE GIVEN ROWS OF THIS SEAT. 5 by the template 'for every input the law returns true; each argument reads behind the call as it read before'; 0 by the template 'total and deterministic' (their statements: YtcokbljlgbcpkaaDoorTotals.lean).
  GIVEN WITH THE SEED: the statements are not yours to turn. If you find one false, say at which input.
  Laid BY PROGRAM, IN A SANDBOX (cutbox-rows.mjs): the forced cells as the released guide's own fill.sh prints them over the translation 5378de9640a3986e… (all of the seat's roots in one cut). By AI agents, Wed Nov 11 2026. No macro, syntax, notation, axiom, sorry.
-/
import Derived.Test.YtcokbljlgbcpkaaDoorChecked
import GoSem.PinnedTables
import GoSem.Claim
import GoSem.ClaimJoined
import GoSem.ClaimMapViews
import Derived.JoinedTies
import Derived.KernelRfl
namespace Go.Proofs.YtcokbljlgbcpkaaDoor
/- THE CELL 'sum', in the pinned program and in every row, IS THE sha256 OF THE DUMP (.gsa) THAT YtcokbljlgbcpkaaDoorProg.lean LOADS. Nothing in Lean hashes anything: it is a label: what it is worth is what the hold of that sum in a sandbox is worth. -/
noncomputable def Tryd.pinned : Pinned := { name := "ytcokbljlgbcpkaadoor", sum := "5378de9640a3986ed03fc24db9a9d938ccb126750c80c3de73699de108308c12", checked := Tryd.checked }
namespace Rows
def none {H : Type} : Left H := { results := [], args := [] }

/- WHAT THE LISTED PACKAGE-LEVEL VARIABLES READ AS WHEN THE CALL BEGINS. Each datum BY PROGRAM (the guide's laid-datum.mjs) off the statement by which the dump's own 'gosem.cut.vars' lays the variable. In a bare row this is a premise. The card (YtcokbljlgbcpkaaDoorCards.lean) ties it to the program's text. -/
def laid_unicode_utf8_acceptRanges {H : Type} : DataW H := .agg [.agg [.lit (.int .u8 128), .lit (.int .u8 191)], .agg [.lit (.int .u8 160), .lit (.int .u8 191)], .agg [.lit (.int .u8 128), .lit (.int .u8 159)], .agg [.lit (.int .u8 144), .lit (.int .u8 191)], .agg [.lit (.int .u8 128), .lit (.int .u8 143)], .agg [.lit (.int .u8 0), .lit (.int .u8 0)], .agg [.lit (.int .u8 0), .lit (.int .u8 0)], .agg [.lit (.int .u8 0), .lit (.int .u8 0)], .agg [.lit (.int .u8 0), .lit (.int .u8 0)], .agg [.lit (.int .u8 0), .lit (.int .u8 0)], .agg [.lit (.int .u8 0), .lit (.int .u8 0)], .agg [.lit (.int .u8 0), .lit (.int .u8 0)], .agg [.lit (.int .u8 0), .lit (.int .u8 0)], .agg [.lit (.int .u8 0), .lit (.int .u8 0)], .agg [.lit (.int .u8 0), .lit (.int .u8 0)], .agg [.lit (.int .u8 0), .lit (.int .u8 0)]]
/-- One of Go's own tables, pinned by name: the form's constant. -/
def laid_unicode_utf8_first : DataW Unit := Go.Pinned.utf8First

/-- 'antiphonlaw14.AcceptorEntries': WHATEVER THE INPUT: true; the input reads as it did. -/
def acceptorEntriesSpec : ChangeSpec := { name := "acceptorEntries", fn := fun _ => fun
  | [d] => { results := [.lit (.bool true)], args := [d] }
  | _ => none }
def acceptorEntriesRow : OpenClaim := { program := "ytcokbljlgbcpkaadoor", sum := "5378de9640a3986ed03fc24db9a9d938ccb126750c80c3de73699de108308c12", func := "antiphon/antiphonlaw14.AcceptorEntries", spec := "acceptorEntries", inPlace := ["internal/bytealg.IndexByteString", "internal/bytealg.IndexString"], unfollowed := true, recurses := true, named := ["unicode/utf8.first", "unicode/utf8.acceptRanges", "internal/bytealg.MaxLen"], apart := false, laid := [("unicode/utf8.acceptRanges", laid_unicode_utf8_acceptRanges), ("unicode/utf8.first", laid_unicode_utf8_first)] }
def AcceptorEntriesSaid : Prop := acceptorEntriesRow.holds Tryd.pinned (OpenSpec.ofChange acceptorEntriesSpec)

/-- ITS FALSE NEIGHBOUR: 'it returns false'. Refute it at one input. -/
def acceptorEntriesWrong : ChangeSpec := { name := "acceptorEntries", fn := fun _ => fun
  | [d] => { results := [.lit (.bool false)], args := [d] }
  | _ => none }
def AcceptorEntriesWrongFalsely : Prop := acceptorEntriesRow.holds Tryd.pinned (OpenSpec.ofChange acceptorEntriesWrong)

/-- 'antiphonlaw14.AcceptorRises': WHATEVER THE INPUT: true; the input reads as it did. -/
def acceptorRisesSpec : ChangeSpec := { name := "acceptorRises", fn := fun _ => fun
  | [d1, d2, d3] => { results := [.lit (.bool true)], args := [d1, d2, d3] }
  | _ => none }
def acceptorRisesRow : OpenClaim := { program := "ytcokbljlgbcpkaadoor", sum := "5378de9640a3986ed03fc24db9a9d938ccb126750c80c3de73699de108308c12", func := "antiphon/antiphonlaw14.AcceptorRises", spec := "acceptorRises", inPlace := ["internal/bytealg.IndexByteString", "internal/bytealg.IndexString"], unfollowed := true, recurses := true, named := ["unicode/utf8.first", "unicode/utf8.acceptRanges", "internal/bytealg.MaxLen"], apart := false, laid := [("unicode/utf8.acceptRanges", laid_unicode_utf8_acceptRanges), ("unicode/utf8.first", laid_unicode_utf8_first)] }
def AcceptorRisesSaid : Prop := acceptorRisesRow.holds Tryd.pinned (OpenSpec.ofChange acceptorRisesSpec)

/-- ITS FALSE NEIGHBOUR: 'it returns false'. Refute it at one input. -/
def acceptorRisesWrong : ChangeSpec := { name := "acceptorRises", fn := fun _ => fun
  | [d1, d2, d3] => { results := [.lit (.bool false)], args := [d1, d2, d3] }
  | _ => none }
def AcceptorRisesWrongFalsely : Prop := acceptorRisesRow.holds Tryd.pinned (OpenSpec.ofChange acceptorRisesWrong)

/-- 'antiphonlaw14.AcceptorPlays': WHATEVER THE INPUT: true; the input reads as it did. -/
def acceptorPlaysSpec : ChangeSpec := { name := "acceptorPlays", fn := fun _ => fun
  | [d1, d2, d3] => { results := [.lit (.bool true)], args := [d1, d2, d3] }
  | _ => none }
def acceptorPlaysRow : OpenClaim := { program := "ytcokbljlgbcpkaadoor", sum := "5378de9640a3986ed03fc24db9a9d938ccb126750c80c3de73699de108308c12", func := "antiphon/antiphonlaw14.AcceptorPlays", spec := "acceptorPlays", inPlace := ["internal/bytealg.IndexByteString", "internal/bytealg.IndexString"], unfollowed := true, recurses := true, named := ["unicode/utf8.first", "unicode/utf8.acceptRanges", "internal/bytealg.MaxLen"], apart := false, laid := [("unicode/utf8.acceptRanges", laid_unicode_utf8_acceptRanges), ("unicode/utf8.first", laid_unicode_utf8_first)] }
def AcceptorPlaysSaid : Prop := acceptorPlaysRow.holds Tryd.pinned (OpenSpec.ofChange acceptorPlaysSpec)

/-- ITS FALSE NEIGHBOUR: 'it returns false'. Refute it at one input. -/
def acceptorPlaysWrong : ChangeSpec := { name := "acceptorPlays", fn := fun _ => fun
  | [d1, d2, d3] => { results := [.lit (.bool false)], args := [d1, d2, d3] }
  | _ => none }
def AcceptorPlaysWrongFalsely : Prop := acceptorPlaysRow.holds Tryd.pinned (OpenSpec.ofChange acceptorPlaysWrong)

/-- 'antiphonlaw14.AcceptorCopies': WHATEVER THE INPUT: true; the input reads as it did. -/
def acceptorCopiesSpec : ChangeSpec := { name := "acceptorCopies", fn := fun _ => fun
  | [d1, d2, d3, d4, d5] => { results := [.lit (.bool true)], args := [d1, d2, d3, d4, d5] }
  | _ => none }
def acceptorCopiesRow : OpenClaim := { program := "ytcokbljlgbcpkaadoor", sum := "5378de9640a3986ed03fc24db9a9d938ccb126750c80c3de73699de108308c12", func := "antiphon/antiphonlaw14.AcceptorCopies", spec := "acceptorCopies", inPlace := ["internal/bytealg.IndexByteString", "internal/bytealg.IndexString"], unfollowed := true, recurses := true, named := ["unicode/utf8.first", "unicode/utf8.acceptRanges", "internal/bytealg.MaxLen"], apart := false, laid := [("unicode/utf8.acceptRanges", laid_unicode_utf8_acceptRanges), ("unicode/utf8.first", laid_unicode_utf8_first)] }
def AcceptorCopiesSaid : Prop := acceptorCopiesRow.holds Tryd.pinned (OpenSpec.ofChange acceptorCopiesSpec)

/-- ITS FALSE NEIGHBOUR: 'it returns false'. Refute it at one input. -/
def acceptorCopiesWrong : ChangeSpec := { name := "acceptorCopies", fn := fun _ => fun
  | [d1, d2, d3, d4, d5] => { results := [.lit (.bool false)], args := [d1, d2, d3, d4, d5] }
  | _ => none }
def AcceptorCopiesWrongFalsely : Prop := acceptorCopiesRow.holds Tryd.pinned (OpenSpec.ofChange acceptorCopiesWrong)

/-- 'antiphonlaw14.AcceptorOf': WHATEVER THE INPUT: true; the input reads as it did. -/
def acceptorOfSpec : ChangeSpec := { name := "acceptorOf", fn := fun _ => fun
  | [d1, d2, d3, d4, d5] => { results := [.lit (.bool true)], args := [d1, d2, d3, d4, d5] }
  | _ => none }
def acceptorOfRow : OpenClaim := { program := "ytcokbljlgbcpkaadoor", sum := "5378de9640a3986ed03fc24db9a9d938ccb126750c80c3de73699de108308c12", func := "antiphon/antiphonlaw14.AcceptorOf", spec := "acceptorOf", inPlace := ["internal/bytealg.IndexByteString", "internal/bytealg.IndexString"], unfollowed := true, recurses := true, named := ["unicode/utf8.first", "unicode/utf8.acceptRanges", "internal/bytealg.MaxLen"], apart := false, laid := [("unicode/utf8.acceptRanges", laid_unicode_utf8_acceptRanges), ("unicode/utf8.first", laid_unicode_utf8_first)] }
def AcceptorOfSaid : Prop := acceptorOfRow.holds Tryd.pinned (OpenSpec.ofChange acceptorOfSpec)

/-- ITS FALSE NEIGHBOUR: 'it returns false'. Refute it at one input. -/
def acceptorOfWrong : ChangeSpec := { name := "acceptorOf", fn := fun _ => fun
  | [d1, d2, d3, d4, d5] => { results := [.lit (.bool false)], args := [d1, d2, d3, d4, d5] }
  | _ => none }
def AcceptorOfWrongFalsely : Prop := acceptorOfRow.holds Tryd.pinned (OpenSpec.ofChange acceptorOfWrong)

/- THE SECOND FORM. 'bulk': how many values and letters a reading holds, each counted each time it is reached (what is shared counts as often as it is met; a slice's spare places count too). A statement '..UptoSaid' is the law's where the arguments, and the package variables that the reading takes, are together of bulk at most 1048576: NARROWER than '..Said'. Prove '..Said' where nothing that the law and all that it calls make is longer than what came in: it says more and counts as full. Else prove '..UptoSaid'. A law counts once. -/
mutual
def uptoBulk {H : Type} : DataW H → Nat
  | .lit (.string bytes) => bytes.length + 1
  | .lit _ => 1
  | .nil => 1
  | .ptr d => uptoBulk d + 1
  | .slice elems spare => uptoBulkAll elems + uptoBulkAll spare + 1
  | .agg parts => uptoBulkAll parts + 1
  | .iface _ d => uptoBulk d + 1
  | .map entries => uptoBulkEntries entries + 1
  | .held _ => 1
def uptoBulkAll {H : Type} : List (DataW H) → Nat
  | [] => 0
  | d :: r => uptoBulk d + uptoBulkAll r
def uptoBulkEntries {H : Type} : List (Lit × DataW H) → Nat
  | [] => 0
  | x :: r => uptoBulkEntry x + uptoBulkEntries r
def uptoBulkEntry {H : Type} : Lit × DataW H → Nat
  | (.string bytes, d) => bytes.length + uptoBulk d + 1
  | (_, d) => uptoBulk d + 1
 end
def uptoSmall : (H : Type) → List (DataW H) → Bool := fun _ ds => decide (uptoBulkAll ds ≤ 1048576)
def OpenSpec.upto (s : _root_.Go.ChangeSpec) : _root_.Go.OpenSpec := { _root_.Go.OpenSpec.ofChange s with cond := some uptoSmall }

/-- 'antiphonlaw14.AcceptorEntries', WHERE WHAT IT READS IS OF BULK AT MOST 1048576: true; the input reads as it did. -/
def acceptorEntriesUptoRow : OpenClaim := { program := "ytcokbljlgbcpkaadoor", sum := "5378de9640a3986ed03fc24db9a9d938ccb126750c80c3de73699de108308c12", func := "antiphon/antiphonlaw14.AcceptorEntries", spec := "acceptorEntries", inPlace := ["internal/bytealg.IndexByteString", "internal/bytealg.IndexString"], unfollowed := true, recurses := true, named := ["unicode/utf8.first", "unicode/utf8.acceptRanges", "internal/bytealg.MaxLen"], apart := false, laid := [("unicode/utf8.acceptRanges", laid_unicode_utf8_acceptRanges), ("unicode/utf8.first", laid_unicode_utf8_first)], narrowed := true }
def AcceptorEntriesUptoSaid : Prop := acceptorEntriesUptoRow.holds Tryd.pinned (OpenSpec.upto acceptorEntriesSpec)

/-- 'antiphonlaw14.AcceptorRises', WHERE WHAT IT READS IS OF BULK AT MOST 1048576: true; the input reads as it did. -/
def acceptorRisesUptoRow : OpenClaim := { program := "ytcokbljlgbcpkaadoor", sum := "5378de9640a3986ed03fc24db9a9d938ccb126750c80c3de73699de108308c12", func := "antiphon/antiphonlaw14.AcceptorRises", spec := "acceptorRises", inPlace := ["internal/bytealg.IndexByteString", "internal/bytealg.IndexString"], unfollowed := true, recurses := true, named := ["unicode/utf8.first", "unicode/utf8.acceptRanges", "internal/bytealg.MaxLen"], apart := false, laid := [("unicode/utf8.acceptRanges", laid_unicode_utf8_acceptRanges), ("unicode/utf8.first", laid_unicode_utf8_first)], narrowed := true }
def AcceptorRisesUptoSaid : Prop := acceptorRisesUptoRow.holds Tryd.pinned (OpenSpec.upto acceptorRisesSpec)

/-- 'antiphonlaw14.AcceptorPlays', WHERE WHAT IT READS IS OF BULK AT MOST 1048576: true; the input reads as it did. -/
def acceptorPlaysUptoRow : OpenClaim := { program := "ytcokbljlgbcpkaadoor", sum := "5378de9640a3986ed03fc24db9a9d938ccb126750c80c3de73699de108308c12", func := "antiphon/antiphonlaw14.AcceptorPlays", spec := "acceptorPlays", inPlace := ["internal/bytealg.IndexByteString", "internal/bytealg.IndexString"], unfollowed := true, recurses := true, named := ["unicode/utf8.first", "unicode/utf8.acceptRanges", "internal/bytealg.MaxLen"], apart := false, laid := [("unicode/utf8.acceptRanges", laid_unicode_utf8_acceptRanges), ("unicode/utf8.first", laid_unicode_utf8_first)], narrowed := true }
def AcceptorPlaysUptoSaid : Prop := acceptorPlaysUptoRow.holds Tryd.pinned (OpenSpec.upto acceptorPlaysSpec)

/-- 'antiphonlaw14.AcceptorCopies', WHERE WHAT IT READS IS OF BULK AT MOST 1048576: true; the input reads as it did. -/
def acceptorCopiesUptoRow : OpenClaim := { program := "ytcokbljlgbcpkaadoor", sum := "5378de9640a3986ed03fc24db9a9d938ccb126750c80c3de73699de108308c12", func := "antiphon/antiphonlaw14.AcceptorCopies", spec := "acceptorCopies", inPlace := ["internal/bytealg.IndexByteString", "internal/bytealg.IndexString"], unfollowed := true, recurses := true, named := ["unicode/utf8.first", "unicode/utf8.acceptRanges", "internal/bytealg.MaxLen"], apart := false, laid := [("unicode/utf8.acceptRanges", laid_unicode_utf8_acceptRanges), ("unicode/utf8.first", laid_unicode_utf8_first)], narrowed := true }
def AcceptorCopiesUptoSaid : Prop := acceptorCopiesUptoRow.holds Tryd.pinned (OpenSpec.upto acceptorCopiesSpec)

/-- 'antiphonlaw14.AcceptorOf', WHERE WHAT IT READS IS OF BULK AT MOST 1048576: true; the input reads as it did. -/
def acceptorOfUptoRow : OpenClaim := { program := "ytcokbljlgbcpkaadoor", sum := "5378de9640a3986ed03fc24db9a9d938ccb126750c80c3de73699de108308c12", func := "antiphon/antiphonlaw14.AcceptorOf", spec := "acceptorOf", inPlace := ["internal/bytealg.IndexByteString", "internal/bytealg.IndexString"], unfollowed := true, recurses := true, named := ["unicode/utf8.first", "unicode/utf8.acceptRanges", "internal/bytealg.MaxLen"], apart := false, laid := [("unicode/utf8.acceptRanges", laid_unicode_utf8_acceptRanges), ("unicode/utf8.first", laid_unicode_utf8_first)], narrowed := true }
def AcceptorOfUptoSaid : Prop := acceptorOfUptoRow.holds Tryd.pinned (OpenSpec.upto acceptorOfSpec)

end Rows
end Go.Proofs.YtcokbljlgbcpkaaDoor
