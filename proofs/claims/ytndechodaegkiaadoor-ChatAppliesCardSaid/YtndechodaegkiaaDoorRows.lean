/-
  NARROWER THAN 'FOR EVERY INPUT', by the rows' own cells (each row's printed sentence says how): ChatEnd: laid · ChatHolds: laid · ChatMembers: laid · ChatNews: laid · ChatPages: laid · ChatCopies: laid · ChatApplies: laid.
  DERIVED. THE GIVEN ROWS OF THIS SEAT. 7 by the template 'for every input the law returns true; each argument reads behind the call as it read before'; 0 by the template 'total and deterministic' (their statements: YtndechodaegkiaaDoorTotals.lean).
  GIVEN WITH THE SEED: the statements are not yours to turn. If you find one false, say at which input.
  Laid BY PROGRAM, IN A SANDBOX (cutbox-rows.mjs): the forced cells as the released guide's own fill.sh prints them over the translation 02c167a76b8674b5… (all of the seat's roots in one cut). By AI agents, Wed Nov 11 2026. No macro, syntax, notation, axiom, sorry.
-/
import Derived.Test.YtndechodaegkiaaDoorChecked
import GoSem.PinnedTables
import GoSem.Claim
import GoSem.ClaimJoined
import GoSem.ClaimMapViews
import Derived.JoinedTies
import Derived.KernelRfl
namespace Go.Proofs.YtndechodaegkiaaDoor
/- THE CELL 'sum', in the pinned program and in every row, IS THE sha256 OF THE DUMP (.gsa) THAT YtndechodaegkiaaDoorProg.lean LOADS. Nothing in Lean hashes anything: it is a label: what it is worth is what the hold of that sum in a sandbox is worth. -/
noncomputable def Tryd.pinned : Pinned := { name := "ytndechodaegkiaadoor", sum := "02c167a76b8674b55aba7def94bc04b56811ca38c6c8745e6bc11b0cfcc947a6", checked := Tryd.checked }
namespace Rows
def none {H : Type} : Left H := { results := [], args := [] }

/- WHAT THE LISTED PACKAGE-LEVEL VARIABLES READ AS WHEN THE CALL BEGINS. Each datum BY PROGRAM (the guide's laid-datum.mjs) off the statement by which the dump's own 'gosem.cut.vars' lays the variable. In a bare row this is a premise. The card (YtndechodaegkiaaDoorCards.lean) ties it to the program's text. -/
def laid_unicode_utf8_acceptRanges {H : Type} : DataW H := .agg [.agg [.lit (.int .u8 128), .lit (.int .u8 191)], .agg [.lit (.int .u8 160), .lit (.int .u8 191)], .agg [.lit (.int .u8 128), .lit (.int .u8 159)], .agg [.lit (.int .u8 144), .lit (.int .u8 191)], .agg [.lit (.int .u8 128), .lit (.int .u8 143)], .agg [.lit (.int .u8 0), .lit (.int .u8 0)], .agg [.lit (.int .u8 0), .lit (.int .u8 0)], .agg [.lit (.int .u8 0), .lit (.int .u8 0)], .agg [.lit (.int .u8 0), .lit (.int .u8 0)], .agg [.lit (.int .u8 0), .lit (.int .u8 0)], .agg [.lit (.int .u8 0), .lit (.int .u8 0)], .agg [.lit (.int .u8 0), .lit (.int .u8 0)], .agg [.lit (.int .u8 0), .lit (.int .u8 0)], .agg [.lit (.int .u8 0), .lit (.int .u8 0)], .agg [.lit (.int .u8 0), .lit (.int .u8 0)], .agg [.lit (.int .u8 0), .lit (.int .u8 0)]]
/-- One of Go's own tables, pinned by name: the form's constant. -/
def laid_unicode_utf8_first : DataW Unit := Go.Pinned.utf8First

/-- 'antiphonlaw22.ChatEnd': WHATEVER THE INPUT: true; the input reads as it did. -/
def chatEndSpec : ChangeSpec := { name := "chatEnd", fn := fun _ => fun
  | [d] => { results := [.lit (.bool true)], args := [d] }
  | _ => none }
def chatEndRow : OpenClaim := { program := "ytndechodaegkiaadoor", sum := "02c167a76b8674b55aba7def94bc04b56811ca38c6c8745e6bc11b0cfcc947a6", func := "antiphon/antiphonlaw22.ChatEnd", spec := "chatEnd", inPlace := ["internal/bytealg.IndexByteString", "internal/bytealg.IndexString"], unfollowed := true, recurses := true, named := ["unicode/utf8.first", "unicode/utf8.acceptRanges", "internal/bytealg.MaxLen"], apart := false, laid := [("unicode/utf8.acceptRanges", laid_unicode_utf8_acceptRanges), ("unicode/utf8.first", laid_unicode_utf8_first)] }
def ChatEndSaid : Prop := chatEndRow.holds Tryd.pinned (OpenSpec.ofChange chatEndSpec)

/-- ITS FALSE NEIGHBOUR: 'it returns false'. Refute it at one input. -/
def chatEndWrong : ChangeSpec := { name := "chatEnd", fn := fun _ => fun
  | [d] => { results := [.lit (.bool false)], args := [d] }
  | _ => none }
def ChatEndWrongFalsely : Prop := chatEndRow.holds Tryd.pinned (OpenSpec.ofChange chatEndWrong)

/-- 'antiphonlaw22.ChatHolds': WHATEVER THE INPUT: true; the input reads as it did. -/
def chatHoldsSpec : ChangeSpec := { name := "chatHolds", fn := fun _ => fun
  | [d1, d2, d3] => { results := [.lit (.bool true)], args := [d1, d2, d3] }
  | _ => none }
def chatHoldsRow : OpenClaim := { program := "ytndechodaegkiaadoor", sum := "02c167a76b8674b55aba7def94bc04b56811ca38c6c8745e6bc11b0cfcc947a6", func := "antiphon/antiphonlaw22.ChatHolds", spec := "chatHolds", inPlace := ["internal/bytealg.IndexByteString", "internal/bytealg.IndexString"], unfollowed := true, recurses := true, named := ["unicode/utf8.first", "unicode/utf8.acceptRanges", "internal/bytealg.MaxLen"], apart := false, laid := [("unicode/utf8.acceptRanges", laid_unicode_utf8_acceptRanges), ("unicode/utf8.first", laid_unicode_utf8_first)] }
def ChatHoldsSaid : Prop := chatHoldsRow.holds Tryd.pinned (OpenSpec.ofChange chatHoldsSpec)

/-- ITS FALSE NEIGHBOUR: 'it returns false'. Refute it at one input. -/
def chatHoldsWrong : ChangeSpec := { name := "chatHolds", fn := fun _ => fun
  | [d1, d2, d3] => { results := [.lit (.bool false)], args := [d1, d2, d3] }
  | _ => none }
def ChatHoldsWrongFalsely : Prop := chatHoldsRow.holds Tryd.pinned (OpenSpec.ofChange chatHoldsWrong)

/-- 'antiphonlaw22.ChatMembers': WHATEVER THE INPUT: true; the input reads as it did. -/
def chatMembersSpec : ChangeSpec := { name := "chatMembers", fn := fun _ => fun
  | [d1, d2, d3] => { results := [.lit (.bool true)], args := [d1, d2, d3] }
  | _ => none }
def chatMembersRow : OpenClaim := { program := "ytndechodaegkiaadoor", sum := "02c167a76b8674b55aba7def94bc04b56811ca38c6c8745e6bc11b0cfcc947a6", func := "antiphon/antiphonlaw22.ChatMembers", spec := "chatMembers", inPlace := ["internal/bytealg.IndexByteString", "internal/bytealg.IndexString"], unfollowed := true, recurses := true, named := ["unicode/utf8.first", "unicode/utf8.acceptRanges", "internal/bytealg.MaxLen"], apart := false, laid := [("unicode/utf8.acceptRanges", laid_unicode_utf8_acceptRanges), ("unicode/utf8.first", laid_unicode_utf8_first)] }
def ChatMembersSaid : Prop := chatMembersRow.holds Tryd.pinned (OpenSpec.ofChange chatMembersSpec)

/-- ITS FALSE NEIGHBOUR: 'it returns false'. Refute it at one input. -/
def chatMembersWrong : ChangeSpec := { name := "chatMembers", fn := fun _ => fun
  | [d1, d2, d3] => { results := [.lit (.bool false)], args := [d1, d2, d3] }
  | _ => none }
def ChatMembersWrongFalsely : Prop := chatMembersRow.holds Tryd.pinned (OpenSpec.ofChange chatMembersWrong)

/-- 'antiphonlaw22.ChatNews': WHATEVER THE INPUT: true; the input reads as it did. -/
def chatNewsSpec : ChangeSpec := { name := "chatNews", fn := fun _ => fun
  | [d] => { results := [.lit (.bool true)], args := [d] }
  | _ => none }
def chatNewsRow : OpenClaim := { program := "ytndechodaegkiaadoor", sum := "02c167a76b8674b55aba7def94bc04b56811ca38c6c8745e6bc11b0cfcc947a6", func := "antiphon/antiphonlaw22.ChatNews", spec := "chatNews", inPlace := ["internal/bytealg.IndexByteString", "internal/bytealg.IndexString"], unfollowed := true, recurses := true, named := ["unicode/utf8.first", "unicode/utf8.acceptRanges", "internal/bytealg.MaxLen"], apart := false, laid := [("unicode/utf8.acceptRanges", laid_unicode_utf8_acceptRanges), ("unicode/utf8.first", laid_unicode_utf8_first)] }
def ChatNewsSaid : Prop := chatNewsRow.holds Tryd.pinned (OpenSpec.ofChange chatNewsSpec)

/-- ITS FALSE NEIGHBOUR: 'it returns false'. Refute it at one input. -/
def chatNewsWrong : ChangeSpec := { name := "chatNews", fn := fun _ => fun
  | [d] => { results := [.lit (.bool false)], args := [d] }
  | _ => none }
def ChatNewsWrongFalsely : Prop := chatNewsRow.holds Tryd.pinned (OpenSpec.ofChange chatNewsWrong)

/-- 'antiphonlaw22.ChatPages': WHATEVER THE INPUT: true; the input reads as it did. -/
def chatPagesSpec : ChangeSpec := { name := "chatPages", fn := fun _ => fun
  | [d1, d2, d3, d4, d5] => { results := [.lit (.bool true)], args := [d1, d2, d3, d4, d5] }
  | _ => none }
def chatPagesRow : OpenClaim := { program := "ytndechodaegkiaadoor", sum := "02c167a76b8674b55aba7def94bc04b56811ca38c6c8745e6bc11b0cfcc947a6", func := "antiphon/antiphonlaw22.ChatPages", spec := "chatPages", inPlace := ["internal/bytealg.IndexByteString", "internal/bytealg.IndexString"], unfollowed := true, recurses := true, named := ["unicode/utf8.first", "unicode/utf8.acceptRanges", "internal/bytealg.MaxLen"], apart := false, laid := [("unicode/utf8.acceptRanges", laid_unicode_utf8_acceptRanges), ("unicode/utf8.first", laid_unicode_utf8_first)] }
def ChatPagesSaid : Prop := chatPagesRow.holds Tryd.pinned (OpenSpec.ofChange chatPagesSpec)

/-- ITS FALSE NEIGHBOUR: 'it returns false'. Refute it at one input. -/
def chatPagesWrong : ChangeSpec := { name := "chatPages", fn := fun _ => fun
  | [d1, d2, d3, d4, d5] => { results := [.lit (.bool false)], args := [d1, d2, d3, d4, d5] }
  | _ => none }
def ChatPagesWrongFalsely : Prop := chatPagesRow.holds Tryd.pinned (OpenSpec.ofChange chatPagesWrong)

/-- 'antiphonlaw22.ChatCopies': WHATEVER THE INPUT: true; the input reads as it did. -/
def chatCopiesSpec : ChangeSpec := { name := "chatCopies", fn := fun _ => fun
  | [d1, d2, d3] => { results := [.lit (.bool true)], args := [d1, d2, d3] }
  | _ => none }
def chatCopiesRow : OpenClaim := { program := "ytndechodaegkiaadoor", sum := "02c167a76b8674b55aba7def94bc04b56811ca38c6c8745e6bc11b0cfcc947a6", func := "antiphon/antiphonlaw22.ChatCopies", spec := "chatCopies", inPlace := ["internal/bytealg.IndexByteString", "internal/bytealg.IndexString"], unfollowed := true, recurses := true, named := ["unicode/utf8.first", "unicode/utf8.acceptRanges", "internal/bytealg.MaxLen"], apart := false, laid := [("unicode/utf8.acceptRanges", laid_unicode_utf8_acceptRanges), ("unicode/utf8.first", laid_unicode_utf8_first)] }
def ChatCopiesSaid : Prop := chatCopiesRow.holds Tryd.pinned (OpenSpec.ofChange chatCopiesSpec)

/-- ITS FALSE NEIGHBOUR: 'it returns false'. Refute it at one input. -/
def chatCopiesWrong : ChangeSpec := { name := "chatCopies", fn := fun _ => fun
  | [d1, d2, d3] => { results := [.lit (.bool false)], args := [d1, d2, d3] }
  | _ => none }
def ChatCopiesWrongFalsely : Prop := chatCopiesRow.holds Tryd.pinned (OpenSpec.ofChange chatCopiesWrong)

/-- 'antiphonlaw22.ChatApplies': WHATEVER THE INPUT: true; the input reads as it did. -/
def chatAppliesSpec : ChangeSpec := { name := "chatApplies", fn := fun _ => fun
  | [d1, d2, d3] => { results := [.lit (.bool true)], args := [d1, d2, d3] }
  | _ => none }
def chatAppliesRow : OpenClaim := { program := "ytndechodaegkiaadoor", sum := "02c167a76b8674b55aba7def94bc04b56811ca38c6c8745e6bc11b0cfcc947a6", func := "antiphon/antiphonlaw22.ChatApplies", spec := "chatApplies", inPlace := ["internal/bytealg.IndexByteString", "internal/bytealg.IndexString"], unfollowed := true, recurses := true, named := ["unicode/utf8.first", "unicode/utf8.acceptRanges", "internal/bytealg.MaxLen"], apart := false, laid := [("unicode/utf8.acceptRanges", laid_unicode_utf8_acceptRanges), ("unicode/utf8.first", laid_unicode_utf8_first)] }
def ChatAppliesSaid : Prop := chatAppliesRow.holds Tryd.pinned (OpenSpec.ofChange chatAppliesSpec)

/-- ITS FALSE NEIGHBOUR: 'it returns false'. Refute it at one input. -/
def chatAppliesWrong : ChangeSpec := { name := "chatApplies", fn := fun _ => fun
  | [d1, d2, d3] => { results := [.lit (.bool false)], args := [d1, d2, d3] }
  | _ => none }
def ChatAppliesWrongFalsely : Prop := chatAppliesRow.holds Tryd.pinned (OpenSpec.ofChange chatAppliesWrong)

/- THE SECOND FORM. 'bulk': how many values and letters a reading holds, each counted each time it is reached (what is shared counts as often as it is met; a slice's spare places count too). A statement '..UptoSaid' is the law's where the arguments, and the package variables that the reading takes, are together of bulk at most 1048576: NARROWER than '..Said'. Prove '..Said' where nothing that the law and all that it calls make is longer than what came in: it says more and counts as full. Else prove '..UptoSaid'. A law counts once. -/
mutual
def uptoBulk {H : Type} : DataW H → Nat
  | .lit (.string bytes) => bytes.length + 1
  | .lit _ => 1
  | .nil => 1
  | .ptr d => uptoBulk d + 1
  | .slice elems spare => uptoBulkAll elems + uptoBulkAll spare + 1
  | .agg parts => uptoBulkAll parts + 1
  | .iface _ d => uptoBulk d + 1
  | .map entries => uptoBulkEntries entries + 1
  | .held _ => 1
def uptoBulkAll {H : Type} : List (DataW H) → Nat
  | [] => 0
  | d :: r => uptoBulk d + uptoBulkAll r
def uptoBulkEntries {H : Type} : List (Lit × DataW H) → Nat
  | [] => 0
  | x :: r => uptoBulkEntry x + uptoBulkEntries r
def uptoBulkEntry {H : Type} : Lit × DataW H → Nat
  | (.string bytes, d) => bytes.length + uptoBulk d + 1
  | (_, d) => uptoBulk d + 1
 end
def uptoSmall : (H : Type) → List (DataW H) → Bool := fun _ ds => decide (uptoBulkAll ds ≤ 1048576)
def OpenSpec.upto (s : _root_.Go.ChangeSpec) : _root_.Go.OpenSpec := { _root_.Go.OpenSpec.ofChange s with cond := some uptoSmall }

/-- 'antiphonlaw22.ChatEnd', WHERE WHAT IT READS IS OF BULK AT MOST 1048576: true; the input reads as it did. -/
def chatEndUptoRow : OpenClaim := { program := "ytndechodaegkiaadoor", sum := "02c167a76b8674b55aba7def94bc04b56811ca38c6c8745e6bc11b0cfcc947a6", func := "antiphon/antiphonlaw22.ChatEnd", spec := "chatEnd", inPlace := ["internal/bytealg.IndexByteString", "internal/bytealg.IndexString"], unfollowed := true, recurses := true, named := ["unicode/utf8.first", "unicode/utf8.acceptRanges", "internal/bytealg.MaxLen"], apart := false, laid := [("unicode/utf8.acceptRanges", laid_unicode_utf8_acceptRanges), ("unicode/utf8.first", laid_unicode_utf8_first)], narrowed := true }
def ChatEndUptoSaid : Prop := chatEndUptoRow.holds Tryd.pinned (OpenSpec.upto chatEndSpec)

/-- 'antiphonlaw22.ChatHolds', WHERE WHAT IT READS IS OF BULK AT MOST 1048576: true; the input reads as it did. -/
def chatHoldsUptoRow : OpenClaim := { program := "ytndechodaegkiaadoor", sum := "02c167a76b8674b55aba7def94bc04b56811ca38c6c8745e6bc11b0cfcc947a6", func := "antiphon/antiphonlaw22.ChatHolds", spec := "chatHolds", inPlace := ["internal/bytealg.IndexByteString", "internal/bytealg.IndexString"], unfollowed := true, recurses := true, named := ["unicode/utf8.first", "unicode/utf8.acceptRanges", "internal/bytealg.MaxLen"], apart := false, laid := [("unicode/utf8.acceptRanges", laid_unicode_utf8_acceptRanges), ("unicode/utf8.first", laid_unicode_utf8_first)], narrowed := true }
def ChatHoldsUptoSaid : Prop := chatHoldsUptoRow.holds Tryd.pinned (OpenSpec.upto chatHoldsSpec)

/-- 'antiphonlaw22.ChatMembers', WHERE WHAT IT READS IS OF BULK AT MOST 1048576: true; the input reads as it did. -/
def chatMembersUptoRow : OpenClaim := { program := "ytndechodaegkiaadoor", sum := "02c167a76b8674b55aba7def94bc04b56811ca38c6c8745e6bc11b0cfcc947a6", func := "antiphon/antiphonlaw22.ChatMembers", spec := "chatMembers", inPlace := ["internal/bytealg.IndexByteString", "internal/bytealg.IndexString"], unfollowed := true, recurses := true, named := ["unicode/utf8.first", "unicode/utf8.acceptRanges", "internal/bytealg.MaxLen"], apart := false, laid := [("unicode/utf8.acceptRanges", laid_unicode_utf8_acceptRanges), ("unicode/utf8.first", laid_unicode_utf8_first)], narrowed := true }
def ChatMembersUptoSaid : Prop := chatMembersUptoRow.holds Tryd.pinned (OpenSpec.upto chatMembersSpec)

/-- 'antiphonlaw22.ChatNews', WHERE WHAT IT READS IS OF BULK AT MOST 1048576: true; the input reads as it did. -/
def chatNewsUptoRow : OpenClaim := { program := "ytndechodaegkiaadoor", sum := "02c167a76b8674b55aba7def94bc04b56811ca38c6c8745e6bc11b0cfcc947a6", func := "antiphon/antiphonlaw22.ChatNews", spec := "chatNews", inPlace := ["internal/bytealg.IndexByteString", "internal/bytealg.IndexString"], unfollowed := true, recurses := true, named := ["unicode/utf8.first", "unicode/utf8.acceptRanges", "internal/bytealg.MaxLen"], apart := false, laid := [("unicode/utf8.acceptRanges", laid_unicode_utf8_acceptRanges), ("unicode/utf8.first", laid_unicode_utf8_first)], narrowed := true }
def ChatNewsUptoSaid : Prop := chatNewsUptoRow.holds Tryd.pinned (OpenSpec.upto chatNewsSpec)

/-- 'antiphonlaw22.ChatPages', WHERE WHAT IT READS IS OF BULK AT MOST 1048576: true; the input reads as it did. -/
def chatPagesUptoRow : OpenClaim := { program := "ytndechodaegkiaadoor", sum := "02c167a76b8674b55aba7def94bc04b56811ca38c6c8745e6bc11b0cfcc947a6", func := "antiphon/antiphonlaw22.ChatPages", spec := "chatPages", inPlace := ["internal/bytealg.IndexByteString", "internal/bytealg.IndexString"], unfollowed := true, recurses := true, named := ["unicode/utf8.first", "unicode/utf8.acceptRanges", "internal/bytealg.MaxLen"], apart := false, laid := [("unicode/utf8.acceptRanges", laid_unicode_utf8_acceptRanges), ("unicode/utf8.first", laid_unicode_utf8_first)], narrowed := true }
def ChatPagesUptoSaid : Prop := chatPagesUptoRow.holds Tryd.pinned (OpenSpec.upto chatPagesSpec)

/-- 'antiphonlaw22.ChatCopies', WHERE WHAT IT READS IS OF BULK AT MOST 1048576: true; the input reads as it did. -/
def chatCopiesUptoRow : OpenClaim := { program := "ytndechodaegkiaadoor", sum := "02c167a76b8674b55aba7def94bc04b56811ca38c6c8745e6bc11b0cfcc947a6", func := "antiphon/antiphonlaw22.ChatCopies", spec := "chatCopies", inPlace := ["internal/bytealg.IndexByteString", "internal/bytealg.IndexString"], unfollowed := true, recurses := true, named := ["unicode/utf8.first", "unicode/utf8.acceptRanges", "internal/bytealg.MaxLen"], apart := false, laid := [("unicode/utf8.acceptRanges", laid_unicode_utf8_acceptRanges), ("unicode/utf8.first", laid_unicode_utf8_first)], narrowed := true }
def ChatCopiesUptoSaid : Prop := chatCopiesUptoRow.holds Tryd.pinned (OpenSpec.upto chatCopiesSpec)

/-- 'antiphonlaw22.ChatApplies', WHERE WHAT IT READS IS OF BULK AT MOST 1048576: true; the input reads as it did. -/
def chatAppliesUptoRow : OpenClaim := { program := "ytndechodaegkiaadoor", sum := "02c167a76b8674b55aba7def94bc04b56811ca38c6c8745e6bc11b0cfcc947a6", func := "antiphon/antiphonlaw22.ChatApplies", spec := "chatApplies", inPlace := ["internal/bytealg.IndexByteString", "internal/bytealg.IndexString"], unfollowed := true, recurses := true, named := ["unicode/utf8.first", "unicode/utf8.acceptRanges", "internal/bytealg.MaxLen"], apart := false, laid := [("unicode/utf8.acceptRanges", laid_unicode_utf8_acceptRanges), ("unicode/utf8.first", laid_unicode_utf8_first)], narrowed := true }
def ChatAppliesUptoSaid : Prop := chatAppliesUptoRow.holds Tryd.pinned (OpenSpec.upto chatAppliesSpec)

end Rows
end Go.Proofs.YtndechodaegkiaaDoor
