/-
  No cell of these rows narrows 'for every input' (looked for: loops, veiled, ifaces, maps, wideKeys, modest, calm, conditions, laid).
  DERIVED. THE GIVEN ROWS OF THIS SEAT. 5 by the template 'for every input the law returns true; each argument reads behind the call as it read before'; 0 by the template 'total and deterministic' (their statements: YtkohpfkgdigaiaaTotals.lean).
  GIVEN WITH THE SEED: the statements are not yours to turn. If you find one false, say at which input.
  Laid BY PROGRAM, IN A SANDBOX (cutbox-rows.mjs): the forced cells as the released guide's own fill.sh prints them over the translation fa062370854a9b45… (all of the seat's roots in one cut). By AI agents, Wed Nov 11 2026. No macro, syntax, notation, axiom, sorry.
-/
import Derived.Test.YtkohpfkgdigaiaaChecked
import GoSem.Claim
import GoSem.ClaimJoined
import GoSem.ClaimMapViews
import Derived.JoinedTies
import Derived.KernelRfl
namespace Go.Proofs.Ytkohpfkgdigaiaa
/- THE CELL 'sum', in the pinned program and in every row, IS THE sha256 OF THE DUMP (.gsa) THAT YtkohpfkgdigaiaaProg.lean LOADS. Nothing in Lean hashes anything: it is a label: what it is worth is what the hold of that sum in a sandbox is worth. -/
noncomputable def Try.pinned : Pinned := { name := "ytkohpfkgdigaiaa", sum := "fa062370854a9b459402d15b2980f1d09a7e0b52cefcd5bf548a88defaf9d92d", checked := Try.checked }
namespace Rows
def none {H : Type} : Left H := { results := [], args := [] }

/-- 'antiphonlaw13.BallotOrders': WHATEVER THE INPUT: true; the input reads as it did. -/
def ballotOrdersSpec : ChangeSpec := { name := "ballotOrders", fn := fun _ => fun
  | [d1, d2, d3] => { results := [.lit (.bool true)], args := [d1, d2, d3] }
  | _ => none }
def ballotOrdersRow : OpenClaim := { program := "ytkohpfkgdigaiaa", sum := "fa062370854a9b459402d15b2980f1d09a7e0b52cefcd5bf548a88defaf9d92d", func := "antiphon/antiphonlaw13.BallotOrders", spec := "ballotOrders", unfollowed := true, recurses := true, apart := false }
def BallotOrdersSaid : Prop := ballotOrdersRow.holds Try.pinned (OpenSpec.ofChange ballotOrdersSpec)

/-- ITS FALSE NEIGHBOUR: 'it returns false'. Refute it at one input. -/
def ballotOrdersWrong : ChangeSpec := { name := "ballotOrders", fn := fun _ => fun
  | [d1, d2, d3] => { results := [.lit (.bool false)], args := [d1, d2, d3] }
  | _ => none }
def BallotOrdersWrongFalsely : Prop := ballotOrdersRow.holds Try.pinned (OpenSpec.ofChange ballotOrdersWrong)

/-- 'antiphonlaw13.BallotFirst': WHATEVER THE INPUT: true; the input reads as it did. -/
def ballotFirstSpec : ChangeSpec := { name := "ballotFirst", fn := fun _ => fun
  | [d1, d2, d3] => { results := [.lit (.bool true)], args := [d1, d2, d3] }
  | _ => none }
def ballotFirstRow : OpenClaim := { program := "ytkohpfkgdigaiaa", sum := "fa062370854a9b459402d15b2980f1d09a7e0b52cefcd5bf548a88defaf9d92d", func := "antiphon/antiphonlaw13.BallotFirst", spec := "ballotFirst", unfollowed := true, recurses := true, apart := false }
def BallotFirstSaid : Prop := ballotFirstRow.holds Try.pinned (OpenSpec.ofChange ballotFirstSpec)

/-- ITS FALSE NEIGHBOUR: 'it returns false'. Refute it at one input. -/
def ballotFirstWrong : ChangeSpec := { name := "ballotFirst", fn := fun _ => fun
  | [d1, d2, d3] => { results := [.lit (.bool false)], args := [d1, d2, d3] }
  | _ => none }
def BallotFirstWrongFalsely : Prop := ballotFirstRow.holds Try.pinned (OpenSpec.ofChange ballotFirstWrong)

/-- 'antiphonlaw13.BallotAbove': WHATEVER THE INPUT: true; the input reads as it did. -/
def ballotAboveSpec : ChangeSpec := { name := "ballotAbove", fn := fun _ => fun
  | [d1, d2, d3] => { results := [.lit (.bool true)], args := [d1, d2, d3] }
  | _ => none }
def ballotAboveRow : OpenClaim := { program := "ytkohpfkgdigaiaa", sum := "fa062370854a9b459402d15b2980f1d09a7e0b52cefcd5bf548a88defaf9d92d", func := "antiphon/antiphonlaw13.BallotAbove", spec := "ballotAbove", unfollowed := true, recurses := true, apart := false }
def BallotAboveSaid : Prop := ballotAboveRow.holds Try.pinned (OpenSpec.ofChange ballotAboveSpec)

/-- ITS FALSE NEIGHBOUR: 'it returns false'. Refute it at one input. -/
def ballotAboveWrong : ChangeSpec := { name := "ballotAbove", fn := fun _ => fun
  | [d1, d2, d3] => { results := [.lit (.bool false)], args := [d1, d2, d3] }
  | _ => none }
def BallotAboveWrongFalsely : Prop := ballotAboveRow.holds Try.pinned (OpenSpec.ofChange ballotAboveWrong)

/-- 'antiphonlaw13.BallotMeets': WHATEVER THE INPUT: true; the input reads as it did. -/
def ballotMeetsSpec : ChangeSpec := { name := "ballotMeets", fn := fun _ => fun
  | [d1, d2, d3, d4, d5, d6] => { results := [.lit (.bool true)], args := [d1, d2, d3, d4, d5, d6] }
  | _ => none }
def ballotMeetsRow : OpenClaim := { program := "ytkohpfkgdigaiaa", sum := "fa062370854a9b459402d15b2980f1d09a7e0b52cefcd5bf548a88defaf9d92d", func := "antiphon/antiphonlaw13.BallotMeets", spec := "ballotMeets", unfollowed := true, recurses := true, apart := false }
def BallotMeetsSaid : Prop := ballotMeetsRow.holds Try.pinned (OpenSpec.ofChange ballotMeetsSpec)

/-- ITS FALSE NEIGHBOUR: 'it returns false'. Refute it at one input. -/
def ballotMeetsWrong : ChangeSpec := { name := "ballotMeets", fn := fun _ => fun
  | [d1, d2, d3, d4, d5, d6] => { results := [.lit (.bool false)], args := [d1, d2, d3, d4, d5, d6] }
  | _ => none }
def BallotMeetsWrongFalsely : Prop := ballotMeetsRow.holds Try.pinned (OpenSpec.ofChange ballotMeetsWrong)

/-- 'antiphonlaw13.BallotCopies': WHATEVER THE INPUT: true; the input reads as it did. -/
def ballotCopiesSpec : ChangeSpec := { name := "ballotCopies", fn := fun _ => fun
  | [d1, d2, d3, d4] => { results := [.lit (.bool true)], args := [d1, d2, d3, d4] }
  | _ => none }
def ballotCopiesRow : OpenClaim := { program := "ytkohpfkgdigaiaa", sum := "fa062370854a9b459402d15b2980f1d09a7e0b52cefcd5bf548a88defaf9d92d", func := "antiphon/antiphonlaw13.BallotCopies", spec := "ballotCopies", unfollowed := true, recurses := true, apart := false }
def BallotCopiesSaid : Prop := ballotCopiesRow.holds Try.pinned (OpenSpec.ofChange ballotCopiesSpec)

/-- ITS FALSE NEIGHBOUR: 'it returns false'. Refute it at one input. -/
def ballotCopiesWrong : ChangeSpec := { name := "ballotCopies", fn := fun _ => fun
  | [d1, d2, d3, d4] => { results := [.lit (.bool false)], args := [d1, d2, d3, d4] }
  | _ => none }
def BallotCopiesWrongFalsely : Prop := ballotCopiesRow.holds Try.pinned (OpenSpec.ofChange ballotCopiesWrong)

/- THE SECOND FORM. 'bulk': how many values and letters a reading holds, each counted each time it is reached (what is shared counts as often as it is met; a slice's spare places count too). A statement '..UptoSaid' is the law's where the arguments, and the package variables that the reading takes, are together of bulk at most 1048576: NARROWER than '..Said'. Prove '..Said' where nothing that the law and all that it calls make is longer than what came in: it says more and counts as full. Else prove '..UptoSaid'. A law counts once. -/
mutual
def uptoBulk {H : Type} : DataW H → Nat
  | .lit (.string bytes) => bytes.length + 1
  | .lit _ => 1
  | .nil => 1
  | .ptr d => uptoBulk d + 1
  | .slice elems spare => uptoBulkAll elems + uptoBulkAll spare + 1
  | .agg parts => uptoBulkAll parts + 1
  | .iface _ d => uptoBulk d + 1
  | .map entries => uptoBulkEntries entries + 1
  | .held _ => 1
def uptoBulkAll {H : Type} : List (DataW H) → Nat
  | [] => 0
  | d :: r => uptoBulk d + uptoBulkAll r
def uptoBulkEntries {H : Type} : List (Lit × DataW H) → Nat
  | [] => 0
  | x :: r => uptoBulkEntry x + uptoBulkEntries r
def uptoBulkEntry {H : Type} : Lit × DataW H → Nat
  | (.string bytes, d) => bytes.length + uptoBulk d + 1
  | (_, d) => uptoBulk d + 1
 end
def uptoSmall : (H : Type) → List (DataW H) → Bool := fun _ ds => decide (uptoBulkAll ds ≤ 1048576)
def OpenSpec.upto (s : _root_.Go.ChangeSpec) : _root_.Go.OpenSpec := { _root_.Go.OpenSpec.ofChange s with cond := some uptoSmall }

/-- 'antiphonlaw13.BallotOrders', WHERE WHAT IT READS IS OF BULK AT MOST 1048576: true; the input reads as it did. -/
def ballotOrdersUptoRow : OpenClaim := { program := "ytkohpfkgdigaiaa", sum := "fa062370854a9b459402d15b2980f1d09a7e0b52cefcd5bf548a88defaf9d92d", func := "antiphon/antiphonlaw13.BallotOrders", spec := "ballotOrders", unfollowed := true, recurses := true, apart := false, narrowed := true }
def BallotOrdersUptoSaid : Prop := ballotOrdersUptoRow.holds Try.pinned (OpenSpec.upto ballotOrdersSpec)

/-- 'antiphonlaw13.BallotFirst', WHERE WHAT IT READS IS OF BULK AT MOST 1048576: true; the input reads as it did. -/
def ballotFirstUptoRow : OpenClaim := { program := "ytkohpfkgdigaiaa", sum := "fa062370854a9b459402d15b2980f1d09a7e0b52cefcd5bf548a88defaf9d92d", func := "antiphon/antiphonlaw13.BallotFirst", spec := "ballotFirst", unfollowed := true, recurses := true, apart := false, narrowed := true }
def BallotFirstUptoSaid : Prop := ballotFirstUptoRow.holds Try.pinned (OpenSpec.upto ballotFirstSpec)

/-- 'antiphonlaw13.BallotAbove', WHERE WHAT IT READS IS OF BULK AT MOST 1048576: true; the input reads as it did. -/
def ballotAboveUptoRow : OpenClaim := { program := "ytkohpfkgdigaiaa", sum := "fa062370854a9b459402d15b2980f1d09a7e0b52cefcd5bf548a88defaf9d92d", func := "antiphon/antiphonlaw13.BallotAbove", spec := "ballotAbove", unfollowed := true, recurses := true, apart := false, narrowed := true }
def BallotAboveUptoSaid : Prop := ballotAboveUptoRow.holds Try.pinned (OpenSpec.upto ballotAboveSpec)

/-- 'antiphonlaw13.BallotMeets', WHERE WHAT IT READS IS OF BULK AT MOST 1048576: true; the input reads as it did. -/
def ballotMeetsUptoRow : OpenClaim := { program := "ytkohpfkgdigaiaa", sum := "fa062370854a9b459402d15b2980f1d09a7e0b52cefcd5bf548a88defaf9d92d", func := "antiphon/antiphonlaw13.BallotMeets", spec := "ballotMeets", unfollowed := true, recurses := true, apart := false, narrowed := true }
def BallotMeetsUptoSaid : Prop := ballotMeetsUptoRow.holds Try.pinned (OpenSpec.upto ballotMeetsSpec)

/-- 'antiphonlaw13.BallotCopies', WHERE WHAT IT READS IS OF BULK AT MOST 1048576: true; the input reads as it did. -/
def ballotCopiesUptoRow : OpenClaim := { program := "ytkohpfkgdigaiaa", sum := "fa062370854a9b459402d15b2980f1d09a7e0b52cefcd5bf548a88defaf9d92d", func := "antiphon/antiphonlaw13.BallotCopies", spec := "ballotCopies", unfollowed := true, recurses := true, apart := false, narrowed := true }
def BallotCopiesUptoSaid : Prop := ballotCopiesUptoRow.holds Try.pinned (OpenSpec.upto ballotCopiesSpec)

end Rows
end Go.Proofs.Ytkohpfkgdigaiaa
