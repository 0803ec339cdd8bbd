/-
  No cell of these rows narrows 'for every input' (looked for: loops, veiled, ifaces, maps, wideKeys, modest, calm, conditions, laid).
  DERIVED. THE GIVEN ROWS OF THIS SEAT. 7 by the template 'for every input the law returns true; each argument reads behind the call as it read before'; 0 by the template 'total and deterministic' (their statements: YtfdfmmmfklodgaaTotals.lean).
  GIVEN WITH THE SEED: the statements are not yours to turn. If you find one false, say at which input.
  Laid BY PROGRAM, IN A SANDBOX (cutbox-rows.mjs): the forced cells as the released guide's own fill.sh prints them over the translation dfd5134902edfa4f… (all of the seat's roots in one cut). By AI agents, Wed Nov 11 2026. No macro, syntax, notation, axiom, sorry.
-/
import Derived.Test.YtfdfmmmfklodgaaChecked
import GoSem.Claim
import GoSem.ClaimJoined
import GoSem.ClaimMapViews
import Derived.JoinedTies
import Derived.KernelRfl
namespace Go.Proofs.Ytfdfmmmfklodgaa
/- THE CELL 'sum', in the pinned program and in every row, IS THE sha256 OF THE DUMP (.gsa) THAT YtfdfmmmfklodgaaProg.lean LOADS. Nothing in Lean hashes anything: it is a label: what it is worth is what the hold of that sum in a sandbox is worth. -/
noncomputable def Try.pinned : Pinned := { name := "ytfdfmmmfklodgaa", sum := "dfd5134902edfa4f77505e435d206dbaea4811595659dc90497f9209238b5dad", checked := Try.checked }
namespace Rows
def none {H : Type} : Left H := { results := [], args := [] }

/-- 'antiphonlaw10.WheelFar': WHATEVER THE INPUT: true; the input reads as it did. -/
def wheelFarSpec : ChangeSpec := { name := "wheelFar", fn := fun _ => fun
  | [d1, d2] => { results := [.lit (.bool true)], args := [d1, d2] }
  | _ => none }
def wheelFarRow : OpenClaim := { program := "ytfdfmmmfklodgaa", sum := "dfd5134902edfa4f77505e435d206dbaea4811595659dc90497f9209238b5dad", func := "antiphon/antiphonlaw10.WheelFar", spec := "wheelFar", unfollowed := true, recurses := true, apart := false }
def WheelFarSaid : Prop := wheelFarRow.holds Try.pinned (OpenSpec.ofChange wheelFarSpec)

/-- ITS FALSE NEIGHBOUR: 'it returns false'. Refute it at one input. -/
def wheelFarWrong : ChangeSpec := { name := "wheelFar", fn := fun _ => fun
  | [d1, d2] => { results := [.lit (.bool false)], args := [d1, d2] }
  | _ => none }
def WheelFarWrongFalsely : Prop := wheelFarRow.holds Try.pinned (OpenSpec.ofChange wheelFarWrong)

/-- 'antiphonlaw10.WheelFull': WHATEVER THE INPUT: true; the input reads as it did. -/
def wheelFullSpec : ChangeSpec := { name := "wheelFull", fn := fun _ => fun
  | [d1, d2, d3] => { results := [.lit (.bool true)], args := [d1, d2, d3] }
  | _ => none }
def wheelFullRow : OpenClaim := { program := "ytfdfmmmfklodgaa", sum := "dfd5134902edfa4f77505e435d206dbaea4811595659dc90497f9209238b5dad", func := "antiphon/antiphonlaw10.WheelFull", spec := "wheelFull", unfollowed := true, recurses := true, apart := false }
def WheelFullSaid : Prop := wheelFullRow.holds Try.pinned (OpenSpec.ofChange wheelFullSpec)

/-- ITS FALSE NEIGHBOUR: 'it returns false'. Refute it at one input. -/
def wheelFullWrong : ChangeSpec := { name := "wheelFull", fn := fun _ => fun
  | [d1, d2, d3] => { results := [.lit (.bool false)], args := [d1, d2, d3] }
  | _ => none }
def WheelFullWrongFalsely : Prop := wheelFullRow.holds Try.pinned (OpenSpec.ofChange wheelFullWrong)

/-- 'antiphonlaw10.WheelLeaves': WHATEVER THE INPUT: true; the input reads as it did. -/
def wheelLeavesSpec : ChangeSpec := { name := "wheelLeaves", fn := fun _ => fun
  | [d1, d2, d3] => { results := [.lit (.bool true)], args := [d1, d2, d3] }
  | _ => none }
def wheelLeavesRow : OpenClaim := { program := "ytfdfmmmfklodgaa", sum := "dfd5134902edfa4f77505e435d206dbaea4811595659dc90497f9209238b5dad", func := "antiphon/antiphonlaw10.WheelLeaves", spec := "wheelLeaves", unfollowed := true, recurses := true, apart := false }
def WheelLeavesSaid : Prop := wheelLeavesRow.holds Try.pinned (OpenSpec.ofChange wheelLeavesSpec)

/-- ITS FALSE NEIGHBOUR: 'it returns false'. Refute it at one input. -/
def wheelLeavesWrong : ChangeSpec := { name := "wheelLeaves", fn := fun _ => fun
  | [d1, d2, d3] => { results := [.lit (.bool false)], args := [d1, d2, d3] }
  | _ => none }
def WheelLeavesWrongFalsely : Prop := wheelLeavesRow.holds Try.pinned (OpenSpec.ofChange wheelLeavesWrong)

/-- 'antiphonlaw10.WheelAt': WHATEVER THE INPUT: true; the input reads as it did. -/
def wheelAtSpec : ChangeSpec := { name := "wheelAt", fn := fun _ => fun
  | [d1, d2] => { results := [.lit (.bool true)], args := [d1, d2] }
  | _ => none }
def wheelAtRow : OpenClaim := { program := "ytfdfmmmfklodgaa", sum := "dfd5134902edfa4f77505e435d206dbaea4811595659dc90497f9209238b5dad", func := "antiphon/antiphonlaw10.WheelAt", spec := "wheelAt", unfollowed := true, recurses := true, apart := false }
def WheelAtSaid : Prop := wheelAtRow.holds Try.pinned (OpenSpec.ofChange wheelAtSpec)

/-- ITS FALSE NEIGHBOUR: 'it returns false'. Refute it at one input. -/
def wheelAtWrong : ChangeSpec := { name := "wheelAt", fn := fun _ => fun
  | [d1, d2] => { results := [.lit (.bool false)], args := [d1, d2] }
  | _ => none }
def WheelAtWrongFalsely : Prop := wheelAtRow.holds Try.pinned (OpenSpec.ofChange wheelAtWrong)

/-- 'antiphonlaw10.WheelSplits': WHATEVER THE INPUT: true; the input reads as it did. -/
def wheelSplitsSpec : ChangeSpec := { name := "wheelSplits", fn := fun _ => fun
  | [d1, d2] => { results := [.lit (.bool true)], args := [d1, d2] }
  | _ => none }
def wheelSplitsRow : OpenClaim := { program := "ytfdfmmmfklodgaa", sum := "dfd5134902edfa4f77505e435d206dbaea4811595659dc90497f9209238b5dad", func := "antiphon/antiphonlaw10.WheelSplits", spec := "wheelSplits", unfollowed := true, recurses := true, apart := false }
def WheelSplitsSaid : Prop := wheelSplitsRow.holds Try.pinned (OpenSpec.ofChange wheelSplitsSpec)

/-- ITS FALSE NEIGHBOUR: 'it returns false'. Refute it at one input. -/
def wheelSplitsWrong : ChangeSpec := { name := "wheelSplits", fn := fun _ => fun
  | [d1, d2] => { results := [.lit (.bool false)], args := [d1, d2] }
  | _ => none }
def WheelSplitsWrongFalsely : Prop := wheelSplitsRow.holds Try.pinned (OpenSpec.ofChange wheelSplitsWrong)

/-- 'antiphonlaw10.WheelCopies': WHATEVER THE INPUT: true; the input reads as it did. -/
def wheelCopiesSpec : ChangeSpec := { name := "wheelCopies", fn := fun _ => fun
  | [d1, d2, d3] => { results := [.lit (.bool true)], args := [d1, d2, d3] }
  | _ => none }
def wheelCopiesRow : OpenClaim := { program := "ytfdfmmmfklodgaa", sum := "dfd5134902edfa4f77505e435d206dbaea4811595659dc90497f9209238b5dad", func := "antiphon/antiphonlaw10.WheelCopies", spec := "wheelCopies", inPlace := ["maps.clone"], unfollowed := true, recurses := true, apart := false }
def WheelCopiesSaid : Prop := wheelCopiesRow.holds Try.pinned (OpenSpec.ofChange wheelCopiesSpec)

/-- ITS FALSE NEIGHBOUR: 'it returns false'. Refute it at one input. -/
def wheelCopiesWrong : ChangeSpec := { name := "wheelCopies", fn := fun _ => fun
  | [d1, d2, d3] => { results := [.lit (.bool false)], args := [d1, d2, d3] }
  | _ => none }
def WheelCopiesWrongFalsely : Prop := wheelCopiesRow.holds Try.pinned (OpenSpec.ofChange wheelCopiesWrong)

/-- 'antiphonlaw10.WheelPlays': WHATEVER THE INPUT: true; the input reads as it did. -/
def wheelPlaysSpec : ChangeSpec := { name := "wheelPlays", fn := fun _ => fun
  | [d] => { results := [.lit (.bool true)], args := [d] }
  | _ => none }
def wheelPlaysRow : OpenClaim := { program := "ytfdfmmmfklodgaa", sum := "dfd5134902edfa4f77505e435d206dbaea4811595659dc90497f9209238b5dad", func := "antiphon/antiphonlaw10.WheelPlays", spec := "wheelPlays", inPlace := ["maps.clone"], unfollowed := true, recurses := true, apart := false }
def WheelPlaysSaid : Prop := wheelPlaysRow.holds Try.pinned (OpenSpec.ofChange wheelPlaysSpec)

/-- ITS FALSE NEIGHBOUR: 'it returns false'. Refute it at one input. -/
def wheelPlaysWrong : ChangeSpec := { name := "wheelPlays", fn := fun _ => fun
  | [d] => { results := [.lit (.bool false)], args := [d] }
  | _ => none }
def WheelPlaysWrongFalsely : Prop := wheelPlaysRow.holds Try.pinned (OpenSpec.ofChange wheelPlaysWrong)

/- THE SECOND FORM. 'bulk': how many values and letters a reading holds, each counted each time it is reached (what is shared counts as often as it is met; a slice's spare places count too). A statement '..UptoSaid' is the law's where the arguments, and the package variables that the reading takes, are together of bulk at most 1048576: NARROWER than '..Said'. Prove '..Said' where nothing that the law and all that it calls make is longer than what came in: it says more and counts as full. Else prove '..UptoSaid'. A law counts once. -/
mutual
def uptoBulk {H : Type} : DataW H → Nat
  | .lit (.string bytes) => bytes.length + 1
  | .lit _ => 1
  | .nil => 1
  | .ptr d => uptoBulk d + 1
  | .slice elems spare => uptoBulkAll elems + uptoBulkAll spare + 1
  | .agg parts => uptoBulkAll parts + 1
  | .iface _ d => uptoBulk d + 1
  | .map entries => uptoBulkEntries entries + 1
  | .held _ => 1
def uptoBulkAll {H : Type} : List (DataW H) → Nat
  | [] => 0
  | d :: r => uptoBulk d + uptoBulkAll r
def uptoBulkEntries {H : Type} : List (Lit × DataW H) → Nat
  | [] => 0
  | x :: r => uptoBulkEntry x + uptoBulkEntries r
def uptoBulkEntry {H : Type} : Lit × DataW H → Nat
  | (.string bytes, d) => bytes.length + uptoBulk d + 1
  | (_, d) => uptoBulk d + 1
 end
def uptoSmall : (H : Type) → List (DataW H) → Bool := fun _ ds => decide (uptoBulkAll ds ≤ 1048576)
def OpenSpec.upto (s : _root_.Go.ChangeSpec) : _root_.Go.OpenSpec := { _root_.Go.OpenSpec.ofChange s with cond := some uptoSmall }

/-- 'antiphonlaw10.WheelFar', WHERE WHAT IT READS IS OF BULK AT MOST 1048576: true; the input reads as it did. -/
def wheelFarUptoRow : OpenClaim := { program := "ytfdfmmmfklodgaa", sum := "dfd5134902edfa4f77505e435d206dbaea4811595659dc90497f9209238b5dad", func := "antiphon/antiphonlaw10.WheelFar", spec := "wheelFar", unfollowed := true, recurses := true, apart := false, narrowed := true }
def WheelFarUptoSaid : Prop := wheelFarUptoRow.holds Try.pinned (OpenSpec.upto wheelFarSpec)

/-- 'antiphonlaw10.WheelFull', WHERE WHAT IT READS IS OF BULK AT MOST 1048576: true; the input reads as it did. -/
def wheelFullUptoRow : OpenClaim := { program := "ytfdfmmmfklodgaa", sum := "dfd5134902edfa4f77505e435d206dbaea4811595659dc90497f9209238b5dad", func := "antiphon/antiphonlaw10.WheelFull", spec := "wheelFull", unfollowed := true, recurses := true, apart := false, narrowed := true }
def WheelFullUptoSaid : Prop := wheelFullUptoRow.holds Try.pinned (OpenSpec.upto wheelFullSpec)

/-- 'antiphonlaw10.WheelLeaves', WHERE WHAT IT READS IS OF BULK AT MOST 1048576: true; the input reads as it did. -/
def wheelLeavesUptoRow : OpenClaim := { program := "ytfdfmmmfklodgaa", sum := "dfd5134902edfa4f77505e435d206dbaea4811595659dc90497f9209238b5dad", func := "antiphon/antiphonlaw10.WheelLeaves", spec := "wheelLeaves", unfollowed := true, recurses := true, apart := false, narrowed := true }
def WheelLeavesUptoSaid : Prop := wheelLeavesUptoRow.holds Try.pinned (OpenSpec.upto wheelLeavesSpec)

/-- 'antiphonlaw10.WheelAt', WHERE WHAT IT READS IS OF BULK AT MOST 1048576: true; the input reads as it did. -/
def wheelAtUptoRow : OpenClaim := { program := "ytfdfmmmfklodgaa", sum := "dfd5134902edfa4f77505e435d206dbaea4811595659dc90497f9209238b5dad", func := "antiphon/antiphonlaw10.WheelAt", spec := "wheelAt", unfollowed := true, recurses := true, apart := false, narrowed := true }
def WheelAtUptoSaid : Prop := wheelAtUptoRow.holds Try.pinned (OpenSpec.upto wheelAtSpec)

/-- 'antiphonlaw10.WheelSplits', WHERE WHAT IT READS IS OF BULK AT MOST 1048576: true; the input reads as it did. -/
def wheelSplitsUptoRow : OpenClaim := { program := "ytfdfmmmfklodgaa", sum := "dfd5134902edfa4f77505e435d206dbaea4811595659dc90497f9209238b5dad", func := "antiphon/antiphonlaw10.WheelSplits", spec := "wheelSplits", unfollowed := true, recurses := true, apart := false, narrowed := true }
def WheelSplitsUptoSaid : Prop := wheelSplitsUptoRow.holds Try.pinned (OpenSpec.upto wheelSplitsSpec)

/-- 'antiphonlaw10.WheelCopies', WHERE WHAT IT READS IS OF BULK AT MOST 1048576: true; the input reads as it did. -/
def wheelCopiesUptoRow : OpenClaim := { program := "ytfdfmmmfklodgaa", sum := "dfd5134902edfa4f77505e435d206dbaea4811595659dc90497f9209238b5dad", func := "antiphon/antiphonlaw10.WheelCopies", spec := "wheelCopies", inPlace := ["maps.clone"], unfollowed := true, recurses := true, apart := false, narrowed := true }
def WheelCopiesUptoSaid : Prop := wheelCopiesUptoRow.holds Try.pinned (OpenSpec.upto wheelCopiesSpec)

/-- 'antiphonlaw10.WheelPlays', WHERE WHAT IT READS IS OF BULK AT MOST 1048576: true; the input reads as it did. -/
def wheelPlaysUptoRow : OpenClaim := { program := "ytfdfmmmfklodgaa", sum := "dfd5134902edfa4f77505e435d206dbaea4811595659dc90497f9209238b5dad", func := "antiphon/antiphonlaw10.WheelPlays", spec := "wheelPlays", inPlace := ["maps.clone"], unfollowed := true, recurses := true, apart := false, narrowed := true }
def WheelPlaysUptoSaid : Prop := wheelPlaysUptoRow.holds Try.pinned (OpenSpec.upto wheelPlaysSpec)

end Rows
end Go.Proofs.Ytfdfmmmfklodgaa
