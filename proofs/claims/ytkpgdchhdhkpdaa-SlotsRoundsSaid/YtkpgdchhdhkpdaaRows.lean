/-
  No cell of these rows narrows 'for every input' (looked for: loops, veiled, ifaces, maps, wideKeys, modest, calm, conditions, laid).
  DERIVED. THE GIVEN ROWS OF THIS SEAT. 7 by the template 'for every input the law returns true; each argument reads behind the call as it read before'; 0 by the template 'total and deterministic' (their statements: YtkpgdchhdhkpdaaTotals.lean).
  GIVEN WITH THE SEED: the statements are not yours to turn. If you find one false, say at which input.
  Laid BY PROGRAM, IN A SANDBOX (cutbox-rows.mjs): the forced cells as the released guide's own fill.sh prints them over the translation 3d37f54d7716c52d… (all of the seat's roots in one cut). By AI agents, Wed Nov 11 2026. No macro, syntax, notation, axiom, sorry.
-/
import Derived.Test.YtkpgdchhdhkpdaaChecked
import GoSem.Claim
import GoSem.ClaimJoined
import GoSem.ClaimMapViews
import Derived.JoinedTies
import Derived.KernelRfl
namespace Go.Proofs.Ytkpgdchhdhkpdaa
/- THE CELL 'sum', in the pinned program and in every row, IS THE sha256 OF THE DUMP (.gsa) THAT YtkpgdchhdhkpdaaProg.lean LOADS. Nothing in Lean hashes anything: it is a label: what it is worth is what the hold of that sum in a sandbox is worth. -/
noncomputable def Try.pinned : Pinned := { name := "ytkpgdchhdhkpdaa", sum := "3d37f54d7716c52d66f1731ab4d56e4375d0c385a8714dc677aa0d60e7cd78fb", checked := Try.checked }
namespace Rows
def none {H : Type} : Left H := { results := [], args := [] }

/-- 'antiphonlaw12.SlotsChoirs': WHATEVER THE INPUT: true; the input reads as it did. -/
def slotsChoirsSpec : ChangeSpec := { name := "slotsChoirs", fn := fun _ => fun
  | [d] => { results := [.lit (.bool true)], args := [d] }
  | _ => none }
def slotsChoirsRow : OpenClaim := { program := "ytkpgdchhdhkpdaa", sum := "3d37f54d7716c52d66f1731ab4d56e4375d0c385a8714dc677aa0d60e7cd78fb", func := "antiphon/antiphonlaw12.SlotsChoirs", spec := "slotsChoirs", unfollowed := true, recurses := true, apart := false }
def SlotsChoirsSaid : Prop := slotsChoirsRow.holds Try.pinned (OpenSpec.ofChange slotsChoirsSpec)

/-- ITS FALSE NEIGHBOUR: 'it returns false'. Refute it at one input. -/
def slotsChoirsWrong : ChangeSpec := { name := "slotsChoirs", fn := fun _ => fun
  | [d] => { results := [.lit (.bool false)], args := [d] }
  | _ => none }
def SlotsChoirsWrongFalsely : Prop := slotsChoirsRow.holds Try.pinned (OpenSpec.ofChange slotsChoirsWrong)

/-- 'antiphonlaw12.SlotsOwners': WHATEVER THE INPUT: true; the input reads as it did. -/
def slotsOwnersSpec : ChangeSpec := { name := "slotsOwners", fn := fun _ => fun
  | [d1, d2] => { results := [.lit (.bool true)], args := [d1, d2] }
  | _ => none }
def slotsOwnersRow : OpenClaim := { program := "ytkpgdchhdhkpdaa", sum := "3d37f54d7716c52d66f1731ab4d56e4375d0c385a8714dc677aa0d60e7cd78fb", func := "antiphon/antiphonlaw12.SlotsOwners", spec := "slotsOwners", unfollowed := true, recurses := true, apart := false }
def SlotsOwnersSaid : Prop := slotsOwnersRow.holds Try.pinned (OpenSpec.ofChange slotsOwnersSpec)

/-- ITS FALSE NEIGHBOUR: 'it returns false'. Refute it at one input. -/
def slotsOwnersWrong : ChangeSpec := { name := "slotsOwners", fn := fun _ => fun
  | [d1, d2] => { results := [.lit (.bool false)], args := [d1, d2] }
  | _ => none }
def SlotsOwnersWrongFalsely : Prop := slotsOwnersRow.holds Try.pinned (OpenSpec.ofChange slotsOwnersWrong)

/-- 'antiphonlaw12.SlotsTurns': WHATEVER THE INPUT: true; the input reads as it did. -/
def slotsTurnsSpec : ChangeSpec := { name := "slotsTurns", fn := fun _ => fun
  | [d1, d2, d3] => { results := [.lit (.bool true)], args := [d1, d2, d3] }
  | _ => none }
def slotsTurnsRow : OpenClaim := { program := "ytkpgdchhdhkpdaa", sum := "3d37f54d7716c52d66f1731ab4d56e4375d0c385a8714dc677aa0d60e7cd78fb", func := "antiphon/antiphonlaw12.SlotsTurns", spec := "slotsTurns", unfollowed := true, recurses := true, apart := false }
def SlotsTurnsSaid : Prop := slotsTurnsRow.holds Try.pinned (OpenSpec.ofChange slotsTurnsSpec)

/-- ITS FALSE NEIGHBOUR: 'it returns false'. Refute it at one input. -/
def slotsTurnsWrong : ChangeSpec := { name := "slotsTurns", fn := fun _ => fun
  | [d1, d2, d3] => { results := [.lit (.bool false)], args := [d1, d2, d3] }
  | _ => none }
def SlotsTurnsWrongFalsely : Prop := slotsTurnsRow.holds Try.pinned (OpenSpec.ofChange slotsTurnsWrong)

/-- 'antiphonlaw12.SlotsOwn': WHATEVER THE INPUT: true; the input reads as it did. -/
def slotsOwnSpec : ChangeSpec := { name := "slotsOwn", fn := fun _ => fun
  | [d1, d2, d3, d4, d5] => { results := [.lit (.bool true)], args := [d1, d2, d3, d4, d5] }
  | _ => none }
def slotsOwnRow : OpenClaim := { program := "ytkpgdchhdhkpdaa", sum := "3d37f54d7716c52d66f1731ab4d56e4375d0c385a8714dc677aa0d60e7cd78fb", func := "antiphon/antiphonlaw12.SlotsOwn", spec := "slotsOwn", unfollowed := true, recurses := true, apart := false }
def SlotsOwnSaid : Prop := slotsOwnRow.holds Try.pinned (OpenSpec.ofChange slotsOwnSpec)

/-- ITS FALSE NEIGHBOUR: 'it returns false'. Refute it at one input. -/
def slotsOwnWrong : ChangeSpec := { name := "slotsOwn", fn := fun _ => fun
  | [d1, d2, d3, d4, d5] => { results := [.lit (.bool false)], args := [d1, d2, d3, d4, d5] }
  | _ => none }
def SlotsOwnWrongFalsely : Prop := slotsOwnRow.holds Try.pinned (OpenSpec.ofChange slotsOwnWrong)

/-- 'antiphonlaw12.SlotsMeet': WHATEVER THE INPUT: true; the input reads as it did. -/
def slotsMeetSpec : ChangeSpec := { name := "slotsMeet", fn := fun _ => fun
  | [d1, d2, d3] => { results := [.lit (.bool true)], args := [d1, d2, d3] }
  | _ => none }
def slotsMeetRow : OpenClaim := { program := "ytkpgdchhdhkpdaa", sum := "3d37f54d7716c52d66f1731ab4d56e4375d0c385a8714dc677aa0d60e7cd78fb", func := "antiphon/antiphonlaw12.SlotsMeet", spec := "slotsMeet", unfollowed := true, recurses := true, apart := false }
def SlotsMeetSaid : Prop := slotsMeetRow.holds Try.pinned (OpenSpec.ofChange slotsMeetSpec)

/-- ITS FALSE NEIGHBOUR: 'it returns false'. Refute it at one input. -/
def slotsMeetWrong : ChangeSpec := { name := "slotsMeet", fn := fun _ => fun
  | [d1, d2, d3] => { results := [.lit (.bool false)], args := [d1, d2, d3] }
  | _ => none }
def SlotsMeetWrongFalsely : Prop := slotsMeetRow.holds Try.pinned (OpenSpec.ofChange slotsMeetWrong)

/-- 'antiphonlaw12.SlotsAll': WHATEVER THE INPUT: true; the input reads as it did. -/
def slotsAllSpec : ChangeSpec := { name := "slotsAll", fn := fun _ => fun
  | [d1, d2, d3] => { results := [.lit (.bool true)], args := [d1, d2, d3] }
  | _ => none }
def slotsAllRow : OpenClaim := { program := "ytkpgdchhdhkpdaa", sum := "3d37f54d7716c52d66f1731ab4d56e4375d0c385a8714dc677aa0d60e7cd78fb", func := "antiphon/antiphonlaw12.SlotsAll", spec := "slotsAll", unfollowed := true, recurses := true, apart := false }
def SlotsAllSaid : Prop := slotsAllRow.holds Try.pinned (OpenSpec.ofChange slotsAllSpec)

/-- ITS FALSE NEIGHBOUR: 'it returns false'. Refute it at one input. -/
def slotsAllWrong : ChangeSpec := { name := "slotsAll", fn := fun _ => fun
  | [d1, d2, d3] => { results := [.lit (.bool false)], args := [d1, d2, d3] }
  | _ => none }
def SlotsAllWrongFalsely : Prop := slotsAllRow.holds Try.pinned (OpenSpec.ofChange slotsAllWrong)

/-- 'antiphonlaw12.SlotsRounds': WHATEVER THE INPUT: true; the input reads as it did. -/
def slotsRoundsSpec : ChangeSpec := { name := "slotsRounds", fn := fun _ => fun
  | [d1, d2] => { results := [.lit (.bool true)], args := [d1, d2] }
  | _ => none }
def slotsRoundsRow : OpenClaim := { program := "ytkpgdchhdhkpdaa", sum := "3d37f54d7716c52d66f1731ab4d56e4375d0c385a8714dc677aa0d60e7cd78fb", func := "antiphon/antiphonlaw12.SlotsRounds", spec := "slotsRounds", unfollowed := true, recurses := true, apart := false }
def SlotsRoundsSaid : Prop := slotsRoundsRow.holds Try.pinned (OpenSpec.ofChange slotsRoundsSpec)

/-- ITS FALSE NEIGHBOUR: 'it returns false'. Refute it at one input. -/
def slotsRoundsWrong : ChangeSpec := { name := "slotsRounds", fn := fun _ => fun
  | [d1, d2] => { results := [.lit (.bool false)], args := [d1, d2] }
  | _ => none }
def SlotsRoundsWrongFalsely : Prop := slotsRoundsRow.holds Try.pinned (OpenSpec.ofChange slotsRoundsWrong)

/- THE SECOND FORM. 'bulk': how many values and letters a reading holds, each counted each time it is reached (what is shared counts as often as it is met; a slice's spare places count too). A statement '..UptoSaid' is the law's where the arguments, and the package variables that the reading takes, are together of bulk at most 1048576: NARROWER than '..Said'. Prove '..Said' where nothing that the law and all that it calls make is longer than what came in: it says more and counts as full. Else prove '..UptoSaid'. A law counts once. -/
mutual
def uptoBulk {H : Type} : DataW H → Nat
  | .lit (.string bytes) => bytes.length + 1
  | .lit _ => 1
  | .nil => 1
  | .ptr d => uptoBulk d + 1
  | .slice elems spare => uptoBulkAll elems + uptoBulkAll spare + 1
  | .agg parts => uptoBulkAll parts + 1
  | .iface _ d => uptoBulk d + 1
  | .map entries => uptoBulkEntries entries + 1
  | .held _ => 1
def uptoBulkAll {H : Type} : List (DataW H) → Nat
  | [] => 0
  | d :: r => uptoBulk d + uptoBulkAll r
def uptoBulkEntries {H : Type} : List (Lit × DataW H) → Nat
  | [] => 0
  | x :: r => uptoBulkEntry x + uptoBulkEntries r
def uptoBulkEntry {H : Type} : Lit × DataW H → Nat
  | (.string bytes, d) => bytes.length + uptoBulk d + 1
  | (_, d) => uptoBulk d + 1
 end
def uptoSmall : (H : Type) → List (DataW H) → Bool := fun _ ds => decide (uptoBulkAll ds ≤ 1048576)
def OpenSpec.upto (s : _root_.Go.ChangeSpec) : _root_.Go.OpenSpec := { _root_.Go.OpenSpec.ofChange s with cond := some uptoSmall }

/-- 'antiphonlaw12.SlotsChoirs', WHERE WHAT IT READS IS OF BULK AT MOST 1048576: true; the input reads as it did. -/
def slotsChoirsUptoRow : OpenClaim := { program := "ytkpgdchhdhkpdaa", sum := "3d37f54d7716c52d66f1731ab4d56e4375d0c385a8714dc677aa0d60e7cd78fb", func := "antiphon/antiphonlaw12.SlotsChoirs", spec := "slotsChoirs", unfollowed := true, recurses := true, apart := false, narrowed := true }
def SlotsChoirsUptoSaid : Prop := slotsChoirsUptoRow.holds Try.pinned (OpenSpec.upto slotsChoirsSpec)

/-- 'antiphonlaw12.SlotsOwners', WHERE WHAT IT READS IS OF BULK AT MOST 1048576: true; the input reads as it did. -/
def slotsOwnersUptoRow : OpenClaim := { program := "ytkpgdchhdhkpdaa", sum := "3d37f54d7716c52d66f1731ab4d56e4375d0c385a8714dc677aa0d60e7cd78fb", func := "antiphon/antiphonlaw12.SlotsOwners", spec := "slotsOwners", unfollowed := true, recurses := true, apart := false, narrowed := true }
def SlotsOwnersUptoSaid : Prop := slotsOwnersUptoRow.holds Try.pinned (OpenSpec.upto slotsOwnersSpec)

/-- 'antiphonlaw12.SlotsTurns', WHERE WHAT IT READS IS OF BULK AT MOST 1048576: true; the input reads as it did. -/
def slotsTurnsUptoRow : OpenClaim := { program := "ytkpgdchhdhkpdaa", sum := "3d37f54d7716c52d66f1731ab4d56e4375d0c385a8714dc677aa0d60e7cd78fb", func := "antiphon/antiphonlaw12.SlotsTurns", spec := "slotsTurns", unfollowed := true, recurses := true, apart := false, narrowed := true }
def SlotsTurnsUptoSaid : Prop := slotsTurnsUptoRow.holds Try.pinned (OpenSpec.upto slotsTurnsSpec)

/-- 'antiphonlaw12.SlotsOwn', WHERE WHAT IT READS IS OF BULK AT MOST 1048576: true; the input reads as it did. -/
def slotsOwnUptoRow : OpenClaim := { program := "ytkpgdchhdhkpdaa", sum := "3d37f54d7716c52d66f1731ab4d56e4375d0c385a8714dc677aa0d60e7cd78fb", func := "antiphon/antiphonlaw12.SlotsOwn", spec := "slotsOwn", unfollowed := true, recurses := true, apart := false, narrowed := true }
def SlotsOwnUptoSaid : Prop := slotsOwnUptoRow.holds Try.pinned (OpenSpec.upto slotsOwnSpec)

/-- 'antiphonlaw12.SlotsMeet', WHERE WHAT IT READS IS OF BULK AT MOST 1048576: true; the input reads as it did. -/
def slotsMeetUptoRow : OpenClaim := { program := "ytkpgdchhdhkpdaa", sum := "3d37f54d7716c52d66f1731ab4d56e4375d0c385a8714dc677aa0d60e7cd78fb", func := "antiphon/antiphonlaw12.SlotsMeet", spec := "slotsMeet", unfollowed := true, recurses := true, apart := false, narrowed := true }
def SlotsMeetUptoSaid : Prop := slotsMeetUptoRow.holds Try.pinned (OpenSpec.upto slotsMeetSpec)

/-- 'antiphonlaw12.SlotsAll', WHERE WHAT IT READS IS OF BULK AT MOST 1048576: true; the input reads as it did. -/
def slotsAllUptoRow : OpenClaim := { program := "ytkpgdchhdhkpdaa", sum := "3d37f54d7716c52d66f1731ab4d56e4375d0c385a8714dc677aa0d60e7cd78fb", func := "antiphon/antiphonlaw12.SlotsAll", spec := "slotsAll", unfollowed := true, recurses := true, apart := false, narrowed := true }
def SlotsAllUptoSaid : Prop := slotsAllUptoRow.holds Try.pinned (OpenSpec.upto slotsAllSpec)

/-- 'antiphonlaw12.SlotsRounds', WHERE WHAT IT READS IS OF BULK AT MOST 1048576: true; the input reads as it did. -/
def slotsRoundsUptoRow : OpenClaim := { program := "ytkpgdchhdhkpdaa", sum := "3d37f54d7716c52d66f1731ab4d56e4375d0c385a8714dc677aa0d60e7cd78fb", func := "antiphon/antiphonlaw12.SlotsRounds", spec := "slotsRounds", unfollowed := true, recurses := true, apart := false, narrowed := true }
def SlotsRoundsUptoSaid : Prop := slotsRoundsUptoRow.holds Try.pinned (OpenSpec.upto slotsRoundsSpec)

end Rows
end Go.Proofs.Ytkpgdchhdhkpdaa
