
/- Walk of ProposerPlays, the entry as it is opened. -/
import Derived.Test.YtcahkcbenanfnaaGreatDoorPtD
namespace Go.Proofs.YtcahkcbenanfnaaGreatDoor
set_option linter.unusedSimpArgs false
set_option linter.unusedVariables false
open Go.RowKit
theorem plays15_walkz (c sl : Int) (own : Bool) (r p : Int) (z : Int × Int × Int × ByteArray) (x : Option Addr) (len cap : Nat) (w : World) (hT : Tabs w) (hz : z.2.2.2.size ≤ maxLen) (h : ∃ l : List Pa, l.length = len ∧ HasPa w x l ∧ (∀ e, e ∈ l → e.s.size ≤ maxLen) ∧ len ≤ maxLen) :
    Calls Tryz.prog 3 #[.int .i64 c, .int .i64 sl, .bool own, .agg #[.int .i64 r, .int .i64 p], .agg #[.int .i64 z.1, .int .i64 z.2.1, .int .i64 z.2.2.1, .string z.2.2.2], .slice x len cap] w fun r w' => r = .returned (.bool true) ∧ Below w.heap.size w w' :=
  plays15_walkx c sl own r p z.1 z.2.1 z.2.2.1 z.2.2.2 x len cap w hT hz h
end Go.Proofs.YtcahkcbenanfnaaGreatDoor
