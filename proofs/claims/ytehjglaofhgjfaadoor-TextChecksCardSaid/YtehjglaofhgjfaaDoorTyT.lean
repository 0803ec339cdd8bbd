
/- TextChecks: which texts may be said. -/
import Derived.Test.YtehjglaofhgjfaaDoorTyR
namespace Go.Proofs.YtehjglaofhgjfaaDoor
set_option linter.unusedSimpArgs false
set_option linter.unusedVariables false
open Go.RowKit
set_option maxRecDepth 100000 in
set_option maxHeartbeats 1000000 in
theorem TextChecks_walk (s : ByteArray) (w : World) (hT : Tabs w) (hM : MaxL w) (hs : s.size ≤ 9223372036854775807) :
    Calls Tryd.prog 3 #[.string s] w fun e w' => e = .returned (.bool true) ∧ Below w.heap.size w w' := by
  by_cases h3 : 300 < s.size
  · have hI : (300 : Int) < (s.size : Int) := by omega
    go_enter Tryd.func3, Tryd.ntmps3
    go_wp2_with fail
    refine (works3_any _ hT hM).mono ?_
    rintro e w1 ⟨rfl, hb⟩
    go_wp2_with fail
    go_ret
    exact ⟨rfl, hb⟩
  · have hI : ¬ (300 : Int) < (s.size : Int) := by omega
    have hb := From.refl w
    have cC := textCheck_any s (by omega) w hT
    rw [chk_eq] at cC
    go_enter Tryd.func3, Tryd.ntmps3
    go_wp2_with fail
    refine (cC).mono ?_
    rintro e w1 ⟨rfl, hb1⟩
    replace hb := hb.step hb1
    replace hT := hT.step hb1
    replace hM := hM.step hb1
    clear hb1 cC
    go_wp2_with fail
    refine (num3_any _ _).mono ?_
    rintro e wz ⟨rfl, rfl⟩
    go_wp2_with fail
    refine (refCheck3_any s (by omega) _).mono ?_
    rintro e w2 ⟨rfl, hb1⟩
    replace hb := hb.step hb1
    replace hT := hT.step hb1
    replace hM := hM.step hb1
    clear hb1
    go_wp2_with fail
    refine (works3_any _ hT hM).mono ?_
    rintro e w3 ⟨rfl, hb1⟩
    replace hb := hb.step hb1
    go_wp2_with fail
    go_ret
    exact ⟨rfl, hb⟩
end Go.Proofs.YtehjglaofhgjfaaDoor
