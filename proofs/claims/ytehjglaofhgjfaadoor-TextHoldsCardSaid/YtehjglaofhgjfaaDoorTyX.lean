
/- TextNamed: who is named in a text. -/
import Derived.Test.YtehjglaofhgjfaaDoorTyW
namespace Go.Proofs.YtehjglaofhgjfaaDoor
set_option linter.unusedSimpArgs false
set_option linter.unusedVariables false
open Go.RowKit
set_option maxRecDepth 100000 in
set_option maxHeartbeats 1000000 in
theorem TextNamed_walk (s : ByteArray) (w : World) (hT : Tabs w) (hM : MaxL w) (hs : s.size ≤ 9223372036854775807) :
    Calls Tryd.prog 4 #[.string s] w fun e w' => e = .returned (.bool true) ∧ Below w.heap.size w w' := by
  by_cases h3 : 300 < s.size
  · have hI : (300 : Int) < (s.size : Int) := by omega
    go_enter Tryd.func4, Tryd.ntmps4
    go_wp2_with fail
    refine (works3_any _ hT hM).mono ?_
    rintro e w1 ⟨rfl, hb⟩
    go_wp2_with fail
    go_ret
    exact ⟨rfl, hb⟩
  · have hI : ¬ (300 : Int) < (s.size : Int) := by omega
    have hb := From.refl w
    have hl : (namedL s.data.toList).length ≤ 9000000 := by
      have h1 := nms_len s.data.toList false
      have h2 := nubF_len (nms false s.data.toList) []
      rw [← Lib.size_eq] at h1
      simp at h2
      unfold namedL
      omega
    go_enter Tryd.func4, Tryd.ntmps4
    go_wp2_with fail
    refine (named_any2 s (by omega) _).mono ?_
    rintro e w1 ⟨⟨v, rfl, hO⟩, hb1⟩
    have hS := hO.strS
    replace hb := hb.step hb1
    replace hT := hT.step hb1
    replace hM := hM.step hb1
    clear hb1 hO
    go_wp2_with fail
    refine (rnamed_any s _ rfl (by omega) _).mono ?_
    rintro e w2 ⟨⟨v2, rfl, hO⟩, hb1⟩
    have hS2 := hO.strS
    replace hS := hS.step hb1
    replace hb := hb.step hb1
    replace hT := hT.step hb1
    replace hM := hM.step hb1
    clear hb1 hO
    go_wp2_with fail
    refine (same_yes _ _ _ _ hS hS2 hl).mono ?_
    rintro e w3 ⟨rfl, hb1⟩
    replace hb := hb.step hb1
    replace hT := hT.step hb1
    replace hM := hM.step hb1
    clear hb1 hS hS2
    go_wp2_with fail
    refine (num3_any _ _).mono ?_
    rintro e wz ⟨rfl, rfl⟩
    go_wp2_with fail
    refine (works3_any _ hT hM).mono ?_
    rintro e w5 ⟨rfl, hb1⟩
    replace hb := hb.step hb1
    go_wp2_with fail
    go_ret
    exact ⟨rfl, hb⟩
end Go.Proofs.YtehjglaofhgjfaaDoor
