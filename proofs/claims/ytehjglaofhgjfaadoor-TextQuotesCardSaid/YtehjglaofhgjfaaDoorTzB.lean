
/- TextQuotes: a text quoted, and the text of a quoted one. -/
import Derived.Test.YtehjglaofhgjfaaDoorTzA
import Derived.Test.YtehjglaofhgjfaaDoorTyG
namespace Go.Proofs.YtehjglaofhgjfaaDoor
set_option linter.unusedSimpArgs false
set_option linter.unusedVariables false
open Go.RowKit
set_option maxRecDepth 100000 in
set_option maxHeartbeats 1000000 in
theorem TextQuotes_walk (s t : ByteArray) (w : World) (hT : Tabs w) (hM : MaxL w) (hs : s.size ≤ 9223372036854775807) (ht : t.size ≤ 9223372036854775807) :
    Calls Tryd.prog 6 #[.string s, .string t] w fun e w' => e = .returned (.bool true) ∧ Below w.heap.size w w' := by
  by_cases h3 : 300 < s.size
  · have hI : (300 : Int) < (s.size : Int) := by omega
    go_enter Tryd.func6, Tryd.ntmps6
    go_wp2_with fail
    refine (works3_any _ hT hM).mono ?_
    rintro e w1 ⟨rfl, hb⟩
    go_wp2_with fail
    go_ret
    exact ⟨rfl, hb⟩
  · have hI : ¬ (300 : Int) < (s.size : Int) := by omega
    by_cases h4 : 300 < t.size
    · have hJ : (300 : Int) < (t.size : Int) := by omega
      go_enter Tryd.func6, Tryd.ntmps6
      go_wp2_with fail
      refine (works3_any _ hT hM).mono ?_
      rintro e w1 ⟨rfl, hb⟩
      go_wp2_with fail
      go_ret
      exact ⟨rfl, hb⟩
    · have hJ : ¬ (300 : Int) < (t.size : Int) := by omega
      have hb := From.refl w
      have cU := fun W => unquote_any t _ rfl (by omega) W
      rw [(rq_eq t).1, (rq_eq t).2] at cU
      have e1 : ((quoteS s).toList == (quoteS s).toList) = true := beq_self_eq_true _
      have e2 : ((rqV t).toList == (rqV t).toList) = true := beq_self_eq_true _
      have cR := fun W => runquote_any t _ rfl (by omega) W
      have cQ := fun W => quote_any s _ rfl (by omega) W
      have cP := fun W => rquote_any s _ rfl (by omega) W
      generalize quoteS s = Q at *
      generalize rqV t = V at *
      generalize rqE t = N at *
      go_enter Tryd.func6, Tryd.ntmps6
      go_wp2_with fail
      refine (cQ _).mono ?_
      rintro e w1 ⟨rfl, hb1⟩
      replace hb := hb.step hb1
      replace hT := hT.step hb1
      replace hM := hM.step hb1
      clear hb1
      go_wp2_with fail
      refine (cU _).mono ?_
      rintro e w2 ⟨rfl, hb1⟩
      replace hb := hb.step hb1
      replace hT := hT.step hb1
      replace hM := hM.step hb1
      clear hb1
      go_wp2_with fail
      refine (cR _).mono ?_
      rintro e w3 ⟨rfl, hb1⟩
      replace hb := hb.step hb1
      replace hT := hT.step hb1
      replace hM := hM.step hb1
      clear hb1
      go_wp2_with fail
      refine (cP _).mono ?_
      rintro e w4 ⟨rfl, rfl⟩
      go_wp2_with fail
      refine (num3_any _ _).mono ?_
      rintro e w5 ⟨rfl, rfl⟩
      go_wp2_with fail
      refine (works3_any _ hT hM).mono ?_
      rintro e w6 ⟨rfl, hb1⟩
      replace hb := hb.step hb1
      go_wp2_with fail
      go_ret
      exact ⟨rfl, hb⟩
end Go.Proofs.YtehjglaofhgjfaaDoor
