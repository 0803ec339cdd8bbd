
/- 'BallotAbove': the walk over a long slice. -/
import Derived.Test.YtkohpfkgdigaiaaBaS
namespace Go.Proofs.Ytkohpfkgdigaiaa
open Go.RowKit
set_option maxRecDepth 100000 in
set_option maxHeartbeats 1000000 in
theorem BallotAbove_far (c p : Int) (ad : Option Addr) (cap n : Nat) (hm : 20 < n) (w : World) :
    Calls Try.prog 5 #[.int .i64 c, .int .i64 p, .slice ad n cap] w fun e w' => e = .returned (.bool true) ∧ Below w.heap.size w w' := by
  have hm' : (20 : Int) < (n : Int) := by omega
  go_enter Try.func5, Try.ntmps5
  go_wp2_with fail
  refine (works_any _).mono ?_
  rintro e w9 ⟨rfl, b9⟩
  go_wp2_with fail
  go_returns
  exact ⟨rfl, b9⟩
theorem refAbove_N (c p : Int) (w : World) :
    Calls Try.prog 21 #[.int .i64 c, .int .i64 p, .slice none 0 0] w fun e w' => e = .returned (.tuple #[.agg #[.int .i64 (aboveR c p []), .int .i64 (aboveP c p [])], .int .i64 (aboveE c p [])]) ∧ Below w.heap.size w w' := by
  cases hc : chkB c 0 p
  · have hE : aboveE c p [] = 2 := by simp [aboveE, hc]
    have hR : aboveR c p [] = 0 := by simp [aboveR, hE]
    have hP : aboveP c p [] = 0 := by simp [aboveP, hE]
    rw [hE, hR, hP]
    exact refAbove_no c p _ w hc
  · have hr : rightB c = true := by unfold chkB at hc; simp at hc; exact hc.1
    have ho : outR p [] = 1 := by simp [outR, outM, topB, topK, stepB, cmpI, or2, c3]
    have hE : aboveE c p [] = 0 := by simp [aboveE, hc, ho]
    have hR : aboveR c p [] = 1 := by simp [aboveR, hE, ho]
    have hP : aboveP c p [] = p := by simp [aboveP, hE]
    rw [hE, hR, hP]
    exact refAbove_nil c p hr (by rw [← chk_place hr]; exact hc) w
set_option maxRecDepth 100000 in
set_option maxHeartbeats 1000000 in
theorem BallotAbove_nil (c p : Int) (w : World) :
    Calls Try.prog 5 #[.int .i64 c, .int .i64 p, .slice none 0 0] w fun e w' => e = .returned (.bool true) ∧ Below w.heap.size w w' := by
  obtain ⟨i0, hi, hz0, hz1, hz2⟩ := info_parts info_ballot
  go_enter Try.func5, Try.ntmps5
  go_wp2_with (at_builtin; refine wpList_append_lies _ rfl _ _ 40 rfl w.heap.size 23 i0 (.agg #[.int .i64 0, .int .i64 0]) 2 16 Try.underlying40 hi hz0 hz1 hz2 rfl (by decide) (.slice (some ⟨w.heap.size, 0, none⟩) 0 0) 0 [] rfl ((own_empty w 23 2).alloc _) ⟨w.heap.size + 1, 0, none⟩ 1 1 [.int .i64 77, .int .i64 0] rfl rfl (Blk.new' (by simp) 23 [.int .i64 77, .int .i64 0]).news (by simp [Value.oneCell']) (by omega) (by unfold maxLen; omega) (by omega) (by simp; omega) _ rfl ?_)
  intro g cap2 w2 hown2 hgrow2 hat hlt
  have hb2 : Below w.heap.size w w2 := (((Below.refl _ _).alloc (Nat.le_refl _) _).alloc (by simp) _).grown hgrow2 (by simp; omega) (fun k e => by simp [Value.ownBlock] at e; omega)
  have hcap : 0 + 1 ≤ cap2 ∧ w.heap.size ≤ g := by
    rcases hown2.2 with ⟨h, -⟩ | ⟨g', c', cur, h, hg', -, hc', -⟩
    · cases h
    · cases h; exact ⟨hc', hg'⟩
  have hB : HasB w2 g [(77, 0)] := hasB_of_row (n := 0 + 1) hown2 (by simp)
  clear hown2 hgrow2 hat
  obtain ⟨hcap, hgw⟩ := hcap
  have hcap' : (0 : Int) ≤ (cap2 : Int) := by omega
  have hS : SlB w2 (.slice (some ⟨g, 0, none⟩) 0 cap2) [] := .inr ⟨g, cap2, rfl, Nat.zero_le _, fun k h => absurd h (Nat.not_lt_zero _), hlt⟩
  obtain ⟨aR, hR⟩ : ∃ x, aboveR c p [] = x := ⟨_, rfl⟩
  obtain ⟨aP, hP⟩ : ∃ x, aboveP c p [] = x := ⟨_, rfl⟩
  obtain ⟨aE, hE⟩ : ∃ x, aboveE c p [] = x := ⟨_, rfl⟩
  have hA := above_any c p _ [] (by simp) w2 hS
  have hD := fun W => refAbove_N c p W
  rw [hR, hP, hE] at hA
  rw [hR, hP, hE] at hD
  clear hR hP hE hS
  have HA := Lib.hid hA
  clear hA
  have HD := Lib.hid hD
  clear hD
  go_wp2_with fail
  refine (HA.out).mono ?_
  rintro e w3 ⟨rfl, b3⟩
  go_wp2_with fail
  refine (HD.out _).mono ?_
  rintro e w4 ⟨rfl, b4⟩
  have hbb := hb2.trans (b3.mono hb2.size)
  have hbb2 := hbb.alloc hbb.size (.cells #[.int .i64 aR, .int .i64 aP] 23)
  have hbb3 := hbb2.trans (b4.mono hbb2.size)
  have X := ((Blk.new w3 23 [.int .i64 aR, .int .i64 aP]).step b4).alloc (.cells #[.int .i64 aR, .int .i64 aP] 23)
  have hB4 := (((hB.step b3).step ((Below.refl _ _).alloc (Nat.le_refl _) (.cells #[.int .i64 aR, .int .i64 aP] 23))).step b4).step ((Below.refl _ _).alloc (Nat.le_refl _) (.cells #[.int .i64 aR, .int .i64 aP] 23))
  have d7 := (hB4 0 (by simp)).1
  have c0 := X.cell (j := 0) rfl
  have c1 := X.cell (j := 1) rfl
  simp only [Nat.zero_mul, List.getElem_cons_zero] at d7
  clear b3 b4 hbb hbb2 hb2 hlt X hB4 HA HD hB
  have hcap2 : (1 : Int) ≤ (cap2 : Int) := by omega
  go_wp2_with fail
  refine wp_loop_rounds 1 ?_
  rw [rounds_succ]
  go_wp2_with fail
  refine (num_any _ _).mono ?_
  rintro e w' ⟨rfl, rfl⟩
  go_wp2_with fail
  refine (works_any _).mono ?_
  rintro e w9 ⟨rfl, b9⟩
  go_wp2_with fail
  go_returns
  have hb9 := hbb3.alloc hbb3.size (.cells #[.int .i64 aR, .int .i64 aP] 23)
  exact ⟨rfl, hb9.trans (b9.mono hb9.size)⟩
end Go.Proofs.Ytkohpfkgdigaiaa
