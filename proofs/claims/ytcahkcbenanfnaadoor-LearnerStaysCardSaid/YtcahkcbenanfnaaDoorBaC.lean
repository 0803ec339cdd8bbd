
/- Package ballot: the owner's ballot, who may speak; the document's answers on single ballots. -/
import Derived.Test.YtcahkcbenanfnaaDoorBaB
import Derived.Handy
import Derived.Test.YtcahkcbenanfnaaDoorBlk
import Derived.BigGuard
import Derived.Deep.RegionWith
namespace Go.Proofs.YtcahkcbenanfnaaDoor
set_option linter.unusedSimpArgs false
set_option linter.unusedVariables false
open Go.RowKit

set_option maxRecDepth 100000 in
set_option maxHeartbeats 400000 in
theorem bnone_any (w : World) : Calls Tryd.prog 61 #[] w fun e w' => e = .returned (.agg #[.int .i64 (-1), .int .i64 0]) ∧ Below w.heap.size w w' := by
  go_enter Tryd.func61, Tryd.ntmps61
  go_wp2
  go_returns
  exact ⟨rfl, by go_grown⟩
set_option maxRecDepth 100000 in
set_option maxHeartbeats 400000 in
theorem first_at (c s v e : Int) (h1 : ownerI c s = v) (h2 : opErr c s = e) (w : World) : Calls Tryd.prog 51 #[.int .i64 c, .int .i64 s] w fun r w' => r = .returned (.tuple #[.agg #[.int .i64 0, .int .i64 v], .int .i64 e]) ∧ Below w.heap.size w w' := by
  go_enter Tryd.func51, Tryd.ntmps51
  go_wp2_with fail
  refine (owner_at _ _ _ _ h1 h2 _).mono ?_
  rintro e w1 ⟨rfl, b1⟩
  have R := (Blk.new w 37 [.int .i64 0, .int .i64 0]).step b1
  have c0R := R.cell (j := 0) rfl
  have c1R := R.cell (j := 1) rfl
  have z0R := R.frozen 0
  have z1R := R.frozen 1
  go_wp2_with fail
  have R2 := (R.set 0 (.int .i64 0)).set 1 (.int .i64 v)
  have bb : Below w.heap.size w ((w1.setCell ⟨w.heap.size, 0, none⟩ (.int .i64 0)).setCell ⟨w.heap.size, 1, none⟩ (.int .i64 v)) :=
    ((((Below.refl _ _).alloc (Nat.le_refl _) _).trans (b1.mono (by simp))).setCell (p := ⟨w.heap.size, 0, none⟩) (Nat.le_refl _) _).setCell (p := ⟨w.heap.size, 1, none⟩) (Nat.le_refl _) _
  generalize (w1.setCell ⟨w.heap.size, 0, none⟩ (.int .i64 0)).setCell ⟨w.heap.size, 1, none⟩ (.int .i64 v) = w2 at R2 bb ⊢
  clear c0R c1R z0R z1R R
  have c0R2 := R2.cell (j := 0) rfl
  have c1R2 := R2.cell (j := 1) rfl
  have z0R2 := R2.frozen 0
  have z1R2 := R2.frozen 1
  refine bodyPost_ret (v := .tuple #[.agg #[.int .i64 0, .int .i64 v], .int .i64 e]) (by simp [results, Tryd.results51, go_sem, c0R2, c1R2]) rfl ?_
  exact ⟨rfl, bb⟩
theorem less_cmp (r p s q : Int) : (lessB r p s q = true ∧ cmpI r p s q = -1) ∨ (lessB r p s q = false ∧ lessB s q r p = true ∧ cmpI r p s q = 1) ∨ (lessB r p s q = false ∧ lessB s q r p = false ∧ cmpI r p s q = 0) := by
  unfold lessB cmpI or2 c3
  by_cases h1 : r < s
  · simp [h1]
  · by_cases h2 : s < r
    · have : ¬ r = s := by omega
      have : ¬ s = r := by omega
      simp [*]
    · obtain rfl : r = s := by omega
      by_cases h3 : p < q
      · simp [h3]
      · by_cases h4 : q < p
        · simp [h3, h4]
        · simp [h3, h4]
def mayB (c s r p : Int) : Bool := opErr c s == 0 && (chkB c r p && (decide (0 < r) || (r == 0 && p == ownerI c s)))
theorem opErr_cases (c s : Int) : (opErr c s = 0 ∧ rightB c = true ∧ slotB s = true) ∨ (opErr c s ≠ 0 ∧ (rightB c = false ∨ slotB s = false)) := by
  unfold opErr
  cases rightB c <;> cases slotB s <;> simp
theorem chk_bd {c r p : Int} (h : chkB c r p = true) : 3 ≤ c ∧ c ≤ 9 ∧ 0 ≤ r ∧ r ≤ 2147483647 ∧ 0 ≤ p ∧ p < c := by
  unfold chkB at h
  simp only [Bool.and_eq_true] at h
  obtain ⟨h1, h2, h3⟩ := h
  have := right_bd h1
  unfold hiB at h2
  unfold inB at h3
  simp at h2 h3
  omega
set_option maxRecDepth 100000 in
set_option maxHeartbeats 1000000 in
theorem may_any (c s r p : Int) (w : World) : Calls Tryd.prog 25 #[.int .i64 c, .int .i64 s, .agg #[.int .i64 r, .int .i64 p]] w fun e w' => e = .returned (.bool (mayB c s r p)) ∧ Below w.heap.size w w' := by
  obtain ⟨o, ho⟩ : ∃ o, ownerI c s = o := ⟨_, rfl⟩
  obtain ⟨x, hx⟩ : ∃ x, opErr c s = x := ⟨_, rfl⟩
  by_cases he : x = 0
  · subst he
    cases hc : chkB c r p
    · have hv : mayB c s r p = false := by simp [mayB, hc]
      rw [hv]; clear hv
      have hk : chkI c r p = 2 := by simp [chkI, hc]
      have HC := Lib.hid hc
      clear hc
      have HK := Lib.hid hk
      clear hk
      have HO := Lib.hid ho
      clear ho
      have HX := Lib.hid hx
      clear hx
      go_enter Tryd.func25, Tryd.ntmps25
      go_wp2_with fail
      refine (first_at _ _ _ _ HO.out HX.out _).mono ?_
      rintro e w1 ⟨rfl, b1⟩
      have bb : Below w.heap.size w w1 := ((Below.refl _ _).alloc (Nat.le_refl _) _).trans (b1.mono (by simp))
      have R := (Blk.new w 37 [.int .i64 r, .int .i64 p]).step b1
      clear b1
      have c0R := R.cell (j := 0) rfl
      have c1R := R.cell (j := 1) rfl
      have z0R := R.frozen 0
      have z1R := R.frozen 1
      have k0 := keep_alloc c0R
      have k1 := keep_alloc c1R
      go_wp2_with fail
      refine (bcheck_at _ _ _ _ HK.out _).mono ?_
      rintro e w2 ⟨rfl, b2⟩
      go_wp2_with fail
      go_returns
      exact ⟨rfl, (bb.alloc bb.size _).trans (b2.mono (by simp; have := bb.size; omega))⟩
    · obtain ⟨-, -, r0, r1, p0, p1⟩ := chk_bd hc
      have hv : mayB c s r p = (decide (0 < r) || (r == 0 && p == o)) := by simp [mayB, hc, ho, hx]
      rw [hv]; clear hv
      have hk : chkI c r p = 0 := by simp [chkI, hc]
      have HC := Lib.hid hc
      clear hc
      have HK := Lib.hid hk
      clear hk
      have HO := Lib.hid ho
      clear ho
      have HX := Lib.hid hx
      clear hx
      go_enter Tryd.func25, Tryd.ntmps25
      go_wp2_with fail
      refine (first_at _ _ _ _ HO.out HX.out _).mono ?_
      rintro e w1 ⟨rfl, b1⟩
      have bb : Below w.heap.size w w1 := ((Below.refl _ _).alloc (Nat.le_refl _) _).trans (b1.mono (by simp))
      have R := (Blk.new w 37 [.int .i64 r, .int .i64 p]).step b1
      clear b1
      have c0R := R.cell (j := 0) rfl
      have c1R := R.cell (j := 1) rfl
      have z0R := R.frozen 0
      have z1R := R.frozen 1
      have k0 := keep_alloc c0R
      have k1 := keep_alloc c1R
      go_wp2_with fail
      refine (bcheck_at _ _ _ _ HK.out _).mono ?_
      rintro e w2 ⟨rfl, b2⟩
      have bb2 := (bb.alloc bb.size (.cells #[.int .i64 0, .int .i64 o] 37)).trans (b2.mono (by simp; have := bb.size; omega))
      have S := (R.alloc (.cells #[.int .i64 0, .int .i64 o] 37)).step b2
      have Q := (Blk.new w1 37 [.int .i64 0, .int .i64 o]).step b2
      clear k0 k1 c0R c1R z0R z1R R bb b2
      have c0S := S.cell (j := 0) rfl
      have c1S := S.cell (j := 1) rfl
      have z0S := S.frozen 0
      have z1S := S.frozen 1
      have c0Q := Q.cell (j := 0) rfl
      have c1Q := Q.cell (j := 1) rfl
      have z0Q := Q.frozen 0
      have z1Q := Q.frozen 1
      go_wp2_with fail
      all_goals
        go_returns
        exact ⟨ret_bool (by first | rfl | (simp; done) | (rw [Bool.eq_iff_iff]; simp <;> omega)), bb2⟩
  · have hv : mayB c s r p = false := by simp [mayB, hx, he]
    rw [hv]; clear hv
    have HO := Lib.hid ho
    clear ho
    have HX := Lib.hid hx
    clear hx
    go_enter Tryd.func25, Tryd.ntmps25
    go_wp2_with fail
    refine (first_at _ _ _ _ HO.out HX.out _).mono ?_
    rintro e w1 ⟨rfl, b1⟩
    have bb : Below w.heap.size w w1 := ((Below.refl _ _).alloc (Nat.le_refl _) _).trans (b1.mono (by simp))
    go_wp2_with fail
    go_returns
    exact ⟨rfl, bb.alloc bb.size _⟩
theorem may_at (c s r p : Int) (v : Bool) (h : mayB c s r p = v) (w : World) : Calls Tryd.prog 25 #[.int .i64 c, .int .i64 s, .agg #[.int .i64 r, .int .i64 p]] w fun e w' => e = .returned (.bool v) ∧ Below w.heap.size w w' := h ▸ may_any c s r p w

/-! The document's May. -/
theorem cells_kept {w w' : World} (hb : Below w.heap.size w w') : ∀ {b o : Nat} {u : Value}, w.cell? ⟨b, o, none⟩ = some u → w'.cell? ⟨b, o, none⟩ = some u :=
  fun h => (hb.cell (World.block_lt_of_cell? w _ h)).trans h
def refMayB (c s r p : Int) : Bool := rightB c && (slotB s && (chkB c r p && (decide (0 < r) || (r == 0 && p == s % c))))
theorem may_ref (c s r p : Int) : mayB c s r p = refMayB c s r p := by
  unfold mayB refMayB opErr ownerI ofI
  cases rightB c <;> cases slotB s <;> simp
end Go.Proofs.YtcahkcbenanfnaaDoor
