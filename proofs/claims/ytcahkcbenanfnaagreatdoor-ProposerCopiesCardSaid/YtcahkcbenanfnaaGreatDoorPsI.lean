
/- Package proposer: Copy, Same. (Printed by gen/gen_psi.py.) -/
import Derived.Test.YtcahkcbenanfnaaGreatDoorPsF
import Derived.Test.YtcahkcbenanfnaaGreatDoorM2
import Derived.Test.YtcahkcbenanfnaaGreatDoorPtA
namespace Go.Proofs.YtcahkcbenanfnaaGreatDoor
set_option linter.unusedSimpArgs false
set_option linter.unusedVariables false
open Go.RowKit
theorem pL_len {A : Prp} (hp : A.pr.length = 9) (ha : A.ac.length = 9) : (prpL A).length = 35 := by simp [prpL, hp, ha]
theorem psize {A : Prp} (hp : A.pr.length = 9) (ha : A.ac.length = 9) : (prpL A).toArray.size = 35 := by rw [List.size_toArray, pL_len hp ha]
theorem pinfo {A : Prp} (hp : A.pr.length = 9) (ha : A.ac.length = 9) : (Tryz.prog.info? 44).map (·.size) = some (prpL A).toArray.size := by
  rw [List.size_toArray, pL_len hp ha]
  kernel_rfl
theorem pone (A : Prp) : (prpL A).toArray.all (·.oneCell') = true := by
  rw [← Array.all_toList, List.all_eq_true]
  intro x hx
  simp only [prpL, List.mem_append, List.mem_cons, List.mem_map, List.not_mem_nil, or_false] at hx
  rcases hx with (h | h | h | h | h) | (⟨b, -, h⟩ | ⟨b, -, h⟩ | h | h | h | h | h | h | h | h | h | h | h | h) <;> (subst h; rfl)
set_option maxRecDepth 100000 in
set_option maxHeartbeats 4000000 in
theorem copy15_any (g : Nat) (A : Prp) (w : World) (hP : PW w g A) (hc : A.c ≠ 0) :
    Calls Tryz.prog 18 #[.pointer (some ⟨g, 0, none⟩)] w fun e w' => (∃ o, e = .returned (.pointer (some ⟨o, 0, none⟩)) ∧ PW w' o A ∧ w.heap.size ≤ o) ∧ Below w.heap.size w w' := by
  have hp := hP.2.1
  have ha := hP.2.2
  have hb := From.refl w
  go_enter Tryz.func18, Tryz.ntmps18
  go_wp2_with fail
  refine (none15_at g A.c false _ (by simp [hc]) hP.cc).mono ?_
  rintro e wx ⟨rfl, rfl⟩
  go_upto_region 3 with fail
  apply wp_region_lit
  refine wpList_pure (v := ?_) rfl ?_ ?_
  rotate_left
  · go_simp
    try with_reducible rfl
  dsimp only [Act.put]
  refine wpList_pure (v := ?_) rfl ?_ ?_
  rotate_left
  · go_simp
    try with_reducible rfl
  dsimp only [Act.put]
  refine wpList_load_row rfl 44 (.tmp 7) rfl g (by kernel_rfl) _ _ (0, 0) _ hP.1 Tryz.underlying44 rfl (pinfo hp ha) ?_
  dsimp only [Act.put]
  refine wpList_plain rfl fun K hK => ?_
  go_simp
  obtain ⟨gN, hgN⟩ : ∃ g, w.heap.size = g := ⟨_, rfl⟩
  have N := Blk.newV hgN 44 #[.int .i64 0, .int .i64 0, .int .i64 0, .int .i64 0, .string ⟨#[]⟩, .bool false, .bool false, .bool false, .bool false, .bool false, .bool false, .bool false, .bool false, .bool false, .bool false, .bool false, .bool false, .bool false, .bool false, .bool false, .bool false, .bool false, .bool false, .int .i64 0, .int .i64 0, .int .i64 0, .int .i64 0, .int .i64 0, .string ⟨#[]⟩, .int .i64 0, .int .i64 0, .int .i64 0, .int .i64 0, .int .i64 0, .int .i64 0]
  have hbn := (Below.refl w.heap.size w).alloc (Nat.le_refl _) (.cells #[.int .i64 0, .int .i64 0, .int .i64 0, .int .i64 0, .string ⟨#[]⟩, .bool false, .bool false, .bool false, .bool false, .bool false, .bool false, .bool false, .bool false, .bool false, .bool false, .bool false, .bool false, .bool false, .bool false, .bool false, .bool false, .bool false, .bool false, .int .i64 0, .int .i64 0, .int .i64 0, .int .i64 0, .int .i64 0, .string ⟨#[]⟩, .int .i64 0, .int .i64 0, .int .i64 0, .int .i64 0, .int .i64 0, .int .i64 0] 44)
  replace hb := hb.step hbn
  refine hK _ _ ?_
  clear hK K hbn
  rw [hgN]
  generalize w.alloc (.cells #[.int .i64 0, .int .i64 0, .int .i64 0, .int .i64 0, .string ⟨#[]⟩, .bool false, .bool false, .bool false, .bool false, .bool false, .bool false, .bool false, .bool false, .bool false, .bool false, .bool false, .bool false, .bool false, .bool false, .bool false, .bool false, .bool false, .bool false, .int .i64 0, .int .i64 0, .int .i64 0, .int .i64 0, .int .i64 0, .string ⟨#[]⟩, .int .i64 0, .int .i64 0, .int .i64 0, .int .i64 0, .int .i64 0, .int .i64 0] 44) = w1 at *
  refine wpList_store_rowTo rfl 44 (.tmp 3) (.tmp 8) rfl rfl gN (prpL A).toArray (by kernel_rfl) (by kernel_rfl) _ _ N (pinfo hp ha) (by rw [psize hp ha]; rfl) (pone _) ?_
  have hkn := kx_row w1 gN (prpL A).toArray
  replace N := N.row (prpL A)
  replace hb := hb.kx hkn (by simp; omega)
  generalize w1.setRow gN (prpL A).toArray = w2 at *
  refine wpList_nil ?_
  go_wp2_with fail
  go_ret
  exact ⟨⟨gN, rfl, ⟨N, hp, ha⟩, by omega⟩, hb⟩
set_option maxRecDepth 100000 in
set_option maxHeartbeats 4000000 in
theorem same15_any (g o : Nat) (A B : Prp) (w : World) (hA : PW w g A) (hB : PW w o B) (hc : A.c ≠ 0) (hc2 : B.c ≠ 0) :
    Calls Tryz.prog 19 #[.pointer (some ⟨g, 0, none⟩), .pointer (some ⟨o, 0, none⟩)] w fun e w' => e = .returned (.bool (eqP A B)) ∧ Below w.heap.size w w' := by
  have heq := fun W => eql_prp A B hA.2.1 hA.2.2 hB.2.1 hB.2.2 W
  obtain ⟨X, hX⟩ : ∃ X, eqP A B = X := ⟨_, rfl⟩
  simp only [hX] at heq ⊢
  clear hX
  have hb := From.refl w
  have hA2 : ∀ W, ExtA w W → W.heap[g]? = some (.cells (prpL A).toArray 44 (0, 0)) := fun W h => (hA.step h).1
  have hB2 : ∀ W, ExtA w W → W.heap[o]? = some (.cells (prpL B).toArray 44 (0, 0)) := fun W h => (hB.step h).1
  have hi1 := pinfo hA.2.1 hA.2.2
  have hi2 := pinfo hB.2.1 hB.2.2
  go_enter Tryz.func19, Tryz.ntmps19
  go_wp2_with fail
  refine (none15_at g A.c false _ (by simp [hc]) hA.cc).mono ?_
  rintro e wx ⟨rfl, rfl⟩
  go_wp2_with fail
  refine (none15_at o B.c false _ (by simp [hc2]) hB.cc).mono ?_
  rintro e wx ⟨rfl, rfl⟩
  go_upto_region 3 with fail
  clear hA hB
  refine wp_region_extB (by kernel_rfl) (by kernel_rfl) ?_
  repeat
    (first
      | go_big_quiet_skip
      | (go_big_quiet_want
         first
           | (first | refine quiet_load_row 44 (.tmp 18) rfl g (by kernel_rfl) _ _ _ hA2 Tryz.underlying44 rfl hi1 ?_ | refine quiet_load_row 44 (.tmp 21) rfl o (by kernel_rfl) _ _ _ hB2 Tryz.underlying44 rfl hi2 ?_
              simp only [Act.put, List.setIfInBounds_toArray, List.set_cons_succ, List.set_cons_zero]
              go_big_quiet_on)
           | (go_big_quiet_op
              first
                | go_big_quiet_on
                | (apply Exists.intro
                   refine ⟨fun w' hC9 => ?_, ?_⟩
                   · (first
                       | with_reducible rfl
                       | fail
                       | (go_simp; done)
                       | (go_simp; with_reducible rfl))
                   go_big_quiet_on))))
  refine wpQuiet_nil ?_
  intro w1 hq
  go_wp2_with fail
  go_ret
  exact ⟨rfl, hq⟩
theorem same15_no1 (p q : Value) (w : World) (hp : NoR w p) (hq : NoR w q) : Calls Tryz.prog 19 #[p, q] w fun e w' => e = .returned (.bool true) ∧ w = w' := by
  go_enter Tryz.func19, Tryz.ntmps19
  go_wp2_with fail
  refine (none15_no p _ hp).mono ?_
  rintro e wx ⟨rfl, rfl⟩
  go_wp2_with fail
  refine (none15_no p _ hp).mono ?_
  rintro e wx ⟨rfl, rfl⟩
  go_wp2_with fail
  refine (none15_no q _ hq).mono ?_
  rintro e wx ⟨rfl, rfl⟩
  go_wp2
  go_ret
  exact ⟨rfl, rfl⟩
theorem same15_no2 (g : Nat) (A : Prp) (q : Value) (w : World) (hA : PW w g A) (hc : A.c ≠ 0) (hq : NoR w q) : Calls Tryz.prog 19 #[.pointer (some ⟨g, 0, none⟩), q] w fun e w' => e = .returned (.bool false) ∧ w = w' := by
  go_enter Tryz.func19, Tryz.ntmps19
  go_wp2_with fail
  refine (none15_at g A.c false _ (by simp [hc]) hA.cc).mono ?_
  rintro e wx ⟨rfl, rfl⟩
  go_wp2_with fail
  refine (none15_no q _ hq).mono ?_
  rintro e wx ⟨rfl, rfl⟩
  go_wp2_with fail
  refine (none15_at g A.c false _ (by simp [hc]) hA.cc).mono ?_
  rintro e wx ⟨rfl, rfl⟩
  go_wp2
  go_ret
  exact ⟨rfl, rfl⟩
theorem same15_no3 (g : Nat) (A : Prp) (q : Value) (w : World) (hA : PW w g A) (hc : A.c ≠ 0) (hq : NoR w q) : Calls Tryz.prog 19 #[q, .pointer (some ⟨g, 0, none⟩)] w fun e w' => e = .returned (.bool false) ∧ w = w' := by
  go_enter Tryz.func19, Tryz.ntmps19
  go_wp2_with fail
  refine (none15_no q _ hq).mono ?_
  rintro e wx ⟨rfl, rfl⟩
  go_wp2_with fail
  refine (none15_no q _ hq).mono ?_
  rintro e wx ⟨rfl, rfl⟩
  go_wp2_with fail
  refine (none15_at g A.c false _ (by simp [hc]) hA.cc).mono ?_
  rintro e wx ⟨rfl, rfl⟩
  go_wp2
  go_ret
  exact ⟨rfl, rfl⟩
end Go.Proofs.YtcahkcbenanfnaaGreatDoor
