
/- Package chat: Same. -/
import Derived.Test.YtndechodaegkiaaDoorChCd
namespace Go.Proofs.YtndechodaegkiaaDoor
open Go.RowKit
theorem info_stsz : (Tryd.prog.info? 77).map (·.size) = some 48 := by kernel_rfl
theorem quiet_load_mid {P : Program} {C : World → Prop} {o : Oper} {a : Act} {K : Act → Prop} (ty : TypeId) (x : Operand) (ho : o.op = .load ty x) (b q : Nat) (hx : a.eval x = .pointer (some ⟨b, q, none⟩)) (cs : List Value) (d : TypeDesc)
    (hS : ∀ w, C w → w.rangeAt b q cs) (hu : P.underlying ty = some d) (hd : d.isRow = true) (hi : (P.info? ty).map (·.size) = some cs.length) (hk : K (a.put o.dst (.agg cs.toArray))) : o.quiet P a C K :=
  ⟨.agg cs.toArray, fun w hw => by
    unfold Oper.quietAt execOp
    simp only [ho, hx, Instr.loadAt, Instr.sureAddr, Sem.run_bind, Sem.run_pure, Result.andThen_ok, run_loadVar_mid w b q ty cs d (hS w hw) hu hd hi]
    exact ⟨rfl, rfl⟩, hk⟩
set_option maxRecDepth 100000 in
set_option maxHeartbeats 1000000 in
theorem sameC_any (base g base2 o : Nat) (v v2 : Value) (A B : Tk) (w : World) (h : TkW w base g v A) (h2 : TkW w base2 o v2 B) :
    Calls Tryd.prog 28 #[.pointer (some ⟨g, 0, none⟩), .pointer (some ⟨o, 0, none⟩)] w fun r w' => r = .returned (.bool (sameP A B)) ∧ Below w.heap.size w w' := by
  have hA := fun W (hx : ExtA w W) => (h.step hx).sts
  have hB := fun W (hx : ExtA w W) => (h2.step hx).sts
  have hiA : (Tryd.prog.info? 77).map (·.size) = some (stsL A.M).length := by rw [stsL_len, h.len]; exact info_stsz
  have hiB : (Tryd.prog.info? 77).map (·.size) = some (stsL B.M).length := by rw [stsL_len, h2.len]; exact info_stsz
  have hEq := fun W => eq_sts A.M B.M h.len h2.len W
  have hfA : A.L.length ≤ 5000 := by have := h.few; have := h.top; omega
  have hfB : B.L.length ≤ 5000 := by have := h2.few; have := h2.top; omega
  obtain ⟨a, c, rfl⟩ := h.sl
  obtain ⟨a2, c2, rfl⟩ := h2.sl
  have hLA := hasL_own h.row rfl
  have hLB := hasL_own h2.row rfl
  have x0 := extA_cell (h.blk.cell (j := 0) rfl)
  have x1 := extA_cell (h.blk.cell (j := 1) rfl)
  have y0 := extA_cell (h2.blk.cell (j := 0) rfl)
  have y1 := extA_cell (h2.blk.cell (j := 1) rfl)
  have cE := fun W hA hB => equal_any A.L B.L a a2 c c2 W hA hB hfA hfB
  unfold sameP
  by_cases hs : A.sl = B.sl
  · rw [hs] at x1 ⊢
    have hd : decide (B.sl = B.sl) = true := by simp
    rw [hd, Bool.true_and]
    clear hd hs
    generalize stsB A.M B.M = V at hEq
    cases V
    · rw [Bool.false_and]
      clear cE
      go_enter Tryd.func28, Tryd.ntmps28
      go_wp2_with fail
      refine (none_any g true _ h.made).mono ?_
      rintro e w1 ⟨rfl, rfl⟩
      go_wp2_with fail
      refine (none_any o true _ h2.made).mono ?_
      rintro e w1 ⟨rfl, rfl⟩
      go_upto_region 3 with fail
      refine wp_region_extB (by kernel_rfl) (by kernel_rfl) ?_
      repeat
        (first
          | go_big_quiet_skip
          | (go_big_quiet_want
             refine quiet_load_mid 77 (.tmp 29) rfl g 2 (by rfl) (stsL A.M) _ hA Tryd.underlying77 rfl hiA ?_
             simp only [Act.put, List.setIfInBounds_toArray, List.set_cons_succ, List.set_cons_zero]
             go_big_quiet_on)
          | (go_big_quiet_want
             refine quiet_load_mid 77 (.tmp 33) rfl o 2 (by rfl) (stsL B.M) _ hB Tryd.underlying77 rfl hiB ?_
             simp only [Act.put, List.setIfInBounds_toArray, List.set_cons_succ, List.set_cons_zero]
             go_big_quiet_on)
          | (go_big_quiet_want
             go_big_quiet_op
             first
               | go_big_quiet_on
               | (apply Exists.intro
                  refine ⟨fun w' hC => ?_, ?_⟩
                  · (first
                      | with_reducible rfl
                      | fail
                      | (go_simp; done)
                      | (go_simp; with_reducible rfl))
                  go_big_quiet_on)))
      refine wpQuiet_nil ?_
      intro wq hq
      go_wp2
      go_ret
      exact ⟨rfl, hq⟩
    · rw [Bool.true_and]
      generalize lnsB A.L B.L = R at cE
      go_enter Tryd.func28, Tryd.ntmps28
      go_wp2_with fail
      refine (none_any g true _ h.made).mono ?_
      rintro e w1 ⟨rfl, rfl⟩
      go_wp2_with fail
      refine (none_any o true _ h2.made).mono ?_
      rintro e w1 ⟨rfl, rfl⟩
      go_upto_region 3 with fail
      refine wp_region_extB (by kernel_rfl) (by kernel_rfl) ?_
      repeat
        (first
          | go_big_quiet_skip
          | (go_big_quiet_want
             refine quiet_load_mid 77 (.tmp 29) rfl g 2 (by rfl) (stsL A.M) _ hA Tryd.underlying77 rfl hiA ?_
             simp only [Act.put, List.setIfInBounds_toArray, List.set_cons_succ, List.set_cons_zero]
             go_big_quiet_on)
          | (go_big_quiet_want
             refine quiet_load_mid 77 (.tmp 33) rfl o 2 (by rfl) (stsL B.M) _ hB Tryd.underlying77 rfl hiB ?_
             simp only [Act.put, List.setIfInBounds_toArray, List.set_cons_succ, List.set_cons_zero]
             go_big_quiet_on)
          | (go_big_quiet_want
             go_big_quiet_op
             first
               | go_big_quiet_on
               | (apply Exists.intro
                  refine ⟨fun w' hC => ?_, ?_⟩
                  · (first
                      | with_reducible rfl
                      | (go_at_call 46; refine (cE _ (hLA.step hC) (hLB.step hC)).mono ?_; rintro e w2 ⟨rfl, hb9⟩; exact ⟨rfl, extA_then hC hb9⟩)
                      | (go_simp; done)
                      | (go_simp; with_reducible rfl))
                  go_big_quiet_on)))
      refine wpQuiet_nil ?_
      intro wq hq
      go_wp2
      go_ret
      exact ⟨rfl, hq⟩
  · have hd : decide (A.sl = B.sl) = false := by simp [hs]
    rw [hd, Bool.false_and]
    have hd2 : ((A.sl : Int) == (B.sl : Int)) = false := by simp; omega
    clear hd cE hEq
    go_enter Tryd.func28, Tryd.ntmps28
    go_wp2_with fail
    refine (none_any g true _ h.made).mono ?_
    rintro e w1 ⟨rfl, rfl⟩
    go_wp2_with fail
    refine (none_any o true _ h2.made).mono ?_
    rintro e w1 ⟨rfl, rfl⟩
    go_upto_region 3 with fail
    refine wp_region_extB (by kernel_rfl) (by kernel_rfl) ?_
    repeat
      (first
        | go_big_quiet_skip
        | (go_big_quiet_want
           refine quiet_load_mid 77 (.tmp 29) rfl g 2 (by rfl) (stsL A.M) _ hA Tryd.underlying77 rfl hiA ?_
           simp only [Act.put, List.setIfInBounds_toArray, List.set_cons_succ, List.set_cons_zero]
           go_big_quiet_on)
        | (go_big_quiet_want
           refine quiet_load_mid 77 (.tmp 33) rfl o 2 (by rfl) (stsL B.M) _ hB Tryd.underlying77 rfl hiB ?_
           simp only [Act.put, List.setIfInBounds_toArray, List.set_cons_succ, List.set_cons_zero]
           go_big_quiet_on)
        | (go_big_quiet_want
           go_big_quiet_op
           first
             | go_big_quiet_on
             | (apply Exists.intro
                refine ⟨fun w' hC => ?_, ?_⟩
                · (first
                    | with_reducible rfl
                    | fail
                    | (go_simp; done)
                    | (go_simp; with_reducible rfl))
                go_big_quiet_on)))
    refine wpQuiet_nil ?_
    intro wq hq
    go_wp2
    go_ret
    exact ⟨rfl, hq⟩
end Go.Proofs.YtndechodaegkiaaDoor
