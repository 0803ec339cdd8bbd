
/- Package acceptor: which entries may be. -/
import Derived.Test.YtcahkcbenanfnaaDoorTxI
import Derived.Test.YtcahkcbenanfnaaDoorAcO
namespace Go.Proofs.YtcahkcbenanfnaaDoor
set_option linter.unusedSimpArgs false
set_option linter.unusedVariables false
open Go.RowKit

def memB (m : Int) : Bool := decide (0 ≤ m) && decide (m < 16)
def emptyB (s : ByteArray) : Bool := s.toList.isEmpty
theorem r2_any (k m n : Int) (s : ByteArray) (w : World) : Calls Tryd.prog 55 #[.agg #[.int .i64 k, .int .i64 m, .int .i64 n, .string s]] w fun e w' => e = .returned (.bool (m == 0 && (n == 0 && emptyB s))) ∧ Below w.heap.size w w' := by
  go_enter Tryd.func55, Tryd.ntmps55
  go_wp2
  all_goals
    rename_i h
    go_ret
    exact ⟨tx_bool (by simp_all [emptyB]), (Below.refl _ _).alloc (Nat.le_refl _) _⟩
set_option maxRecDepth 100000 in
set_option maxHeartbeats 1000000 in
theorem r1_any (b : Nat) (k m n : Int) (s : ByteArray) (v : Bool) (w : World) (hB : Boxed w b 4 (.bool v)) :
    Calls Tryd.prog 53 #[.agg #[.int .i64 k, .int .i64 m, .int .i64 n, .string s], .pointer (some ⟨b, 0, none⟩)] w fun e w' => e = .returned (.bool (v && (n == 0 && emptyB s))) ∧ Below w.heap.size w w' := by
  have cb := extA_cell (hB.alloc (.cells #[.int .i64 k, .int .i64 m, .int .i64 n, .string s] 33)).cell
  have X := Blk.new w 33 [.int .i64 k, .int .i64 m, .int .i64 n, .string s]
  have c0 := extA_cell (X.cell (j := 0) rfl)
  have c1 := extA_cell (X.cell (j := 1) rfl)
  have c2 := extA_cell (X.cell (j := 2) rfl)
  have c3 := extA_cell (X.cell (j := 3) rfl)
  clear X hB
  by_cases h1 : n = 0
  · subst h1
    by_cases h2 : s.toList = []
    · have hv : ((0 : Int) == 0 && emptyB s) = true := by simp [emptyB, h2]
      rw [hv]
      clear hv
      go_enter Tryd.func53, Tryd.ntmps53
      go_wp2
      refine wp_region_head (C := ExtA (w.alloc (.cells #[.int .i64 k, .int .i64 m, .int .i64 0, .string s] 33))) 8 (by kernel_rfl) (by decide) (by kernel_rfl) ⟨rfl, rfl, rfl, Nat.le_refl _, fun _ _ => rfl⟩ ?_
      simp only [List.take_succ_cons, List.take_zero]
      repeat
        (first
          | go_big_quiet_skip
          | (go_big_quiet_want
             go_big_quiet_op
             first
               | go_big_quiet_on
               | (apply Exists.intro
                  refine ⟨fun w' hC => ?_, ?_⟩
                  · (first
                      | with_reducible rfl
                      | fail
                      | (go_simp; done)
                      | (go_simp; with_reducible rfl))
                  go_big_quiet_on)))
      refine wpQuiet_nil ?_
      intro wq hq
      clear cb c0 c1 c2 c3
      change wpAny _ _ _ _ (2 + 1) _ _ _
      refine wpAny_ready (rs := [8]) (by kernel_rfl) (by simp) ?_
      refine AllReady.cons (o := { dst := some 12, op := .buildSlice 114 2 #[(0, .tmp 4), (1, .tmp 11)], type := _, pos := _, after := _, guard := _ }) rfl (fun K hK => ?_) AllReady.nil
      go_simp
      refine hK _ _ ?_
      clear hK K
      refine wpAny_ready (rs := [9]) (by kernel_rfl) (by simp) ?_
      refine AllReady.cons (o := { dst := some 13, op := .call ⟨.value (.func 54), #[.tmp 12], #[114]⟩, type := _, pos := _, after := _, guard := _ }) rfl (fun K hK => ?_) AllReady.nil
      go_simp
      refine (allA_any _ [v, true] 2 rfl (by omega) _ (Blk.newA rfl 4 [.bool v, .bool true])).mono ?_
      rintro e w' ⟨rfl, rfl⟩
      refine hK _ _ ?_
      clear hK K
      refine wpAny_ready (rs := [10]) (by kernel_rfl) (by simp) ?_
      refine AllReady.cons (o := { dst := some 3, op := .assign (.tmp 13), type := _, pos := _, after := _, guard := _ }) rfl (fun K hK => ?_) AllReady.nil
      go_simp
      refine hK _ _ ?_
      clear hK K
      refine wpAny_done (by kernel_rfl) ?_ _
      go_wp2
      go_ret
      exact ⟨tx_bool (by simp), ((Below.refl _ _).alloc (Nat.le_refl _) _).trans ((Below.alloc hq hq.size _).mono (by simp))⟩
    · have hv : ((0 : Int) == 0 && emptyB s) = false := by simp [emptyB, h2]
      rw [hv]
      clear hv
      go_enter Tryd.func53, Tryd.ntmps53
      go_wp2
      refine wp_region_head (C := ExtA (w.alloc (.cells #[.int .i64 k, .int .i64 m, .int .i64 0, .string s] 33))) 8 (by kernel_rfl) (by decide) (by kernel_rfl) ⟨rfl, rfl, rfl, Nat.le_refl _, fun _ _ => rfl⟩ ?_
      simp only [List.take_succ_cons, List.take_zero]
      repeat
        (first
          | go_big_quiet_skip
          | (go_big_quiet_want
             go_big_quiet_op
             first
               | go_big_quiet_on
               | (apply Exists.intro
                  refine ⟨fun w' hC => ?_, ?_⟩
                  · (first
                      | with_reducible rfl
                      | fail
                      | (go_simp; done)
                      | (go_simp; with_reducible rfl))
                  go_big_quiet_on)))
      refine wpQuiet_nil ?_
      intro wq hq
      clear cb c0 c1 c2 c3
      change wpAny _ _ _ _ (2 + 1) _ _ _
      refine wpAny_ready (rs := [8]) (by kernel_rfl) (by simp) ?_
      refine AllReady.cons (o := { dst := some 12, op := .buildSlice 114 2 #[(0, .tmp 4), (1, .tmp 11)], type := _, pos := _, after := _, guard := _ }) rfl (fun K hK => ?_) AllReady.nil
      go_simp
      refine hK _ _ ?_
      clear hK K
      refine wpAny_ready (rs := [9]) (by kernel_rfl) (by simp) ?_
      refine AllReady.cons (o := { dst := some 13, op := .call ⟨.value (.func 54), #[.tmp 12], #[114]⟩, type := _, pos := _, after := _, guard := _ }) rfl (fun K hK => ?_) AllReady.nil
      go_simp
      refine (allA_any _ [v, false] 2 rfl (by omega) _ (Blk.newA rfl 4 [.bool v, .bool false])).mono ?_
      rintro e w' ⟨rfl, rfl⟩
      refine hK _ _ ?_
      clear hK K
      refine wpAny_ready (rs := [10]) (by kernel_rfl) (by simp) ?_
      refine AllReady.cons (o := { dst := some 3, op := .assign (.tmp 13), type := _, pos := _, after := _, guard := _ }) rfl (fun K hK => ?_) AllReady.nil
      go_simp
      refine hK _ _ ?_
      clear hK K
      refine wpAny_done (by kernel_rfl) ?_ _
      go_wp2
      go_ret
      exact ⟨tx_bool (by simp), ((Below.refl _ _).alloc (Nat.le_refl _) _).trans ((Below.alloc hq hq.size _).mono (by simp))⟩
  · have hv : (n == 0 && emptyB s) = false := by simp [h1]
    rw [hv]
    clear hv
    go_enter Tryd.func53, Tryd.ntmps53
    go_wp2
    refine wp_region_head (C := ExtA (w.alloc (.cells #[.int .i64 k, .int .i64 m, .int .i64 n, .string s] 33))) 8 (by kernel_rfl) (by decide) (by kernel_rfl) ⟨rfl, rfl, rfl, Nat.le_refl _, fun _ _ => rfl⟩ ?_
    simp only [List.take_succ_cons, List.take_zero]
    repeat
      (first
        | go_big_quiet_skip
        | (go_big_quiet_want
           go_big_quiet_op
           first
             | go_big_quiet_on
             | (apply Exists.intro
                refine ⟨fun w' hC => ?_, ?_⟩
                · (first
                    | with_reducible rfl
                    | fail
                    | (go_simp; done)
                    | (go_simp; with_reducible rfl))
                go_big_quiet_on)))
    refine wpQuiet_nil ?_
    intro wq hq
    clear cb c0 c1 c2 c3
    change wpAny _ _ _ _ (2 + 1) _ _ _
    refine wpAny_ready (rs := [8]) (by kernel_rfl) (by simp) ?_
    refine AllReady.cons (o := { dst := some 12, op := .buildSlice 114 2 #[(0, .tmp 4), (1, .tmp 11)], type := _, pos := _, after := _, guard := _ }) rfl (fun K hK => ?_) AllReady.nil
    go_simp
    refine hK _ _ ?_
    clear hK K
    refine wpAny_ready (rs := [9]) (by kernel_rfl) (by simp) ?_
    refine AllReady.cons (o := { dst := some 13, op := .call ⟨.value (.func 54), #[.tmp 12], #[114]⟩, type := _, pos := _, after := _, guard := _ }) rfl (fun K hK => ?_) AllReady.nil
    go_simp
    refine (allA_any _ [v, false] 2 rfl (by omega) _ (Blk.newA rfl 4 [.bool v, .bool false])).mono ?_
    rintro e w' ⟨rfl, rfl⟩
    refine hK _ _ ?_
    clear hK K
    refine wpAny_ready (rs := [10]) (by kernel_rfl) (by simp) ?_
    refine AllReady.cons (o := { dst := some 3, op := .assign (.tmp 13), type := _, pos := _, after := _, guard := _ }) rfl (fun K hK => ?_) AllReady.nil
    go_simp
    refine hK _ _ ?_
    clear hK K
    refine wpAny_done (by kernel_rfl) ?_ _
    go_wp2
    go_ret
    exact ⟨tx_bool (by simp), ((Below.refl _ _).alloc (Nat.le_refl _) _).trans ((Below.alloc hq hq.size _).mono (by simp))⟩
end Go.Proofs.YtcahkcbenanfnaaDoor
