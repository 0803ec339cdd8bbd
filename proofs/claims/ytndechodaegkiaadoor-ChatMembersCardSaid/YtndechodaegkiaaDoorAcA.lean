
/- Package acceptor: which entries may be. -/
import Derived.Test.YtndechodaegkiaaDoorTxI
import Derived.Test.YtndechodaegkiaaDoorTail
namespace Go.Proofs.YtndechodaegkiaaDoor
open Go.RowKit

def memB (m : Int) : Bool := decide (0 ≤ m) && decide (m < 16)
def emptyB (s : ByteArray) : Bool := s.toList.isEmpty
theorem r2_any (k m n : Int) (s : ByteArray) (w : World) : Calls Tryd.prog 50 #[.agg #[.int .i64 k, .int .i64 m, .int .i64 n, .string s]] w fun e w' => e = .returned (.bool (m == 0 && (n == 0 && emptyB s))) ∧ Below w.heap.size w w' := by
  go_enter Tryd.func50, Tryd.ntmps50
  go_wp2
  all_goals
    rename_i h
    go_ret
    exact ⟨tx_bool (by simp_all [emptyB]), (Below.refl _ _).alloc (Nat.le_refl _) _⟩
set_option maxRecDepth 100000 in
set_option maxHeartbeats 1000000 in
theorem all_any (b : Nat) (bs : List Bool) (n : Nat) (hn : bs.length = n) (hn9 : n ≤ 9) (w : World) (hB : Blk w b 4 (bs.map Value.bool)) :
    Calls Tryd.prog 49 #[.slice (some ⟨b, 0, none⟩) n n] w fun e w' => e = .returned (.bool (bs.all id)) ∧ w = w' := by
  obtain ⟨R, hR⟩ : ∃ R, bs.all id = R := ⟨_, rfl⟩
  rw [hR]
  go_enter Tryd.func49, Tryd.ntmps49
  go_wp2
  go_loopw [7] (fun i wr => ∃ j : Nat, j ≤ n ∧ i = .int .i64 j ∧ wr = w ∧ Hid (∀ k, k < j → bs.getD k false = true)) (fun i _ => n - (intOf i).toNat)
  case atStart => exact ⟨0, by omega, rfl, by first | rfl | trivial, Lib.hid (fun k h => absurd h (Nat.not_lt_zero _))⟩
  case round =>
    obtain ⟨j, hj, rfl, hw, hA⟩ := hrel
    subst hw
    by_cases hlt : j < n
    · obtain ⟨v, hv⟩ : ∃ v, bs.getD j false = v := ⟨_, rfl⟩
      have hjl : j < bs.length := by omega
      have hc : (bs.map Value.bool)[j]? = some (.bool v) := by rw [← hv]; simp [hjl]
      have cj := hB.cell hc
      have hj0 : (0 : Int) ≤ (j : Int) := by omega
      have hj1 : (j : Int) < (n : Int) := by omega
      have hj2 : (j : Int) < 100 := by omega
      clear hc
      cases v
      · have hf : R = false := by
          rw [← hR, List.all_eq_false]
          exact ⟨bs[j], List.getElem_mem hjl, by simpa [hjl] using hv⟩
        subst hf
        clear hv hA
        go_wp2
        go_ret
        exact ⟨rfl, rfl⟩
      · have hA2 : Hid (∀ k, k < j + 1 → bs.getD k false = true) := Lib.hid (fun k hk => by
          by_cases e : k = j
          · subst e; exact hv
          · exact hA.out k (by omega))
        clear hv hA
        go_wp2_with fail
        go_roundw
        case rel => exact ⟨j + 1, by omega, by go_num, by first | rfl | trivial, hA2⟩
        case measure => simp [intOf]; omega
    · obtain rfl : j = n := by omega
      have hf : R = true := by
        rw [← hR, List.all_eq_true]
        intro x hx
        obtain ⟨k, hk, rfl⟩ := List.getElem_of_mem hx
        have := hA.out k (by omega)
        simpa [hk] using this
      subst hf
      clear hA
      go_wp2
      go_ret
      exact ⟨rfl, rfl⟩
def ExtA (W W' : World) : Prop := Below W.heap.size W W'
theorem extA_cell {W : World} {b o : Nat} {v : Value} (h : W.cell? ⟨b, o, none⟩ = some v) (W' : World) (hx : ExtA W W') : W'.cell? ⟨b, o, none⟩ = some v := (Below.cell hx (World.block_lt_of_cell? W _ h)).trans h
theorem Blk.newA {W : World} {g : Nat} (hg : W.heap.size = g) (t : TypeId) (cs : List Value) : Blk (W.alloc (.cells cs.toArray t)) g t cs := hg ▸ Blk.new W t cs
set_option maxRecDepth 100000 in
set_option maxHeartbeats 1000000 in
theorem r1_any (b : Nat) (k m n : Int) (s : ByteArray) (v : Bool) (w : World) (hB : Boxed w b 4 (.bool v)) :
    Calls Tryd.prog 48 #[.agg #[.int .i64 k, .int .i64 m, .int .i64 n, .string s], .pointer (some ⟨b, 0, none⟩)] w fun e w' => e = .returned (.bool (v && (n == 0 && emptyB s))) ∧ Below w.heap.size w w' := by
  have cb := extA_cell (hB.alloc (.cells #[.int .i64 k, .int .i64 m, .int .i64 n, .string s] 26)).cell
  have X := Blk.new w 26 [.int .i64 k, .int .i64 m, .int .i64 n, .string s]
  have c0 := extA_cell (X.cell (j := 0) rfl)
  have c1 := extA_cell (X.cell (j := 1) rfl)
  have c2 := extA_cell (X.cell (j := 2) rfl)
  have c3 := extA_cell (X.cell (j := 3) rfl)
  clear X hB
  by_cases h1 : n = 0
  · subst h1
    by_cases h2 : s.toList = []
    · have hv : ((0 : Int) == 0 && emptyB s) = true := by simp [emptyB, h2]
      rw [hv]
      clear hv
      go_enter Tryd.func48, Tryd.ntmps48
      go_wp2
      refine wp_region_head (C := ExtA (w.alloc (.cells #[.int .i64 k, .int .i64 m, .int .i64 0, .string s] 26))) 8 (by kernel_rfl) (by decide) (by kernel_rfl) ⟨rfl, rfl, rfl, Nat.le_refl _, fun _ _ => rfl⟩ ?_
      simp only [List.take_succ_cons, List.take_zero]
      repeat
        (first
          | go_big_quiet_skip
          | (go_big_quiet_want
             go_big_quiet_op
             first
               | go_big_quiet_on
               | (apply Exists.intro
                  refine ⟨fun w' hC => ?_, ?_⟩
                  · (first
                      | with_reducible rfl
                      | fail
                      | (go_simp; done)
                      | (go_simp; with_reducible rfl))
                  go_big_quiet_on)))
      refine wpQuiet_nil ?_
      intro wq hq
      clear cb c0 c1 c2 c3
      change wpAny _ _ _ _ (2 + 1) _ _ _
      refine wpAny_ready (rs := [8]) (by kernel_rfl) (by simp) ?_
      refine AllReady.cons (o := { dst := some 12, op := .buildSlice 105 2 #[(0, .tmp 4), (1, .tmp 11)], type := _, pos := _, after := _, guard := _ }) rfl (fun K hK => ?_) AllReady.nil
      go_simp
      refine hK _ _ ?_
      clear hK K
      refine wpAny_ready (rs := [9]) (by kernel_rfl) (by simp) ?_
      refine AllReady.cons (o := { dst := some 13, op := .call ⟨.value (.func 49), #[.tmp 12], #[105]⟩, type := _, pos := _, after := _, guard := _ }) rfl (fun K hK => ?_) AllReady.nil
      go_simp
      refine (all_any _ [v, true] 2 rfl (by omega) _ (Blk.newA rfl 4 [.bool v, .bool true])).mono ?_
      rintro e w' ⟨rfl, rfl⟩
      refine hK _ _ ?_
      clear hK K
      refine wpAny_ready (rs := [10]) (by kernel_rfl) (by simp) ?_
      refine AllReady.cons (o := { dst := some 3, op := .assign (.tmp 13), type := _, pos := _, after := _, guard := _ }) rfl (fun K hK => ?_) AllReady.nil
      go_simp
      refine hK _ _ ?_
      clear hK K
      refine wpAny_done (by kernel_rfl) ?_ _
      go_wp2
      go_ret
      exact ⟨tx_bool (by simp), ((Below.refl _ _).alloc (Nat.le_refl _) _).trans ((Below.alloc hq hq.size _).mono (by simp))⟩
    · have hv : ((0 : Int) == 0 && emptyB s) = false := by simp [emptyB, h2]
      rw [hv]
      clear hv
      go_enter Tryd.func48, Tryd.ntmps48
      go_wp2
      refine wp_region_head (C := ExtA (w.alloc (.cells #[.int .i64 k, .int .i64 m, .int .i64 0, .string s] 26))) 8 (by kernel_rfl) (by decide) (by kernel_rfl) ⟨rfl, rfl, rfl, Nat.le_refl _, fun _ _ => rfl⟩ ?_
      simp only [List.take_succ_cons, List.take_zero]
      repeat
        (first
          | go_big_quiet_skip
          | (go_big_quiet_want
             go_big_quiet_op
             first
               | go_big_quiet_on
               | (apply Exists.intro
                  refine ⟨fun w' hC => ?_, ?_⟩
                  · (first
                      | with_reducible rfl
                      | fail
                      | (go_simp; done)
                      | (go_simp; with_reducible rfl))
                  go_big_quiet_on)))
      refine wpQuiet_nil ?_
      intro wq hq
      clear cb c0 c1 c2 c3
      change wpAny _ _ _ _ (2 + 1) _ _ _
      refine wpAny_ready (rs := [8]) (by kernel_rfl) (by simp) ?_
      refine AllReady.cons (o := { dst := some 12, op := .buildSlice 105 2 #[(0, .tmp 4), (1, .tmp 11)], type := _, pos := _, after := _, guard := _ }) rfl (fun K hK => ?_) AllReady.nil
      go_simp
      refine hK _ _ ?_
      clear hK K
      refine wpAny_ready (rs := [9]) (by kernel_rfl) (by simp) ?_
      refine AllReady.cons (o := { dst := some 13, op := .call ⟨.value (.func 49), #[.tmp 12], #[105]⟩, type := _, pos := _, after := _, guard := _ }) rfl (fun K hK => ?_) AllReady.nil
      go_simp
      refine (all_any _ [v, false] 2 rfl (by omega) _ (Blk.newA rfl 4 [.bool v, .bool false])).mono ?_
      rintro e w' ⟨rfl, rfl⟩
      refine hK _ _ ?_
      clear hK K
      refine wpAny_ready (rs := [10]) (by kernel_rfl) (by simp) ?_
      refine AllReady.cons (o := { dst := some 3, op := .assign (.tmp 13), type := _, pos := _, after := _, guard := _ }) rfl (fun K hK => ?_) AllReady.nil
      go_simp
      refine hK _ _ ?_
      clear hK K
      refine wpAny_done (by kernel_rfl) ?_ _
      go_wp2
      go_ret
      exact ⟨tx_bool (by simp), ((Below.refl _ _).alloc (Nat.le_refl _) _).trans ((Below.alloc hq hq.size _).mono (by simp))⟩
  · have hv : (n == 0 && emptyB s) = false := by simp [h1]
    rw [hv]
    clear hv
    go_enter Tryd.func48, Tryd.ntmps48
    go_wp2
    refine wp_region_head (C := ExtA (w.alloc (.cells #[.int .i64 k, .int .i64 m, .int .i64 n, .string s] 26))) 8 (by kernel_rfl) (by decide) (by kernel_rfl) ⟨rfl, rfl, rfl, Nat.le_refl _, fun _ _ => rfl⟩ ?_
    simp only [List.take_succ_cons, List.take_zero]
    repeat
      (first
        | go_big_quiet_skip
        | (go_big_quiet_want
           go_big_quiet_op
           first
             | go_big_quiet_on
             | (apply Exists.intro
                refine ⟨fun w' hC => ?_, ?_⟩
                · (first
                    | with_reducible rfl
                    | fail
                    | (go_simp; done)
                    | (go_simp; with_reducible rfl))
                go_big_quiet_on)))
    refine wpQuiet_nil ?_
    intro wq hq
    clear cb c0 c1 c2 c3
    change wpAny _ _ _ _ (2 + 1) _ _ _
    refine wpAny_ready (rs := [8]) (by kernel_rfl) (by simp) ?_
    refine AllReady.cons (o := { dst := some 12, op := .buildSlice 105 2 #[(0, .tmp 4), (1, .tmp 11)], type := _, pos := _, after := _, guard := _ }) rfl (fun K hK => ?_) AllReady.nil
    go_simp
    refine hK _ _ ?_
    clear hK K
    refine wpAny_ready (rs := [9]) (by kernel_rfl) (by simp) ?_
    refine AllReady.cons (o := { dst := some 13, op := .call ⟨.value (.func 49), #[.tmp 12], #[105]⟩, type := _, pos := _, after := _, guard := _ }) rfl (fun K hK => ?_) AllReady.nil
    go_simp
    refine (all_any _ [v, false] 2 rfl (by omega) _ (Blk.newA rfl 4 [.bool v, .bool false])).mono ?_
    rintro e w' ⟨rfl, rfl⟩
    refine hK _ _ ?_
    clear hK K
    refine wpAny_ready (rs := [10]) (by kernel_rfl) (by simp) ?_
    refine AllReady.cons (o := { dst := some 3, op := .assign (.tmp 13), type := _, pos := _, after := _, guard := _ }) rfl (fun K hK => ?_) AllReady.nil
    go_simp
    refine hK _ _ ?_
    clear hK K
    refine wpAny_done (by kernel_rfl) ?_ _
    go_wp2
    go_ret
    exact ⟨tx_bool (by simp), ((Below.refl _ _).alloc (Nat.le_refl _) _).trans ((Below.alloc hq hq.size _).mono (by simp))⟩
end Go.Proofs.YtndechodaegkiaaDoor
