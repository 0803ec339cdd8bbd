
/- The chapter's rows of layer 12 hold; and the laws on numbers alone. -/
import Derived.Test.YtkpgdchhdhkpdaaSlC
import Derived.OpenShut
namespace Go.Proofs.Ytkpgdchhdhkpdaa
open Go.RowKit

set_option maxRecDepth 100000 in
set_option maxHeartbeats 400000 in
theorem num_any (x : Int) (w : World) : Calls Try.prog 12 #[.int .i64 x] w fun e w' => e = .returned (.int .i64 x) ∧ w = w' := by
  go_enter Try.func12, Try.ntmps12
  go_wp2_with fail
  go_ret
  exact ⟨rfl, rfl⟩

theorem owner_at (c s v e : Int) (h1 : ownerI c s = v) (h2 : opErr c s = e) (w : World) : Calls Try.prog 16 #[.int .i64 c, .int .i64 s] w fun r w' => r = .returned (.tuple #[.int .i64 v, .int .i64 e]) ∧ Below w.heap.size w w' := h1 ▸ h2 ▸ owner_any c s w
theorem turn_at (c s v e : Int) (h1 : turnI c s = v) (h2 : opErr c s = e) (w : World) : Calls Try.prog 17 #[.int .i64 c, .int .i64 s] w fun r w' => r = .returned (.tuple #[.int .i64 v, .int .i64 e]) ∧ Below w.heap.size w w' := h1 ▸ h2 ▸ turn_any c s w
theorem slot_at (c p t v e : Int) (h1 : slotI c p t = v) (h2 : slotE c p t = e) (w : World) : Calls Try.prog 20 #[.int .i64 c, .int .i64 p, .int .i64 t] w fun r w' => r = .returned (.tuple #[.int .i64 v, .int .i64 e]) ∧ Below w.heap.size w w' := h1 ▸ h2 ▸ slot_any c p t w
theorem majority_at (c v e : Int) (h1 : majI c = v) (h2 : errI c = e) (w : World) : Calls Try.prog 10 #[.int .i64 c] w fun r w' => r = .returned (.tuple #[.int .i64 v, .int .i64 e]) ∧ Below w.heap.size w w' := h1 ▸ h2 ▸ majority_any c w
theorem next_at (c p f v e : Int) (hf : f ≤ 9223372036854775807) (h1 : nextV c p f = v) (h2 : nextE c p f = e) (w : World) : Calls Try.prog 21 #[.int .i64 c, .int .i64 p, .int .i64 f] w fun r w' => r = .returned (.tuple #[.int .i64 v, .int .i64 e]) ∧ Below w.heap.size w w' := h1 ▸ h2 ▸ next_call c p f w hf
theorem many_at (c p f t v e : Int) (h1 : manyI c p f t = v) (h2 : manyE c p f t = e) (w : World) : Calls Try.prog 25 #[.int .i64 c, .int .i64 p, .int .i64 f, .int .i64 t] w fun r w' => r = .returned (.tuple #[.int .i64 v, .int .i64 e]) ∧ Below w.heap.size w w' := h1 ▸ h2 ▸ many_any c p f t w
theorem check_at (c e : Int) (h1 : errI c = e) (w : World) : Calls Try.prog 13 #[.int .i64 c] w fun r w' => r = .returned (.int .i64 e) ∧ Below w.heap.size w w' := h1 ▸ check_any c w

set_option maxRecDepth 100000 in
set_option maxHeartbeats 1000000 in
theorem works_any (w : World) : Calls Try.prog 14 #[] w fun e w' => e = .returned (.bool true) ∧ Below w.heap.size w w' := by
  go_enter Try.func14, Try.ntmps14
  go_wp2_with fail
  refine (owner_at _ _ 1 0 (by decide) (by decide) _).mono ?_
  rintro e w1 ⟨rfl, b1⟩
  go_wp2_with fail
  refine (turn_at _ _ 2 0 (by decide) (by decide) _).mono ?_
  rintro e w2 ⟨rfl, b2⟩
  go_wp2_with fail
  refine (slot_at _ _ _ 7 0 (by decide) (by decide) _).mono ?_
  rintro e w3 ⟨rfl, b3⟩
  go_wp2_with fail
  refine (majority_at _ 3 0 (by decide) (by decide) _).mono ?_
  rintro e w4 ⟨rfl, b4⟩
  go_wp2_with fail
  refine (next_at _ _ _ 6 0 (by decide) (by decide) (by decide) _).mono ?_
  rintro e w5 ⟨rfl, b5⟩
  go_wp2_with fail
  refine (next_at _ _ _ 4095 0 (by decide) (by decide) (by decide) _).mono ?_
  rintro e w6 ⟨rfl, b6⟩
  go_wp2_with fail
  refine (many_at _ _ _ _ 3 0 (by decide) (by decide) _).mono ?_
  rintro e w7 ⟨rfl, b7⟩
  go_wp2_with fail
  refine (slot_at _ _ _ 4095 0 (by decide) (by decide) _).mono ?_
  rintro e w8 ⟨rfl, b8⟩
  go_wp2_with fail
  refine (slot_at _ _ _ 0 4 (by decide) (by decide) _).mono ?_
  rintro e w9 ⟨rfl, b9⟩
  go_wp2_with fail
  refine (owner_at _ _ 0 4 (by decide) (by decide) _).mono ?_
  rintro e w10 ⟨rfl, b10⟩
  go_wp2_with fail
  refine (num_any _ _).mono ?_
  rintro e w11 ⟨rfl, rfl⟩
  go_wp2_with fail
  refine (num_any _ _).mono ?_
  rintro e w11 ⟨rfl, rfl⟩
  go_wp2_with fail
  refine (num_any _ _).mono ?_
  rintro e w11 ⟨rfl, rfl⟩
  go_wp2_with fail
  refine (num_any _ _).mono ?_
  rintro e w11 ⟨rfl, rfl⟩
  go_wp2_with fail
  refine (num_any _ _).mono ?_
  rintro e w11 ⟨rfl, rfl⟩
  go_wp2_with fail
  refine (num_any _ _).mono ?_
  rintro e w11 ⟨rfl, rfl⟩
  go_wp2_with fail
  refine (num_any _ _).mono ?_
  rintro e w11 ⟨rfl, rfl⟩
  go_wp2_with fail
  refine (num_any _ _).mono ?_
  rintro e w11 ⟨rfl, rfl⟩
  go_wp2_with fail
  refine (num_any _ _).mono ?_
  rintro e w11 ⟨rfl, rfl⟩
  go_wp2_with fail
  refine (num_any _ _).mono ?_
  rintro e w11 ⟨rfl, rfl⟩
  go_wp2_with fail
  refine (check_at _ 2 (by decide) _).mono ?_
  rintro e w11 ⟨rfl, b11⟩
  go_wp2_with fail
  refine (num_any _ _).mono ?_
  rintro e w12 ⟨rfl, rfl⟩
  go_wp2_with fail
  go_ret
  refine ⟨rfl, ?_⟩
  have c2 := b1.trans (b2.mono b1.size)
  have c3 := c2.trans (b3.mono c2.size)
  have c4 := c3.trans (b4.mono c3.size)
  have c5 := c4.trans (b5.mono c4.size)
  have c6 := c5.trans (b6.mono c5.size)
  have c7 := c6.trans (b7.mono c6.size)
  have c8 := c7.trans (b8.mono c7.size)
  have c9 := c8.trans (b9.mono c8.size)
  have c10 := c9.trans (b10.mono c9.size)
  exact c10.trans (b11.mono c10.size)

/-! SlotsChoirs -/
set_option maxRecDepth 100000 in
set_option maxHeartbeats 1000000 in
theorem SlotsChoirs_walk (c : Int) (w : World) (_ : -9223372036854775808 ≤ c ∧ c ≤ 9223372036854775807) : Calls Try.prog 3 #[.int .i64 c] w fun e w' => e = .returned (.bool true) ∧ Below w.heap.size w w' := by
  cases hr : rightB c
  · have e1 : majI c = 0 := by simp [majI, hr]
    have e2 : errI c = 2 := by simp [errI, hr]
    have E1 := Lib.hid e1
    clear e1
    have E2 := Lib.hid e2
    clear e2
    have Hr := Lib.hid hr
    clear hr
    go_enter Try.func3, Try.ntmps3
    go_wp2_with fail
    refine (majority_at _ _ _ E1.out E2.out _).mono ?_
    rintro e w1 ⟨rfl, b1⟩
    go_wp2_with fail
    refine (refRight_at _ _ Hr.out _).mono ?_
    rintro e w2 ⟨rfl, rfl⟩
    go_wp2_with fail
    refine (num_any _ _).mono ?_
    rintro e w2 ⟨rfl, rfl⟩
    go_wp2_with fail
    refine (check_at _ _ E2.out _).mono ?_
    rintro e w2 ⟨rfl, b2⟩
    go_wp2_with fail
    refine (num_any _ _).mono ?_
    rintro e w3 ⟨rfl, rfl⟩
    go_wp2_with fail
    refine (works_any _).mono ?_
    rintro e w3 ⟨rfl, b3⟩
    go_wp2_with fail
    go_ret
    have c2 := b1.trans (b2.mono b1.size)
    exact ⟨rfl, c2.trans (b3.mono c2.size)⟩
  · have e2 : errI c = 0 := by simp [errI, hr]
    obtain ⟨m, hm⟩ : ∃ m, majI c = m := ⟨_, rfl⟩
    have R : Hid (∀ w, Calls Try.prog 15 #[.int .i64 c] w fun e w' => e = .returned (.int .i64 m) ∧ w = w') := Lib.hid (fun w => hm ▸ refMajority_any c w hr)
    have E2 := Lib.hid e2
    clear e2
    have HM := Lib.hid hm
    clear hm
    have Hr := Lib.hid hr
    clear hr
    go_enter Try.func3, Try.ntmps3
    go_wp2_with fail
    refine (majority_at _ _ _ HM.out E2.out _).mono ?_
    rintro e w1 ⟨rfl, b1⟩
    go_wp2_with fail
    refine (refRight_at _ _ Hr.out _).mono ?_
    rintro e w2 ⟨rfl, rfl⟩
    go_wp2_with fail
    refine (R.out _).mono ?_
    rintro e w2 ⟨rfl, rfl⟩
    go_wp2_with fail
    refine (num_any _ _).mono ?_
    rintro e w2 ⟨rfl, rfl⟩
    go_wp2_with fail
    refine (check_at _ _ E2.out _).mono ?_
    rintro e w2 ⟨rfl, b2⟩
    go_wp2_with fail
    refine (num_any _ _).mono ?_
    rintro e w3 ⟨rfl, rfl⟩
    go_wp2_with fail
    refine (works_any _).mono ?_
    rintro e w3 ⟨rfl, b3⟩
    go_wp2_with fail
    go_ret
    have c2 := b1.trans (b2.mono b1.size)
    exact ⟨rfl, c2.trans (b3.mono c2.size)⟩

/-! SlotsOwners -/
set_option maxRecDepth 100000 in
set_option maxHeartbeats 1000000 in
theorem SlotsOwners_walk (c s : Int) (w : World) (_ : -9223372036854775808 ≤ c ∧ c ≤ 9223372036854775807) (_ : -9223372036854775808 ≤ s ∧ s ≤ 9223372036854775807) : Calls Try.prog 4 #[.int .i64 c, .int .i64 s] w fun e w' => e = .returned (.bool true) ∧ Below w.heap.size w w' := by
  go_enter Try.func4, Try.ntmps4
  go_wp2_with fail
  refine (owner_any _ _ _).mono ?_
  rintro e w1 ⟨rfl, b1⟩
  go_wp2_with fail
  refine (turn_any _ _ _).mono ?_
  rintro e w2 ⟨rfl, b2⟩
  go_wp2_with fail
  refine (refOwner_any _ _ _).mono ?_
  rintro e w3 ⟨rfl, rfl⟩
  go_wp2_with fail
  refine (refTurn_any _ _ _).mono ?_
  rintro e w3 ⟨rfl, rfl⟩
  go_wp2_with fail
  refine (num_any _ _).mono ?_
  rintro e w3 ⟨rfl, rfl⟩
  go_wp2_with fail
  refine (num_any _ _).mono ?_
  rintro e w3 ⟨rfl, rfl⟩
  go_wp2_with fail
  refine (works_any _).mono ?_
  rintro e w3 ⟨rfl, b3⟩
  go_wp2_with fail
  go_ret
  have c2 := b1.trans (b2.mono b1.size)
  exact ⟨rfl, c2.trans (b3.mono c2.size)⟩

/-! SlotsTurns -/
set_option maxRecDepth 100000 in
set_option maxHeartbeats 1000000 in
theorem SlotsTurns_walk (c p n : Int) (w : World) (_ : -9223372036854775808 ≤ c ∧ c ≤ 9223372036854775807) (_ : -9223372036854775808 ≤ p ∧ p ≤ 9223372036854775807) (hnn : -9223372036854775808 ≤ n ∧ n ≤ 9223372036854775807) : Calls Try.prog 5 #[.int .i64 c, .int .i64 p, .int .i64 n] w fun e w' => e = .returned (.bool true) ∧ Below w.heap.size w w' := by
  have hn := hnn.2
  clear hnn
  go_enter Try.func5, Try.ntmps5
  go_wp2_with fail
  refine (slot_any _ _ _ _).mono ?_
  rintro e w1 ⟨rfl, b1⟩
  go_wp2_with fail
  refine (next_call _ _ _ _ hn).mono ?_
  rintro e w2 ⟨rfl, b2⟩
  go_wp2_with fail
  refine (refOf_any _ _ _ _).mono ?_
  rintro e w3 ⟨rfl, rfl⟩
  go_wp2_with fail
  refine (refNext_any _ _ _ _ hn).mono ?_
  rintro e w3 ⟨rfl, rfl⟩
  go_wp2_with fail
  refine (num_any _ _).mono ?_
  rintro e w3 ⟨rfl, rfl⟩
  go_wp2_with fail
  refine (num_any _ _).mono ?_
  rintro e w3 ⟨rfl, rfl⟩
  go_wp2_with fail
  refine (works_any _).mono ?_
  rintro e w3 ⟨rfl, b3⟩
  go_wp2_with fail
  go_ret
  have c2 := b1.trans (b2.mono b1.size)
  exact ⟨rfl, c2.trans (b3.mono c2.size)⟩
theorem bd_i64 {n : Int} (h : (Lit.int .i64 n).wf = true) : -9223372036854775808 ≤ n ∧ n ≤ 9223372036854775807 := bounds_i64 h
theorem bd_u16 {n : Int} (h : (Lit.int .u16 n).wf = true) : 0 ≤ n ∧ n ≤ 65535 := bounds_u16 h
end Go.Proofs.Ytkpgdchhdhkpdaa
