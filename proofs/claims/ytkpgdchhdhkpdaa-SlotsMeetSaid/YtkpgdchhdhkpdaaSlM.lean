/- SlotsMeet: of two majorities one place at least is in both. -/
import Derived.Test.YtkpgdchhdhkpdaaSlW
import Derived.Deep.QuietTactic
import Derived.BigQuiet
namespace Go.Proofs.Ytkpgdchhdhkpdaa
open Go.RowKit

theorem and16 (a : Int) (h0 : 0 ≤ a) (h1 : a ≤ 65535) : bits BinOp.and IntKind.u16 a 1 = a % 2 := by
  obtain ⟨n, rfl⟩ := Int.eq_ofNat_of_zero_le h0
  have h : n < 65536 := by omega
  have e1 : (BitVec.ofInt 16 (n : Int)).toNat = n := by
    rw [BitVec.ofInt_natCast, BitVec.toNat_ofNat]; exact Nat.mod_eq_of_lt (by omega)
  have e2 : (BitVec.ofInt 16 (1 : Int)).toNat = 1 := by decide
  show IntKind.u16.wrap ((BitVec.ofInt 16 (n : Int) &&& BitVec.ofInt 16 (1 : Int)).toNat : Int) = _
  rw [BitVec.toNat_and, e1, e2, Nat.and_one_is_mod]
  simp [IntKind.wrap, IntKind.signed, IntKind.bits]
  omega
theorem shr16 {x : Int} (h0 : 0 ≤ x) (h1 : x ≤ 65535) (k : Nat) : 0 ≤ x / 2 ^ k ∧ x / 2 ^ k ≤ 65535 :=
  ⟨Int.ediv_nonneg h0 (Int.le_of_lt (Int.pow_pos (by omega))), Int.le_trans (Int.ediv_le_self _ h0) h1⟩

set_option maxRecDepth 100000 in
set_option maxHeartbeats 2000000 in
theorem SlotsMeet_walk (c x y : Int) (w : World) (_ : -9223372036854775808 ≤ c ∧ c ≤ 9223372036854775807) (hx : 0 ≤ x ∧ x ≤ 65535) (hy : 0 ≤ y ∧ y ≤ 65535) :
    Calls Try.prog 7 #[.int .i64 c, .int .u16 x, .int .u16 y] w fun e w' => e = .returned (.bool true) ∧ Below w.heap.size w w' := by
  obtain ⟨x1, x2⟩ := hx
  obtain ⟨y1, y2⟩ := hy
  cases hr : rightB c
  · have e1 : majI c = 0 := by simp [majI, hr]
    have e2 : errI c = 2 := by simp [errI, hr]
    have E1 := Lib.hid e1
    clear e1
    have E2 := Lib.hid e2
    clear e2
    clear hr
    go_enter Try.func7, Try.ntmps7
    go_wp2_with fail
    refine (majority_at _ _ _ E1.out E2.out _).mono ?_
    rintro e w1 ⟨rfl, b1⟩
    go_wp2_with fail
    refine (num_any _ _).mono ?_
    rintro e w2 ⟨rfl, rfl⟩
    go_wp2_with fail
    refine (works_any _).mono ?_
    rintro e w3 ⟨rfl, b3⟩
    go_wp2_with fail
    go_ret
    exact ⟨rfl, b1.trans (b3.mono b1.size)⟩
  · obtain ⟨h1, h2⟩ := right_bd hr
    have hc := right_cases hr
    have e1 : majI c = c / 2 + 1 := by simp [majI, hr]
    have e2 : errI c = 0 := by simp [errI, hr]
    obtain ⟨m, hm⟩ : ∃ m, majI c = m := ⟨_, rfl⟩
    have hmc : c < 2 * m := by omega
    have hmb : m ≤ 10 := by omega
    clear e1
    have HM := Lib.hid hm
    clear hm
    have E2 := Lib.hid e2
    clear e2
    clear hr hc
    go_enter Try.func7, Try.ntmps7
    go_wp2_with fail
    refine (majority_at _ _ _ HM.out E2.out _).mono ?_
    rintro e w1 ⟨rfl, b1⟩
    go_wp2_with fail
    refine (num_any _ _).mono ?_
    rintro e w2 ⟨rfl, rfl⟩
    go_wp2_with fail
    go_loopw [9, 10, 11, 12] (fun a b d p wr => ∃ A B D : Int, ∃ k : Nat, k ≤ 9 ∧ (k : Int) ≤ c ∧ a = .int .i64 A ∧ b = .int .i64 B ∧ d = .int .i64 D ∧ p = .int .i64 k ∧ 0 ≤ A ∧ A ≤ k ∧ 0 ≤ B ∧ B ≤ k ∧ 0 ≤ D ∧ D ≤ k ∧ A + B ≤ k + D ∧ Below w1.heap.size w1 wr) (fun _ _ _ p _ => (c - intOf p).toNat)
    case atStart => exact ⟨0, 0, 0, 0, by omega, by omega, rfl, rfl, rfl, rfl, by omega, by omega, by omega, by omega, by omega, by omega, by omega, Below.refl _ _⟩
    case round =>
      obtain ⟨A, B, D, k, hk, hkc, rfl, rfl, rfl, rfl, a1, a2, a3, a4, a5, a6, a7, hb⟩ := hrel
      by_cases hlt : (k : Int) < c
      · obtain ⟨s1, s2⟩ := shr16 x1 x2 k
        obtain ⟨s3, s4⟩ := shr16 y1 y2 k
        obtain ⟨u, hu⟩ : ∃ u, bits BinOp.and IntKind.u16 (x / 2 ^ k) 1 = u := ⟨_, rfl⟩
        obtain ⟨v, hv⟩ : ∃ v, bits BinOp.and IntKind.u16 (y / 2 ^ k) 1 = v := ⟨_, rfl⟩
        have hu' : u = 0 ∨ u = 1 := by rw [and16 _ s1 s2] at hu; omega
        have hv' : v = 0 ∨ v = 1 := by rw [and16 _ s3 s4] at hv; omega
        obtain ⟨z, hz⟩ : ∃ z, bits BinOp.and IntKind.u16 u v = z := ⟨_, rfl⟩
        have hz' : 0 ≤ z ∧ z ≤ 1 ∧ u + v ≤ 1 + z := by
          rw [← hz]; clear hu hv hz; rcases hu' with rfl | rfl <;> rcases hv' with rfl | rfl <;> decide
        obtain ⟨z1, z2, z3⟩ := hz'
        have u1 : 0 ≤ u := by omega
        have u2 : u ≤ 1 := by omega
        have v1 : 0 ≤ v := by omega
        have v2 : v ≤ 1 := by omega
        clear hu' hv'
        go_wp2
        go_quiet (fail)
        go_wp2
        go_roundw
        case rel => exact ⟨A + u, B + v, D + z, k + 1, by omega, by omega, by go_num, by go_num, by go_num, by go_num, by omega, by omega, by omega, by omega, by omega, by omega, by omega, hb.trans ⟨rfl, rfl, rfl, Nat.le_refl _, fun _ _ => rfl⟩⟩
        case measure => simp [intOf]; omega
      · have z0 := hb.size
        by_cases hA : A < m
        · go_wp2_with fail
          refine (works_any _).mono ?_
          rintro e w3 ⟨rfl, b3⟩
          go_wp2
          go_ret
          exact ⟨rfl, b1.trans ((hb.mono b1.size).trans (b3.mono (by have := b1.size; omega)))⟩
        · by_cases hB : B < m
          · go_wp2_with fail
            refine (works_any _).mono ?_
            rintro e w3 ⟨rfl, b3⟩
            go_wp2
            go_ret
            exact ⟨rfl, b1.trans ((hb.mono b1.size).trans (b3.mono (by have := b1.size; omega)))⟩
          · have hD : 0 < D := by omega
            go_wp2_with fail
            refine (works_any _).mono ?_
            rintro e w3 ⟨rfl, b3⟩
            go_wp2
            go_ret
            exact ⟨rfl, b1.trans ((hb.mono b1.size).trans (b3.mono (by have := b1.size; omega)))⟩
end Go.Proofs.Ytkpgdchhdhkpdaa
