
/- The document's text: a name's byte, digits, Quote. -/
import Derived.Test.YtehjglaofhgjfaaDoorTyC
namespace Go.Proofs.YtehjglaofhgjfaaDoor
set_option linter.unusedSimpArgs false
set_option linter.unusedVariables false
open Go.RowKit

theorem mkS_app (a b : BL) : mkS a ++ mkS b = mkS (a ++ b) := by
  apply ByteArray.ext
  simp [mkS, ByteArray.append]
theorem ext_one (s : ByteArray) (i : Nat) (c : UInt8) (h : s.data.toList[i]? = some c) : s.extract i (i + 1) = mkS [c] := by
  obtain ⟨hi, rfl⟩ := List.getElem?_eq_some_iff.1 h
  rw [Lib.extract_eq, List.drop_eq_getElem_cons hi]
  simp [mkS]
theorem get_at (s : ByteArray) (i : Nat) (c : UInt8) (h : s.data.toList[i]? = some c) (hi : i < s.size) : (s[i]'hi) = c := by
  have := Lib.data_getElem? s i hi
  rw [h] at this
  exact (Option.some.inj this).symm
theorem named_any (c : UInt8) (w : World) : Calls Tryd.prog 40 #[.int .u8 c.toNat] w fun e w' => e = .returned (.bool (isN c)) ∧ w = w' := by
  obtain ⟨m, hm⟩ : ∃ m, c.toNat = m := ⟨_, rfl⟩
  have hc : (97 ≤ m ∧ m ≤ 122 ∧ isN c = true) ∨ (97 ≤ m ∧ ¬ m ≤ 122 ∧ isN c = false) ∨ (¬ 97 ≤ m ∧ 48 ≤ m ∧ m ≤ 57 ∧ isN c = true) ∨ (¬ 97 ≤ m ∧ 48 ≤ m ∧ ¬ m ≤ 57 ∧ m = 95 ∧ isN c = true) ∨ (¬ 97 ≤ m ∧ 48 ≤ m ∧ ¬ m ≤ 57 ∧ ¬ m = 95 ∧ isN c = false) ∨ (¬ 97 ≤ m ∧ ¬ 48 ≤ m ∧ isN c = false) := by
    unfold isN
    rw [hm]
    by_cases h1 : 97 ≤ m
    · by_cases h2 : m ≤ 122
      · simp [h1, h2]
      · simp [h1, h2]; omega
    · by_cases h2 : 48 ≤ m
      · by_cases h3 : m ≤ 57
        · simp [h1, h2, h3]
        · by_cases h4 : m = 95
          · simp [h4]
          · simp [h1, h2, h3, h4]
      · simp [h1, h2]; omega
  rw [hm]
  rcases hc with ⟨h1, h2, h⟩ | ⟨h1, h2, h⟩ | ⟨h1, h2, h3, h⟩ | ⟨h1, h2, h3, h4, h⟩ | ⟨h1, h2, h3, h4, h⟩ | ⟨h1, h2, h⟩
  · rw [h]
    have y1 : (97 : Int) ≤ (m : Int) := by omega
    have y2 : (m : Int) ≤ 122 := by omega
    clear h hm
    go_enter Tryd.func40, Tryd.ntmps40
    go_wp2
    go_ret
    exact ⟨rfl, rfl⟩
  · rw [h]
    have y1 : (97 : Int) ≤ (m : Int) := by omega
    have y2 : ¬ (m : Int) ≤ 122 := by omega
    have y3 : (48 : Int) ≤ (m : Int) := by omega
    have y4 : ¬ (m : Int) ≤ 57 := by omega
    have y5 : ¬ (m : Int) = 95 := by omega
    have y6 : ¬ m = 95 := by omega
    clear h hm
    go_enter Tryd.func40, Tryd.ntmps40
    go_wp2
    go_ret
    exact ⟨tx_bool (by simp [y5, y6]), rfl⟩
  · rw [h]
    have y1 : ¬ (97 : Int) ≤ (m : Int) := by omega
    have y3 : (48 : Int) ≤ (m : Int) := by omega
    have y4 : (m : Int) ≤ 57 := by omega
    clear h hm
    go_enter Tryd.func40, Tryd.ntmps40
    go_wp2
    go_ret
    exact ⟨rfl, rfl⟩
  · rw [h]
    subst h4
    clear h hm
    go_enter Tryd.func40, Tryd.ntmps40
    go_wp2
    go_ret
    exact ⟨rfl, rfl⟩
  · rw [h]
    have y1 : ¬ (97 : Int) ≤ (m : Int) := by omega
    have y3 : (48 : Int) ≤ (m : Int) := by omega
    have y4 : ¬ (m : Int) ≤ 57 := by omega
    have y5 : ¬ (m : Int) = 95 := by omega
    clear h hm
    go_enter Tryd.func40, Tryd.ntmps40
    go_wp2
    go_ret
    exact ⟨tx_bool (by simp [y5, h4]), rfl⟩
  · rw [h]
    have y1 : ¬ (97 : Int) ≤ (m : Int) := by omega
    have y3 : ¬ (48 : Int) ≤ (m : Int) := by omega
    have y5 : ¬ (m : Int) = 95 := by omega
    have y6 : ¬ m = 95 := by omega
    clear h hm
    go_enter Tryd.func40, Tryd.ntmps40
    go_wp2
    go_ret
    exact ⟨tx_bool (by simp [y5, y6]), rfl⟩
theorem hexv_cases (c : UInt8) (m : Nat) (hm : c.toNat = m) : (48 ≤ m ∧ m ≤ 57 ∧ hexv c = (m : Int) - 48) ∨ (48 ≤ m ∧ ¬ m ≤ 57 ∧ 97 ≤ m ∧ m ≤ 102 ∧ hexv c = (m : Int) - 97 + 10) ∨ (48 ≤ m ∧ ¬ m ≤ 57 ∧ 97 ≤ m ∧ ¬ m ≤ 102 ∧ hexv c = -1) ∨
    (48 ≤ m ∧ ¬ m ≤ 57 ∧ ¬ 97 ≤ m ∧ hexv c = -1) ∨ (¬ 48 ≤ m ∧ ¬ 97 ≤ m ∧ hexv c = -1) := by
  unfold hexv
  rw [hm]
  repeat' split
  all_goals omega
theorem value_any (c : UInt8) (w : World) : Calls Tryd.prog 50 #[.int .u8 c.toNat] w fun e w' => e = .returned (.int .i64 (hexv c)) ∧ w = w' := by
  obtain ⟨m, hm⟩ : ∃ m, c.toNat = m := ⟨_, rfl⟩
  have hk := hexv_cases c m hm
  rw [hm]
  rcases hk with ⟨h1, h2, h⟩ | ⟨h1, h2, h3, h4, h⟩ | ⟨h1, h2, h3, h4, h⟩ | ⟨h1, h2, h3, h⟩ | ⟨h1, h3, h⟩
  · rw [h]
    have y1 : (48 : Int) ≤ (m : Int) := by omega
    have y2 : (m : Int) ≤ 57 := by omega
    clear h hm
    go_enter Tryd.func50, Tryd.ntmps50
    go_wp2
    go_ret
    exact ⟨rfl, rfl⟩
  · rw [h]
    have y1 : (48 : Int) ≤ (m : Int) := by omega
    have y2 : ¬ (m : Int) ≤ 57 := by omega
    have y3 : (97 : Int) ≤ (m : Int) := by omega
    have y4 : (m : Int) ≤ 102 := by omega
    clear h hm
    go_enter Tryd.func50, Tryd.ntmps50
    go_wp2
    go_ret
    exact ⟨rfl, rfl⟩
  · rw [h]
    have y1 : (48 : Int) ≤ (m : Int) := by omega
    have y2 : ¬ (m : Int) ≤ 57 := by omega
    have y3 : (97 : Int) ≤ (m : Int) := by omega
    have y4 : ¬ (m : Int) ≤ 102 := by omega
    clear h hm
    go_enter Tryd.func50, Tryd.ntmps50
    go_wp2
    go_ret
    exact ⟨rfl, rfl⟩
  · rw [h]
    have y1 : (48 : Int) ≤ (m : Int) := by omega
    have y2 : ¬ (m : Int) ≤ 57 := by omega
    have y3 : ¬ (97 : Int) ≤ (m : Int) := by omega
    clear h hm
    go_enter Tryd.func50, Tryd.ntmps50
    go_wp2
    go_ret
    exact ⟨rfl, rfl⟩
  · rw [h]
    have y1 : ¬ (48 : Int) ≤ (m : Int) := by omega
    have y3 : ¬ (97 : Int) ≤ (m : Int) := by omega
    clear h hm
    go_enter Tryd.func50, Tryd.ntmps50
    go_wp2
    go_ret
    exact ⟨rfl, rfl⟩
theorem digit_any (n : Nat) (h : n < 16) (w : World) : Calls Tryd.prog 51 #[.int .i64 n] w fun e w' => e = .returned (.string (mkS [hexd n])) ∧ w = w' := by
  have he : ∀ m : Fin 16, (⟨#[48, 49, 50, 51, 52, 53, 54, 55, 56, 57, 97, 98, 99, 100, 101, 102]⟩ : ByteArray).extract m.1 (m.1 + 1) = mkS [hexd m.1] := by decide
  have he := he ⟨n, h⟩
  simp only at he
  have y1 : (0 : Int) ≤ (n : Int) := by omega
  have y2 : (n : Int) < 16 := by omega
  generalize mkS [hexd n] = R at *
  go_enter Tryd.func51, Tryd.ntmps51
  go_wp2
  go_ret
  exact ⟨rfl, rfl⟩
end Go.Proofs.YtehjglaofhgjfaaDoor
