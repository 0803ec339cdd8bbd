
/- Package text: Len, Cut. -/
import Derived.Test.YtehjglaofhgjfaaDoorTyA
import Derived.Test.YtehjglaofhgjfaaDoorTxA
import Derived.Handy
namespace Go.Proofs.YtehjglaofhgjfaaDoor
set_option linter.unusedSimpArgs false
set_option linter.unusedVariables false
open Go.RowKit

theorem drop_ne {s : ByteArray} {pos : Nat} (h : pos < s.size) : s.data.toList.drop pos ≠ [] := by
  intro e
  have := congrArg List.length e
  rw [List.length_drop, ← Lib.size_eq] at this
  simp at this
  omega
theorem drop_nil {s : ByteArray} {pos : Nat} (h : ¬ pos < s.size) : s.data.toList.drop pos = [] := by
  rw [List.drop_eq_nil_iff, ← Lib.size_eq]
  omega
theorem lenB_at (s : ByteArray) (pos : Nat) (h : pos < s.size) : lenB (s.data.toList.drop pos) = 1 + lenB (s.data.toList.drop (pos + (Utf8.decode s pos).2)) := by
  rw [lenB_step _ (drop_ne h), Lib.decodeL_drop, List.drop_drop]
theorem ext_take (s : ByteArray) (p : Nat) : s.extract 0 p = mkS (s.data.toList.take p) := by rw [Lib.extract_eq]; simp [mkS]
theorem ext_drop (s : ByteArray) (p : Nat) : s.extract p s.size = mkS (s.data.toList.drop p) := by
  rw [Lib.extract_eq, ← List.drop_take, Lib.size_eq, List.take_length]; rfl
theorem mkS_self (s : ByteArray) : mkS s.data.toList = s := Lib.mk_data s
set_option maxRecDepth 100000 in
set_option maxHeartbeats 400000 in
theorem len_any (s : ByteArray) (hs : s.size ≤ 1000000000000) (w : World) : Calls Tryd.prog 27 #[.string s] w fun e w' => e = .returned (.int .i64 (lenB s.data.toList : Nat)) ∧ Below w.heap.size w w' := by
  have hbw : ∀ pos, Below w.heap.size w (w.iter s pos) := fun pos => (Below.refl _ _).alloc (Nat.le_refl _) _
  obtain ⟨A, hA⟩ : ∃ A, lenB s.data.toList = A := ⟨_, rfl⟩
  have hA0 : A ≤ s.size := by rw [← hA, Lib.size_eq]; exact lenB_le _
  rw [hA]
  go_enter Tryd.func27, Tryd.ntmps27
  go_wp2
  go_loopw [2] (fun v w' => ∃ (pos k : Nat), v = .int .i64 k ∧ w' = w.iter s pos ∧ Hid (k + lenB (s.data.toList.drop pos) = A)) (fun _ w' => s.size - w'.iterPos w.heap.size)
  case atStart => exact ⟨0, 0, rfl, rfl, Lib.hid (by simpa using hA)⟩
  case round =>
    obtain ⟨pos, k, rfl, rfl, hk⟩ := hrel
    by_cases hp : pos < s.size
    · have hnx : ∀ ty, (Instr.next (.pointer (some ⟨w.heap.size, 0, none⟩)) true ty).run Tryd.prog (w.iter s pos) = _ := fun ty => run_next_any w s pos ty hp
      have hwd := Lib.decode_width_pos s pos hp
      have hk1 := hk.out
      rw [lenB_at s pos hp] at hk1
      have hk2 : Hid ((k + 1) + lenB (s.data.toList.drop (pos + (Utf8.decode s pos).2)) = A) := Lib.hid (by omega)
      have hb : (k : Int) < 1000000000000 := by omega
      have hb0 : (0 : Int) ≤ (k : Int) := by omega
      clear hk hk1
      go_wp2
      go_roundw
      case rel => exact ⟨pos + (Utf8.decode s pos).2, k + 1, by go_num, rfl, hk2⟩
      case measure => simp; omega
    · have hnx : ∀ ty, (Instr.next (.pointer (some ⟨w.heap.size, 0, none⟩)) true ty).run Tryd.prog (w.iter s pos) = _ := fun ty => run_next_end w s pos ty hp
      have hk2 := hk.out
      rw [drop_nil hp, lenB_nil, Nat.add_zero] at hk2
      subst hk2
      clear hk hA hA0
      go_wp2
      go_ret
      exact ⟨rfl, hbw _⟩
theorem posF_mono : ∀ (d n : Nat) (l : BL), posF n l ≤ posF (n + d) l
  | 0, n, l => Nat.le_refl _
  | d + 1, n, l => by
    have h := posF_mono d n l
    rw [← Nat.add_assoc, posF_succ]
    omega
def cutV (n : Int) (s : ByteArray) : ByteArray := mkS (cutB n.toNat s.data.toList)
set_option maxRecDepth 100000 in
set_option maxHeartbeats 400000 in
theorem cut_any (s : ByteArray) (n : Int) (hn : n ≤ 9223372036854775807) (w : World) : Calls Tryd.prog 28 #[.string s, .int .i64 n] w fun e w' => e = .returned (.string (cutV n s)) ∧ Below w.heap.size w w' := by
  by_cases hn0 : n ≤ 0
  · have e : cutV n s = ByteArray.empty := by
      unfold cutV
      rw [show n.toNat = 0 by omega]
      simp [cutB, posF, mkS]
      rfl
    rw [e]
    go_enter Tryd.func28, Tryd.ntmps28
    go_wp2
    go_ret
    exact ⟨rfl, Below.refl _ _⟩
  · have hbw : ∀ pos, Below w.heap.size w (w.iter s pos) := fun pos => (Below.refl _ _).alloc (Nat.le_refl _) _
    obtain ⟨N, rfl⟩ : ∃ N : Nat, n = (N : Int) := ⟨n.toNat, by omega⟩
    obtain ⟨A, hA⟩ : ∃ A, cutV (N : Int) s = A := ⟨_, rfl⟩
    have hA1 : Hid (mkS (cutB N s.data.toList) = A) := Lib.hid hA
    rw [hA]
    clear hA
    go_enter Tryd.func28, Tryd.ntmps28
    go_wp2
    go_loopw [1, 5] (fun v _ w' => ∃ (pos j : Nat), j ≤ N ∧ v = .int .i64 ((N : Int) - j) ∧ w' = w.iter s pos ∧ Hid (posF j s.data.toList = pos)) (fun _ _ w' => s.size - w'.iterPos w.heap.size)
    case atStart => exact ⟨0, 0, by omega, by simp, rfl, Lib.hid rfl⟩
    case round =>
      obtain ⟨pos, j, hj, rfl, rfl, hk⟩ := hrel
      by_cases hp : pos < s.size
      · have hnx : ∀ ty, (Instr.next (.pointer (some ⟨w.heap.size, 0, none⟩)) true ty).run Tryd.prog (w.iter s pos) = _ := fun ty => run_next_any w s pos ty hp
        have hwd := Lib.decode_width_pos s pos hp
        have hp0 : (0 : Int) ≤ (pos : Int) := by omega
        have hps : (pos : Int) ≤ (s.size : Int) := by omega
        by_cases hjn : j = N
        · subst hjn
          have hE : s.extract 0 pos = A := by rw [ext_take, ← hA1.out, cutB, hk.out]
          clear hk hA1
          have e1 : (j : Int) - (j : Int) = 0 := by omega
          rw [e1]
          go_wp2
          go_ret
          exact ⟨rfl, hbw _⟩
        · have hk2 : Hid (posF (j + 1) s.data.toList = pos + (Utf8.decode s pos).2) := Lib.hid (by
            rw [posF_succ, hk.out, if_neg (drop_ne hp), Lib.decodeL_drop])
          obtain ⟨m, hm⟩ : ∃ m : Nat, (N : Int) - j = (m : Int) + 1 := ⟨N - j - 1, by omega⟩
          rw [hm]
          have hm0 : (0 : Int) ≤ (m : Int) := by omega
          have hm1 : (m : Int) < 9223372036854775807 := by omega
          have hm2 : ¬ (m : Int) < 0 := by omega
          clear hk
          go_wp2
          go_roundw
          case rel => exact ⟨pos + (Utf8.decode s pos).2, j + 1, by omega, by first | (simp only [Value.int.injEq, true_and]; omega) | (go_num; omega) | (congr 1; omega), rfl, hk2⟩
          case measure => simp; omega
      · have hnx : ∀ ty, (Instr.next (.pointer (some ⟨w.heap.size, 0, none⟩)) true ty).run Tryd.prog (w.iter s pos) = _ := fun ty => run_next_end w s pos ty hp
        have hE : s = A := by
          have h1 := posF_mono (N - j) j s.data.toList
          have h2 := posF_le N s.data.toList
          rw [hk.out, show j + (N - j) = N by omega] at h1
          rw [← hA1.out, cutB, List.take_of_length_le (by rw [Lib.size_eq] at hp; omega)]
          exact (mkS_self s).symm
        clear hk hA1
        have HE := Lib.hid hE
        clear hE
        go_wp2
        go_ret
        exact ⟨by rw [← HE.out]; rfl, hbw _⟩
end Go.Proofs.YtehjglaofhgjfaaDoor
