
/- Package disk: named. -/
import Derived.Test.YtceoehjjebkgpaaDkA
import Derived.Laws.RangeString
import Derived.Laws.RangeAny
import Derived.Lib.RuneCount
namespace Go.Proofs.Ytceoehjjebkgpaa
set_option linter.unusedSimpArgs false
set_option linter.unusedVariables false
open Go.RowKit Go.Maps Go.Lib
theorem okR_cases (r : Int) : (¬ r < 97 ∧ ¬ 122 < r ∧ okR r = true) ∨ (¬ r < 97 ∧ 122 < r ∧ ¬ r < 48 ∧ 57 < r ∧ (r != 46) = true ∧ okR r = false) ∨ (r < 97 ∧ ¬ r < 48 ∧ ¬ 57 < r ∧ okR r = true) ∨
    (r < 97 ∧ ¬ r < 48 ∧ 57 < r ∧ (r != 46) = true ∧ okR r = false) ∨ (r < 97 ∧ r < 48 ∧ (r != 46) = false ∧ okR r = true) ∨ (r < 97 ∧ r < 48 ∧ (r != 46) = true ∧ okR r = false) := by
  unfold okR
  by_cases h1 : r < 97
  · by_cases h3 : r < 48
    · by_cases h5 : r = 46
      · subst h5; simp
      · simp [h1, h3, h5]
    · by_cases h4 : 57 < r
      · have h5 : ¬ r = 46 := by omega
        simp [h1, h3, h4, h5]
      · simp [h1, h3, h4]
  · by_cases h2 : 122 < r
    · have h3 : ¬ r < 48 := by omega
      have h4 : 57 < r := by omega
      have h5 : ¬ r = 46 := by omega
      simp [h1, h2, h3, h4, h5]
    · simp [h1, h2]
theorem nmFrom_end (s : ByteArray) (k pos : Nat) (h : ¬ pos < s.size) : nmFrom s k pos = true := by
  cases k <;> simp [nmFrom, h]
/-- Texts as they lie. -/
def HasSt (W : World) (g : Nat) (l : List ByteArray) : Prop := ∀ k s, l[k]? = some s → W.cell? ⟨g, k, none⟩ = some (.string s)
theorem HasSt.step {W W' : World} {g : Nat} {l : List ByteArray} (h : HasSt W g l) (hb : Below W.heap.size W W') : HasSt W' g l := fun k s hk => (hb.cell (World.block_lt_of_cell? W _ (h k s hk))).trans (h k s hk)
theorem eqs_nil (s : ByteArray) (b : Bool) (h : (s.size == 0) = b) : s.toList.isEmpty = b := by
  rw [← h, ByteArray.toList_eq]
  obtain ⟨⟨l⟩⟩ := s
  cases l <;> simp [ByteArray.size]
set_option maxRecDepth 100000 in
set_option maxHeartbeats 4000000 in
theorem dnamed_any (g c : Nat) (l : List ByteArray) (w : World) (hl : l.length ≤ 2) (hH : HasSt w g l) (hs : ∀ s ∈ l, s.size ≤ 9223372036854775807) :
    Calls Try.prog 24 #[.slice (some ⟨g, 0, none⟩) l.length c] w fun e w' => e = .returned (.bool (l.all nmB)) ∧ Below w.heap.size w w' := by
  obtain ⟨N, hN⟩ : ∃ N, l.length = N := ⟨_, rfl⟩
  obtain ⟨R, hR⟩ : ∃ R, l.all nmB = R := ⟨_, rfl⟩
  rw [hN] at hl ⊢
  rw [hR]
  have HR := Lib.hid hR
  clear hR
  have HS := Lib.hid hs
  clear hs
  have hb := From.refl w
  go_enter Try.func24, Try.ntmps24
  go_wp2_with fail
  go_loopw [9] (fun i wr => ∃ j : Nat, i = .int .i64 j ∧ j ≤ N ∧ From w wr ∧ Hid ((l.take j).all nmB = true)) (fun i _ => N - (intOf i).toNat)
  case atStart => exact ⟨0, rfl, by omega, hb, Lib.hid rfl⟩
  case round =>
    clear hb
    obtain ⟨j, rfl, hj, hb, HA⟩ := hrel
    by_cases hlt : j < N
    · obtain ⟨s, hsj⟩ : ∃ s, l[j]? = some s := ⟨l[j], by simp [hN, hlt]⟩
      have cj := (hH.step hb.out) j s hsj
      have hj0 : (0 : Int) ≤ (j : Int) := by omega
      have hj1 : (j : Int) < (N : Int) := by omega
      have hse := HS.out s (List.mem_of_getElem? hsj)
      have hsi : (s.size : Int) ≤ 9223372036854775807 := by omega
      have htk : l.take (j + 1) = l.take j ++ [s] := by rw [List.take_add_one, hsj]; rfl
      have hall : nmB s = false → l.all nmB = false := fun h => by
        rw [List.all_eq_false]
        exact ⟨s, List.mem_of_getElem? hsj, by simp [h]⟩
      cases h0 : (s.size == 0)
      · have hq := eqs_nil s false h0
        by_cases h20 : 20 < s.size
        · have h20i : 20 < (s.size : Int) := by omega
          have hnb : nmB s = false := by unfold nmB; simp [h0]; intro h; omega
          obtain rfl : R = false := by rw [← HR.out]; exact hall hnb
          clear HA hsj htk h0 hse hall
          go_wp2_with fail
          go_ret
          exact ⟨rfl, hb.out⟩
        · have h20i : ¬ 20 < (s.size : Int) := by omega
          have hnm : nmB s = nmFrom s s.size 0 := by unfold nmB; simp [h0]; omega
          obtain ⟨A, hA⟩ : ∃ A, nmFrom s s.size 0 = A := ⟨_, rfl⟩
          rw [hA] at hnm
          have hbw : ∀ pos, Below wr.heap.size wr (wr.iter s pos) := fun pos => (Below.refl _ _).alloc (Nat.le_refl _) _
          have hyes : A = true → (l.take (j + 1)).all nmB = true := fun h => by rw [htk, List.all_append, HA.out]; simp [hnm, h]
          have hno : A = false → R = false := fun h => by rw [← HR.out]; exact hall (by rw [hnm, h])
          clear HA hsj htk h0 hse hall hnm
          go_wp2_with fail
          go_loopw [22] (fun _ w' => ∃ (pos k : Nat), w' = wr.iter s pos ∧ nmFrom s k pos = A ∧ s.size ≤ pos + k) (fun _ w' => s.size - w'.iterPos wr.heap.size)
          case atStart => exact ⟨0, s.size, rfl, hA, by omega⟩
          case round =>
            obtain ⟨pos, k, rfl, hk, hbk⟩ := hrel
            by_cases hp : pos < s.size
            · have hnx : ∀ ty, (Instr.next (.pointer (some ⟨wr.heap.size, 0, none⟩)) true ty).run Try.prog (wr.iter s pos) = _ := fun ty => run_next_any wr s pos ty hp
              have hwd := Lib.decode_width_pos s pos hp
              cases k with
              | zero => omega
              | succ k =>
                unfold nmFrom at hk
                rw [if_pos hp] at hk
                obtain ⟨r, hr⟩ : ∃ r : Int, ((Utf8.decode s pos).1 : Int) = r := ⟨_, rfl⟩
                rw [hr] at hk
                simp only [hr] at hnx
                rcases okR_cases r with ⟨k1, k2, h⟩ | ⟨k1, k2, k3, k4, k5, h⟩ | ⟨k1, k3, k4, h⟩ | ⟨k1, k3, k4, k5, h⟩ | ⟨k1, k3, k5, h⟩ | ⟨k1, k3, k5, h⟩
                all_goals
                  rw [h] at hk
                  clear h
                  first
                    | (have hk2 : nmFrom s k (pos + (Utf8.decode s pos).2) = A := by simpa using hk
                       clear hk hA
                       go_wp2_with fail
                       go_roundw
                       case rel => exact ⟨pos + (Utf8.decode s pos).2, k, rfl, hk2, by omega⟩
                       case measure => simp; omega)
                    | (have hk2 : A = false := by simpa using hk.symm
                       obtain rfl := hno hk2
                       clear hk hA hyes hno
                       go_wp2_with fail
                       go_ret
                       exact ⟨rfl, (hb.step (hbw _)).out⟩)
            · have hnx : ∀ ty, (Instr.next (.pointer (some ⟨wr.heap.size, 0, none⟩)) true ty).run Try.prog (wr.iter s pos) = _ := fun ty => run_next_end wr s pos ty hp
              rw [nmFrom_end s k pos hp] at hk
              have hk2 := hyes hk.symm
              clear hk hA hyes hno
              go_wp2_with fail
              go_roundw
              case rel => exact ⟨j + 1, by go_num, by omega, hb.step (hbw _), Lib.hid hk2⟩
              case measure => simp [intOf]; omega
      · have hq := eqs_nil s true h0
        have hnb : nmB s = false := by unfold nmB; simp [h0]
        obtain rfl : R = false := by rw [← HR.out]; exact hall hnb
        clear HA hsj htk h0 hse hall
        go_wp2_with fail
        go_ret
        exact ⟨rfl, hb.out⟩
    · obtain rfl : j = N := by omega
      have hA := HA.out
      rw [List.take_of_length_le (by omega)] at hA
      obtain rfl : R = true := by rw [← HR.out]; exact hA
      clear HA hA
      go_wp2_with fail
      go_ret
      exact ⟨rfl, hb.out⟩
end Go.Proofs.Ytceoehjjebkgpaa
