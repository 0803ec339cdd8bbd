
/- The document's text: Quote. -/
import Derived.Test.YtehjglaofhgjfaaDoorTyD
import Derived.Deep.Cut
namespace Go.Proofs.YtehjglaofhgjfaaDoor
set_option linter.unusedSimpArgs false
set_option linter.unusedVariables false
open Go.RowKit
def quoteS (s : ByteArray) : ByteArray := mkS (quoteL s.data.toList)
def qTo (l : BL) (i : Nat) : BL := 34 :: (l.take i).flatMap qB
theorem qTo_succ (l : BL) (i : Nat) (c : UInt8) (h : l[i]? = some c) : qTo l i ++ qB c = qTo l (i + 1) := by
  obtain ⟨hi, rfl⟩ := List.getElem?_eq_some_iff.1 h
  unfold qTo
  rw [List.take_succ_eq_append_getElem hi, List.flatMap_append]
  simp only [List.flatMap_cons, List.flatMap_nil, List.append_nil, List.cons_append]
theorem qTo_end (l : BL) : qTo l l.length ++ [34] = quoteL l := by simp [qTo, quoteL]
theorem qTo_len (l : BL) (i : Nat) : (qTo l i).length ≤ 1 + 4 * i := by
  unfold qTo
  rw [List.length_cons, List.length_flatMap]
  have : ∀ m : BL, (m.map fun c => (qB c).length).sum ≤ 4 * m.length := by
    intro m
    induction m with
    | nil => simp
    | cons a t ih =>
      have : (qB a).length ≤ 4 := by
        unfold qB
        split
        · simp
        · split <;> simp
      simp only [List.map_cons, List.sum_cons, List.length_cons]
      omega
  have h1 := this (l.take i)
  have h2 : (l.take i).length ≤ i := by rw [List.length_take]; omega
  omega
set_option maxRecDepth 100000 in
set_option maxHeartbeats 2000000 in
theorem rquote_any (s : ByteArray) (n : Nat) (hs0 : s.size = n) (hs : n ≤ 1000000000) (w : World) : Calls Tryd.prog 24 #[.string s] w fun e w' => e = .returned (.string (quoteS s)) ∧ w = w' := by
  have hn : s.data.toList.length = n := (Lib.size_eq s).symm.trans hs0
  obtain ⟨l, hl⟩ : ∃ l, s.data.toList = l := ⟨_, rfl⟩
  have hR : Hid (mkS (quoteL l) = quoteS s) := Lib.hid (by rw [← hl]; rfl)
  rw [hl] at hn
  generalize quoteS s = R at *
  go_enter Tryd.func24, Tryd.ntmps24
  go_wp2_with fail
  go_loopw [3, 4] (fun o v wr => ∃ i : Nat, v = .int .i64 i ∧ i ≤ n ∧ o = .string (mkS (qTo l i)) ∧ wr = w) (fun _ v _ => n - (intOf v).toNat)
  case atStart => exact ⟨0, rfl, by omega, by simp [qTo, mkS], by first | rfl | trivial⟩
  case round =>
    obtain ⟨i, rfl, hi, rfl, hw⟩ := hrel
    subst hw
    by_cases hlt : i < n
    · obtain ⟨c, hc⟩ : ∃ c, l[i]? = some c := ⟨_, List.getElem?_eq_getElem (by omega)⟩
      have hc0 : s.data.toList[i]? = some c := by rw [hl]; exact hc
      have hs1 : (mkS [c]).size = 1 := rfl
      obtain ⟨Z, hZ⟩ : ∃ Z, (mkS (qTo l i)).size = Z := ⟨_, rfl⟩
      have hZ2 : Z ≤ 5000000000 := by
        have := qTo_len l i
        rw [← hZ, mkS_size]
        omega
      have hgi := get_at s i c hc0 (by omega)
      have hex := ext_one s i c hc0
      have i0 : (0 : Int) ≤ (i : Int) := by omega
      have i1 : (i : Int) < (n : Int) := by omega
      have i2 : (i : Int) < 1000000000000 := by omega
      have hlt2 : i < s.size := by omega
      have hsucc := qTo_succ l i c hc
      have c0 := c.toNat_lt
      have hgm : (s[i]'hlt2).toNat = c.toNat := by rw [hgi]
      obtain ⟨m, hm⟩ : ∃ m, c.toNat = m := ⟨_, rfl⟩
      rw [hm] at hgm
      clear hgi hc hc0 hl hn hR
      by_cases h1 : m = 34 ∨ m = 92
      · have hq : qB c = [92, c] := by unfold qB; rw [if_pos (by omega)]
        rw [hq] at hsucc
        have ha1 : mkS (qTo l i) ++ ⟨#[92]⟩ ++ mkS [c] = mkS (qTo l (i + 1)) := by
          rw [show (⟨#[92]⟩ : ByteArray) = mkS [92] from rfl, mkS_app, mkS_app, ← hsucc]
          simp
        clear hsucc hq
        rcases h1 with rfl | rfl
        · go_wp2_with fail
          go_roundw
          case rel => exact ⟨i + 1, by go_num, by omega, by first | rw [ha1] | (simp only [ha1]), by first | rfl | trivial⟩
          case measure => simp [intOf]; omega
        · go_wp2_with fail
          go_roundw
          case rel => exact ⟨i + 1, by go_num, by omega, by first | rw [ha1] | (simp only [ha1]), by first | rfl | trivial⟩
          case measure => simp [intOf]; omega
      · have n1 : ¬ m = 34 := by omega
        have n2 : ¬ m = 92 := by omega
        have n1' : ((m : Int) == 34) = false := by rw [beq_eq_false_iff_ne]; omega
        have n2' : ((m : Int) == 92) = false := by rw [beq_eq_false_iff_ne]; omega
        clear h1
        by_cases h2 : 32 ≤ m ∧ m < 127
        · have hq : qB c = [c] := by unfold qB; rw [if_neg (by omega), if_pos (by omega)]
          rw [hq] at hsucc
          have ha1 : mkS (qTo l i) ++ mkS [c] = mkS (qTo l (i + 1)) := by rw [mkS_app, ← hsucc]
          have g1 : (32 : Int) ≤ (m : Int) := by omega
          have g2 : (m : Int) ≤ 126 := by omega
          clear hsucc hq h2 n1 n2 c0 hm
          go_wp2_with fail
          go_roundw
          case rel => exact ⟨i + 1, by go_num, by omega, by first | rw [ha1] | (simp only [ha1]), by first | rfl | trivial⟩
          case measure => simp [intOf]; omega
        · have hq : qB c = [92, 120, hexd (m / 16), hexd (m % 16)] := by unfold qB; rw [if_neg (by omega), if_neg (by omega), hm]
          rw [hq] at hsucc
          have ha1 : mkS (qTo l i) ++ ⟨#[92, 120]⟩ ++ mkS [hexd (m / 16)] ++ mkS [hexd (m % 16)] = mkS (qTo l (i + 1)) := by
            rw [show (⟨#[92, 120]⟩ : ByteArray) = mkS [92, 120] from rfl, mkS_app, mkS_app, mkS_app, ← hsucc]
            simp
          have m0 : (0 : Int) ≤ (m : Int) := by omega
          have m1 : (m : Int) < 256 := by omega
          have d1 := fun W => digit_any (m / 16) (by omega) W
          have d2 := fun W => digit_any (m % 16) (by omega) W
          rw [show ((m / 16 : Nat) : Int) = (m : Int) / 16 by omega] at d1
          rw [show ((m % 16 : Nat) : Int) = (m : Int) % 16 by omega] at d2
          have hx1 : (mkS [hexd (m / 16)]).size = 1 := rfl
          have hx2 : (mkS [hexd (m % 16)]).size = 1 := rfl
          clear hsucc hq n1 n2 c0 hm
          by_cases g1 : 32 ≤ m
          · have g1' : (32 : Int) ≤ (m : Int) := by omega
            have g2' : ¬ (m : Int) ≤ 126 := by omega
            clear h2
            go_wp2_with fail
            refine (d1 _).mono ?_
            rintro e wx ⟨rfl, rfl⟩
            go_wp2_with fail
            refine (d2 _).mono ?_
            rintro e wx ⟨rfl, rfl⟩
            go_wp2_with fail
            go_roundw
            case rel => exact ⟨i + 1, by go_num, by omega, by first | rw [ha1] | (simp only [ha1]), by first | rfl | trivial⟩
            case measure => simp [intOf]; omega
          · have g1' : ¬ (32 : Int) ≤ (m : Int) := by omega
            clear h2
            go_wp2_with fail
            refine (d1 _).mono ?_
            rintro e wx ⟨rfl, rfl⟩
            go_wp2_with fail
            refine (d2 _).mono ?_
            rintro e wx ⟨rfl, rfl⟩
            go_wp2_with fail
            go_roundw
            case rel => exact ⟨i + 1, by go_num, by omega, by first | rw [ha1] | (simp only [ha1]), by first | rfl | trivial⟩
            case measure => simp [intOf]; omega
    · obtain rfl : i = n := by omega
      have i1 : ¬ (i : Int) < (i : Int) := by omega
      have e : mkS (qTo l i) ++ ⟨#[34]⟩ = R := by rw [← hR.out, ← qTo_end, ← mkS_app, hn]; rfl
      obtain ⟨Z, hZ⟩ : ∃ Z, (mkS (qTo l i)).size = Z := ⟨_, rfl⟩
      have hZ2 : Z ≤ 5000000000 := by
        have := qTo_len l i
        rw [← hZ, mkS_size]
        omega
      clear hR hl hn
      go_wp2_with fail
      go_ret
      exact ⟨rfl, rfl⟩
end Go.Proofs.YtehjglaofhgjfaaDoor
