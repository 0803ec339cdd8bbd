
/- The document's talk: Members. -/
import Derived.Test.YtndechodaegkiaaDoorChMc
namespace Go.Proofs.YtndechodaegkiaaDoor
open Go.RowKit
theorem info_int : (Tryd.prog.info? 3).map (fun i => (i.zero, i.size, i.bytes)) = some (some (.int .i64 0), 1, 8) := by kernel_rfl
def intsL (xs : List Int) : List Value := xs.map (Value.int .i64)
theorem mems_len (M : List St) (k : Int) : (mems k M).length ≤ M.length := by
  induction M generalizing k with
  | nil => simp [mems]
  | cons a t ih => unfold mems; split <;> (have := ih (k + 1); simp; omega)
set_option maxRecDepth 100000 in
set_option maxHeartbeats 1000000 in
theorem refMembers_any (base2 : Nat) (sv : Value) (t : Tk) (w : World) (hG : Good t) (hD : DW w base2 sv t.L) :
    Calls Tryd.prog 20 #[.agg #[.int .i64 t.sl, sv]] w fun r w' => (∃ v, r = .returned v ∧ w'.ownsRow w.heap.size 3 1 v (mems 0 t.M).length (intsL (mems 0 t.M))) ∧ Below w.heap.size w w' := by
  obtain ⟨i0, hi, hz0, hz1, hz2⟩ := info_parts info_int
  obtain ⟨a, c, rfl⟩ := hD.sl
  have hfew := hG.few
  have htop := hG.top
  obtain ⟨n, hn⟩ : ∃ n, t.L.length = n := ⟨_, rfl⟩
  obtain ⟨sl, hsl⟩ : ∃ sl : Nat, t.sl = sl := ⟨_, rfl⟩
  obtain ⟨A, hA⟩ : ∃ A, mems 0 t.M = A := ⟨_, rfl⟩
  have hAlen : A.length ≤ 16 := by rw [← hA]; have := mems_len t.M 0; rw [hG.len] at this; exact this
  have cR := fun m W hW => refOf_any t.L a c sl m W hW (by omega)
  rw [hn] at hD cR ⊢
  rw [hsl, hA]
  have hb1 := (Below.refl w.heap.size w).alloc (Nat.le_refl _) (.cells #[.int .i64 sl, .slice a n c] 49)
  have XB := Blk.newA' (W := w) rfl 49 #[.int .i64 sl, .slice a n c]
  have hD1 := hD.step hb1
  obtain ⟨B, hB⟩ : ∃ B, w.heap.size = B := ⟨_, rfl⟩
  rw [hB] at hb1 XB
  have hs1 : (w.alloc (.cells #[.int .i64 sl, .slice a n c] 49)).heap.size = B + 1 := alloc_size hB _
  have hp0 : Hid ([] ++ mems (0 : Nat) (t.M.drop 0) = A) := Lib.hid hA
  clear hA
  go_enter Tryd.func20, Tryd.ntmps20
  go_upto_region 2 with fail
  generalize w.alloc (.cells #[.int .i64 sl, .slice a n c] 49) = W at *
  go_wp2_with fail
  go_loopw [3, 4] (fun v i wr => ∃ (k : Nat) (pre : List Int), i = .int .i64 k ∧ k ≤ 16 ∧ ExtA W wr ∧ wr.ownsRow (B + 1) 3 1 v pre.length (intsL pre) ∧ Hid (pre ++ mems k (t.M.drop k) = A) ∧ pre.length ≤ k) (fun _ i _ => 16 - (intOf i).toNat)
  case atStart => exact ⟨0, [], rfl, by omega, Below.refl _ _, World.ownsRow_nil _ _ _ _, hp0, by simp⟩
  case round =>
    obtain ⟨k, pre, rfl, hk, hb, hown, HP, hpk⟩ := hrel
    clear hp0
    by_cases hlt : k < 16
    · have hk0 : (0 : Int) ≤ (k : Int) := by omega
      have hk1 : (k : Int) < 16 := by omega
      obtain ⟨s, hs⟩ : ∃ s, t.M[k]? = some s := ⟨t.M[k]'(by rw [hG.len]; exact hlt), by rw [List.getElem?_eq_getElem]⟩
      have hst : stOf k t.L = s := by rw [← hG.say k hlt]; simp [hs]
      have cO := cR k wr (hasL_own (by have := (hD1.step hb).row; rw [hn] at this; exact this) hn)
      rw [hst] at cO
      obtain ⟨x1, x2, x3⟩ := s
      change Calls Tryd.prog 26 #[.agg #[.int .i64 sl, .slice a n c], .int .i64 k] wr fun r w' => r = .returned (.agg #[.bool x1, .int .i64 x2, .int .i64 x3]) ∧ Below wr.heap.size wr w' at cO
      have hfd : ∀ w : World, (Instr.field 64 (.agg #[.bool x1, .int .i64 x2, .int .i64 x3]) 0).run Tryd.prog w = .ok (.bool x1) w := fun _ => by kernel_rfl
      have b0 := (XB.step hb).cell (j := 0) rfl
      have b1 := (XB.step hb).cell (j := 1) rfl
      have hP2 := HP.out
      obtain ⟨hltM, heM⟩ := List.getElem?_eq_some_iff.1 hs
      rw [List.drop_eq_getElem_cons hltM, heM] at hP2
      unfold mems at hP2
      simp only at hP2
      clear HP hs hst heM hltM
      go_wp2_with fail
      refine (cO).mono ?_
      rintro e w3 ⟨rfl, hb3⟩
      have hb4 : ExtA W w3 := extA_then hb hb3
      have hown3 := own_step hown hb3
      clear b0 b1 cO hown
      cases x1
      · rw [if_neg (by simp)] at hP2
        have HP2 := Lib.hid hP2
        clear hP2
        have HO := Lib.hid hown3
        clear hown3
        go_wp2
        go_roundw
        case rel => exact ⟨k + 1, pre, by go_num, by omega, hb4, HO.out, HP2, by omega⟩
        case measure => simp [intOf]; omega
      · rw [if_pos rfl] at hP2
        have HP2 := Lib.hid hP2
        clear hP2
        have hsW := Below.size hb4
        go_wp2_with (at_builtin; refine wpList_append_own _ rfl _ _ 52 rfl (B + 1) 3 i0 (.int .i64 0) 1 8 Tryd.underlying52 hi hz0 hz1 hz2 rfl (by decide) _ _ _ rfl (hown3.alloc _) ⟨w3.heap.size, 0, none⟩ 1 1 [.int .i64 k] rfl rfl (cell_one_new _ _ _) (by simp [Value.oneCell']) (by unfold maxLen; omega) (by omega) (by simp; omega) ?_)
        intro v' w4 hown' hgrow _
        have hb5 : ExtA W w4 := (Below.alloc hb4 hsW (.cells #[.int .i64 k] 3)).grown hgrow (by simp; omega) (fun j e => by have := (hown3.lt j e).1; omega)
        have hown4 : Hid (w4.ownsRow (B + 1) 3 1 v' (pre ++ [(k : Int)]).length (intsL (pre ++ [(k : Int)]))) := Lib.hid (by rw [List.length_append]; simpa [intsL] using hown')
        have HP3 : Hid ((pre ++ [(k : Int)]) ++ mems (k + 1 : Nat) (t.M.drop (k + 1)) = A) := Lib.hid (by rw [List.append_assoc]; exact HP2.out)
        clear hown' hgrow hown3 HP2
        go_wp2
        go_roundw
        case rel => exact ⟨k + 1, pre ++ [(k : Int)], by go_num, by omega, hb5, hown4.out, HP3, by simp; omega⟩
        case measure => simp [intOf]; omega
    · obtain rfl : k = 16 := by omega
      have hP := HP.out
      rw [List.drop_eq_nil_of_le (by rw [hG.len]; exact Nat.le_refl _)] at hP
      simp only [mems, List.append_nil] at hP
      subst hP
      have hbf : Below B w wr := hb1.trans (Below.mono hb (by omega))
      have HO := Lib.hid (row_low hown (by omega : B ≤ B + 1))
      clear hown HP
      go_wp2
      go_ret
      exact ⟨⟨_, rfl, by rw [hB]; exact HO.out⟩, by rw [hB]; exact hbf⟩
end Go.Proofs.YtndechodaegkiaaDoor
