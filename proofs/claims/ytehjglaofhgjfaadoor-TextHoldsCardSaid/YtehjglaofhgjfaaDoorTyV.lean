
/- The document's Words. -/
import Derived.Test.YtehjglaofhgjfaaDoorTyU
namespace Go.Proofs.YtehjglaofhgjfaaDoor
set_option linter.unusedSimpArgs false
set_option linter.unusedVariables false
open Go.RowKit
/-- What stands from a to b. -/
def mid (l : BL) (a b : Nat) : BL := (l.drop a).take (b - a)
theorem ext_mid (s : ByteArray) (a b : Nat) : s.extract a b = mkS (mid s.data.toList a b) := Lib.extract_eq s a b
theorem mid_len (l : BL) (a b : Nat) (h : b ≤ l.length) (ha : a ≤ b) : (mid l a b).length = b - a := by unfold mid; simp; omega
theorem mid_nil (l : BL) (a : Nat) : mid l a a = [] := by unfold mid; simp
theorem mid_snoc (l : BL) (a b : Nat) (c : UInt8) (ha : a ≤ b) (h : l[b]? = some c) : mid l a (b + 1) = mid l a b ++ [c] := by
  unfold mid
  rw [show b + 1 - a = (b - a) + 1 by omega, List.take_add_one, List.getElem?_drop, show a + (b - a) = b by omega, h]
  rfl
theorem drop_cons (l : BL) (b : Nat) (c : UInt8) (h : l[b]? = some c) : l.drop b = c :: l.drop (b + 1) := by
  obtain ⟨hb, e⟩ := List.getElem?_eq_some_iff.1 h
  rw [List.drop_eq_getElem_cons hb, e]
theorem byte_at (s : ByteArray) (i : Nat) (h : i < s.size) : ∃ c, s.data.toList[i]? = some c ∧ s[i] = c := ⟨s[i], Lib.data_getElem? s i h, rfl⟩
def WdI (l : BL) (A : List BL) (i fr : Nat) (out : List BL) : Prop :=
  (i ≤ l.length ∧ fr ≤ i ∧ out ++ wrd (mid l fr i) (l.drop i) = A) ∨ (i = l.length + 1 ∧ out = A)
theorem WdI.last {l : BL} {A : List BL} {fr : Nat} {out : List BL} (h : WdI l A l.length fr out) : fr ≤ l.length ∧ (if fr < l.length then out ++ [mid l fr l.length] else out) = A := by
  rcases h with ⟨-, h2, h⟩ | ⟨h, -⟩
  · refine ⟨h2, ?_⟩
    rw [List.drop_length, wrd] at h
    by_cases hf : fr < l.length
    · rw [if_pos hf]
      rw [if_neg (fun e => by have := mid_len l fr l.length (Nat.le_refl _) h2; rw [e] at this; simp at this; omega)] at h
      exact h
    · rw [if_neg hf]
      rw [if_pos (by rw [show fr = l.length by omega, mid_nil]), List.append_nil] at h
      exact h
  · omega
theorem WdI.blank {l : BL} {A : List BL} {i fr : Nat} {out : List BL} {c : UInt8} (h : WdI l A i fr out) (hc : l[i]? = some c) (h32 : c.toNat = 32) : fr ≤ i ∧ WdI l A (i + 1) (i + 1) (if fr < i then out ++ [mid l fr i] else out) := by
  have hi := (List.getElem?_eq_some_iff.1 hc).1
  have e32 : c = 32 := UInt8.toNat_inj.1 (by rw [h32]; rfl)
  rcases h with ⟨h1, h2, h⟩ | ⟨h, -⟩
  · refine ⟨h2, Or.inl ⟨by omega, Nat.le_refl _, ?_⟩⟩
    rw [drop_cons l i c hc, wrd, if_pos e32] at h
    rw [mid_nil]
    by_cases hf : fr < i
    · rw [if_pos hf]
      rw [if_neg (fun e => by have := mid_len l fr i h1 h2; rw [e] at this; simp at this; omega)] at h
      rw [← h]; simp
    · rw [if_neg hf]
      rw [if_pos (by rw [show fr = i by omega, mid_nil])] at h
      exact h
  · omega
theorem WdI.more {l : BL} {A : List BL} {i fr : Nat} {out : List BL} {c : UInt8} (h : WdI l A i fr out) (hc : l[i]? = some c) (h32 : c.toNat ≠ 32) : WdI l A (i + 1) fr out := by
  have hi := (List.getElem?_eq_some_iff.1 hc).1
  have e32 : c ≠ 32 := fun e => h32 (by rw [e]; rfl)
  rcases h with ⟨h1, h2, h⟩ | ⟨h, -⟩
  · refine Or.inl ⟨by omega, by omega, ?_⟩
    rw [drop_cons l i c hc, wrd, if_neg e32] at h
    rw [mid_snoc l fr i c h2 hc]
    exact h
  · omega
set_option maxRecDepth 100000 in
set_option maxHeartbeats 4000000 in
theorem words_any (s : ByteArray) (n : Nat) (hn : s.size = n) (hs : n ≤ 1000000) (w : World) : Calls Tryd.prog 43 #[.string s] w fun e w' => (∃ v, e = .returned v ∧ OwnL w' w.heap.size v (wrd [] s.data.toList)) ∧ Below w.heap.size w w' := by
  obtain ⟨i0, hi, hz0, hz1, hz2⟩ := info_parts info_str
  obtain ⟨A, hA⟩ : ∃ A, wrd [] s.data.toList = A := ⟨_, rfl⟩
  rw [hA]
  have hln : s.data.toList.length = n := by rw [← Lib.size_eq]; exact hn
  go_enter Tryd.func43, Tryd.ntmps43
  go_wp2_with fail
  go_loopw [3, 4, 5] (fun v f j wr => ∃ (i fr : Nat) (out : List BL), j = .int .i64 i ∧ f = .int .i64 fr ∧ OwnL wr w.heap.size v out ∧ Hid (WdI s.data.toList A i fr out) ∧ out.length ≤ i ∧ i ≤ n + 1 ∧ fr ≤ i ∧ Below w.heap.size w wr) (fun _ _ j _ => n + 1 - (intOf j).toNat)
  case atStart => exact ⟨0, 0, [], rfl, rfl, World.ownsRow_nil _ _ _ _, Lib.hid (Or.inl ⟨by omega, by omega, by rw [mid_nil]; exact hA⟩), by simp, by omega, by omega, Below.refl _ _⟩
  case round =>
    obtain ⟨i, fr, out, rfl, rfl, hown, hW, hol, hin, hfr, hb⟩ := hrel
    have i0' : (0 : Int) ≤ (i : Int) := by omega
    have i9 : (i : Int) ≤ 1000001 := by omega
    have f0 : (0 : Int) ≤ (fr : Int) := by omega
    have f1 : (fr : Int) ≤ (i : Int) := by omega
    have ho1 : out.length ≤ 1000001 := by omega
    clear hA
    rcases Nat.lt_or_ge n i with h1 | h1
    · have hz : ¬ (i : Int) ≤ (n : Int) := by omega
      have hA2 : out = A := by
        rcases hW.out with ⟨h, -⟩ | ⟨-, h⟩
        · omega
        · exact h
      subst hA2
      go_wp2_with fail
      go_ret
      exact ⟨⟨_, rfl, hown⟩, hb⟩
    · have hz : (i : Int) ≤ (n : Int) := by omega
      rcases Nat.lt_or_ge i n with h2 | h2
      · obtain ⟨c, hc⟩ : ∃ c, s.data.toList[i]? = some c := ⟨_, List.getElem?_eq_getElem (by omega)⟩
        have hlt2 : i < s.size := by omega
        have hgi := get_at s i c hc hlt2
        have hgm : (s[i]'hlt2).toNat = c.toNat := by rw [hgi]
        obtain ⟨m, hm⟩ : ∃ m, c.toNat = m := ⟨_, rfl⟩
        rw [hm] at hgm
        have j1 : (i : Int) < (n : Int) := by omega
        have ne1 : ¬ (i : Int) = (n : Int) := by omega
        have ne2 : ((i : Int) == (n : Int)) = false := by rw [beq_eq_false_iff_ne]; exact ne1
        by_cases h32 : m = 32
        · obtain ⟨g1, W2⟩ := hW.out.blank hc (by omega)
          subst h32
          clear hgi hW
          by_cases hf : fr < i
          · rw [if_pos hf] at W2
            have hfI : (fr : Int) < (i : Int) := by omega
            have HW2 := Lib.hid W2
            clear W2
            have HC := Lib.hid hc
            clear hc
            have sz1 : (i : Int) ≤ (s.size : Int) := by omega
            clear hm
            go_wp2_with (at_builtin; refine wpList_append_own _ rfl _ _ 28 rfl w.heap.size 9 i0 (.string ⟨#[]⟩) 1 16 Tryd.underlying28 hi hz0 hz1 hz2 rfl (by decide) _ _ _ rfl (World.ownsRow.alloc hown _) ⟨wr.heap.size, 0, none⟩ 1 1 [.string (s.extract fr i)] rfl rfl (Blk.new' rfl 9 [.string (s.extract fr i)]).news (by simp [Value.oneCell']) (by unfold maxLen; omega) (by omega) (by have := hb.size; simp; omega) ?_)
            intro v' w1 hown' hgrow _
            have hb' := (hb.alloc hb.size (.cells #[.string (s.extract fr i)] 9)).grown hgrow (by have := hb.size; simp; omega) (fun k e => (World.ownsRow.lt hown k e).1)
            have hown2 : Hid (OwnL w1 w.heap.size v' (out ++ [mid s.data.toList fr i])) := Lib.hid (OwnL.snoc (by rw [← ext_mid]; exact hown'))
            clear hown' hgrow hown hb
            go_wp2_with fail
            go_roundw
            case rel => exact ⟨i + 1, i + 1, out ++ [mid s.data.toList fr i], by go_num, by go_num, hown2.out, HW2, by simp; omega, by omega, by omega, hb'⟩
            case measure => (simp [intOf] <;> omega)
          · rw [if_neg hf] at W2
            have HW2 := Lib.hid W2
            clear W2
            have hfI : ¬ (fr : Int) < (i : Int) := by omega
            clear hm hc
            go_wp2_with fail
            go_roundw
            case rel => exact ⟨i + 1, i + 1, out, by go_num, by go_num, hown, HW2, by omega, by omega, by omega, hb⟩
            case measure => (simp [intOf] <;> omega)
        · have W2 := hW.out.more hc (by omega)
          have HW2 := Lib.hid W2
          clear W2
          have h32' : ((m : Int) == 32) = false := by rw [beq_eq_false_iff_ne]; omega
          clear hgi hm hc hW h32
          go_wp2_with fail
          go_roundw
          case rel => exact ⟨i + 1, fr, out, by go_num, rfl, hown, HW2, by omega, by omega, by omega, hb⟩
          case measure => (simp [intOf] <;> omega)
      · obtain rfl : i = n := by omega
        have hW1 := hW.out
        rw [← hln] at hW1
        obtain ⟨g1, W2⟩ := hW1.last
        rw [hln] at W2
        clear hW hW1
        by_cases hf : fr < i
        · rw [if_pos hf] at W2
          have hfI : (fr : Int) < (i : Int) := by omega
          have HW2 := Lib.hid W2
          clear W2
          go_wp2_with (at_builtin; refine wpList_append_own _ rfl _ _ 28 rfl w.heap.size 9 i0 (.string ⟨#[]⟩) 1 16 Tryd.underlying28 hi hz0 hz1 hz2 rfl (by decide) _ _ _ rfl (World.ownsRow.alloc hown _) ⟨wr.heap.size, 0, none⟩ 1 1 [.string (s.extract fr i)] rfl rfl (Blk.new' rfl 9 [.string (s.extract fr i)]).news (by simp [Value.oneCell']) (by unfold maxLen; omega) (by omega) (by have := hb.size; simp; omega) ?_)
          intro v' w1 hown' hgrow _
          have hb' := (hb.alloc hb.size (.cells #[.string (s.extract fr i)] 9)).grown hgrow (by have := hb.size; simp; omega) (fun k e => (World.ownsRow.lt hown k e).1)
          have hown2 : Hid (OwnL w1 w.heap.size v' (out ++ [mid s.data.toList fr i])) := Lib.hid (OwnL.snoc (by rw [← ext_mid]; exact hown'))
          clear hown' hgrow hown hb
          go_wp2_with fail
          go_roundw
          case rel => exact ⟨i + 1, i + 1, out ++ [mid s.data.toList fr i], by go_num, by go_num, hown2.out, Lib.hid (Or.inr ⟨by omega, HW2.out⟩), by simp; omega, by omega, by omega, hb'⟩
          case measure => (simp [intOf] <;> omega)
        · rw [if_neg hf] at W2
          have HW2 := Lib.hid W2
          clear W2
          have hfI : ¬ (fr : Int) < (i : Int) := by omega
          go_wp2_with fail
          go_roundw
          case rel => exact ⟨i + 1, i + 1, out, by go_num, by go_num, hown, Lib.hid (Or.inr ⟨by omega, HW2.out⟩), by omega, by omega, by omega, hb⟩
          case measure => (simp [intOf] <;> omega)
end Go.Proofs.YtehjglaofhgjfaaDoor
