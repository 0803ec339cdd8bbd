
/- The document's list of a place's slots: what antiphonref12.Own returns. -/
import Derived.Test.YtkpgdchhdhkpdaaSlC
namespace Go.Proofs.Ytkpgdchhdhkpdaa
open Go.RowKit

theorem info_int : (Try.prog.info? 3).map (fun i => (i.zero, i.size, i.bytes)) = some (some (.int .i64 0), 1, 8) := by kernel_rfl

def refL (n p f : Int) (k : Nat) : List Int := ((List.range k).map (fun j : Nat => f + j)).filter (fun s => s % n == p)
theorem refL_hit {n p f : Int} {k : Nat} (h : ((f + k) % n == p) = true) : refL n p f (k + 1) = refL n p f k ++ [f + k] := by
  simp [refL, List.range_succ, List.filter_append, h]
theorem refL_miss {n p f : Int} {k : Nat} (h : ((f + k) % n == p) = false) : refL n p f (k + 1) = refL n p f k := by
  simp [refL, List.range_succ, List.filter_append, h]
theorem refL_len (n p f : Int) (k : Nat) : (refL n p f k).length ≤ k := by
  unfold refL; exact Nat.le_trans (List.length_filter_le _ _) (by simp)
def cntK (n p f : Int) (k : Nat) : Nat := ((max (f + k) (nextI n p f) - nextI n p f + n - 1) / n).toNat
theorem refL_eq {n p f : Int} (hr : rightB n = true) (h3 : 0 ≤ p) (h4 : p < n) : ∀ k : Nat, refL n p f k = (List.range (cntK n p f k)).map (fun j : Nat => nextI n p f + j * n) := by
  intro k
  induction k with
  | zero =>
    have : cntK n p f 0 = 0 := by unfold cntK nextI; rcases right_cases hr with rfl | rfl | rfl | rfl <;> omega
    rw [this]; rfl
  | succ k ih =>
    cases h : ((f + k) % n == p)
    · rw [refL_miss h, ih]
      have : cntK n p f (k + 1) = cntK n p f k := by
        have h' : ¬ (f + k) % n = p := by simpa using h
        unfold cntK nextI; rcases right_cases hr with rfl | rfl | rfl | rfl <;> omega
      rw [this]
    · rw [refL_hit h, ih]
      have h' : (f + k) % n = p := by simpa using h
      have e1 : cntK n p f (k + 1) = cntK n p f k + 1 := by
        unfold cntK nextI; rcases right_cases hr with rfl | rfl | rfl | rfl <;> omega
      have e2 : f + k = nextI n p f + (cntK n p f k : Int) * n := by
        unfold cntK nextI; rcases right_cases hr with rfl | rfl | rfl | rfl <;> omega
      rw [e1, List.range_succ, List.map_append, e2]; rfl
theorem ref_own {n p f t : Int} (h : betweenB n p f t = true) : refL n p f (t - f).toNat = ownL n p f t := by
  obtain ⟨⟨h1, h2, h3, h4⟩, h5, h6, h7⟩ := between_bd h
  have hr : rightB n = true := by unfold betweenB placeB at h; simp at h; exact h.1.1
  rw [refL_eq hr h3 h4, ownL, if_pos h]
  congr 2
  unfold cntK manyI
  rw [if_pos h, show f + ((t - f).toNat : Int) = t by omega]

theorem between_parts {n p f t : Int} (hr : rightB n = true) (hp : inB p 0 n = true) (h1 : 0 ≤ f) (h2 : f ≤ t) (h3 : t ≤ 4096) : betweenB n p f t = true := by
  simp [betweenB, placeB, hr, hp, h1, h2, h3]

/-- A slice value that holds a list of ints in the call's own memory. -/
def OwnInts (W : World) (base : Nat) (v : Value) (xs : List Int) : Prop := W.ownsRow base 3 1 v xs.length (xs.map (Value.int .i64))

set_option maxRecDepth 100000 in
set_option maxHeartbeats 1000000 in
theorem refOwn_any (n p f t : Int) (w : World) :
    Calls Try.prog 24 #[.int .i64 n, .int .i64 p, .int .i64 f, .int .i64 t] w fun e w' => ∃ v, e = .returned (.tuple #[v, .int .i64 (manyE n p f t)]) ∧ OwnInts w' w.heap.size v (ownL n p f t) ∧ Below w.heap.size w w' := by
  by_cases hbt : betweenB n p f t = true
  · obtain ⟨⟨h1, h2, h3, h4⟩, h5, h6, h7⟩ := between_bd hbt
    have hr : rightB n = true := by unfold betweenB placeB at hbt; simp at hbt; exact hbt.1.1
    have hp : inB p 0 n = true := by unfold betweenB placeB at hbt; simp at hbt; exact hbt.1.2
    have hM : manyE n p f t = 0 := by simp [manyE, hbt]
    have hL := ref_own hbt
    rw [hM, ← hL]
    obtain ⟨m, hm⟩ : ∃ m : Nat, m = (t - f).toNat := ⟨_, rfl⟩
    have hmt : t = f + m := by omega
    have hmb : m ≤ 4096 := by omega
    rw [← hm]
    clear hm hL hM hbt
    subst hmt
    obtain ⟨i0, hi, hz0, hz1, hz2⟩ := info_parts info_int
    have Hr := Lib.hid hr
    clear hr
    have Hp := Lib.hid hp
    clear hp
    go_enter Try.func24, Try.ntmps24
    go_wp2_with fail
    refine (refRight_at _ _ Hr.out _).mono ?_
    rintro e w1 ⟨rfl, rfl⟩
    go_wp2_with fail
    refine (refPlace_at _ _ _ Hp.out _).mono ?_
    rintro e w1 ⟨rfl, rfl⟩
    go_wp2_with fail
    go_loopw [10, 11] (fun v i wr => ∃ k : Nat, k ≤ m ∧ i = .int .i64 (f + k) ∧ OwnInts wr w.heap.size v (refL n p f k) ∧ Below w.heap.size w wr) (fun _ i _ => (f + m - intOf i).toNat)
    case atStart => exact ⟨0, Nat.zero_le _, by simp, World.ownsRow_nil _ _ _ _, Below.refl _ _⟩
    case round =>
      obtain ⟨k, hk, rfl, hown, hb⟩ := hrel
      have hlen := refL_len n p f k
      unfold OwnInts at hown
      by_cases hlt : k < m
      · obtain ⟨m1, m2⟩ := mod_bd (s := f + k) h1
        cases hmod : ((f + k) % n == p)
        · have HS := Lib.hid (refL_miss hmod)
          have HO := Lib.hid hown
          clear hown
          go_wp2
          go_roundw
          case rel => exact ⟨k + 1, by omega, by go_num, by rw [HS.out]; exact HO.out, hb⟩
          case measure => simp [intOf]; omega
        · have HS := Lib.hid (refL_hit hmod)
          have hsz := hb.size
          go_wp2_with (at_builtin; refine wpList_append_own _ rfl _ _ 38 rfl w.heap.size 3 i0 (.int .i64 0) 1 8 Try.underlying38 hi hz0 hz1 hz2 rfl (by decide) _ _ _ rfl (hown.alloc _) ⟨wr.heap.size, 0, none⟩ 1 1 [.int .i64 (f + k)] rfl rfl (cell_one_new _ _ _) (by simp [Value.oneCell']) (by unfold maxLen; omega) (by omega) (by simp; omega) ?_)
          intro v' w1 hown' hgrow _
          have hb' := (hb.alloc hb.size (.cells #[.int .i64 (f + k)] 3)).grown hgrow (by simp; omega) (fun k e => (hown.lt k e).1)
          have hown2 : Hid (OwnInts w1 w.heap.size v' (refL n p f (k + 1))) := Lib.hid (by unfold OwnInts; rw [HS.out]; simpa using hown')
          clear hown' hgrow hown
          go_wp2
          go_roundw
          case rel => exact ⟨k + 1, by omega, by go_num, hown2.out, hb'⟩
          case measure => simp [intOf]; omega
      · obtain rfl : k = m := by omega
        have HO := Lib.hid hown
        clear hown
        go_wp2
        go_ret2
        exact ⟨_, rfl, HO.out, hb⟩
  · have hbf : betweenB n p f t = false := by simpa using hbt
    have e1 : manyE n p f t = 2 := by simp [manyE, hbf]
    have e2 : ownL n p f t = [] := by simp [ownL, hbf]
    rw [e1, e2]
    clear e1 e2 hbf
    have hown : Hid (∀ W : World, OwnInts W w.heap.size (.slice none 0 0) []) := Lib.hid (fun W => World.ownsRow_nil _ _ _ _)
    cases hr : rightB n
    · have Hr := Lib.hid hr
      clear hr
      clear hbt
      go_enter Try.func24, Try.ntmps24
      go_wp2_with fail
      refine (refRight_at _ _ Hr.out _).mono ?_
      rintro e w1 ⟨rfl, rfl⟩
      go_wp2_with fail
      go_ret2
      exact ⟨_, rfl, hown.out _, Below.refl _ _⟩
    · cases hp : inB p 0 n
      · have Hr := Lib.hid hr
        clear hr
        have Hp := Lib.hid hp
        clear hp
        clear hbt
        go_enter Try.func24, Try.ntmps24
        go_wp2_with fail
        refine (refRight_at _ _ Hr.out _).mono ?_
        rintro e w1 ⟨rfl, rfl⟩
        go_wp2_with fail
        refine (refPlace_at _ _ _ Hp.out _).mono ?_
        rintro e w1 ⟨rfl, rfl⟩
        go_wp2_with fail
        go_ret2
        exact ⟨_, rfl, hown.out _, Below.refl _ _⟩
      · have hc : f < 0 ∨ (0 ≤ f ∧ t < f) ∨ (0 ≤ f ∧ f ≤ t ∧ 4096 < t) := by
          by_cases a : f < 0
          · exact .inl a
          · by_cases b : t < f
            · exact .inr (.inl ⟨by omega, b⟩)
            · by_cases c : 4096 < t
              · exact .inr (.inr ⟨by omega, by omega, c⟩)
              · exact absurd (between_parts hr hp (by omega) (by omega) (by omega)) hbt
        have Hr := Lib.hid hr
        clear hr
        have Hp := Lib.hid hp
        clear hp
        clear hbt
        rcases hc with h1 | ⟨h1, h2⟩ | ⟨h1, h2, h3⟩
        all_goals
          go_enter Try.func24, Try.ntmps24
          go_wp2_with fail
          refine (refRight_at _ _ Hr.out _).mono ?_
          rintro e w1 ⟨rfl, rfl⟩
          go_wp2_with fail
          refine (refPlace_at _ _ _ Hp.out _).mono ?_
          rintro e w1 ⟨rfl, rfl⟩
          go_wp2_with fail
          go_ret2
          exact ⟨_, rfl, hown.out _, Below.refl _ _⟩
end Go.Proofs.Ytkpgdchhdhkpdaa
