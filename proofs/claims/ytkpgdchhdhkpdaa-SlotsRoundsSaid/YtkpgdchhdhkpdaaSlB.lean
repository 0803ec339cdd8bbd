
/- The calls of package slots that tell numbers, and the document's answers: what each returns. -/
import Derived.Test.YtkpgdchhdhkpdaaSlA
namespace Go.Proofs.Ytkpgdchhdhkpdaa
open Go.RowKit

set_option maxRecDepth 100000 in
set_option maxHeartbeats 400000 in
theorem owner_any (c s : Int) (w : World) :
    Calls Try.prog 16 #[.int .i64 c, .int .i64 s] w fun e w' => e = .returned (.tuple #[.int .i64 (ownerI c s), .int .i64 (opErr c s)]) ∧ Below w.heap.size w w' := by
  go_enter Try.func16, Try.ntmps16
  go_wp2_with fail
  refine (of_any 31 (fun n s => s % n) _ _ (ownerI c s) rfl _ owner1_any (fun _ _ => rfl)).mono ?_
  rintro e w1 ⟨rfl, hb⟩
  go_wp2_with fail
  go_ret2
  exact ⟨rfl, hb⟩
set_option maxRecDepth 100000 in
set_option maxHeartbeats 400000 in
theorem turn_any (c s : Int) (w : World) :
    Calls Try.prog 17 #[.int .i64 c, .int .i64 s] w fun e w' => e = .returned (.tuple #[.int .i64 (turnI c s), .int .i64 (opErr c s)]) ∧ Below w.heap.size w w' := by
  go_enter Try.func17, Try.ntmps17
  go_wp2_with fail
  refine (of_any 32 (fun n s => s / n) _ _ (turnI c s) rfl _ turn1_any (fun _ _ => rfl)).mono ?_
  rintro e w1 ⟨rfl, hb⟩
  go_wp2_with fail
  go_ret2
  exact ⟨rfl, hb⟩

/-! Slot. -/
def slotI (c p t : Int) : Int := if placeB c p then (if inB t 0 4096 then (if inB (t * c + p) 0 4096 then t * c + p else 0) else 0) else 0
def slotE (c p t : Int) : Int := if placeB c p then (if inB t 0 4096 then (if inB (t * c + p) 0 4096 then 0 else 4) else 4) else 2
theorem place_bd {c p : Int} (h : placeB c p = true) : 3 ≤ c ∧ c ≤ 9 ∧ 0 ≤ p ∧ p < c := by
  unfold placeB inB at h; simp at h; have := right_bd h.1; omega
theorem mul_bd {t c : Int} (h1 : 3 ≤ c) (h2 : c ≤ 9) (h3 : 0 ≤ t) (h4 : t ≤ 4095) : 0 ≤ t * c ∧ t * c ≤ 40000 := by
  have a : t * c ≤ 4095 * 9 := Int.mul_le_mul h4 h2 (by omega) (by omega)
  have b : 0 ≤ t * c := Int.mul_nonneg h3 (by omega)
  omega

set_option maxRecDepth 100000 in
set_option maxHeartbeats 800000 in
theorem slot_any (c p t : Int) (w : World) :
    Calls Try.prog 20 #[.int .i64 c, .int .i64 p, .int .i64 t] w fun e w' => e = .returned (.tuple #[.int .i64 (slotI c p t), .int .i64 (slotE c p t)]) ∧ Below w.heap.size w w' := by
  unfold slotI slotE
  cases hp : placeB c p
  · have Hp := Lib.hid hp
    clear hp
    go_enter Try.func20, Try.ntmps20
    go_wp2_with fail
    refine (place_at _ _ _ Hp.out _).mono ?_
    rintro e w1 ⟨rfl, hb⟩
    go_wp2_with fail
    go_ret2
    exact ⟨rfl, hb⟩
  · obtain ⟨h1, h2, h3, h4⟩ := place_bd hp
    have Hp := Lib.hid hp
    clear hp
    cases ht : inB t 0 4096
    · have Ht := Lib.hid ht
      clear ht
      go_enter Try.func20, Try.ntmps20
      go_wp2_with fail
      refine (place_at _ _ _ Hp.out _).mono ?_
      rintro e w1 ⟨rfl, hb⟩
      go_wp2_with fail
      refine (in_int_at _ _ _ _ Ht.out _).mono ?_
      rintro e w2 ⟨rfl, rfl⟩
      go_wp2_with fail
      go_ret2
      exact ⟨rfl, hb⟩
    · obtain ⟨h5, h6⟩ := slot_bd ht
      obtain ⟨h7, h8⟩ := mul_bd h1 h2 h5 h6
      have Ht := Lib.hid ht
      clear ht
      cases hq : inB (t * c + p) 0 4096
      · have Hq := Lib.hid hq
        clear hq
        go_enter Try.func20, Try.ntmps20
        go_wp2_with fail
        refine (place_at _ _ _ Hp.out _).mono ?_
        rintro e w1 ⟨rfl, hb⟩
        go_wp2_with fail
        refine (in_int_at _ _ _ _ Ht.out _).mono ?_
        rintro e w2 ⟨rfl, rfl⟩
        go_wp2_with fail
        refine (in_int_at _ _ _ _ Hq.out _).mono ?_
        rintro e w2 ⟨rfl, rfl⟩
        go_wp2_with fail
        go_ret2
        exact ⟨rfl, hb⟩
      · have Hq := Lib.hid hq
        clear hq
        go_enter Try.func20, Try.ntmps20
        go_wp2_with fail
        refine (place_at _ _ _ Hp.out _).mono ?_
        rintro e w1 ⟨rfl, hb⟩
        go_wp2_with fail
        refine (in_int_at _ _ _ _ Ht.out _).mono ?_
        rintro e w2 ⟨rfl, rfl⟩
        go_wp2_with fail
        refine (in_int_at _ _ _ _ Hq.out _).mono ?_
        rintro e w2 ⟨rfl, rfl⟩
        go_wp2_with fail
        go_ret2
        exact ⟨rfl, hb⟩

/-! next, between, Many. -/
def nextI (n p f : Int) : Int := f + (p - f) % n
theorem next_bd {n p f : Int} (h1 : 3 ≤ n) (h2 : n ≤ 9) : f ≤ nextI n p f ∧ nextI n p f < f + n := by
  unfold nextI; have := Int.emod_nonneg (p - f) (b := n) (by omega); have := Int.emod_lt_of_pos (p - f) (b := n) (by omega); omega
set_option maxRecDepth 100000 in
set_option maxHeartbeats 400000 in
theorem next_any (n p f : Int) (w : World) (h1 : 3 ≤ n) (h2 : n ≤ 9) (h3 : 0 ≤ p) (h4 : p < n) (h5 : 0 ≤ f) (h6 : f ≤ 4096) :
    Calls Try.prog 38 #[.int .i64 n, .int .i64 p, .int .i64 f] w fun e w' => e = .returned (.int .i64 (nextI n p f)) ∧ w = w' := by
  have a1 := Int.emod_nonneg f (b := n) (by omega)
  have a2 := Int.emod_lt_of_pos f (b := n) (by omega)
  have a3 : 0 ≤ p - f % n + n := by omega
  have a4 := Int.emod_nonneg (p - f) (b := n) (by omega)
  have a5 := Int.emod_lt_of_pos (p - f) (b := n) (by omega)
  go_enter Try.func38, Try.ntmps38
  go_wp2_with fail
  go_ret
  exact ⟨rfl, rfl⟩

def betweenB (c p f t : Int) : Bool := placeB c p && (decide (0 ≤ f) && (decide (f ≤ t) && decide (t ≤ 4096)))
set_option maxRecDepth 100000 in
set_option maxHeartbeats 400000 in
theorem between_any (c p f t : Int) (w : World) :
    Calls Try.prog 37 #[.int .i64 c, .int .i64 p, .int .i64 f, .int .i64 t] w fun e w' => e = .returned (.bool (betweenB c p f t)) ∧ Below w.heap.size w w' := by
  go_enter Try.func37, Try.ntmps37
  go_wp2_with fail
  refine (place_any _ _ _).mono ?_
  rintro e w1 ⟨rfl, hb⟩
  go_wp2_with fail
  refine (all4 _ _ _ _ _).mono ?_
  rintro e w2 ⟨rfl, rfl⟩
  go_wp2_with fail
  go_ret
  exact ⟨rfl, hb.alloc hb.size _⟩
theorem between_at (c p f t : Int) (b : Bool) (h : betweenB c p f t = b) (w : World) :
    Calls Try.prog 37 #[.int .i64 c, .int .i64 p, .int .i64 f, .int .i64 t] w fun e w' => e = .returned (.bool b) ∧ Below w.heap.size w w' := h ▸ between_any c p f t w
theorem between_bd {c p f t : Int} (h : betweenB c p f t = true) : (3 ≤ c ∧ c ≤ 9 ∧ 0 ≤ p ∧ p < c) ∧ 0 ≤ f ∧ f ≤ t ∧ t ≤ 4096 := by
  unfold betweenB at h; simp at h; exact ⟨place_bd h.1, h.2⟩

def manyI (c p f t : Int) : Int := if betweenB c p f t then (max t (nextI c p f) - nextI c p f + c - 1) / c else 0
def manyE (c p f t : Int) : Int := if betweenB c p f t then 0 else 2
set_option maxRecDepth 100000 in
set_option maxHeartbeats 800000 in
theorem many_any (c p f t : Int) (w : World) :
    Calls Try.prog 25 #[.int .i64 c, .int .i64 p, .int .i64 f, .int .i64 t] w fun e w' => e = .returned (.tuple #[.int .i64 (manyI c p f t), .int .i64 (manyE c p f t)]) ∧ Below w.heap.size w w' := by
  unfold manyI manyE
  cases hb : betweenB c p f t
  · have HB := Lib.hid hb
    clear hb
    go_enter Try.func25, Try.ntmps25
    go_wp2_with fail
    refine (between_at _ _ _ _ _ HB.out _).mono ?_
    rintro e w1 ⟨rfl, hb⟩
    go_wp2_with fail
    go_ret2
    exact ⟨rfl, hb⟩
  · obtain ⟨⟨h1, h2, h3, h4⟩, h5, h6, h7⟩ := between_bd hb
    have HB := Lib.hid hb
    clear hb
    obtain ⟨h8, h9⟩ := next_bd (p := p) (f := f) h1 h2
    by_cases hle : nextI c p f ≤ t
    all_goals
      go_enter Try.func25, Try.ntmps25
      go_wp2_with fail
      refine (between_at _ _ _ _ _ HB.out _).mono ?_
      rintro e w1 ⟨rfl, hb⟩
      go_wp2_with fail
      refine (next_any _ _ _ _ h1 h2 h3 h4 h5 (by omega)).mono ?_
      rintro e w2 ⟨rfl, rfl⟩
      go_wp2_with fail
      refine (next_any _ _ _ _ h1 h2 h3 h4 h5 (by omega)).mono ?_
      rintro e w2 ⟨rfl, rfl⟩
      go_wp2_with fail
      go_ret2
      exact ⟨ret_ii (by congr 1; omega) rfl, hb⟩

/-! The document's answers. -/
set_option maxRecDepth 100000 in
set_option maxHeartbeats 400000 in
theorem refRight_any (c : Int) (w : World) :
    Calls Try.prog 11 #[.int .i64 c] w fun e w' => e = .returned (.bool (rightB c)) ∧ w = w' := by
  go_enter Try.func11, Try.ntmps11
  go_wp2
  all_goals (go_ret; exact ⟨ret_bool (by unfold rightB; simp_all), rfl⟩)
set_option maxRecDepth 100000 in
set_option maxHeartbeats 400000 in
theorem refSlot_any (s : Int) (w : World) :
    Calls Try.prog 43 #[.int .i64 s] w fun e w' => e = .returned (.bool (slotB s)) ∧ w = w' := by
  go_enter Try.func43, Try.ntmps43
  go_wp2
  all_goals (go_ret; exact ⟨ret_bool (by simp [slotB, inB]; omega), rfl⟩)
set_option maxRecDepth 100000 in
set_option maxHeartbeats 400000 in
theorem refPlace_any (n p : Int) (w : World) :
    Calls Try.prog 36 #[.int .i64 n, .int .i64 p] w fun e w' => e = .returned (.bool (inB p 0 n)) ∧ w = w' := by
  go_enter Try.func36, Try.ntmps36
  go_wp2
  all_goals (go_ret; exact ⟨ret_bool (by simp [inB]; omega), rfl⟩)
theorem refRight_at (c : Int) (b : Bool) (h : rightB c = b) (w : World) : Calls Try.prog 11 #[.int .i64 c] w fun e w' => e = .returned (.bool b) ∧ w = w' := h ▸ refRight_any c w
theorem refSlot_at (c : Int) (b : Bool) (h : slotB c = b) (w : World) : Calls Try.prog 43 #[.int .i64 c] w fun e w' => e = .returned (.bool b) ∧ w = w' := h ▸ refSlot_any c w
theorem refPlace_at (n p : Int) (b : Bool) (h : inB p 0 n = b) (w : World) : Calls Try.prog 36 #[.int .i64 n, .int .i64 p] w fun e w' => e = .returned (.bool b) ∧ w = w' := h ▸ refPlace_any n p w
set_option maxRecDepth 100000 in
set_option maxHeartbeats 400000 in
theorem refMajority_any (n : Int) (w : World) (h : rightB n = true) :
    Calls Try.prog 15 #[.int .i64 n] w fun e w' => e = .returned (.int .i64 (majI n)) ∧ w = w' := by
  obtain ⟨h1, h2⟩ := right_bd h
  unfold majI
  rw [if_pos h]
  clear h
  go_enter Try.func15, Try.ntmps15
  go_wp2_with fail
  go_loop [3] (fun m => ∃ k : Int, 0 ≤ k ∧ k ≤ n / 2 + 1 ∧ m = .int .i64 k) (fun m => (n + 1 - intOf m).toNat)
  case atStart => exact ⟨0, by omega, by omega, rfl⟩
  case round =>
    obtain ⟨k, hk1, hk2, rfl⟩ := hrel
    by_cases hle : 2 * k ≤ n
    · go_wp2
      go_round
      case rel => exact ⟨k + 1, by omega, by omega, rfl⟩
      case measure => simp [intOf]; omega
    · go_wp2
      go_ret
      exact ⟨ret_int (by omega), rfl⟩
set_option maxRecDepth 100000 in
set_option maxHeartbeats 400000 in
theorem refcheck_any (n s : Int) (w : World) :
    Calls Try.prog 33 #[.int .i64 n, .int .i64 s] w fun e w' => e = .returned (.int .i64 (opErr n s)) ∧ w = w' := by
  unfold opErr
  cases hr : rightB n
  · have Hr := Lib.hid hr
    clear hr
    go_enter Try.func33, Try.ntmps33
    go_wp2_with fail
    refine (refRight_at _ _ Hr.out _).mono ?_
    rintro e w1 ⟨rfl, rfl⟩
    go_wp2_with fail
    go_ret
    exact ⟨rfl, rfl⟩
  · have Hr := Lib.hid hr
    clear hr
    cases hs : slotB s
    all_goals
      have Hs := Lib.hid hs
      clear hs
      go_enter Try.func33, Try.ntmps33
      go_wp2_with fail
      refine (refRight_at _ _ Hr.out _).mono ?_
      rintro e w1 ⟨rfl, rfl⟩
      go_wp2_with fail
      refine (refSlot_at _ _ Hs.out _).mono ?_
      rintro e w1 ⟨rfl, rfl⟩
      go_wp2_with fail
      go_ret
      exact ⟨rfl, rfl⟩
theorem refcheck_at (n s r : Int) (h : opErr n s = r) (w : World) :
    Calls Try.prog 33 #[.int .i64 n, .int .i64 s] w fun e w' => e = .returned (.int .i64 r) ∧ w = w' := h ▸ refcheck_any n s w

theorem mod_bd {s n : Int} (h1 : 3 ≤ n) : 0 ≤ s % n ∧ s % n < n := ⟨Int.emod_nonneg _ (by omega), Int.emod_lt_of_pos _ (by omega)⟩
set_option maxRecDepth 100000 in
set_option maxHeartbeats 400000 in
theorem refOwner_any (n s : Int) (w : World) :
    Calls Try.prog 18 #[.int .i64 n, .int .i64 s] w fun e w' => e = .returned (.tuple #[.int .i64 (ownerI n s), .int .i64 (opErr n s)]) ∧ w = w' := by
  unfold ownerI ofI
  cases hr : rightB n
  · have ho : opErr n s = 2 := by simp [opErr, hr]
    rw [ho]
    have Ho := Lib.hid ho
    clear ho
    clear hr
    go_enter Try.func18, Try.ntmps18
    go_wp2_with fail
    refine (refcheck_at _ _ _ Ho.out _).mono ?_
    rintro e w1 ⟨rfl, rfl⟩
    go_wp2_with fail
    go_ret2
    exact ⟨rfl, rfl⟩
  · obtain ⟨h1, h2⟩ := right_bd hr
    cases hs : slotB s
    · have ho : opErr n s = 4 := by simp [opErr, hr, hs]
      rw [ho]
      have Ho := Lib.hid ho
      clear ho
      clear hr hs
      go_enter Try.func18, Try.ntmps18
      go_wp2_with fail
      refine (refcheck_at _ _ _ Ho.out _).mono ?_
      rintro e w1 ⟨rfl, rfl⟩
      go_wp2_with fail
      go_ret2
      exact ⟨rfl, rfl⟩
    · obtain ⟨h3, h4⟩ := slot_bd hs
      have ho : opErr n s = 0 := by simp [opErr, hr, hs]
      rw [ho]
      have Ho := Lib.hid ho
      clear ho
      clear hr hs
      go_enter Try.func18, Try.ntmps18
      go_wp2_with fail
      refine (refcheck_at _ _ _ Ho.out _).mono ?_
      rintro e w1 ⟨rfl, rfl⟩
      go_wp2_with fail
      go_ret2
      exact ⟨rfl, rfl⟩
set_option maxRecDepth 100000 in
set_option maxHeartbeats 400000 in
theorem refTurn_any (n s : Int) (w : World) :
    Calls Try.prog 19 #[.int .i64 n, .int .i64 s] w fun e w' => e = .returned (.tuple #[.int .i64 (turnI n s), .int .i64 (opErr n s)]) ∧ w = w' := by
  unfold turnI ofI
  cases hr : rightB n
  · have ho : opErr n s = 2 := by simp [opErr, hr]
    rw [ho]
    have Ho := Lib.hid ho
    clear ho
    clear hr
    go_enter Try.func19, Try.ntmps19
    go_wp2_with fail
    refine (refcheck_at _ _ _ Ho.out _).mono ?_
    rintro e w1 ⟨rfl, rfl⟩
    go_wp2_with fail
    go_ret2
    exact ⟨rfl, rfl⟩
  · obtain ⟨h1, h2⟩ := right_bd hr
    cases hs : slotB s
    · have ho : opErr n s = 4 := by simp [opErr, hr, hs]
      rw [ho]
      have Ho := Lib.hid ho
      clear ho
      clear hr hs
      go_enter Try.func19, Try.ntmps19
      go_wp2_with fail
      refine (refcheck_at _ _ _ Ho.out _).mono ?_
      rintro e w1 ⟨rfl, rfl⟩
      go_wp2_with fail
      go_ret2
      exact ⟨rfl, rfl⟩
    · obtain ⟨h3, h4⟩ := slot_bd hs
      have ho : opErr n s = 0 := by simp [opErr, hr, hs]
      rw [ho]
      have Ho := Lib.hid ho
      clear ho
      clear hr hs
      go_enter Try.func19, Try.ntmps19
      go_wp2_with fail
      refine (refcheck_at _ _ _ Ho.out _).mono ?_
      rintro e w1 ⟨rfl, rfl⟩
      go_wp2_with fail
      go_ret2
      exact ⟨rfl, rfl⟩

/-! Of, Next: loops over all slots. -/
theorem right_cases {n : Int} (h : rightB n = true) : n = 3 ∨ n = 5 ∨ n = 7 ∨ n = 9 := by unfold rightB at h; simp at h; omega
def cntI (n p s : Int) : Int := (s - p + n - 1) / n
theorem cnt_hit {n p s : Int} (hr : rightB n = true) (h3 : 0 ≤ p) (h4 : p < n) (h5 : 0 ≤ s) (hm : s % n = p) : cntI n p s * n + p = s ∧ cntI n p (s + 1) = cntI n p s + 1 ∧ 0 ≤ cntI n p s ∧ cntI n p s ≤ s := by
  unfold cntI; rcases right_cases hr with rfl | rfl | rfl | rfl <;> omega
theorem cnt_miss {n p s : Int} (hr : rightB n = true) (h3 : 0 ≤ p) (h4 : p < n) (h5 : 0 ≤ s) (hm : s % n ≠ p) : cntI n p (s + 1) = cntI n p s ∧ 0 ≤ cntI n p s ∧ cntI n p s ≤ s := by
  unfold cntI; rcases right_cases hr with rfl | rfl | rfl | rfl <;> omega
theorem cnt_zero {n p : Int} (hr : rightB n = true) (h3 : 0 ≤ p) (h4 : p < n) : cntI n p 0 = 0 := by
  unfold cntI; rcases right_cases hr with rfl | rfl | rfl | rfl <;> omega
theorem slot_hit {n p s : Int} (hp : placeB n p = true) (hr : rightB n = true) (h3 : 0 ≤ p) (h4 : p < n) (h5 : 0 ≤ s) (h6 : s < 4096) (hm : s % n = p) : slotI n p (cntI n p s) = s ∧ slotE n p (cntI n p s) = 0 := by
  obtain ⟨a, b, c, d⟩ := cnt_hit hr h3 h4 h5 hm
  unfold slotI slotE
  rw [if_pos hp, if_pos hp, if_pos (by simp [inB]; omega), if_pos (by simp [inB]; omega), if_pos (by simp [inB]; omega), if_pos (by simp [inB]; omega)]
  exact ⟨a, rfl⟩
theorem slot_none {n p t : Int} (hp : placeB n p = true) (hr : rightB n = true) (_h3 : 0 ≤ p) (h4 : p < n) (h : t < 0 ∨ cntI n p 4096 ≤ t) : slotI n p t = 0 ∧ slotE n p t = 4 := by
  unfold slotI slotE cntI at *
  rw [if_pos hp, if_pos hp]
  by_cases ht : inB t 0 4096 = true
  · rw [if_pos ht, if_pos ht]
    have h2 : ¬ inB (t * n + p) 0 4096 = true := by
      simp [inB] at ht ⊢
      rcases right_cases hr with rfl | rfl | rfl | rfl <;> omega
    rw [if_neg h2, if_neg h2]; exact ⟨rfl, rfl⟩
  · rw [if_neg ht, if_neg ht]; exact ⟨rfl, rfl⟩
theorem place_right {n p : Int} (h : placeB n p = true) : rightB n = true ∧ inB p 0 n = true := by unfold placeB at h; simpa using h

set_option maxRecDepth 100000 in
set_option maxHeartbeats 800000 in
theorem refOf_any (n p t : Int) (w : World) :
    Calls Try.prog 22 #[.int .i64 n, .int .i64 p, .int .i64 t] w fun e w' => e = .returned (.tuple #[.int .i64 (slotI n p t), .int .i64 (slotE n p t)]) ∧ w = w' := by
  cases hr : rightB n
  · have e1 : slotI n p t = 0 := by simp [slotI, placeB, hr]
    have e2 : slotE n p t = 2 := by simp [slotE, placeB, hr]
    rw [e1, e2]
    clear e1 e2
    have Hr := Lib.hid hr
    clear hr
    go_enter Try.func22, Try.ntmps22
    go_wp2_with fail
    refine (refRight_at _ _ Hr.out _).mono ?_
    rintro e w1 ⟨rfl, rfl⟩
    go_wp2_with fail
    go_ret2
    exact ⟨rfl, rfl⟩
  · cases hp : inB p 0 n
    · have e1 : slotI n p t = 0 := by simp [slotI, placeB, hp]
      have e2 : slotE n p t = 2 := by simp [slotE, placeB, hp]
      rw [e1, e2]
      clear e1 e2
      have Hr := Lib.hid hr
      clear hr
      have Hp := Lib.hid hp
      clear hp
      go_enter Try.func22, Try.ntmps22
      go_wp2_with fail
      refine (refRight_at _ _ Hr.out _).mono ?_
      rintro e w1 ⟨rfl, rfl⟩
      go_wp2_with fail
      refine (refPlace_at _ _ _ Hp.out _).mono ?_
      rintro e w1 ⟨rfl, rfl⟩
      go_wp2_with fail
      go_ret2
      exact ⟨rfl, rfl⟩
    · have hpl : placeB n p = true := by simp [placeB, hr, hp]
      obtain ⟨h1, h2, h3, h4⟩ := place_bd hpl
      have Hr := Lib.hid hr
      clear hr
      have Hp := Lib.hid hp
      clear hp
      have Hpl := Lib.hid hpl
      clear hpl
      go_enter Try.func22, Try.ntmps22
      go_wp2_with fail
      refine (refRight_at _ _ Hr.out _).mono ?_
      rintro e w1 ⟨rfl, rfl⟩
      go_wp2_with fail
      refine (refPlace_at _ _ _ Hp.out _).mono ?_
      rintro e w1 ⟨rfl, rfl⟩
      go_wp2_with fail
      go_loop [8, 9] (fun kk ss => ∃ s : Int, 0 ≤ s ∧ s ≤ 4096 ∧ ss = .int .i64 s ∧ kk = .int .i64 (cntI n p s) ∧ Hid (t < 0 ∨ cntI n p s ≤ t)) (fun _ ss => (4096 - intOf ss).toNat)
      case atStart => exact ⟨0, by omega, by omega, rfl, by rw [cnt_zero Hr.out h3 h4], Lib.hid (by rw [cnt_zero Hr.out h3 h4]; omega)⟩
      case round =>
        obtain ⟨s, hs1, hs2, rfl, rfl, ht⟩ := hrel
        by_cases hlt : s < 4096
        · obtain ⟨m1, m2⟩ := mod_bd (s := s) h1
          cases hm : s % n == p
          · have hm' : s % n ≠ p := by simpa using hm
            obtain ⟨c1, c2, c3⟩ := cnt_miss Hr.out h3 h4 hs1 hm'
            have C1 := Lib.hid c1
            clear c1 hm'
            go_wp2
            go_round
            case rel => exact ⟨s + 1, by omega, by omega, rfl, by rw [C1.out], Lib.hid (by rw [C1.out]; exact ht.out)⟩
            case measure => simp [intOf]; omega
          · have hm' : s % n = p := by simpa using hm
            obtain ⟨c0, c1, c2, c3⟩ := cnt_hit Hr.out h3 h4 hs1 hm'
            have S := Lib.hid (slot_hit Hpl.out Hr.out h3 h4 hs1 hlt hm')
            have C1 := Lib.hid c1
            clear c0 c1 hm'
            by_cases heq : cntI n p s = t
            · subst heq
              go_wp2
              go_ret2
              exact ⟨ret_ii S.out.1.symm S.out.2.symm, rfl⟩
            · have hb : (cntI n p s == t) = false := by simpa using heq
              have HE := Lib.hid heq
              clear heq S
              go_wp2
              go_round
              case rel => exact ⟨s + 1, by omega, by omega, rfl, by rw [C1.out], Lib.hid (by have := ht.out; have := HE.out; rw [C1.out]; omega)⟩
              case measure => simp [intOf]; omega
        · obtain rfl : s = 4096 := by omega
          have S := Lib.hid (slot_none Hpl.out Hr.out h3 h4 ht.out)
          clear ht
          go_wp2
          go_ret2
          exact ⟨ret_ii S.out.1.symm S.out.2.symm, rfl⟩

/-! Next. -/
def nextFrom (n p f : Int) : Int := nextI n p (max 0 f)
def nextV (n p f : Int) : Int := if placeB n p then (if nextFrom n p f < 4096 then nextFrom n p f else 0) else 0
def nextE (n p f : Int) : Int := if placeB n p then (if nextFrom n p f < 4096 then 0 else 4) else 2
theorem next_step {n p s : Int} (hr : rightB n = true) (h3 : 0 ≤ p) (h4 : p < n) (hm : s % n ≠ p) : nextI n p s = nextI n p (s + 1) := by
  unfold nextI; rcases right_cases hr with rfl | rfl | rfl | rfl <;> omega
theorem next_here {n p s : Int} (hr : rightB n = true) (_h3 : 0 ≤ p) (_h4 : p < n) (hm : s % n = p) : nextI n p s = s := by
  unfold nextI; rcases right_cases hr with rfl | rfl | rfl | rfl <;> omega
theorem next_mod {n p s : Int} (hr : rightB n = true) (_h3 : 0 ≤ p) (h4 : p < n) : nextI n p s % n = p := by
  unfold nextI; rcases right_cases hr with rfl | rfl | rfl | rfl <;> omega

set_option maxRecDepth 100000 in
set_option maxHeartbeats 800000 in
theorem refNext_any (n p f : Int) (w : World) (hf : f ≤ 9223372036854775807) :
    Calls Try.prog 23 #[.int .i64 n, .int .i64 p, .int .i64 f] w fun e w' => e = .returned (.tuple #[.int .i64 (nextV n p f), .int .i64 (nextE n p f)]) ∧ w = w' := by
  cases hr : rightB n
  · have e1 : nextV n p f = 0 := by simp [nextV, placeB, hr]
    have e2 : nextE n p f = 2 := by simp [nextE, placeB, hr]
    rw [e1, e2]
    clear e1 e2
    have Hr := Lib.hid hr
    clear hr
    go_enter Try.func23, Try.ntmps23
    go_wp2_with fail
    refine (refRight_at _ _ Hr.out _).mono ?_
    rintro e w1 ⟨rfl, rfl⟩
    go_wp2_with fail
    go_ret2
    exact ⟨rfl, rfl⟩
  · cases hp : inB p 0 n
    · have e1 : nextV n p f = 0 := by simp [nextV, placeB, hp]
      have e2 : nextE n p f = 2 := by simp [nextE, placeB, hp]
      rw [e1, e2]
      clear e1 e2
      have Hr := Lib.hid hr
      clear hr
      have Hp := Lib.hid hp
      clear hp
      go_enter Try.func23, Try.ntmps23
      go_wp2_with fail
      refine (refRight_at _ _ Hr.out _).mono ?_
      rintro e w1 ⟨rfl, rfl⟩
      go_wp2_with fail
      refine (refPlace_at _ _ _ Hp.out _).mono ?_
      rintro e w1 ⟨rfl, rfl⟩
      go_wp2_with fail
      go_ret2
      exact ⟨rfl, rfl⟩
    · have hpl : placeB n p = true := by simp [placeB, hr, hp]
      obtain ⟨h1, h2, h3, h4⟩ := place_bd hpl
      obtain ⟨g, hg⟩ : ∃ g, g = max 0 f := ⟨_, rfl⟩
      have hg0 : 0 ≤ g := by omega
      have e1 : nextV n p f = if nextI n p g < 4096 then nextI n p g else 0 := by rw [nextV, nextFrom, if_pos hpl, hg]
      have e2 : nextE n p f = if nextI n p g < 4096 then 0 else 4 := by rw [nextE, nextFrom, if_pos hpl, hg]
      obtain ⟨b1, b2⟩ := next_bd (p := p) (f := g) h1 h2
      have E1 := Lib.hid e1
      clear e1
      have E2 := Lib.hid e2
      clear e2
      have Hr := Lib.hid hr
      clear hr
      have Hp := Lib.hid hp
      clear hp
      have Hpl := Lib.hid hpl
      clear hpl
      have Hg := Lib.hid hg
      clear hg
      by_cases hf0 : 0 < f
      all_goals
        go_enter Try.func23, Try.ntmps23
        go_wp2_with fail
        refine (refRight_at _ _ Hr.out _).mono ?_
        rintro e w1 ⟨rfl, rfl⟩
        go_wp2_with fail
        refine (refPlace_at _ _ _ Hp.out _).mono ?_
        rintro e w1 ⟨rfl, rfl⟩
        go_wp2_with fail
        go_loop [8] (fun ss => ∃ s : Int, 0 ≤ s ∧ (s ≤ 4096 ∨ s ≤ g) ∧ g ≤ s ∧ ss = .int .i64 s ∧ Hid (nextI n p s = nextI n p g)) (fun ss => (4096 - intOf ss).toNat)
        case atStart => exact ⟨g, by omega, by omega, by omega, by have := Hg.out; congr 1; omega, Lib.hid rfl⟩
        case round =>
          obtain ⟨s, hs1, hs2, hs3, rfl, hn⟩ := hrel
          by_cases hlt : s < 4096
          · obtain ⟨m1, m2⟩ := mod_bd (s := s) h1
            cases hm : s % n == p
            · have hm' : s % n ≠ p := by simpa using hm
              have N := Lib.hid (next_step Hr.out h3 h4 hm')
              clear hm'
              go_wp2
              go_round
              case rel => exact ⟨s + 1, by omega, by omega, by omega, rfl, Lib.hid (by rw [← N.out]; exact hn.out)⟩
              case measure => simp [intOf]; omega
            · have hm' : s % n = p := by simpa using hm
              have N := Lib.hid (next_here Hr.out h3 h4 hm')
              clear hm'
              go_wp2
              go_ret2
              have hh : nextI n p g = s := by rw [← hn.out, N.out]
              exact ⟨ret_ii (by rw [E1.out, hh, if_pos hlt]) (by rw [E2.out, hh, if_pos hlt]), rfl⟩
          · have hge := (next_bd (p := p) (f := s) h1 h2).1
            go_wp2
            go_ret2
            have hh := hn.out
            exact ⟨ret_ii (by rw [E1.out, if_neg (by omega)]) (by rw [E2.out, if_neg (by omega)]), rfl⟩
end Go.Proofs.Ytkpgdchhdhkpdaa
