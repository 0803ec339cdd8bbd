
/- The calls of package slots that tell numbers, and the document's answers: what each returns. -/
import Derived.Test.YtcahkcbenanfnaaDoorSlA
namespace Go.Proofs.YtcahkcbenanfnaaDoor
set_option linter.unusedSimpArgs false
set_option linter.unusedVariables false
open Go.RowKit

set_option maxRecDepth 100000 in
set_option maxHeartbeats 400000 in
theorem owner_any (c s : Int) (w : World) :
    Calls Tryd.prog 23 #[.int .i64 c, .int .i64 s] w fun e w' => e = .returned (.tuple #[.int .i64 (ownerI c s), .int .i64 (opErr c s)]) ∧ Below w.heap.size w w' := by
  go_enter Tryd.func23, Tryd.ntmps23
  go_wp2_with fail
  refine (of_any 50 (fun n s => s % n) _ _ (ownerI c s) rfl _ owner1_any (fun _ _ => rfl)).mono ?_
  rintro e w1 ⟨rfl, hb⟩
  go_wp2_with fail
  go_ret2
  exact ⟨rfl, hb⟩
/-! Slot. -/
def slotI (c p t : Int) : Int := if placeB c p then (if inB t 0 4096 then (if inB (t * c + p) 0 4096 then t * c + p else 0) else 0) else 0
def slotE (c p t : Int) : Int := if placeB c p then (if inB t 0 4096 then (if inB (t * c + p) 0 4096 then 0 else 4) else 4) else 2
theorem place_bd {c p : Int} (h : placeB c p = true) : 3 ≤ c ∧ c ≤ 9 ∧ 0 ≤ p ∧ p < c := by
  unfold placeB inB at h; simp at h; have := right_bd h.1; omega
theorem mul_bd {t c : Int} (h1 : 3 ≤ c) (h2 : c ≤ 9) (h3 : 0 ≤ t) (h4 : t ≤ 4095) : 0 ≤ t * c ∧ t * c ≤ 40000 := by
  have a : t * c ≤ 4095 * 9 := Int.mul_le_mul h4 h2 (by omega) (by omega)
  have b : 0 ≤ t * c := Int.mul_nonneg h3 (by omega)
  omega

/-! next, between, Many. -/
def nextI (n p f : Int) : Int := f + (p - f) % n
theorem next_bd {n p f : Int} (h1 : 3 ≤ n) (h2 : n ≤ 9) : f ≤ nextI n p f ∧ nextI n p f < f + n := by
  unfold nextI; have := Int.emod_nonneg (p - f) (b := n) (by omega); have := Int.emod_lt_of_pos (p - f) (b := n) (by omega); omega
def betweenB (c p f t : Int) : Bool := placeB c p && (decide (0 ≤ f) && (decide (f ≤ t) && decide (t ≤ 4096)))
theorem between_bd {c p f t : Int} (h : betweenB c p f t = true) : (3 ≤ c ∧ c ≤ 9 ∧ 0 ≤ p ∧ p < c) ∧ 0 ≤ f ∧ f ≤ t ∧ t ≤ 4096 := by
  unfold betweenB at h; simp at h; exact ⟨place_bd h.1, h.2⟩

def manyI (c p f t : Int) : Int := if betweenB c p f t then (max t (nextI c p f) - nextI c p f + c - 1) / c else 0
def manyE (c p f t : Int) : Int := if betweenB c p f t then 0 else 2
/-! The document's answers. -/
theorem mod_bd {s n : Int} (h1 : 3 ≤ n) : 0 ≤ s % n ∧ s % n < n := ⟨Int.emod_nonneg _ (by omega), Int.emod_lt_of_pos _ (by omega)⟩
/-! Of, Next: loops over all slots. -/
theorem right_cases {n : Int} (h : rightB n = true) : n = 3 ∨ n = 5 ∨ n = 7 ∨ n = 9 := by unfold rightB at h; simp at h; omega
def cntI (n p s : Int) : Int := (s - p + n - 1) / n
theorem cnt_hit {n p s : Int} (hr : rightB n = true) (h3 : 0 ≤ p) (h4 : p < n) (h5 : 0 ≤ s) (hm : s % n = p) : cntI n p s * n + p = s ∧ cntI n p (s + 1) = cntI n p s + 1 ∧ 0 ≤ cntI n p s ∧ cntI n p s ≤ s := by
  unfold cntI; rcases right_cases hr with rfl | rfl | rfl | rfl <;> omega
theorem cnt_miss {n p s : Int} (hr : rightB n = true) (h3 : 0 ≤ p) (h4 : p < n) (h5 : 0 ≤ s) (hm : s % n ≠ p) : cntI n p (s + 1) = cntI n p s ∧ 0 ≤ cntI n p s ∧ cntI n p s ≤ s := by
  unfold cntI; rcases right_cases hr with rfl | rfl | rfl | rfl <;> omega
theorem cnt_zero {n p : Int} (hr : rightB n = true) (h3 : 0 ≤ p) (h4 : p < n) : cntI n p 0 = 0 := by
  unfold cntI; rcases right_cases hr with rfl | rfl | rfl | rfl <;> omega
theorem slot_hit {n p s : Int} (hp : placeB n p = true) (hr : rightB n = true) (h3 : 0 ≤ p) (h4 : p < n) (h5 : 0 ≤ s) (h6 : s < 4096) (hm : s % n = p) : slotI n p (cntI n p s) = s ∧ slotE n p (cntI n p s) = 0 := by
  obtain ⟨a, b, c, d⟩ := cnt_hit hr h3 h4 h5 hm
  unfold slotI slotE
  rw [if_pos hp, if_pos hp, if_pos (by simp [inB]; omega), if_pos (by simp [inB]; omega), if_pos (by simp [inB]; omega), if_pos (by simp [inB]; omega)]
  exact ⟨a, rfl⟩
theorem slot_none {n p t : Int} (hp : placeB n p = true) (hr : rightB n = true) (_h3 : 0 ≤ p) (h4 : p < n) (h : t < 0 ∨ cntI n p 4096 ≤ t) : slotI n p t = 0 ∧ slotE n p t = 4 := by
  unfold slotI slotE cntI at *
  rw [if_pos hp, if_pos hp]
  by_cases ht : inB t 0 4096 = true
  · rw [if_pos ht, if_pos ht]
    have h2 : ¬ inB (t * n + p) 0 4096 = true := by
      simp [inB] at ht ⊢
      rcases right_cases hr with rfl | rfl | rfl | rfl <;> omega
    rw [if_neg h2, if_neg h2]; exact ⟨rfl, rfl⟩
  · rw [if_neg ht, if_neg ht]; exact ⟨rfl, rfl⟩
theorem place_right {n p : Int} (h : placeB n p = true) : rightB n = true ∧ inB p 0 n = true := by unfold placeB at h; simpa using h

/-! Next. -/
def nextFrom (n p f : Int) : Int := nextI n p (max 0 f)
def nextV (n p f : Int) : Int := if placeB n p then (if nextFrom n p f < 4096 then nextFrom n p f else 0) else 0
def nextE (n p f : Int) : Int := if placeB n p then (if nextFrom n p f < 4096 then 0 else 4) else 2
theorem next_step {n p s : Int} (hr : rightB n = true) (h3 : 0 ≤ p) (h4 : p < n) (hm : s % n ≠ p) : nextI n p s = nextI n p (s + 1) := by
  unfold nextI; rcases right_cases hr with rfl | rfl | rfl | rfl <;> omega
theorem next_here {n p s : Int} (hr : rightB n = true) (_h3 : 0 ≤ p) (_h4 : p < n) (hm : s % n = p) : nextI n p s = s := by
  unfold nextI; rcases right_cases hr with rfl | rfl | rfl | rfl <;> omega
theorem next_mod {n p s : Int} (hr : rightB n = true) (_h3 : 0 ≤ p) (h4 : p < n) : nextI n p s % n = p := by
  unfold nextI; rcases right_cases hr with rfl | rfl | rfl | rfl <;> omega

end Go.Proofs.YtcahkcbenanfnaaDoor
