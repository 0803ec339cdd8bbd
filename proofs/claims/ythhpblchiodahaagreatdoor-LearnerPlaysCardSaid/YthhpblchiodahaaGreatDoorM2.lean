
import Derived.Test.YthhpblchiodahaaGreatDoorRows
import Derived.WalkKit
import Derived.WalkSpells
import Derived.WalkLawsBesides
import Derived.Lib.Hide
import Derived.LoopN
import Derived.Deep.RegionHeld3
import Derived.Shelf.RegionOpen
import Derived.Handy
import Derived.Test.YthhpblchiodahaaGreatDoorM1
import Derived.BigGuard
import Derived.Deep.RegionWith
import Derived.BigQuiet
import Derived.Deep.Cut
import Derived.Laws.CopyOwn
import Derived.Great.BuildSlice
import Derived.Laws.Tables
import Derived.Laws.Rows
/- The small functions of package slots: what each returns. -/
namespace Go.Proofs.YthhpblchiodahaaGreatDoor
set_option linter.unusedSimpArgs false
set_option linter.unusedVariables false
open Go.RowKit

theorem ret_bool {a b : Bool} (h : a = b) : Ending.returned (.bool a) = .returned (.bool b) := by rw [h]
theorem ret_int {k : IntKind} {a b : Int} (h : a = b) : Ending.returned (.int k a) = .returned (.int k b) := by rw [h]
theorem ret_ii {k l : IntKind} {a b c d : Int} (h : a = b) (h' : c = d) : Ending.returned (.tuple #[.int k a, .int l c]) = .returned (.tuple #[.int k b, .int l d]) := by rw [h, h']
theorem bcell {B : Nat} {W w1 : World} (hb : Below B W w1) : (∀ b o, b < B → w1.cell? ⟨b, o, none⟩ = W.cell? ⟨b, o, none⟩) ∧ (∀ b o, b < B → w1.frozen? ⟨b, o, none⟩ = W.frozen? ⟨b, o, none⟩) :=
  ⟨fun b o h => hb.cell (p := ⟨b, o, none⟩) h, fun b o h => hb.frozen (p := ⟨b, o, none⟩) h⟩

def rightB (c : Int) : Bool := c == 3 || c == 5 || c == 7 || c == 9
def inB (n a b : Int) : Bool := decide (a ≤ n) && decide (n < b)

set_option maxHeartbeats 400000 in
theorem in_int (n a b : Int) (w : World) :
    Calls Tryz.prog 99 #[.int .i64 n, .int .i64 a, .int .i64 b] w fun e w' => e = .returned (.bool (inB n a b)) ∧ w = w' := by
  go_enter Tryz.func99, Tryz.ntmps99
  go_wp2
  all_goals (go_ret; exact ⟨ret_bool (by simp [inB]; omega), rfl⟩)

set_option maxHeartbeats 400000 in
theorem in_choir (n a b : Int) (w : World) :
    Calls Tryz.prog 137 #[.int .i64 n, .int .i64 a, .int .i64 b] w fun e w' => e = .returned (.bool (inB n a b)) ∧ w = w' := by
  go_enter Tryz.func137, Tryz.ntmps137
  go_wp2
  all_goals (go_ret; exact ⟨ret_bool (by simp [inB]; omega), rfl⟩)

theorem all_take (bs : List Bool) (k : Nat) (h : k < bs.length) : (bs.take (k + 1)).all id = ((bs.take k).all id && bs.getD k false) := by
  rw [List.take_succ_eq_append_getElem h, List.all_append]
  simp [h]

set_option maxHeartbeats 400000 in
theorem all_any (b len cap : Nat) (bs : List Bool) (w : World) (hl : bs.length = len) (hm : len ≤ 100) (hc : ∀ j, j < len → w.cell? ⟨b, j, none⟩ = some (.bool (bs.getD j false))) :
    Calls Tryz.prog 136 #[.slice (some ⟨b, 0, none⟩) len cap] w fun e w' => e = .returned (.bool (bs.all id)) ∧ w = w' := by
  have HL := Lib.hid hl
  have HC := Lib.hid hc
  clear hl hc
  go_enter Tryz.func136, Tryz.ntmps136
  go_wp2
  go_loop [7] (fun i => ∃ k : Nat, k ≤ len ∧ i = .int .i64 k ∧ Hid ((bs.take k).all id = true)) (fun i => len - (intOf i).toNat)
  case atStart => exact ⟨0, by omega, rfl, Lib.hid (by simp)⟩
  case round =>
    obtain ⟨k, hk, rfl, ht⟩ := hrel
    by_cases hlt : k < len
    · have hcell := HC.out k hlt
      obtain ⟨v, hv⟩ : ∃ v, v = bs.getD k false := ⟨_, rfl⟩
      have hs := all_take bs k (by rw [HL.out]; exact hlt)
      rw [← hv] at hcell hs
      have HS := Lib.hid hs
      clear hs
      have HV := Lib.hid hv
      clear hv
      cases v
      · go_wp2
        go_ret
        refine ⟨ret_bool ?_, rfl⟩
        have hm' : false ∈ bs := by rw [HV.out]; simp [HL.out, hlt]
        symm; rw [List.all_eq_false]; exact ⟨false, hm', by simp⟩
      · go_wp2
        go_round
        case rel => exact ⟨k + 1, by omega, by go_num, Lib.hid (by rw [HS.out, ht.out]; rfl)⟩
        case measure => simp [intOf]; omega
    · obtain rfl : k = len := by omega
      go_wp2
      go_ret
      exact ⟨ret_bool (by rw [← ht.out, List.take_of_length_le (by have := HL.out; omega)]), rfl⟩

theorem tmod2 (c : Int) : (3 ≤ c ∧ c < 10 ∧ c.tmod 2 = 1) ↔ rightB c = true := by
  unfold rightB; constructor
  · rintro ⟨a, b, h⟩; rw [Int.tmod_eq_emod_of_nonneg (by omega)] at h; simp; omega
  · intro h; simp at h; rw [Int.tmod_eq_emod_of_nonneg (by omega)]; omega

theorem all2 (x y : Bool) (w : World) :
    Calls Tryz.prog 136 #[.slice (some ⟨w.heap.size, 0, none⟩) 2 2] (w.alloc (.cells #[.bool x, .bool y] 4)) fun e w' => e = .returned (.bool (x && y)) ∧ w.alloc (.cells #[.bool x, .bool y] 4) = w' := by
  refine (all_any w.heap.size 2 2 [x, y] _ rfl (by omega) ?_).mono fun e w' ⟨h1, h2⟩ => ⟨by rw [h1]; simp, h2⟩
  intro j hj
  match j, hj with
  | 0, _ => simp
  | 1, _ => simp
theorem all4 (x y z u : Bool) (w : World) :
    Calls Tryz.prog 136 #[.slice (some ⟨w.heap.size, 0, none⟩) 4 4] (w.alloc (.cells #[.bool x, .bool y, .bool z, .bool u] 4)) fun e w' => e = .returned (.bool (x && (y && (z && u)))) ∧ w.alloc (.cells #[.bool x, .bool y, .bool z, .bool u] 4) = w' := by
  refine (all_any w.heap.size 4 4 [x, y, z, u] _ rfl (by omega) ?_).mono fun e w' ⟨h1, h2⟩ => ⟨by rw [h1]; simp, h2⟩
  intro j hj
  match j, hj with
  | 0, _ => simp
  | 1, _ => simp
  | 2, _ => simp
  | 3, _ => simp

theorem right_eq (c : Int) : (inB c 3 10 && (c.tmod 2 == 1)) = rightB c := by
  rw [Bool.eq_iff_iff, ← tmod2]; simp [inB]; omega

set_option maxHeartbeats 400000 in
theorem right_any (c : Int) (w : World) :
    Calls Tryz.prog 98 #[.int .i64 c] w fun e w' => e = .returned (.bool (rightB c)) ∧ Below w.heap.size w w' := by
  go_enter Tryz.func98, Tryz.ntmps98
  go_wp2_with fail
  refine (in_choir _ _ _ _).mono ?_
  rintro e w' ⟨rfl, rfl⟩
  go_wp2_with fail
  refine (all2 _ _ _).mono ?_
  rintro e w' ⟨rfl, rfl⟩
  go_wp2_with fail
  go_ret
  exact ⟨ret_bool (right_eq c), (Below.refl _ _).alloc (Nat.le_refl _) _⟩

def placeB (c p : Int) : Bool := rightB c && inB p 0 c

theorem right_at (c : Int) (b : Bool) (h : rightB c = b) (w : World) :
    Calls Tryz.prog 98 #[.int .i64 c] w fun e w' => e = .returned (.bool b) ∧ Below w.heap.size w w' := h ▸ right_any c w
theorem in_int_at (n x y : Int) (b : Bool) (h : inB n x y = b) (w : World) :
    Calls Tryz.prog 99 #[.int .i64 n, .int .i64 x, .int .i64 y] w fun e w' => e = .returned (.bool b) ∧ w = w' := h ▸ in_int n x y w

def majI (c : Int) : Int := if rightB c then c / 2 + 1 else 0
def errI (c : Int) : Int := if rightB c then 0 else 2
theorem right_bd {c : Int} (h : rightB c = true) : 3 ≤ c ∧ c ≤ 9 := by unfold rightB at h; simp at h; omega

set_option maxHeartbeats 400000 in
theorem check_any (c : Int) (w : World) :
    Calls Tryz.prog 140 #[.int .i64 c] w fun e w' => e = .returned (.int .i64 (errI c)) ∧ Below w.heap.size w w' := by
  unfold errI
  cases hr : rightB c
  all_goals
    have Hr := Lib.hid hr
    clear hr
    go_enter Tryz.func140, Tryz.ntmps140
    go_wp2_with fail
    refine (right_at _ _ Hr.out _).mono ?_
    rintro e w1 ⟨rfl, hb⟩
    go_wp2_with fail
    go_ret
    exact ⟨rfl, hb⟩

set_option maxHeartbeats 400000 in
theorem majority_any (c : Int) (w : World) :
    Calls Tryz.prog 73 #[.int .i64 c] w fun e w' => e = .returned (.tuple #[.int .i64 (majI c), .int .i64 (errI c)]) ∧ Below w.heap.size w w' := by
  unfold majI errI
  cases hr : rightB c
  · have Hr := Lib.hid hr
    clear hr
    go_enter Tryz.func73, Tryz.ntmps73
    go_wp2_with fail
    refine (right_at _ _ Hr.out _).mono ?_
    rintro e w1 ⟨rfl, hb⟩
    go_wp2_with fail
    go_ret2
    exact ⟨rfl, hb⟩
  · obtain ⟨h1, h2⟩ := right_bd hr
    have Hr := Lib.hid hr
    clear hr
    go_enter Tryz.func73, Tryz.ntmps73
    go_wp2_with fail
    refine (right_at _ _ Hr.out _).mono ?_
    rintro e w1 ⟨rfl, hb⟩
    go_wp2_with fail
    go_ret2
    exact ⟨rfl, hb⟩

/-! Owner, Turn: through a function value. -/
def slotB (s : Int) : Bool := inB s 0 4096
def opErr (c s : Int) : Int := if rightB c then (if slotB s then 0 else 4) else 2
def ofI (f : Int → Int → Int) (c s : Int) : Int := if rightB c then (if slotB s then f c s else 0) else 0
def ownerI (c s : Int) : Int := ofI (fun n s => s % n) c s
def turnI (c s : Int) : Int := ofI (fun n s => s / n) c s

theorem slot_bd {s : Int} (h : slotB s = true) : 0 ≤ s ∧ s ≤ 4095 := by unfold slotB inB at h; simp at h; omega

set_option maxHeartbeats 400000 in
theorem owner1_any (n s : Int) (w : World) (h1 : 3 ≤ n) (h2 : n ≤ 9) (h3 : 0 ≤ s) (h4 : s ≤ 4095) :
    Calls Tryz.prog 62 #[.int .i64 n, .int .i64 s] w fun e w' => e = .returned (.int .i64 (s % n)) ∧ w = w' := by
  go_enter Tryz.func62, Tryz.ntmps62
  go_wp2_with fail
  go_ret
  exact ⟨rfl, rfl⟩

set_option maxHeartbeats 400000 in
theorem of_any (k : Nat) (f : Int → Int → Int) (c s r : Int) (hrr : ofI f c s = r) (w : World)
    (hf : ∀ n s w, 3 ≤ n → n ≤ 9 → 0 ≤ s → s ≤ 4095 → Calls Tryz.prog k #[.int .i64 n, .int .i64 s] w fun e w' => e = .returned (.int .i64 (f n s)) ∧ w = w')
    (he : ∀ args w, (callFunc k args).run Tryz.prog w = .ok (.enter k args) w) :
    Calls Tryz.prog 61 #[.int .i64 c, .int .i64 s, .func (.func k) #[] #[]] w fun e w' => e = .returned (.tuple #[.int .i64 r, .int .i64 (opErr c s)]) ∧ Below w.heap.size w w' := by
  subst hrr
  unfold opErr ofI
  cases hr : rightB c
  · have Hr := Lib.hid hr
    clear hr
    go_enter Tryz.func61, Tryz.ntmps61
    go_wp2_with fail
    refine (right_at _ _ Hr.out _).mono ?_
    rintro e w1 ⟨rfl, hb⟩
    go_wp2_with fail
    go_ret2
    exact ⟨rfl, hb⟩
  · obtain ⟨h1, h2⟩ := right_bd hr
    have Hr := Lib.hid hr
    clear hr
    cases hs : slotB s
    · have Hs := Lib.hid hs
      clear hs
      go_enter Tryz.func61, Tryz.ntmps61
      go_wp2_with fail
      refine (right_at _ _ Hr.out _).mono ?_
      rintro e w1 ⟨rfl, hb⟩
      go_wp2_with fail
      refine (in_int_at _ _ _ _ Hs.out _).mono ?_
      rintro e w2 ⟨rfl, rfl⟩
      go_wp2_with fail
      go_ret2
      exact ⟨rfl, hb⟩
    · obtain ⟨h3, h4⟩ := slot_bd hs
      have Hs := Lib.hid hs
      have HF := Lib.hid hf
      clear hs hf
      go_enter Tryz.func61, Tryz.ntmps61
      go_wp2_with fail
      refine (right_at _ _ Hr.out _).mono ?_
      rintro e w1 ⟨rfl, hb⟩
      go_wp2_with fail
      refine (in_int_at _ _ _ _ Hs.out _).mono ?_
      rintro e w2 ⟨rfl, rfl⟩
      go_wp2_with fail
      refine (HF.out _ _ _ h1 h2 h3 h4).mono ?_
      rintro e w2 ⟨rfl, rfl⟩
      go_wp2_with fail
      go_ret2
      exact ⟨rfl, hb⟩
end Go.Proofs.YthhpblchiodahaaGreatDoor

/- The calls of package slots that tell numbers, and the document's answers: what each returns. -/
namespace Go.Proofs.YthhpblchiodahaaGreatDoor
open Go.RowKit

set_option maxRecDepth 100000 in
set_option maxHeartbeats 400000 in
theorem owner_any (c s : Int) (w : World) :
    Calls Tryz.prog 29 #[.int .i64 c, .int .i64 s] w fun e w' => e = .returned (.tuple #[.int .i64 (ownerI c s), .int .i64 (opErr c s)]) ∧ Below w.heap.size w w' := by
  go_enter Tryz.func29, Tryz.ntmps29
  go_wp2_with fail
  refine (of_any 62 (fun n s => s % n) _ _ (ownerI c s) rfl _ owner1_any (fun _ _ => rfl)).mono ?_
  rintro e w1 ⟨rfl, hb⟩
  go_wp2_with fail
  go_ret2
  exact ⟨rfl, hb⟩
/-! Slot. -/
def slotI (c p t : Int) : Int := if placeB c p then (if inB t 0 4096 then (if inB (t * c + p) 0 4096 then t * c + p else 0) else 0) else 0
def slotE (c p t : Int) : Int := if placeB c p then (if inB t 0 4096 then (if inB (t * c + p) 0 4096 then 0 else 4) else 4) else 2
theorem place_bd {c p : Int} (h : placeB c p = true) : 3 ≤ c ∧ c ≤ 9 ∧ 0 ≤ p ∧ p < c := by
  unfold placeB inB at h; simp at h; have := right_bd h.1; omega
theorem mul_bd {t c : Int} (h1 : 3 ≤ c) (h2 : c ≤ 9) (h3 : 0 ≤ t) (h4 : t ≤ 4095) : 0 ≤ t * c ∧ t * c ≤ 40000 := by
  have a : t * c ≤ 4095 * 9 := Int.mul_le_mul h4 h2 (by omega) (by omega)
  have b : 0 ≤ t * c := Int.mul_nonneg h3 (by omega)
  omega

/-! next, between, Many. -/
def nextI (n p f : Int) : Int := f + (p - f) % n
theorem next_bd {n p f : Int} (h1 : 3 ≤ n) (h2 : n ≤ 9) : f ≤ nextI n p f ∧ nextI n p f < f + n := by
  unfold nextI; have := Int.emod_nonneg (p - f) (b := n) (by omega); have := Int.emod_lt_of_pos (p - f) (b := n) (by omega); omega
def betweenB (c p f t : Int) : Bool := placeB c p && (decide (0 ≤ f) && (decide (f ≤ t) && decide (t ≤ 4096)))
theorem between_bd {c p f t : Int} (h : betweenB c p f t = true) : (3 ≤ c ∧ c ≤ 9 ∧ 0 ≤ p ∧ p < c) ∧ 0 ≤ f ∧ f ≤ t ∧ t ≤ 4096 := by
  unfold betweenB at h; simp at h; exact ⟨place_bd h.1, h.2⟩

def manyI (c p f t : Int) : Int := if betweenB c p f t then (max t (nextI c p f) - nextI c p f + c - 1) / c else 0
def manyE (c p f t : Int) : Int := if betweenB c p f t then 0 else 2
/-! The document's answers. -/
set_option maxRecDepth 100000 in
set_option maxHeartbeats 400000 in
theorem refRight_any (c : Int) (w : World) :
    Calls Tryz.prog 38 #[.int .i64 c] w fun e w' => e = .returned (.bool (rightB c)) ∧ w = w' := by
  go_enter Tryz.func38, Tryz.ntmps38
  go_wp2
  all_goals (go_ret; exact ⟨ret_bool (by unfold rightB; simp_all), rfl⟩)
set_option maxRecDepth 100000 in
set_option maxHeartbeats 400000 in
theorem refSlot_any (s : Int) (w : World) :
    Calls Tryz.prog 39 #[.int .i64 s] w fun e w' => e = .returned (.bool (slotB s)) ∧ w = w' := by
  go_enter Tryz.func39, Tryz.ntmps39
  go_wp2
  all_goals (go_ret; exact ⟨ret_bool (by simp [slotB, inB]; omega), rfl⟩)
set_option maxRecDepth 100000 in
set_option maxHeartbeats 400000 in
theorem refPlace_any (n p : Int) (w : World) :
    Calls Tryz.prog 84 #[.int .i64 n, .int .i64 p] w fun e w' => e = .returned (.bool (inB p 0 n)) ∧ w = w' := by
  go_enter Tryz.func84, Tryz.ntmps84
  go_wp2
  all_goals (go_ret; exact ⟨ret_bool (by simp [inB]; omega), rfl⟩)
theorem refRight_at (c : Int) (b : Bool) (h : rightB c = b) (w : World) : Calls Tryz.prog 38 #[.int .i64 c] w fun e w' => e = .returned (.bool b) ∧ w = w' := h ▸ refRight_any c w
theorem refSlot_at (c : Int) (b : Bool) (h : slotB c = b) (w : World) : Calls Tryz.prog 39 #[.int .i64 c] w fun e w' => e = .returned (.bool b) ∧ w = w' := h ▸ refSlot_any c w
theorem refPlace_at (n p : Int) (b : Bool) (h : inB p 0 n = b) (w : World) : Calls Tryz.prog 84 #[.int .i64 n, .int .i64 p] w fun e w' => e = .returned (.bool b) ∧ w = w' := h ▸ refPlace_any n p w
set_option maxRecDepth 100000 in
set_option maxHeartbeats 400000 in
theorem refMajority_any (n : Int) (w : World) (h : rightB n = true) :
    Calls Tryz.prog 89 #[.int .i64 n] w fun e w' => e = .returned (.int .i64 (majI n)) ∧ w = w' := by
  obtain ⟨h1, h2⟩ := right_bd h
  unfold majI
  rw [if_pos h]
  clear h
  go_enter Tryz.func89, Tryz.ntmps89
  go_wp2_with fail
  go_loop [3] (fun m => ∃ k : Int, 0 ≤ k ∧ k ≤ n / 2 + 1 ∧ m = .int .i64 k) (fun m => (n + 1 - intOf m).toNat)
  case atStart => exact ⟨0, by omega, by omega, rfl⟩
  case round =>
    obtain ⟨k, hk1, hk2, rfl⟩ := hrel
    by_cases hle : 2 * k ≤ n
    · go_wp2
      go_round
      case rel => exact ⟨k + 1, by omega, by omega, rfl⟩
      case measure => simp [intOf]; omega
    · go_wp2
      go_ret
      exact ⟨ret_int (by omega), rfl⟩
theorem mod_bd {s n : Int} (h1 : 3 ≤ n) : 0 ≤ s % n ∧ s % n < n := ⟨Int.emod_nonneg _ (by omega), Int.emod_lt_of_pos _ (by omega)⟩
/-! Of, Next: loops over all slots. -/
theorem right_cases {n : Int} (h : rightB n = true) : n = 3 ∨ n = 5 ∨ n = 7 ∨ n = 9 := by unfold rightB at h; simp at h; omega
def cntI (n p s : Int) : Int := (s - p + n - 1) / n
theorem cnt_hit {n p s : Int} (hr : rightB n = true) (h3 : 0 ≤ p) (h4 : p < n) (h5 : 0 ≤ s) (hm : s % n = p) : cntI n p s * n + p = s ∧ cntI n p (s + 1) = cntI n p s + 1 ∧ 0 ≤ cntI n p s ∧ cntI n p s ≤ s := by
  unfold cntI; rcases right_cases hr with rfl | rfl | rfl | rfl <;> omega
theorem cnt_miss {n p s : Int} (hr : rightB n = true) (h3 : 0 ≤ p) (h4 : p < n) (h5 : 0 ≤ s) (hm : s % n ≠ p) : cntI n p (s + 1) = cntI n p s ∧ 0 ≤ cntI n p s ∧ cntI n p s ≤ s := by
  unfold cntI; rcases right_cases hr with rfl | rfl | rfl | rfl <;> omega
theorem cnt_zero {n p : Int} (hr : rightB n = true) (h3 : 0 ≤ p) (h4 : p < n) : cntI n p 0 = 0 := by
  unfold cntI; rcases right_cases hr with rfl | rfl | rfl | rfl <;> omega
theorem slot_hit {n p s : Int} (hp : placeB n p = true) (hr : rightB n = true) (h3 : 0 ≤ p) (h4 : p < n) (h5 : 0 ≤ s) (h6 : s < 4096) (hm : s % n = p) : slotI n p (cntI n p s) = s ∧ slotE n p (cntI n p s) = 0 := by
  obtain ⟨a, b, c, d⟩ := cnt_hit hr h3 h4 h5 hm
  unfold slotI slotE
  rw [if_pos hp, if_pos hp, if_pos (by simp [inB]; omega), if_pos (by simp [inB]; omega), if_pos (by simp [inB]; omega), if_pos (by simp [inB]; omega)]
  exact ⟨a, rfl⟩
theorem slot_none {n p t : Int} (hp : placeB n p = true) (hr : rightB n = true) (_h3 : 0 ≤ p) (h4 : p < n) (h : t < 0 ∨ cntI n p 4096 ≤ t) : slotI n p t = 0 ∧ slotE n p t = 4 := by
  unfold slotI slotE cntI at *
  rw [if_pos hp, if_pos hp]
  by_cases ht : inB t 0 4096 = true
  · rw [if_pos ht, if_pos ht]
    have h2 : ¬ inB (t * n + p) 0 4096 = true := by
      simp [inB] at ht ⊢
      rcases right_cases hr with rfl | rfl | rfl | rfl <;> omega
    rw [if_neg h2, if_neg h2]; exact ⟨rfl, rfl⟩
  · rw [if_neg ht, if_neg ht]; exact ⟨rfl, rfl⟩
theorem place_right {n p : Int} (h : placeB n p = true) : rightB n = true ∧ inB p 0 n = true := by unfold placeB at h; simpa using h

/-! Next. -/
def nextFrom (n p f : Int) : Int := nextI n p (max 0 f)
def nextV (n p f : Int) : Int := if placeB n p then (if nextFrom n p f < 4096 then nextFrom n p f else 0) else 0
def nextE (n p f : Int) : Int := if placeB n p then (if nextFrom n p f < 4096 then 0 else 4) else 2
theorem next_step {n p s : Int} (hr : rightB n = true) (h3 : 0 ≤ p) (h4 : p < n) (hm : s % n ≠ p) : nextI n p s = nextI n p (s + 1) := by
  unfold nextI; rcases right_cases hr with rfl | rfl | rfl | rfl <;> omega
theorem next_here {n p s : Int} (hr : rightB n = true) (_h3 : 0 ≤ p) (_h4 : p < n) (hm : s % n = p) : nextI n p s = s := by
  unfold nextI; rcases right_cases hr with rfl | rfl | rfl | rfl <;> omega
theorem next_mod {n p s : Int} (hr : rightB n = true) (_h3 : 0 ≤ p) (h4 : p < n) : nextI n p s % n = p := by
  unfold nextI; rcases right_cases hr with rfl | rfl | rfl | rfl <;> omega

end Go.Proofs.YthhpblchiodahaaGreatDoor

/- Package ballot: which ballots may be, and which of two is less. -/
namespace Go.Proofs.YthhpblchiodahaaGreatDoor
open Go.RowKit

theorem check_at (c e : Int) (h1 : errI c = e) (w : World) : Calls Tryz.prog 140 #[.int .i64 c] w fun r w' => r = .returned (.int .i64 e) ∧ Below w.heap.size w w' := h1 ▸ check_any c w
theorem owner_at (c s v e : Int) (h1 : ownerI c s = v) (h2 : opErr c s = e) (w : World) : Calls Tryz.prog 29 #[.int .i64 c, .int .i64 s] w fun r w' => r = .returned (.tuple #[.int .i64 v, .int .i64 e]) ∧ Below w.heap.size w w' := h1 ▸ h2 ▸ owner_any c s w
theorem majority_at (c v e : Int) (h1 : majI c = v) (h2 : errI c = e) (w : World) : Calls Tryz.prog 73 #[.int .i64 c] w fun r w' => r = .returned (.tuple #[.int .i64 v, .int .i64 e]) ∧ Below w.heap.size w w' := h1 ▸ h2 ▸ majority_any c w

theorem cell_drew (W : World) (a : Addr) : W.drew.cell? a = W.cell? a := rfl
theorem cell_new (W : World) (cs : Array Value) (t : TypeId) (i : Nat) (v : Value) (n : Nat) (hn : W.heap.size = n) (h : cs[i]? = some v) : (W.alloc (.cells cs t)).drew.cell? ⟨n, i, none⟩ = some v := by
  subst hn; rw [cell_drew]; simp [h]
theorem size_drew (W : World) : W.drew.heap.size = W.heap.size := rfl

/-! Which is less. -/
def c3 (x y : Int) : Int := if x < y then -1 else if y < x then 1 else 0
def or2 (x y : Int) : Int := if x = 0 then y else x
def cmpI (r p s q : Int) : Int := or2 (c3 r s) (c3 p q)
def lessB (r p s q : Int) : Bool := decide (r < s) || (r == s && decide (p < q))

theorem nan64_any (x : Int) (w : World) : Calls Tryz.prog 122 #[.int .i64 x] w fun e w' => e = .returned (.bool false) ∧ w = w' := by
  go_enter Tryz.func122, Tryz.ntmps122
  go_wp2_with fail
  go_ret
  exact ⟨ret_bool (by simp), rfl⟩
theorem nan_any (x : Int) (w : World) : Calls Tryz.prog 123 #[.int .i64 x] w fun e w' => e = .returned (.bool false) ∧ w = w' := by
  go_enter Tryz.func123, Tryz.ntmps123
  go_wp2_with fail
  go_ret
  exact ⟨ret_bool (by simp), rfl⟩
set_option maxRecDepth 100000 in
set_option maxHeartbeats 400000 in
theorem c64_any (x y : Int) (w : World) : Calls Tryz.prog 79 #[.int .i64 x, .int .i64 y] w fun e w' => e = .returned (.int .i64 (c3 x y)) ∧ w = w' := by
  have hc : (x < y ∧ c3 x y = -1) ∨ (¬ x < y ∧ y < x ∧ c3 x y = 1) ∨ (¬ x < y ∧ ¬ y < x ∧ c3 x y = 0) := by
    unfold c3
    by_cases g : x < y
    · simp [g]
    · by_cases g' : y < x <;> simp [g, g']
  rcases hc with ⟨h1, h2⟩ | ⟨h1, h3, h2⟩ | ⟨h1, h3, h2⟩
  all_goals
    rw [h2]
    clear h2
    go_enter Tryz.func79, Tryz.ntmps79
    go_wp2_with fail
    refine (nan64_any _ _).mono ?_
    rintro e w' ⟨rfl, rfl⟩
    go_wp2_with fail
    refine (nan64_any _ _).mono ?_
    rintro e w' ⟨rfl, rfl⟩
    go_wp2_with fail
    go_ret
    exact ⟨rfl, rfl⟩
set_option maxRecDepth 100000 in
set_option maxHeartbeats 400000 in
theorem cint_any (x y : Int) (w : World) : Calls Tryz.prog 80 #[.int .i64 x, .int .i64 y] w fun e w' => e = .returned (.int .i64 (c3 x y)) ∧ w = w' := by
  have hc : (x < y ∧ c3 x y = -1) ∨ (¬ x < y ∧ y < x ∧ c3 x y = 1) ∨ (¬ x < y ∧ ¬ y < x ∧ c3 x y = 0) := by
    unfold c3
    by_cases g : x < y
    · simp [g]
    · by_cases g' : y < x <;> simp [g, g']
  rcases hc with ⟨h1, h2⟩ | ⟨h1, h3, h2⟩ | ⟨h1, h3, h2⟩
  all_goals
    rw [h2]
    clear h2
    go_enter Tryz.func80, Tryz.ntmps80
    go_wp2_with fail
    refine (nan_any _ _).mono ?_
    rintro e w' ⟨rfl, rfl⟩
    go_wp2_with fail
    refine (nan_any _ _).mono ?_
    rintro e w' ⟨rfl, rfl⟩
    go_wp2_with fail
    go_ret
    exact ⟨rfl, rfl⟩
set_option maxRecDepth 100000 in
set_option maxHeartbeats 400000 in
theorem or_any (b : Nat) (x y : Int) (w : World) (h0 : w.cell? ⟨b, 0, none⟩ = some (.int .i64 x)) (h1 : w.cell? ⟨b, 1, none⟩ = some (.int .i64 y)) :
    Calls Tryz.prog 78 #[.slice (some ⟨b, 0, none⟩) 2 2] w fun e w' => e = .returned (.int .i64 (or2 x y)) ∧ w = w' := by
  have hc : (x = 0 ∧ y = 0 ∧ or2 x y = 0) ∨ (x = 0 ∧ y ≠ 0 ∧ or2 x y = y) ∨ (x ≠ 0 ∧ or2 x y = x) := by unfold or2; split <;> simp_all; omega
  rcases hc with ⟨g1, g2, g3⟩ | ⟨g1, g2, g3⟩ | ⟨g1, g3⟩
  all_goals
    rw [g3]
    clear g3
    try subst g1
    try subst g2
    go_enter Tryz.func78, Tryz.ntmps78
    go_wp2
    refine wp_loop_rounds 3 ?_
    rw [rounds_succ]
    go_wp2
    try (rw [rounds_succ]; go_wp2)
    try (rw [rounds_succ]; go_wp2)
    go_ret
    exact ⟨rfl, rfl⟩
set_option maxRecDepth 100000 in
set_option maxHeartbeats 1000000 in
theorem compare_any (r p s q : Int) (w : World) :
    Calls Tryz.prog 45 #[.agg #[.int .i64 r, .int .i64 p], .agg #[.int .i64 s, .int .i64 q]] w fun e w' => e = .returned (.int .i64 (cmpI r p s q)) ∧ Below w.heap.size w w' := by
  unfold cmpI
  go_enter Tryz.func45, Tryz.ntmps45
  go_wp2
  go_region_held3 (fun w' => w'.cell? ⟨w.heap.size, 0, none⟩ = some (.int .i64 r) ∧ w'.cell? ⟨w.heap.size, 1, none⟩ = some (.int .i64 p) ∧ w'.cell? ⟨w.heap.size + 1, 0, none⟩ = some (.int .i64 s) ∧ w'.cell? ⟨w.heap.size + 1, 1, none⟩ = some (.int .i64 q)) (go_keep)
    (first | (go_at_call 79; refine (c64_any _ _ _).mono ?_; rintro e w' ⟨rfl, rfl⟩) | (go_at_call 80; refine (cint_any _ _ _).mono ?_; rintro e w' ⟨rfl, rfl⟩) | (go_at_call 78; refine (or_any _ (c3 r s) (c3 p q) _ ?_ ?_).mono ?_; (exact cell_new _ _ _ _ _ _ (by simp) rfl); (exact cell_new _ _ _ _ _ _ (by simp) rfl); rintro e w' ⟨rfl, rfl⟩))
  all_goals go_wp2
  all_goals go_ret
  all_goals exact ⟨rfl, ((((Below.refl _ _).alloc (Nat.le_refl _) _).alloc (by simp) _).alloc (by simp; omega) _).drew⟩
end Go.Proofs.YthhpblchiodahaaGreatDoor

/- Package ballot: the choir's checks, which are function values in a slice. -/
namespace Go.Proofs.YthhpblchiodahaaGreatDoor
open Go.RowKit

def hiB (r : Int) : Bool := decide (0 ≤ r) && decide (r ≤ 2147483647)
def chkB (c r p : Int) : Bool := rightB c && (hiB r && inB p 0 c)
def chkI (c r p : Int) : Int := if chkB c r p then 0 else 2
def ptr (b : Nat) : Value := .pointer (some ⟨b, 0, none⟩)
def blt (r p : Int) : Value := .agg #[.int .i64 r, .int .i64 p]

theorem keep_alloc {w : World} {b o : Nat} {v : Value} (h : w.cell? ⟨b, o, none⟩ = some v) (x : Obj) : (w.alloc x).cell? ⟨b, o, none⟩ = some v :=
  (((Below.refl w.heap.size w).alloc (Nat.le_refl _) x).cell (p := ⟨b, o, none⟩) (World.block_lt_of_cell? w _ h)).trans h

set_option maxRecDepth 100000 in
set_option maxHeartbeats 400000 in
theorem wrong1_at (c r p : Int) (b : Nat) (v : Bool) (w : World) (hc : w.cell? ⟨b, 0, none⟩ = some (.int .i64 c)) (hv : rightB c = v) :
    Calls Tryz.prog 139 #[.agg #[.int .i64 r, .int .i64 p], .pointer (some ⟨b, 0, none⟩)] w fun e w' => e = .returned (.bool (!v)) ∧ Below w.heap.size w w' := by
  have he : errI c = (if v then 0 else 2) := by unfold errI; rw [hv]
  have hk := keep_alloc hc
  cases v
  all_goals
    simp only [Bool.false_eq_true, if_false, if_true] at he
    have HE := Lib.hid he
    clear he
    clear hv
    go_enter Tryz.func139, Tryz.ntmps139
    go_wp2_with fail
    refine (check_at _ _ HE.out _).mono ?_
    rintro e w1 ⟨rfl, b1⟩
    go_wp2_with fail
    go_ret
    exact ⟨rfl, ((Below.refl _ _).alloc (Nat.le_refl _) _).trans (b1.mono (by simp))⟩
set_option maxRecDepth 100000 in
set_option maxHeartbeats 400000 in
theorem wrong2_at (r p : Int) (v : Bool) (w : World) (hv : hiB r = v) :
    Calls Tryz.prog 141 #[.agg #[.int .i64 r, .int .i64 p]] w fun e w' => e = .returned (.bool (!v)) ∧ Below w.heap.size w w' := by
  subst hv
  go_enter Tryz.func141, Tryz.ntmps141
  go_wp2
  all_goals (go_ret; exact ⟨ret_bool (by rw [Bool.eq_iff_iff]; simp [hiB] <;> omega), (Below.refl _ _).alloc (Nat.le_refl _) _⟩)
set_option maxRecDepth 100000 in
set_option maxHeartbeats 400000 in
theorem wrong3_at (c r p : Int) (b : Nat) (v : Bool) (w : World) (hc : w.cell? ⟨b, 0, none⟩ = some (.int .i64 c)) (hv : inB p 0 c = v) :
    Calls Tryz.prog 142 #[.agg #[.int .i64 r, .int .i64 p], .pointer (some ⟨b, 0, none⟩)] w fun e w' => e = .returned (.bool (!v)) ∧ Below w.heap.size w w' := by
  have hk := keep_alloc hc
  subst hv
  go_enter Tryz.func142, Tryz.ntmps142
  go_wp2
  all_goals (go_ret; exact ⟨ret_bool (by rw [Bool.eq_iff_iff]; simp [inB] <;> omega), (Below.refl _ _).alloc (Nat.le_refl _) _⟩)
set_option maxRecDepth 100000 in
set_option maxHeartbeats 400000 in
theorem wrong_any (c : Int) (w : World) :
    Calls Tryz.prog 118 #[.int .i64 c] w fun e w' => e = .returned (.slice (some ⟨w.heap.size + 1, 0, none⟩) 3 3) ∧ Below w.heap.size w w' ∧ w.heap.size + 1 < w'.heap.size ∧ w'.cell? ⟨w.heap.size, 0, none⟩ = some (.int .i64 c) ∧
      w'.cell? ⟨w.heap.size + 1, 0, none⟩ = some (.func (.func 139) #[] #[.pointer (some ⟨w.heap.size, 0, none⟩)]) ∧ w'.cell? ⟨w.heap.size + 1, 1, none⟩ = some (.func (.func 141) #[] #[]) ∧
      w'.cell? ⟨w.heap.size + 1, 2, none⟩ = some (.func (.func 142) #[] #[.pointer (some ⟨w.heap.size, 0, none⟩)]) := by
  go_enter Tryz.func118, Tryz.ntmps118
  go_wp2
  go_ret
  exact ⟨rfl, ((Below.refl _ _).alloc (Nat.le_refl _) _).alloc (by simp) _, by simp, by go_simp, by go_simp, by go_simp, by go_simp⟩
set_option maxRecDepth 100000 in
set_option maxHeartbeats 1000000 in
theorem bcheck_any (c r p : Int) (w : World) :
    Calls Tryz.prog 72 #[.int .i64 c, .agg #[.int .i64 r, .int .i64 p]] w fun e w' => e = .returned (.int .i64 (chkI c r p)) ∧ Below w.heap.size w w' := by
  cases hr : rightB c
  · have hv : chkI c r p = 2 := by simp [chkI, chkB, hr]
    rw [hv]
    clear hv
    have HR := Lib.hid hr
    clear hr
    go_enter Tryz.func72, Tryz.ntmps72
    go_wp2_with fail
    refine (wrong_any _ _).mono ?_
    rintro e w1 ⟨rfl, b1, hs, c0, f1, f2, f3⟩
    have d0 := (b1.cell (p := ⟨w.heap.size, 0, none⟩) (show _ < _ by simp)).trans (show _ = some (Value.int .i64 r) by simp)
    have d1 := (b1.cell (p := ⟨w.heap.size, 1, none⟩) (show _ < _ by simp)).trans (show _ = some (Value.int .i64 p) by simp)
    have bb : Below w.heap.size w w1 := ((Below.refl _ _).alloc (Nat.le_refl _) _).trans (b1.mono (by simp))
    clear b1
    simp only [World.size_alloc] at hs c0 f1 f2 f3
    go_wp2_with fail
    refine wp_loop_rounds 4 ?_
    rw [rounds_succ]
    go_wp2_with fail
    refine (wrong1_at _ _ _ _ false _ c0 HR.out).mono ?_
    rintro e w2 ⟨rfl, b2⟩
    go_wp2_with fail
    go_ret
    exact ⟨rfl, bb.trans (b2.mono bb.size)⟩
  · cases hh : hiB r
    · have hv : chkI c r p = 2 := by simp [chkI, chkB, hr, hh]
      rw [hv]
      clear hv
      have HR := Lib.hid hr
      clear hr
      have HH := Lib.hid hh
      clear hh
      go_enter Tryz.func72, Tryz.ntmps72
      go_wp2_with fail
      refine (wrong_any _ _).mono ?_
      rintro e w1 ⟨rfl, b1, hs, c0, f1, f2, f3⟩
      have d0 := (b1.cell (p := ⟨w.heap.size, 0, none⟩) (show _ < _ by simp)).trans (show _ = some (Value.int .i64 r) by simp)
      have d1 := (b1.cell (p := ⟨w.heap.size, 1, none⟩) (show _ < _ by simp)).trans (show _ = some (Value.int .i64 p) by simp)
      have bb : Below w.heap.size w w1 := ((Below.refl _ _).alloc (Nat.le_refl _) _).trans (b1.mono (by simp))
      clear b1
      simp only [World.size_alloc] at hs c0 f1 f2 f3
      go_wp2_with fail
      refine wp_loop_rounds 4 ?_
      rw [rounds_succ]
      go_wp2_with fail
      refine (wrong1_at _ _ _ _ true _ c0 HR.out).mono ?_
      rintro e w2 ⟨rfl, b2⟩
      replace d0 := (b2.cell (p := ⟨w.heap.size, 0, none⟩) (show _ < _ by have := hs; simp; omega)).trans d0
      replace d1 := (b2.cell (p := ⟨w.heap.size, 1, none⟩) (show _ < _ by have := hs; simp; omega)).trans d1
      replace c0 := (b2.cell (p := ⟨w.heap.size + 1, 0, none⟩) (show _ < _ by have := hs; simp; omega)).trans c0
      replace f1 := (b2.cell (p := ⟨w.heap.size + 1 + 1, 0, none⟩) (show _ < _ by have := hs; simp; omega)).trans f1
      replace f2 := (b2.cell (p := ⟨w.heap.size + 1 + 1, 1, none⟩) (show _ < _ by have := hs; simp; omega)).trans f2
      replace f3 := (b2.cell (p := ⟨w.heap.size + 1 + 1, 2, none⟩) (show _ < _ by have := hs; simp; omega)).trans f3
      replace hs := Nat.lt_of_lt_of_le hs b2.size
      replace bb := bb.trans (b2.mono bb.size)
      clear b2
      go_wp2_with fail
      rw [rounds_succ]
      go_wp2_with fail
      refine (wrong2_at _ _ false _ HH.out).mono ?_
      rintro e w3 ⟨rfl, b2⟩
      go_wp2_with fail
      go_ret
      exact ⟨rfl, bb.trans (b2.mono bb.size)⟩
    · cases hi : inB p 0 c
      · have hv : chkI c r p = 2 := by simp [chkI, chkB, hr, hh, hi]
        rw [hv]
        clear hv
        have HR := Lib.hid hr
        clear hr
        have HH := Lib.hid hh
        clear hh
        have HI := Lib.hid hi
        clear hi
        go_enter Tryz.func72, Tryz.ntmps72
        go_wp2_with fail
        refine (wrong_any _ _).mono ?_
        rintro e w1 ⟨rfl, b1, hs, c0, f1, f2, f3⟩
        have d0 := (b1.cell (p := ⟨w.heap.size, 0, none⟩) (show _ < _ by simp)).trans (show _ = some (Value.int .i64 r) by simp)
        have d1 := (b1.cell (p := ⟨w.heap.size, 1, none⟩) (show _ < _ by simp)).trans (show _ = some (Value.int .i64 p) by simp)
        have bb : Below w.heap.size w w1 := ((Below.refl _ _).alloc (Nat.le_refl _) _).trans (b1.mono (by simp))
        clear b1
        simp only [World.size_alloc] at hs c0 f1 f2 f3
        go_wp2_with fail
        refine wp_loop_rounds 4 ?_
        rw [rounds_succ]
        go_wp2_with fail
        refine (wrong1_at _ _ _ _ true _ c0 HR.out).mono ?_
        rintro e w2 ⟨rfl, b2⟩
        replace d0 := (b2.cell (p := ⟨w.heap.size, 0, none⟩) (show _ < _ by have := hs; simp; omega)).trans d0
        replace d1 := (b2.cell (p := ⟨w.heap.size, 1, none⟩) (show _ < _ by have := hs; simp; omega)).trans d1
        replace c0 := (b2.cell (p := ⟨w.heap.size + 1, 0, none⟩) (show _ < _ by have := hs; simp; omega)).trans c0
        replace f1 := (b2.cell (p := ⟨w.heap.size + 1 + 1, 0, none⟩) (show _ < _ by have := hs; simp; omega)).trans f1
        replace f2 := (b2.cell (p := ⟨w.heap.size + 1 + 1, 1, none⟩) (show _ < _ by have := hs; simp; omega)).trans f2
        replace f3 := (b2.cell (p := ⟨w.heap.size + 1 + 1, 2, none⟩) (show _ < _ by have := hs; simp; omega)).trans f3
        replace hs := Nat.lt_of_lt_of_le hs b2.size
        replace bb := bb.trans (b2.mono bb.size)
        clear b2
        go_wp2_with fail
        rw [rounds_succ]
        go_wp2_with fail
        refine (wrong2_at _ _ true _ HH.out).mono ?_
        rintro e w3 ⟨rfl, b2⟩
        replace d0 := (b2.cell (p := ⟨w.heap.size, 0, none⟩) (show _ < _ by have := hs; simp; omega)).trans d0
        replace d1 := (b2.cell (p := ⟨w.heap.size, 1, none⟩) (show _ < _ by have := hs; simp; omega)).trans d1
        replace c0 := (b2.cell (p := ⟨w.heap.size + 1, 0, none⟩) (show _ < _ by have := hs; simp; omega)).trans c0
        replace f1 := (b2.cell (p := ⟨w.heap.size + 1 + 1, 0, none⟩) (show _ < _ by have := hs; simp; omega)).trans f1
        replace f2 := (b2.cell (p := ⟨w.heap.size + 1 + 1, 1, none⟩) (show _ < _ by have := hs; simp; omega)).trans f2
        replace f3 := (b2.cell (p := ⟨w.heap.size + 1 + 1, 2, none⟩) (show _ < _ by have := hs; simp; omega)).trans f3
        replace hs := Nat.lt_of_lt_of_le hs b2.size
        replace bb := bb.trans (b2.mono bb.size)
        clear b2
        go_wp2_with fail
        rw [rounds_succ]
        go_wp2_with fail
        refine (wrong3_at _ _ _ _ false _ c0 HI.out).mono ?_
        rintro e w4 ⟨rfl, b2⟩
        go_wp2_with fail
        go_ret
        exact ⟨rfl, bb.trans (b2.mono bb.size)⟩
      · have hv : chkI c r p = 0 := by simp [chkI, chkB, hr, hh, hi]
        rw [hv]
        clear hv
        have HR := Lib.hid hr
        clear hr
        have HH := Lib.hid hh
        clear hh
        have HI := Lib.hid hi
        clear hi
        go_enter Tryz.func72, Tryz.ntmps72
        go_wp2_with fail
        refine (wrong_any _ _).mono ?_
        rintro e w1 ⟨rfl, b1, hs, c0, f1, f2, f3⟩
        have d0 := (b1.cell (p := ⟨w.heap.size, 0, none⟩) (show _ < _ by simp)).trans (show _ = some (Value.int .i64 r) by simp)
        have d1 := (b1.cell (p := ⟨w.heap.size, 1, none⟩) (show _ < _ by simp)).trans (show _ = some (Value.int .i64 p) by simp)
        have bb : Below w.heap.size w w1 := ((Below.refl _ _).alloc (Nat.le_refl _) _).trans (b1.mono (by simp))
        clear b1
        simp only [World.size_alloc] at hs c0 f1 f2 f3
        go_wp2_with fail
        refine wp_loop_rounds 4 ?_
        rw [rounds_succ]
        go_wp2_with fail
        refine (wrong1_at _ _ _ _ true _ c0 HR.out).mono ?_
        rintro e w2 ⟨rfl, b2⟩
        replace d0 := (b2.cell (p := ⟨w.heap.size, 0, none⟩) (show _ < _ by have := hs; simp; omega)).trans d0
        replace d1 := (b2.cell (p := ⟨w.heap.size, 1, none⟩) (show _ < _ by have := hs; simp; omega)).trans d1
        replace c0 := (b2.cell (p := ⟨w.heap.size + 1, 0, none⟩) (show _ < _ by have := hs; simp; omega)).trans c0
        replace f1 := (b2.cell (p := ⟨w.heap.size + 1 + 1, 0, none⟩) (show _ < _ by have := hs; simp; omega)).trans f1
        replace f2 := (b2.cell (p := ⟨w.heap.size + 1 + 1, 1, none⟩) (show _ < _ by have := hs; simp; omega)).trans f2
        replace f3 := (b2.cell (p := ⟨w.heap.size + 1 + 1, 2, none⟩) (show _ < _ by have := hs; simp; omega)).trans f3
        replace hs := Nat.lt_of_lt_of_le hs b2.size
        replace bb := bb.trans (b2.mono bb.size)
        clear b2
        go_wp2_with fail
        rw [rounds_succ]
        go_wp2_with fail
        refine (wrong2_at _ _ true _ HH.out).mono ?_
        rintro e w3 ⟨rfl, b2⟩
        replace d0 := (b2.cell (p := ⟨w.heap.size, 0, none⟩) (show _ < _ by have := hs; simp; omega)).trans d0
        replace d1 := (b2.cell (p := ⟨w.heap.size, 1, none⟩) (show _ < _ by have := hs; simp; omega)).trans d1
        replace c0 := (b2.cell (p := ⟨w.heap.size + 1, 0, none⟩) (show _ < _ by have := hs; simp; omega)).trans c0
        replace f1 := (b2.cell (p := ⟨w.heap.size + 1 + 1, 0, none⟩) (show _ < _ by have := hs; simp; omega)).trans f1
        replace f2 := (b2.cell (p := ⟨w.heap.size + 1 + 1, 1, none⟩) (show _ < _ by have := hs; simp; omega)).trans f2
        replace f3 := (b2.cell (p := ⟨w.heap.size + 1 + 1, 2, none⟩) (show _ < _ by have := hs; simp; omega)).trans f3
        replace hs := Nat.lt_of_lt_of_le hs b2.size
        replace bb := bb.trans (b2.mono bb.size)
        clear b2
        go_wp2_with fail
        rw [rounds_succ]
        go_wp2_with fail
        refine (wrong3_at _ _ _ _ true _ c0 HI.out).mono ?_
        rintro e w4 ⟨rfl, b2⟩
        replace d0 := (b2.cell (p := ⟨w.heap.size, 0, none⟩) (show _ < _ by have := hs; simp; omega)).trans d0
        replace d1 := (b2.cell (p := ⟨w.heap.size, 1, none⟩) (show _ < _ by have := hs; simp; omega)).trans d1
        replace c0 := (b2.cell (p := ⟨w.heap.size + 1, 0, none⟩) (show _ < _ by have := hs; simp; omega)).trans c0
        replace f1 := (b2.cell (p := ⟨w.heap.size + 1 + 1, 0, none⟩) (show _ < _ by have := hs; simp; omega)).trans f1
        replace f2 := (b2.cell (p := ⟨w.heap.size + 1 + 1, 1, none⟩) (show _ < _ by have := hs; simp; omega)).trans f2
        replace f3 := (b2.cell (p := ⟨w.heap.size + 1 + 1, 2, none⟩) (show _ < _ by have := hs; simp; omega)).trans f3
        replace hs := Nat.lt_of_lt_of_le hs b2.size
        replace bb := bb.trans (b2.mono bb.size)
        clear b2
        go_wp2_with fail
        rw [rounds_succ]
        go_wp2_with fail
        go_ret
        exact ⟨rfl, bb⟩
theorem bcheck_at (c r p e : Int) (h : chkI c r p = e) (w : World) : Calls Tryz.prog 72 #[.int .i64 c, .agg #[.int .i64 r, .int .i64 p]] w fun x w' => x = .returned (.int .i64 e) ∧ Below w.heap.size w w' := h ▸ bcheck_any c r p w
end Go.Proofs.YthhpblchiodahaaGreatDoor

/- Package ballot: the owner's ballot, who may speak; the document's answers on single ballots. -/
namespace Go.Proofs.YthhpblchiodahaaGreatDoor
open Go.RowKit

set_option maxRecDepth 100000 in
set_option maxHeartbeats 400000 in
theorem bnone_any (w : World) : Calls Tryz.prog 55 #[] w fun e w' => e = .returned (.agg #[.int .i64 (-1), .int .i64 0]) ∧ Below w.heap.size w w' := by
  go_enter Tryz.func55, Tryz.ntmps55
  go_wp2
  go_returns
  exact ⟨rfl, by go_grown⟩
set_option maxRecDepth 100000 in
set_option maxHeartbeats 400000 in
theorem first_at (c s v e : Int) (h1 : ownerI c s = v) (h2 : opErr c s = e) (w : World) : Calls Tryz.prog 30 #[.int .i64 c, .int .i64 s] w fun r w' => r = .returned (.tuple #[.agg #[.int .i64 0, .int .i64 v], .int .i64 e]) ∧ Below w.heap.size w w' := by
  go_enter Tryz.func30, Tryz.ntmps30
  go_wp2_with fail
  refine (owner_at _ _ _ _ h1 h2 _).mono ?_
  rintro e w1 ⟨rfl, b1⟩
  have R := (Blk.new w 66 [.int .i64 0, .int .i64 0]).step b1
  have c0R := R.cell (j := 0) rfl
  have c1R := R.cell (j := 1) rfl
  have z0R := R.frozen 0
  have z1R := R.frozen 1
  go_wp2_with fail
  have R2 := (R.set 0 (.int .i64 0)).set 1 (.int .i64 v)
  have bb : Below w.heap.size w ((w1.setCell ⟨w.heap.size, 0, none⟩ (.int .i64 0)).setCell ⟨w.heap.size, 1, none⟩ (.int .i64 v)) :=
    ((((Below.refl _ _).alloc (Nat.le_refl _) _).trans (b1.mono (by simp))).setCell (p := ⟨w.heap.size, 0, none⟩) (Nat.le_refl _) _).setCell (p := ⟨w.heap.size, 1, none⟩) (Nat.le_refl _) _
  generalize (w1.setCell ⟨w.heap.size, 0, none⟩ (.int .i64 0)).setCell ⟨w.heap.size, 1, none⟩ (.int .i64 v) = w2 at R2 bb ⊢
  clear c0R c1R z0R z1R R
  have c0R2 := R2.cell (j := 0) rfl
  have c1R2 := R2.cell (j := 1) rfl
  have z0R2 := R2.frozen 0
  have z1R2 := R2.frozen 1
  refine bodyPost_ret (v := .tuple #[.agg #[.int .i64 0, .int .i64 v], .int .i64 e]) (by simp [results, Tryz.results30, go_sem, c0R2, c1R2]) rfl ?_
  exact ⟨rfl, bb⟩
set_option maxRecDepth 100000 in
set_option maxHeartbeats 400000 in
theorem refFirst_any (c s : Int) (w : World) (h0 : 3 ≤ c) (h1 : c ≤ 9) (h2 : 0 ≤ s) (h3 : s ≤ 4095) : Calls Tryz.prog 125 #[.int .i64 c, .int .i64 s] w fun r w' => r = .returned (.agg #[.int .i64 0, .int .i64 (s % c)]) ∧ Below w.heap.size w w' := by
  go_enter Tryz.func125, Tryz.ntmps125
  go_wp2_with fail
  go_returns
  exact ⟨rfl, by go_grown⟩
set_option maxRecDepth 100000 in
set_option maxHeartbeats 400000 in
theorem refLess_any (r p s q : Int) (w : World) : Calls Tryz.prog 87 #[.agg #[.int .i64 r, .int .i64 p], .agg #[.int .i64 s, .int .i64 q]] w fun e w' => e = .returned (.bool (lessB r p s q)) ∧ Below w.heap.size w w' := by
  go_enter Tryz.func87, Tryz.ntmps87
  go_wp2
  all_goals (go_returns; exact ⟨ret_bool (by rw [Bool.eq_iff_iff]; simp [lessB] <;> omega), by go_grown⟩)
set_option maxRecDepth 100000 in
set_option maxHeartbeats 400000 in
theorem refRight13_any (c r p : Int) (w : World) : Calls Tryz.prog 124 #[.int .i64 c, .agg #[.int .i64 r, .int .i64 p]] w fun e w' => e = .returned (.bool (chkB c r p)) ∧ Below w.heap.size w w' := by
  cases hr : rightB c
  · have hv : chkB c r p = false := by simp [chkB, hr]
    rw [hv]; clear hv
    go_enter Tryz.func124, Tryz.ntmps124
    go_wp2_with fail
    refine (refRight_at _ _ hr _).mono ?_
    rintro e w1 ⟨rfl, rfl⟩
    go_wp2_with fail
    go_returns
    exact ⟨rfl, by go_grown⟩
  · cases hh : hiB r
    · have hv : chkB c r p = false := by simp [chkB, hh]
      rw [hv]; clear hv
      have hh' : r < 0 ∨ (0 ≤ r ∧ 2147483647 < r) := by unfold hiB at hh; simp at hh; omega
      clear hh
      rcases hh' with h | ⟨h, h'⟩
      all_goals
        have HR := Lib.hid hr
        clear hr
        go_enter Tryz.func124, Tryz.ntmps124
        go_wp2_with fail
        refine (refRight_at _ _ HR.out _).mono ?_
        rintro e w1 ⟨rfl, rfl⟩
        go_wp2_with fail
        go_returns
        exact ⟨rfl, by go_grown⟩
    · obtain ⟨h, h'⟩ : 0 ≤ r ∧ r ≤ 2147483647 := by unfold hiB at hh; simpa using hh
      have hv : chkB c r p = inB p 0 c := by simp [chkB, hh, hr]
      rw [hv]; clear hv hh
      have HR := Lib.hid hr
      clear hr
      go_enter Tryz.func124, Tryz.ntmps124
      go_wp2_with fail
      refine (refRight_at _ _ HR.out _).mono ?_
      rintro e w1 ⟨rfl, rfl⟩
      go_wp2_with fail
      refine (refPlace_any _ _ _).mono ?_
      rintro e w1 ⟨rfl, rfl⟩
      go_wp2_with fail
      go_returns
      exact ⟨rfl, by go_grown⟩
theorem refLess_at (r p s q : Int) (v : Bool) (h : lessB r p s q = v) (w : World) : Calls Tryz.prog 87 #[.agg #[.int .i64 r, .int .i64 p], .agg #[.int .i64 s, .int .i64 q]] w fun e w' => e = .returned (.bool v) ∧ Below w.heap.size w w' := h ▸ refLess_any r p s q w
theorem less_cmp (r p s q : Int) : (lessB r p s q = true ∧ cmpI r p s q = -1) ∨ (lessB r p s q = false ∧ lessB s q r p = true ∧ cmpI r p s q = 1) ∨ (lessB r p s q = false ∧ lessB s q r p = false ∧ cmpI r p s q = 0) := by
  unfold lessB cmpI or2 c3
  by_cases h1 : r < s
  · simp [h1]
  · by_cases h2 : s < r
    · have : ¬ r = s := by omega
      have : ¬ s = r := by omega
      simp [*]
    · obtain rfl : r = s := by omega
      by_cases h3 : p < q
      · simp [h3]
      · by_cases h4 : q < p
        · simp [h3, h4]
        · simp [h3, h4]
def mayB (c s r p : Int) : Bool := opErr c s == 0 && (chkB c r p && (decide (0 < r) || (r == 0 && p == ownerI c s)))
theorem opErr_cases (c s : Int) : (opErr c s = 0 ∧ rightB c = true ∧ slotB s = true) ∨ (opErr c s ≠ 0 ∧ (rightB c = false ∨ slotB s = false)) := by
  unfold opErr
  cases rightB c <;> cases slotB s <;> simp
theorem chk_bd {c r p : Int} (h : chkB c r p = true) : 3 ≤ c ∧ c ≤ 9 ∧ 0 ≤ r ∧ r ≤ 2147483647 ∧ 0 ≤ p ∧ p < c := by
  unfold chkB at h
  simp only [Bool.and_eq_true] at h
  obtain ⟨h1, h2, h3⟩ := h
  have := right_bd h1
  unfold hiB at h2
  unfold inB at h3
  simp at h2 h3
  omega
set_option maxRecDepth 100000 in
set_option maxHeartbeats 1000000 in
theorem may_any (c s r p : Int) (w : World) : Calls Tryz.prog 41 #[.int .i64 c, .int .i64 s, .agg #[.int .i64 r, .int .i64 p]] w fun e w' => e = .returned (.bool (mayB c s r p)) ∧ Below w.heap.size w w' := by
  obtain ⟨o, ho⟩ : ∃ o, ownerI c s = o := ⟨_, rfl⟩
  obtain ⟨x, hx⟩ : ∃ x, opErr c s = x := ⟨_, rfl⟩
  by_cases he : x = 0
  · subst he
    cases hc : chkB c r p
    · have hv : mayB c s r p = false := by simp [mayB, hc]
      rw [hv]; clear hv
      have hk : chkI c r p = 2 := by simp [chkI, hc]
      have HC := Lib.hid hc
      clear hc
      have HK := Lib.hid hk
      clear hk
      have HO := Lib.hid ho
      clear ho
      have HX := Lib.hid hx
      clear hx
      go_enter Tryz.func41, Tryz.ntmps41
      go_wp2_with fail
      refine (first_at _ _ _ _ HO.out HX.out _).mono ?_
      rintro e w1 ⟨rfl, b1⟩
      have bb : Below w.heap.size w w1 := ((Below.refl _ _).alloc (Nat.le_refl _) _).trans (b1.mono (by simp))
      have R := (Blk.new w 66 [.int .i64 r, .int .i64 p]).step b1
      clear b1
      have c0R := R.cell (j := 0) rfl
      have c1R := R.cell (j := 1) rfl
      have z0R := R.frozen 0
      have z1R := R.frozen 1
      have k0 := keep_alloc c0R
      have k1 := keep_alloc c1R
      go_wp2_with fail
      refine (bcheck_at _ _ _ _ HK.out _).mono ?_
      rintro e w2 ⟨rfl, b2⟩
      go_wp2_with fail
      go_returns
      exact ⟨rfl, (bb.alloc bb.size _).trans (b2.mono (by simp; have := bb.size; omega))⟩
    · obtain ⟨-, -, r0, r1, p0, p1⟩ := chk_bd hc
      have hv : mayB c s r p = (decide (0 < r) || (r == 0 && p == o)) := by simp [mayB, hc, ho, hx]
      rw [hv]; clear hv
      have hk : chkI c r p = 0 := by simp [chkI, hc]
      have HC := Lib.hid hc
      clear hc
      have HK := Lib.hid hk
      clear hk
      have HO := Lib.hid ho
      clear ho
      have HX := Lib.hid hx
      clear hx
      go_enter Tryz.func41, Tryz.ntmps41
      go_wp2_with fail
      refine (first_at _ _ _ _ HO.out HX.out _).mono ?_
      rintro e w1 ⟨rfl, b1⟩
      have bb : Below w.heap.size w w1 := ((Below.refl _ _).alloc (Nat.le_refl _) _).trans (b1.mono (by simp))
      have R := (Blk.new w 66 [.int .i64 r, .int .i64 p]).step b1
      clear b1
      have c0R := R.cell (j := 0) rfl
      have c1R := R.cell (j := 1) rfl
      have z0R := R.frozen 0
      have z1R := R.frozen 1
      have k0 := keep_alloc c0R
      have k1 := keep_alloc c1R
      go_wp2_with fail
      refine (bcheck_at _ _ _ _ HK.out _).mono ?_
      rintro e w2 ⟨rfl, b2⟩
      have bb2 := (bb.alloc bb.size (.cells #[.int .i64 0, .int .i64 o] 66)).trans (b2.mono (by simp; have := bb.size; omega))
      have S := (R.alloc (.cells #[.int .i64 0, .int .i64 o] 66)).step b2
      have Q := (Blk.new w1 66 [.int .i64 0, .int .i64 o]).step b2
      clear k0 k1 c0R c1R z0R z1R R bb b2
      have c0S := S.cell (j := 0) rfl
      have c1S := S.cell (j := 1) rfl
      have z0S := S.frozen 0
      have z1S := S.frozen 1
      have c0Q := Q.cell (j := 0) rfl
      have c1Q := Q.cell (j := 1) rfl
      have z0Q := Q.frozen 0
      have z1Q := Q.frozen 1
      go_wp2_with fail
      all_goals
        go_returns
        exact ⟨ret_bool (by first | rfl | (simp; done) | (rw [Bool.eq_iff_iff]; simp <;> omega)), bb2⟩
  · have hv : mayB c s r p = false := by simp [mayB, hx, he]
    rw [hv]; clear hv
    have HO := Lib.hid ho
    clear ho
    have HX := Lib.hid hx
    clear hx
    go_enter Tryz.func41, Tryz.ntmps41
    go_wp2_with fail
    refine (first_at _ _ _ _ HO.out HX.out _).mono ?_
    rintro e w1 ⟨rfl, b1⟩
    have bb : Below w.heap.size w w1 := ((Below.refl _ _).alloc (Nat.le_refl _) _).trans (b1.mono (by simp))
    go_wp2_with fail
    go_returns
    exact ⟨rfl, bb.alloc bb.size _⟩
theorem may_at (c s r p : Int) (v : Bool) (h : mayB c s r p = v) (w : World) : Calls Tryz.prog 41 #[.int .i64 c, .int .i64 s, .agg #[.int .i64 r, .int .i64 p]] w fun e w' => e = .returned (.bool v) ∧ Below w.heap.size w w' := h ▸ may_any c s r p w

/-! The document's May. -/
def refMayB (c s r p : Int) : Bool := rightB c && (slotB s && (chkB c r p && (decide (0 < r) || (r == 0 && p == s % c))))
theorem may_ref (c s r p : Int) : mayB c s r p = refMayB c s r p := by
  unfold mayB refMayB opErr ownerI ofI
  cases rightB c <;> cases slotB s <;> simp
end Go.Proofs.YthhpblchiodahaaGreatDoor

/- As BaL, without the ballots' votes. -/
namespace Go.Proofs.YthhpblchiodahaaGreatDoor
open Go.RowKit

/-- W' is W with new blocks. -/
def Ext (W W' : World) : Prop := Below W.heap.size W W'
theorem Ext.call {W W' W'' : World} (h : Ext W W') (hb : Below W'.heap.size W' W'') : Ext W W'' := Below.trans h (hb.mono h.size)
theorem ext_cell {W : World} {b o : Nat} {v : Value} (h : W.cell? ⟨b, o, none⟩ = some v) (W' : World) (hx : Ext W W') : W'.cell? ⟨b, o, none⟩ = some v := cells_kept hx h
theorem wp_region_ext {P : Program} {id : Nat} {Q : Exit → Act → World → Prop} {a : Act} {w : World} {l : List Oper} (hm : P.follows .mixedOrders = true) (hB : Region.lexB .any l.toArray = true)
    (h : wpQuiet P l.toArray (Ext w) (fun a' => ∀ w', Ext w w' → Q .normal a' w') l a) : (Code.region id l.toArray true).wp P Q a w :=
  wp_region_quiet (C := Ext w) hm hB ⟨rfl, rfl, rfl, Nat.le_refl _, fun _ _ => rfl⟩ (by simpa using h)
theorem refRight13_at (c r p : Int) (v : Bool) (hv : chkB c r p = v) (w : World) : Calls Tryz.prog 124 #[.int .i64 c, .agg #[.int .i64 r, .int .i64 p]] w fun e w' => e = .returned (.bool v) ∧ Below w.heap.size w w' := hv ▸ refRight13_any c r p w
set_option maxRecDepth 100000 in
set_option maxHeartbeats 2000000 in
theorem refMay_any (c s r p : Int) (w : World) : Calls Tryz.prog 85 #[.int .i64 c, .int .i64 s, .agg #[.int .i64 r, .int .i64 p]] w fun e w' => e = .returned (.bool (mayB c s r p)) ∧ Below w.heap.size w w' := by
  rw [may_ref]
  cases hr : rightB c
  · have hv : refMayB c s r p = false := by simp [refMayB, hr]
    rw [hv]; clear hv
    have HR := Lib.hid hr
    clear hr
    go_enter Tryz.func85, Tryz.ntmps85
    go_wp2
    have c0 := ext_cell ((Blk.new w 66 [.int .i64 r, .int .i64 p]).cell (j := 0) rfl)
    have c1 := ext_cell ((Blk.new w 66 [.int .i64 r, .int .i64 p]).cell (j := 1) rfl)
    refine wp_region_ext (by kernel_rfl) (by kernel_rfl) ?_
    repeat
      (first
        | go_big_quiet_skip
        | (go_big_quiet_want
           go_big_quiet_op
           first
             | go_big_quiet_on
             | (apply Exists.intro
                refine ⟨fun w' hC => ?_, ?_⟩
                · (first
                    | with_reducible rfl
                    | (go_at_call 38; refine (refRight_at _ _ HR.out _).mono ?_; rintro e w' ⟨rfl, rfl⟩; exact ⟨rfl, hC⟩)
                    | (go_simp; done)
                    | (go_simp; with_reducible rfl))
                go_big_quiet_on)))
    refine wpQuiet_nil ?_
    intro wq hq
    clear c0 c1
    go_wp2
    go_returns
    exact ⟨rfl, ((Below.refl _ _).alloc (Nat.le_refl _) _).trans (Below.mono hq (by simp))⟩
  · cases hs : slotB s
    · have hv : refMayB c s r p = false := by simp [refMayB, hs]
      rw [hv]; clear hv
      have HR := Lib.hid hr
      clear hr
      have HS := Lib.hid hs
      clear hs
      go_enter Tryz.func85, Tryz.ntmps85
      go_wp2
      have c0 := ext_cell ((Blk.new w 66 [.int .i64 r, .int .i64 p]).cell (j := 0) rfl)
      have c1 := ext_cell ((Blk.new w 66 [.int .i64 r, .int .i64 p]).cell (j := 1) rfl)
      refine wp_region_ext (by kernel_rfl) (by kernel_rfl) ?_
      repeat
        (first
          | go_big_quiet_skip
          | (go_big_quiet_want
             go_big_quiet_op
             first
               | go_big_quiet_on
               | (apply Exists.intro
                  refine ⟨fun w' hC => ?_, ?_⟩
                  · (first
                      | with_reducible rfl
                      | (go_at_call 38; refine (refRight_at _ _ HR.out _).mono ?_; rintro e w' ⟨rfl, rfl⟩; exact ⟨rfl, hC⟩) | (go_at_call 39; refine (refSlot_at _ _ HS.out _).mono ?_; rintro e w' ⟨rfl, rfl⟩; exact ⟨rfl, hC⟩)
                      | (go_simp; done)
                      | (go_simp; with_reducible rfl))
                  go_big_quiet_on)))
      refine wpQuiet_nil ?_
      intro wq hq
      clear c0 c1
      go_wp2
      go_returns
      exact ⟨rfl, ((Below.refl _ _).alloc (Nat.le_refl _) _).trans (Below.mono hq (by simp))⟩
    · cases hc : chkB c r p
      · have hv : refMayB c s r p = false := by simp [refMayB, hc]
        rw [hv]; clear hv
        have HR := Lib.hid hr
        clear hr
        have HS := Lib.hid hs
        clear hs
        have HC := Lib.hid hc
        clear hc
        go_enter Tryz.func85, Tryz.ntmps85
        go_wp2
        have c0 := ext_cell ((Blk.new w 66 [.int .i64 r, .int .i64 p]).cell (j := 0) rfl)
        have c1 := ext_cell ((Blk.new w 66 [.int .i64 r, .int .i64 p]).cell (j := 1) rfl)
        refine wp_region_ext (by kernel_rfl) (by kernel_rfl) ?_
        repeat
          (first
            | go_big_quiet_skip
            | (go_big_quiet_want
               go_big_quiet_op
               first
                 | go_big_quiet_on
                 | (apply Exists.intro
                    refine ⟨fun w' hC => ?_, ?_⟩
                    · (first
                        | with_reducible rfl
                        | (go_at_call 38; refine (refRight_at _ _ HR.out _).mono ?_; rintro e w' ⟨rfl, rfl⟩; exact ⟨rfl, hC⟩) | (go_at_call 39; refine (refSlot_at _ _ HS.out _).mono ?_; rintro e w' ⟨rfl, rfl⟩; exact ⟨rfl, hC⟩) | (go_at_call 124; refine (refRight13_at _ _ _ _ HC.out _).mono ?_; rintro e w2 ⟨rfl, hb⟩; exact ⟨rfl, hC.call hb⟩)
                        | (go_simp; done)
                        | (go_simp; with_reducible rfl))
                    go_big_quiet_on)))
        refine wpQuiet_nil ?_
        intro wq hq
        clear c0 c1
        go_wp2
        go_returns
        exact ⟨rfl, ((Below.refl _ _).alloc (Nat.le_refl _) _).trans (Below.mono hq (by simp))⟩
      · have hv : refMayB c s r p = (decide (0 < r) || (r == 0 && p == s % c)) := by simp [refMayB, hr, hs, hc]
        rw [hv]; clear hv
        obtain ⟨h0, h1, h2, h3, h4, h5⟩ := chk_bd hc
        obtain ⟨s0, s1⟩ := slot_bd hs
        have HR := Lib.hid hr
        clear hr
        have HS := Lib.hid hs
        clear hs
        have HC := Lib.hid hc
        clear hc
        cases hd : decide (0 < r)
        · have hr0 : r = 0 := by have := of_decide_eq_false hd; omega
          subst hr0
          clear hd h2 h3 h4 h5
          by_cases hps : p = s % c
          · subst hps
            have hx : (false || ((0 : Int) == 0 && s % c == s % c)) = true := by simp
            rw [hx]
            clear hx
            go_enter Tryz.func85, Tryz.ntmps85
            go_wp2
            have c0 := ext_cell ((Blk.new w 66 [.int .i64 0, .int .i64 (s % c)]).cell (j := 0) rfl)
            have c1 := ext_cell ((Blk.new w 66 [.int .i64 0, .int .i64 (s % c)]).cell (j := 1) rfl)
            refine wp_region_ext (by kernel_rfl) (by kernel_rfl) ?_
            repeat
              (first
                | go_big_quiet_skip
                | (go_big_quiet_want
                   go_big_quiet_op
                   first
                     | go_big_quiet_on
                     | (apply Exists.intro
                        refine ⟨fun w' hC => ?_, ?_⟩
                        · (first
                            | with_reducible rfl
                            | (go_at_call 38; refine (refRight_at _ _ HR.out _).mono ?_; rintro e w' ⟨rfl, rfl⟩; exact ⟨rfl, hC⟩) | (go_at_call 39; refine (refSlot_at _ _ HS.out _).mono ?_; rintro e w' ⟨rfl, rfl⟩; exact ⟨rfl, hC⟩) | (go_at_call 124; refine (refRight13_at _ _ _ _ HC.out _).mono ?_; rintro e w2 ⟨rfl, hb⟩; exact ⟨rfl, hC.call hb⟩) | (go_at_call 125; refine (refFirst_any _ _ _ h0 h1 s0 s1).mono ?_; rintro e w2 ⟨rfl, hb⟩; exact ⟨rfl, hC.call hb⟩)
                            | (go_simp; done)
                            | (go_simp; with_reducible rfl))
                        go_big_quiet_on)))
            refine wpQuiet_nil ?_
            intro wq hq
            clear c0 c1
            go_wp2
            go_returns
            exact ⟨rfl, ((Below.refl _ _).alloc (Nat.le_refl _) _).trans (Below.mono hq (by simp))⟩
          · have hx : (false || ((0 : Int) == 0 && p == s % c)) = false := by simp [hps]
            rw [hx]
            clear hx
            go_enter Tryz.func85, Tryz.ntmps85
            go_wp2
            have c0 := ext_cell ((Blk.new w 66 [.int .i64 0, .int .i64 p]).cell (j := 0) rfl)
            have c1 := ext_cell ((Blk.new w 66 [.int .i64 0, .int .i64 p]).cell (j := 1) rfl)
            refine wp_region_ext (by kernel_rfl) (by kernel_rfl) ?_
            repeat
              (first
                | go_big_quiet_skip
                | (go_big_quiet_want
                   go_big_quiet_op
                   first
                     | go_big_quiet_on
                     | (apply Exists.intro
                        refine ⟨fun w' hC => ?_, ?_⟩
                        · (first
                            | with_reducible rfl
                            | (go_at_call 38; refine (refRight_at _ _ HR.out _).mono ?_; rintro e w' ⟨rfl, rfl⟩; exact ⟨rfl, hC⟩) | (go_at_call 39; refine (refSlot_at _ _ HS.out _).mono ?_; rintro e w' ⟨rfl, rfl⟩; exact ⟨rfl, hC⟩) | (go_at_call 124; refine (refRight13_at _ _ _ _ HC.out _).mono ?_; rintro e w2 ⟨rfl, hb⟩; exact ⟨rfl, hC.call hb⟩) | (go_at_call 125; refine (refFirst_any _ _ _ h0 h1 s0 s1).mono ?_; rintro e w2 ⟨rfl, hb⟩; exact ⟨rfl, hC.call hb⟩)
                            | (go_simp; done)
                            | (go_simp; with_reducible rfl))
                        go_big_quiet_on)))
            refine wpQuiet_nil ?_
            intro wq hq
            clear c0 c1
            go_wp2
            go_returns
            exact ⟨rfl, ((Below.refl _ _).alloc (Nat.le_refl _) _).trans (Below.mono hq (by simp))⟩
        · clear h2 h3 h4 h5
          go_enter Tryz.func85, Tryz.ntmps85
          go_wp2
          have c0 := ext_cell ((Blk.new w 66 [.int .i64 r, .int .i64 p]).cell (j := 0) rfl)
          have c1 := ext_cell ((Blk.new w 66 [.int .i64 r, .int .i64 p]).cell (j := 1) rfl)
          refine wp_region_ext (by kernel_rfl) (by kernel_rfl) ?_
          repeat
            (first
              | go_big_quiet_skip
              | (go_big_quiet_want
                 go_big_quiet_op
                 first
                   | go_big_quiet_on
                   | (apply Exists.intro
                      refine ⟨fun w' hC => ?_, ?_⟩
                      · (first
                          | with_reducible rfl
                          | (go_at_call 38; refine (refRight_at _ _ HR.out _).mono ?_; rintro e w' ⟨rfl, rfl⟩; exact ⟨rfl, hC⟩) | (go_at_call 39; refine (refSlot_at _ _ HS.out _).mono ?_; rintro e w' ⟨rfl, rfl⟩; exact ⟨rfl, hC⟩) | (go_at_call 124; refine (refRight13_at _ _ _ _ HC.out _).mono ?_; rintro e w2 ⟨rfl, hb⟩; exact ⟨rfl, hC.call hb⟩)
                          | (go_simp; done)
                          | (go_simp; with_reducible rfl))
                      go_big_quiet_on)))
          refine wpQuiet_nil ?_
          intro wq hq
          clear c0 c1
          go_wp2
          go_returns
          exact ⟨rfl, ((Below.refl _ _).alloc (Nat.le_refl _) _).trans (Below.mono hq (by simp))⟩
end Go.Proofs.YthhpblchiodahaaGreatDoor

/- Package acceptor: what an acceptor is; none, nothing, Promised, Accepted, above. -/
namespace Go.Proofs.YthhpblchiodahaaGreatDoor
open Go.RowKit
/-- What was promised (r, p), accepted (by ar, ap: k, m, n, s), the choir and the slot. -/
structure Acc where (r p ar ap k m n : Int) (s : ByteArray) (c sl : Int)
def accL (A : Acc) : List Value := [.int .i64 A.r, .int .i64 A.p, .int .i64 A.ar, .int .i64 A.ap, .int .i64 A.k, .int .i64 A.m, .int .i64 A.n, .string A.s, .int .i64 A.c, .int .i64 A.sl]
def AW (W : World) (g : Nat) (A : Acc) : Prop := Blk W g 106 (accL A)
theorem AW.step {W w1 : World} {g : Nat} {A : Acc} (h : AW W g A) (hb : Below W.heap.size W w1) : AW w1 g A := Blk.step h hb
def acV (ar ap k m n : Int) (s : ByteArray) : Value := .agg #[.int .i64 ar, .int .i64 ap, .int .i64 k, .int .i64 m, .int .i64 n, .string s]
theorem Blk.newV {W : World} {g : Nat} (hg : W.heap.size = g) (t : TypeId) (cs : Array Value) : Blk (W.alloc (.cells cs t)) g t cs.toList := hg ▸ World.alloc_heap_new W _
/-- If nothing was accepted, nothing lies there. -/
def GoodA (A : Acc) : Prop := A.ar = -1 → A.ap = 0 ∧ A.k = 0 ∧ A.m = 0 ∧ A.n = 0 ∧ A.s = ⟨#[]⟩
def accX (A : Acc) : Value := if A.ar = -1 then acV 0 0 0 0 0 ⟨#[]⟩ else acV A.ar A.ap A.k A.m A.n A.s
def accH (A : Acc) : Bool := !(A.ar == -1)
theorem wp_region_extB {P : Program} {id : Nat} {Q : Exit → Act → World → Prop} {a : Act} {w : World} {l : List Oper} (hm : P.follows .mixedOrders = true) (hB : Region.lexB .any l.toArray = true)
    (h : wpQuiet P l.toArray (ExtA w) (fun a' => ∀ w', ExtA w w' → Q .normal a' w') l a) : (Code.region id l.toArray true).wp P Q a w :=
  wp_region_quiet (C := ExtA w) hm hB ⟨rfl, rfl, rfl, Nat.le_refl _, fun _ _ => rfl⟩ (by simpa using h)
theorem extA_then {W W' W'' : World} (h : ExtA W W') (hb : Below W'.heap.size W' W'') : ExtA W W'' := Below.trans h (hb.mono h.size)
theorem r_cell1 {fn : Func} {p : Tmp} {ty : TypeId} (h : fn.results = #[.cell p ty]) (tmps : Array Value) (P : Program) (w : World) :
    (results fn tmps).run P w = ((asAddr (tmps.getD p undef)).run P w).andThen fun a w₁ => (loadVar ty a).run P w₁ := by
  simp only [results, h]
  simp [Sem.run_bind, Result.andThen]
theorem r_cell1t {fn : Func} {p u : Tmp} {ty : TypeId} (h : fn.results = #[.cell p ty, .tmp u]) (tmps : Array Value) (P : Program) (w : World) :
    (results fn tmps).run P w = ((asAddr (tmps.getD p undef)).run P w).andThen fun a w₁ => ((loadVar ty a).run P w₁).andThen fun v w₂ => .ok (.tuple #[v, tmps.getD u undef]) w₂ := by
  simp only [results, h]
  simp [Sem.run_bind, Result.andThen]
theorem r_cell1tt {fn : Func} {p u u2 : Tmp} {ty : TypeId} (h : fn.results = #[.cell p ty, .tmp u, .tmp u2]) (tmps : Array Value) (P : Program) (w : World) :
    (results fn tmps).run P w =
      ((asAddr (tmps.getD p undef)).run P w).andThen fun a w₁ => ((loadVar ty a).run P w₁).andThen fun v w₂ => .ok (.tuple #[v, tmps.getD u undef, tmps.getD u2 undef]) w₂ := by
  simp only [results, h]
  simp [Sem.run_bind, Result.andThen]
theorem r_cell2tt {fn : Func} {p p2 u u2 : Tmp} {ty ty2 : TypeId} (h : fn.results = #[.cell p ty, .cell p2 ty2, .tmp u, .tmp u2]) (tmps : Array Value) (P : Program) (w : World) :
    (results fn tmps).run P w =
      ((asAddr (tmps.getD p undef)).run P w).andThen fun a w₁ => ((loadVar ty a).run P w₁).andThen fun v w₂ => ((asAddr (tmps.getD p2 undef)).run P w₂).andThen fun a2 w₃ => ((loadVar ty2 a2).run P w₃).andThen fun v2 w₄ => .ok (.tuple #[v, v2, tmps.getD u undef, tmps.getD u2 undef]) w₄ := by
  simp only [results, h]
  simp [Sem.run_bind, Result.andThen]
theorem below2 {B b : Nat} {w W : World} (hb : Below B w W) (hh : B ≤ b) (x y : Value) : Below B w ((W.setCell ⟨b, 0, none⟩ x).setCell ⟨b, 1, none⟩ y) := (hb.setCell (p := ⟨b, 0, none⟩) hh x).setCell (p := ⟨b, 1, none⟩) hh y
theorem below6 {B b : Nat} {w W : World} (hb : Below B w W) (hh : B ≤ b) (x y z u v t : Value) : Below B w ((((((W.setCell ⟨b, 0, none⟩ x).setCell ⟨b, 1, none⟩ y).setCell ⟨b, 2, none⟩ z).setCell ⟨b, 3, none⟩ u).setCell ⟨b, 4, none⟩ v).setCell ⟨b, 5, none⟩ t) :=
  ((((below2 hb hh x y).setCell (p := ⟨b, 2, none⟩) hh z).setCell (p := ⟨b, 3, none⟩) hh u).setCell (p := ⟨b, 4, none⟩) hh v).setCell (p := ⟨b, 5, none⟩) hh t
theorem below10 {B b : Nat} {w W : World} (hb : Below B w W) (hh : B ≤ b) (x y z u v t x2 y2 z2 u2 : Value) : Below B w ((((((((((W.setCell ⟨b, 0, none⟩ x).setCell ⟨b, 1, none⟩ y).setCell ⟨b, 2, none⟩ z).setCell ⟨b, 3, none⟩ u).setCell ⟨b, 4, none⟩ v).setCell ⟨b, 5, none⟩ t).setCell ⟨b, 6, none⟩ x2).setCell ⟨b, 7, none⟩ y2).setCell ⟨b, 8, none⟩ z2).setCell ⟨b, 9, none⟩ u2) :=
  ((((below6 hb hh x y z u v t).setCell (p := ⟨b, 6, none⟩) hh x2).setCell (p := ⟨b, 7, none⟩) hh y2).setCell (p := ⟨b, 8, none⟩) hh z2).setCell (p := ⟨b, 9, none⟩) hh u2
set_option maxRecDepth 100000 in
set_option maxHeartbeats 400000 in
theorem none14_at (g : Nat) (c : Int) (b : Bool) (w : World) (hb : (c == 0) = b) (hc : w.cell? ⟨g, 8, none⟩ = some (.int .i64 c)) : Calls Tryz.prog 104 #[.pointer (some ⟨g, 0, none⟩)] w fun e w' => e = .returned (.bool b) ∧ w = w' := by
  by_cases h : c = 0
  · subst h
    obtain rfl : true = b := hb
    go_enter Tryz.func104, Tryz.ntmps104
    go_wp2
    go_ret
    exact ⟨rfl, rfl⟩
  · obtain rfl : b = false := by rw [← hb]; simp [h]
    go_enter Tryz.func104, Tryz.ntmps104
    go_wp2
    go_ret
    exact ⟨by simp, rfl⟩
set_option maxRecDepth 100000 in
set_option maxHeartbeats 400000 in
theorem none14_nil (w : World) : Calls Tryz.prog 104 #[.pointer none] w fun e w' => e = .returned (.bool true) ∧ w = w' := by
  go_enter Tryz.func104, Tryz.ntmps104
  go_wp2
  go_ret
  exact ⟨rfl, rfl⟩
set_option maxRecDepth 100000 in
set_option maxHeartbeats 400000 in
theorem nothing_any (w : World) : Calls Tryz.prog 31 #[] w fun e w' => e = .returned (.agg #[.int .i64 (-1), .int .i64 0, .int .i64 0, .int .i64 0, .int .i64 0, .string ⟨#[]⟩]) ∧ Below w.heap.size w w' := by
  go_enter Tryz.func31, Tryz.ntmps31
  go_upto_region 1 with fail
  obtain ⟨B, hB⟩ : ∃ B, w.heap.size = B := ⟨_, rfl⟩
  have X := Blk.newV (W := w) hB 93 #[.int .i64 0, .int .i64 0, .int .i64 0, .int .i64 0, .int .i64 0, .string ⟨#[]⟩]
  have hb := (Below.refl w.heap.size w).alloc (Nat.le_refl _) (.cells #[.int .i64 0, .int .i64 0, .int .i64 0, .int .i64 0, .int .i64 0, .string ⟨#[]⟩] 93)
  generalize w.alloc (.cells #[.int .i64 0, .int .i64 0, .int .i64 0, .int .i64 0, .int .i64 0, .string ⟨#[]⟩] 93) = W at *
  go_wp2_with fail
  refine (bnone_any _).mono ?_
  rintro e w2 ⟨rfl, hb2⟩
  have X2 := X.step hb2
  have hb3 := hb.trans (hb2.mono hb.size)
  have xc0 := X2.cell (j := 0) rfl
  have xc1 := X2.cell (j := 1) rfl
  have xc2 := X2.cell (j := 2) rfl
  have xc3 := X2.cell (j := 3) rfl
  have xc4 := X2.cell (j := 4) rfl
  have xc5 := X2.cell (j := 5) rfl
  have xf0 := X2.frozen 0
  have xf1 := X2.frozen 1
  have xf2 := X2.frozen 2
  have xf3 := X2.frozen 3
  have xf4 := X2.frozen 4
  have xf5 := X2.frozen 5
  go_wp2
  rw [hB] at hb3
  (try simp only [Exit.inBlock, Exit.then])
  refine bodyPost_ret (v := .agg #[.int .i64 (-1), .int .i64 0, .int .i64 0, .int .i64 0, .int .i64 0, .string ⟨#[]⟩]) ?_ rfl ⟨rfl, ?_⟩
  · rw [r_cell1 rfl]
    go_simp
  · (try rw [hB])
    exact below6 hb3 (Nat.le_refl _) _ _ _ _ _ _
set_option maxRecDepth 100000 in
set_option maxHeartbeats 400000 in
theorem promised_at (g : Nat) (A : Acc) (w : World) (h : AW w g A) (hc : A.c ≠ 0) : Calls Tryz.prog 65 #[.pointer (some ⟨g, 0, none⟩)] w fun e w' => e = .returned (.agg #[.int .i64 A.r, .int .i64 A.p]) ∧ Below w.heap.size w w' := by
  obtain ⟨r, p, ar, ap, k, m, n, s, c, sl⟩ := A
  simp only at hc
  have hlt := h.lt
  go_enter Tryz.func65, Tryz.ntmps65
  go_upto_region 1 with fail
  obtain ⟨B, hB⟩ : ∃ B, w.heap.size = B := ⟨_, rfl⟩
  have X := Blk.newV (W := w) hB 66 #[.int .i64 0, .int .i64 0]
  have hb := (Below.refl w.heap.size w).alloc (Nat.le_refl _) (.cells #[.int .i64 0, .int .i64 0] 66)
  have h1 := h.alloc (.cells #[.int .i64 0, .int .i64 0] 66)
  generalize w.alloc (.cells #[.int .i64 0, .int .i64 0] 66) = W at *
  have xc0 := X.cell (j := 0) rfl
  have xc1 := X.cell (j := 1) rfl
  have xf0 := X.frozen 0
  have xf1 := X.frozen 1
  have ac0 := h1.cell (j := 0) rfl
  have ac1 := h1.cell (j := 1) rfl
  have ac2 := h1.cell (j := 2) rfl
  have ac3 := h1.cell (j := 3) rfl
  have ac4 := h1.cell (j := 4) rfl
  have ac5 := h1.cell (j := 5) rfl
  have ac6 := h1.cell (j := 6) rfl
  have ac7 := h1.cell (j := 7) rfl
  have ac8 := h1.cell (j := 8) rfl
  have ac9 := h1.cell (j := 9) rfl
  go_wp2_with fail
  refine (none14_at g c false _ (by simp [hc]) ac8).mono ?_
  rintro e w2 ⟨rfl, rfl⟩
  go_wp2
  rw [hB] at hb
  (try simp only [Exit.inBlock, Exit.then])
  refine bodyPost_ret (v := .agg #[.int .i64 r, .int .i64 p]) ?_ rfl ⟨rfl, ?_⟩
  · rw [r_cell1 rfl]
    go_simp
  · (try rw [hB])
    exact below2 hb (Nat.le_refl _) _ _
end Go.Proofs.YthhpblchiodahaaGreatDoor

/- A block loaded or stored whole, in one step. -/
namespace Go.Proofs.YthhpblchiodahaaGreatDoor
open Go.RowKit
theorem run_storeAt_row {P : Program} (w : World) (g : Nat) (t ty : TypeId) (old cells : Array Value) (hg : w.heap[g]? = some (.cells old t (0, 0))) (hi : (P.info? ty).map (·.size) = some cells.size)
    (ho : old.size = cells.size) (h1 : cells.all (·.oneCell') = true) : (Instr.storeAt ty (.pointer (some ⟨g, 0, none⟩)) (.agg cells)).run P w = .ok () (w.setRow g cells) := by
  simp only [Instr.storeAt, Instr.sureAddr, Sem.run_bind, Sem.run_pure, Result.andThen_ok, run_storeVar_row w g t ty old cells hg hi ho h1]
theorem run_loadAt_row {P : Program} (w : World) (g : Nat) (t ty : TypeId) (cs : Array Value) (d : TypeDesc) (hg : w.heap[g]? = some (.cells cs t (0, 0)))
    (hu : P.underlying ty = some d) (hd : (match d with | .struct _ | .array _ _ => true | _ => false) = true) (hi : (P.info? ty).map (·.size) = some cs.size) :
    (Instr.loadAt ty (.pointer (some ⟨g, 0, none⟩))).run P w = .ok (.agg cs) w := by
  simp only [Instr.loadAt, Instr.sureAddr, Sem.run_bind, Sem.run_pure, Result.andThen_ok, run_loadVar_row w g t ty cs (0, 0) d hg hu hd hi]
/-- A block stored whole. -/
theorem Blk.row {W : World} {g : Nat} {t : TypeId} {cs : List Value} (h : Blk W g t cs) (new : List Value) : Blk (W.setRow g new.toArray) g t new := setRow_heap W g _ _ t (0, 0) h
theorem kx_row (W : World) (g : Nat) (cs : Array Value) : Kx [g] W (W.setRow g cs) :=
  ⟨rfl, rfl, rfl, by simp, fun k _ hw => setRow_other W g k cs (by simpa using hw)⟩
/-- An operation of a plain region that yields a value and leaves the world. -/
theorem wpList_pure {P : Program} {ops : Array Oper} {rest : List Oper} {o : Oper} {a : Act} {w : World} {Q : Exit → Act → World → Prop} {v : Value} (hgd : o.guard = none) (hrun : (execOp a.eval o).run P w = .ok (.value v) w)
    (h : wpList P ops Q rest (a.put o.dst v) w) : wpList P ops Q (o :: rest) a w :=
  wpList_plain hgd fun K hK => by
    unfold Oper.wp
    simp only [hrun]
    exact hK _ _ h
/-- A result that lies in a cell block known whole. -/
theorem res_cell1 {fn : Func} {p : Tmp} {ty : TypeId} {tmps : Array Value} {P : Program} {w : World} {g : Nat} {cs : Array Value} (h : fn.results = #[.cell p ty]) (hp : tmps.getD p undef = .pointer (some ⟨g, 0, none⟩))
    (hl : (loadVar ty ⟨g, 0, none⟩).run P w = .ok (.agg cs) w) : (results fn tmps).run P w = .ok (.agg cs) w := by
  rw [r_cell1 h, hp]
  simp only [asAddr, Sem.run_pure, Result.andThen_ok]
  exact hl
theorem res_cell1t {fn : Func} {p u : Tmp} {ty : TypeId} {tmps : Array Value} {P : Program} {w : World} {g : Nat} {cs : Array Value} {v : Value} (h : fn.results = #[.cell p ty, .tmp u]) (hp : tmps.getD p undef = .pointer (some ⟨g, 0, none⟩)) (hv : tmps.getD u undef = v)
    (hl : (loadVar ty ⟨g, 0, none⟩).run P w = .ok (.agg cs) w) : (results fn tmps).run P w = .ok (.tuple #[.agg cs, v]) w := by
  rw [r_cell1t h, hp, hv]
  simp only [asAddr, Sem.run_pure, Result.andThen_ok, hl]
end Go.Proofs.YthhpblchiodahaaGreatDoor

/- A block loaded or stored whole in a region that draws its order. -/
namespace Go.Proofs.YthhpblchiodahaaGreatDoor
open Go.RowKit
theorem run_exec_load_row {P : Program} {o : Oper} {a : Act} {w : World} (ty : TypeId) (x : Operand) (ho : o.op = .load ty x) (g : Nat) (hx : a.eval x = .pointer (some ⟨g, 0, none⟩)) (t : TypeId) (cs : Array Value) (d : TypeDesc)
    (hg : w.heap[g]? = some (.cells cs t (0, 0))) (hu : P.underlying ty = some d) (hd : (match d with | .struct _ | .array _ _ => true | _ => false) = true) (hi : (P.info? ty).map (·.size) = some cs.size) :
    (execOp a.eval o).run P w = .ok (.value (.agg cs)) w := by
  unfold execOp
  simp only [ho, hx, Instr.loadAt, Instr.sureAddr, Sem.run_bind, Sem.run_pure, Result.andThen_ok, run_loadVar_row w g t ty cs (0, 0) d hg hu hd hi]
theorem yields_load_row {P : Program} {ops : Array Oper} {S : World → Prop} {o : Oper} {a : Act} (hw : Region.wanted o (yielded ops a.tmps) = true) (ty : TypeId) (x : Operand) (ho : o.op = .load ty x) (g : Nat) (hx : a.eval x = .pointer (some ⟨g, 0, none⟩)) (t : TypeId) (cs : Array Value) (d : TypeDesc)
    (hS : ∀ w, S w → w.heap[g]? = some (.cells cs t (0, 0))) (hu : P.underlying ty = some d) (hd : (match d with | .struct _ | .array _ _ => true | _ => false) = true) (hi : (P.info? ty).map (·.size) = some cs.size) :
    YieldsIf P ops S o (.agg cs) a :=
  .inl ⟨hw, fun w h => run_exec_load_row ty x ho g hx t cs d (hS w h) hu hd hi⟩
theorem quiet_load_row {P : Program} {C : World → Prop} {K : Act → Prop} {o : Oper} {a : Act} (ty : TypeId) (x : Operand) (ho : o.op = .load ty x) (g : Nat) (hx : a.eval x = .pointer (some ⟨g, 0, none⟩)) (t : TypeId) (cs : Array Value) (d : TypeDesc)
    (hS : ∀ w, C w → w.heap[g]? = some (.cells cs t (0, 0))) (hu : P.underlying ty = some d) (hd : (match d with | .struct _ | .array _ _ => true | _ => false) = true) (hi : (P.info? ty).map (·.size) = some cs.size)
    (hk : K (a.put o.dst (.agg cs))) : o.quiet P a C K :=
  ⟨_, fun w h => by unfold Oper.quietAt; rw [run_exec_load_row ty x ho g hx t cs d (hS w h) hu hd hi]; exact ⟨rfl, rfl⟩, hk⟩
theorem step_store_row {P : Program} {w : World} {ops : Array Oper} {o : Oper} {a : Act} {K : Act → World → Prop} {Q : Exit → Act → World → Prop} {E : Prop} (hgd : o.guard = none) (ty : TypeId) (x y : Operand) (ho : o.op = .store ty x y) (hd : o.dst = none)
    (g : Nat) (cells : Array Value) (hx : a.eval x = .pointer (some ⟨g, 0, none⟩)) (hy : a.eval y = .agg cells) (t : TypeId) (old : Array Value) (hg : w.heap[g]? = some (.cells old t (0, 0))) (hi : (P.info? ty).map (·.size) = some cells.size)
    (hold : old.size = cells.size) (h1 : cells.all (·.oneCell') = true) (h : K a (w.setRow g cells)) :
    if Region.wanted o (yielded ops a.tmps) = true then Oper.wp P o a w K Q else E := by
  have hw : Region.wanted o (yielded ops a.tmps) = true := by simp [Region.wanted, hgd]
  rw [if_pos hw]
  exact wp_store_row ty x y ho g cells hx hy t old hg hi hold h1 (by rw [hd]; exact h)
end Go.Proofs.YthhpblchiodahaaGreatDoor
