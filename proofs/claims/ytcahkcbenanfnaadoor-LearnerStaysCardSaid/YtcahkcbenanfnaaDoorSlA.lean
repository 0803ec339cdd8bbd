
/- The small functions of package slots: what each returns. -/
import Derived.Test.YtcahkcbenanfnaaDoorRows
import Derived.WalkKit
import Derived.WalkSpells
import Derived.WalkLawsBesides
import Derived.Lib.Hide
namespace Go.Proofs.YtcahkcbenanfnaaDoor
set_option linter.unusedSimpArgs false
set_option linter.unusedVariables false
open Go.RowKit

theorem ret_bool {a b : Bool} (h : a = b) : Ending.returned (.bool a) = .returned (.bool b) := by rw [h]
theorem ret_int {k : IntKind} {a b : Int} (h : a = b) : Ending.returned (.int k a) = .returned (.int k b) := by rw [h]
theorem ret_ii {k l : IntKind} {a b c d : Int} (h : a = b) (h' : c = d) : Ending.returned (.tuple #[.int k a, .int l c]) = .returned (.tuple #[.int k b, .int l d]) := by rw [h, h']
theorem bcell {B : Nat} {W w1 : World} (hb : Below B W w1) : (∀ b o, b < B → w1.cell? ⟨b, o, none⟩ = W.cell? ⟨b, o, none⟩) ∧ (∀ b o, b < B → w1.frozen? ⟨b, o, none⟩ = W.frozen? ⟨b, o, none⟩) :=
  ⟨fun b o h => hb.cell (p := ⟨b, o, none⟩) h, fun b o h => hb.frozen (p := ⟨b, o, none⟩) h⟩

def rightB (c : Int) : Bool := c == 3 || c == 5 || c == 7 || c == 9
def inB (n a b : Int) : Bool := decide (a ≤ n) && decide (n < b)

set_option maxHeartbeats 400000 in
theorem in_int (n a b : Int) (w : World) :
    Calls Tryd.prog 69 #[.int .i64 n, .int .i64 a, .int .i64 b] w fun e w' => e = .returned (.bool (inB n a b)) ∧ w = w' := by
  go_enter Tryd.func69, Tryd.ntmps69
  go_wp2
  all_goals (go_ret; exact ⟨ret_bool (by simp [inB]; omega), rfl⟩)

set_option maxHeartbeats 400000 in
theorem in_choir (n a b : Int) (w : World) :
    Calls Tryd.prog 83 #[.int .i64 n, .int .i64 a, .int .i64 b] w fun e w' => e = .returned (.bool (inB n a b)) ∧ w = w' := by
  go_enter Tryd.func83, Tryd.ntmps83
  go_wp2
  all_goals (go_ret; exact ⟨ret_bool (by simp [inB]; omega), rfl⟩)

theorem all_take (bs : List Bool) (k : Nat) (h : k < bs.length) : (bs.take (k + 1)).all id = ((bs.take k).all id && bs.getD k false) := by
  rw [List.take_succ_eq_append_getElem h, List.all_append]
  simp [h]

set_option maxHeartbeats 400000 in
theorem all_any (b len cap : Nat) (bs : List Bool) (w : World) (hl : bs.length = len) (hm : len ≤ 100) (hc : ∀ j, j < len → w.cell? ⟨b, j, none⟩ = some (.bool (bs.getD j false))) :
    Calls Tryd.prog 82 #[.slice (some ⟨b, 0, none⟩) len cap] w fun e w' => e = .returned (.bool (bs.all id)) ∧ w = w' := by
  have HL := Lib.hid hl
  have HC := Lib.hid hc
  clear hl hc
  go_enter Tryd.func82, Tryd.ntmps82
  go_wp2
  go_loop [7] (fun i => ∃ k : Nat, k ≤ len ∧ i = .int .i64 k ∧ Hid ((bs.take k).all id = true)) (fun i => len - (intOf i).toNat)
  case atStart => exact ⟨0, by omega, rfl, Lib.hid (by simp)⟩
  case round =>
    obtain ⟨k, hk, rfl, ht⟩ := hrel
    by_cases hlt : k < len
    · have hcell := HC.out k hlt
      obtain ⟨v, hv⟩ : ∃ v, v = bs.getD k false := ⟨_, rfl⟩
      have hs := all_take bs k (by rw [HL.out]; exact hlt)
      rw [← hv] at hcell hs
      have HS := Lib.hid hs
      clear hs
      have HV := Lib.hid hv
      clear hv
      cases v
      · go_wp2
        go_ret
        refine ⟨ret_bool ?_, rfl⟩
        have hm' : false ∈ bs := by rw [HV.out]; simp [HL.out, hlt]
        symm; rw [List.all_eq_false]; exact ⟨false, hm', by simp⟩
      · go_wp2
        go_round
        case rel => exact ⟨k + 1, by omega, by go_num, Lib.hid (by rw [HS.out, ht.out]; rfl)⟩
        case measure => simp [intOf]; omega
    · obtain rfl : k = len := by omega
      go_wp2
      go_ret
      exact ⟨ret_bool (by rw [← ht.out, List.take_of_length_le (by have := HL.out; omega)]), rfl⟩

theorem tmod2 (c : Int) : (3 ≤ c ∧ c < 10 ∧ c.tmod 2 = 1) ↔ rightB c = true := by
  unfold rightB; constructor
  · rintro ⟨a, b, h⟩; rw [Int.tmod_eq_emod_of_nonneg (by omega)] at h; simp; omega
  · intro h; simp at h; rw [Int.tmod_eq_emod_of_nonneg (by omega)]; omega

theorem all2 (x y : Bool) (w : World) :
    Calls Tryd.prog 82 #[.slice (some ⟨w.heap.size, 0, none⟩) 2 2] (w.alloc (.cells #[.bool x, .bool y] 4)) fun e w' => e = .returned (.bool (x && y)) ∧ w.alloc (.cells #[.bool x, .bool y] 4) = w' := by
  refine (all_any w.heap.size 2 2 [x, y] _ rfl (by omega) ?_).mono fun e w' ⟨h1, h2⟩ => ⟨by rw [h1]; simp, h2⟩
  intro j hj
  match j, hj with
  | 0, _ => simp
  | 1, _ => simp
theorem all4 (x y z u : Bool) (w : World) :
    Calls Tryd.prog 82 #[.slice (some ⟨w.heap.size, 0, none⟩) 4 4] (w.alloc (.cells #[.bool x, .bool y, .bool z, .bool u] 4)) fun e w' => e = .returned (.bool (x && (y && (z && u)))) ∧ w.alloc (.cells #[.bool x, .bool y, .bool z, .bool u] 4) = w' := by
  refine (all_any w.heap.size 4 4 [x, y, z, u] _ rfl (by omega) ?_).mono fun e w' ⟨h1, h2⟩ => ⟨by rw [h1]; simp, h2⟩
  intro j hj
  match j, hj with
  | 0, _ => simp
  | 1, _ => simp
  | 2, _ => simp
  | 3, _ => simp

theorem right_eq (c : Int) : (inB c 3 10 && (c.tmod 2 == 1)) = rightB c := by
  rw [Bool.eq_iff_iff, ← tmod2]; simp [inB]; omega

set_option maxHeartbeats 400000 in
theorem right_any (c : Int) (w : World) :
    Calls Tryd.prog 68 #[.int .i64 c] w fun e w' => e = .returned (.bool (rightB c)) ∧ Below w.heap.size w w' := by
  go_enter Tryd.func68, Tryd.ntmps68
  go_wp2_with fail
  refine (in_choir _ _ _ _).mono ?_
  rintro e w' ⟨rfl, rfl⟩
  go_wp2_with fail
  refine (all2 _ _ _).mono ?_
  rintro e w' ⟨rfl, rfl⟩
  go_wp2_with fail
  go_ret
  exact ⟨ret_bool (right_eq c), (Below.refl _ _).alloc (Nat.le_refl _) _⟩

def placeB (c p : Int) : Bool := rightB c && inB p 0 c

theorem right_at (c : Int) (b : Bool) (h : rightB c = b) (w : World) :
    Calls Tryd.prog 68 #[.int .i64 c] w fun e w' => e = .returned (.bool b) ∧ Below w.heap.size w w' := h ▸ right_any c w
theorem in_int_at (n x y : Int) (b : Bool) (h : inB n x y = b) (w : World) :
    Calls Tryd.prog 69 #[.int .i64 n, .int .i64 x, .int .i64 y] w fun e w' => e = .returned (.bool b) ∧ w = w' := h ▸ in_int n x y w

def majI (c : Int) : Int := if rightB c then c / 2 + 1 else 0
def errI (c : Int) : Int := if rightB c then 0 else 2
theorem right_bd {c : Int} (h : rightB c = true) : 3 ≤ c ∧ c ≤ 9 := by unfold rightB at h; simp at h; omega

set_option maxHeartbeats 400000 in
theorem check_any (c : Int) (w : World) :
    Calls Tryd.prog 85 #[.int .i64 c] w fun e w' => e = .returned (.int .i64 (errI c)) ∧ Below w.heap.size w w' := by
  unfold errI
  cases hr : rightB c
  all_goals
    have Hr := Lib.hid hr
    clear hr
    go_enter Tryd.func85, Tryd.ntmps85
    go_wp2_with fail
    refine (right_at _ _ Hr.out _).mono ?_
    rintro e w1 ⟨rfl, hb⟩
    go_wp2_with fail
    go_ret
    exact ⟨rfl, hb⟩

set_option maxHeartbeats 400000 in
theorem majority_any (c : Int) (w : World) :
    Calls Tryd.prog 58 #[.int .i64 c] w fun e w' => e = .returned (.tuple #[.int .i64 (majI c), .int .i64 (errI c)]) ∧ Below w.heap.size w w' := by
  unfold majI errI
  cases hr : rightB c
  · have Hr := Lib.hid hr
    clear hr
    go_enter Tryd.func58, Tryd.ntmps58
    go_wp2_with fail
    refine (right_at _ _ Hr.out _).mono ?_
    rintro e w1 ⟨rfl, hb⟩
    go_wp2_with fail
    go_ret2
    exact ⟨rfl, hb⟩
  · obtain ⟨h1, h2⟩ := right_bd hr
    have Hr := Lib.hid hr
    clear hr
    go_enter Tryd.func58, Tryd.ntmps58
    go_wp2_with fail
    refine (right_at _ _ Hr.out _).mono ?_
    rintro e w1 ⟨rfl, hb⟩
    go_wp2_with fail
    go_ret2
    exact ⟨rfl, hb⟩

/-! Owner, Turn: through a function value. -/
def slotB (s : Int) : Bool := inB s 0 4096
def opErr (c s : Int) : Int := if rightB c then (if slotB s then 0 else 4) else 2
def ofI (f : Int → Int → Int) (c s : Int) : Int := if rightB c then (if slotB s then f c s else 0) else 0
def ownerI (c s : Int) : Int := ofI (fun n s => s % n) c s
def turnI (c s : Int) : Int := ofI (fun n s => s / n) c s

theorem slot_bd {s : Int} (h : slotB s = true) : 0 ≤ s ∧ s ≤ 4095 := by unfold slotB inB at h; simp at h; omega

set_option maxHeartbeats 400000 in
theorem owner1_any (n s : Int) (w : World) (h1 : 3 ≤ n) (h2 : n ≤ 9) (h3 : 0 ≤ s) (h4 : s ≤ 4095) :
    Calls Tryd.prog 50 #[.int .i64 n, .int .i64 s] w fun e w' => e = .returned (.int .i64 (s % n)) ∧ w = w' := by
  go_enter Tryd.func50, Tryd.ntmps50
  go_wp2_with fail
  go_ret
  exact ⟨rfl, rfl⟩

set_option maxHeartbeats 400000 in
theorem of_any (k : Nat) (f : Int → Int → Int) (c s r : Int) (hrr : ofI f c s = r) (w : World)
    (hf : ∀ n s w, 3 ≤ n → n ≤ 9 → 0 ≤ s → s ≤ 4095 → Calls Tryd.prog k #[.int .i64 n, .int .i64 s] w fun e w' => e = .returned (.int .i64 (f n s)) ∧ w = w')
    (he : ∀ args w, (callFunc k args).run Tryd.prog w = .ok (.enter k args) w) :
    Calls Tryd.prog 49 #[.int .i64 c, .int .i64 s, .func (.func k) #[] #[]] w fun e w' => e = .returned (.tuple #[.int .i64 r, .int .i64 (opErr c s)]) ∧ Below w.heap.size w w' := by
  subst hrr
  unfold opErr ofI
  cases hr : rightB c
  · have Hr := Lib.hid hr
    clear hr
    go_enter Tryd.func49, Tryd.ntmps49
    go_wp2_with fail
    refine (right_at _ _ Hr.out _).mono ?_
    rintro e w1 ⟨rfl, hb⟩
    go_wp2_with fail
    go_ret2
    exact ⟨rfl, hb⟩
  · obtain ⟨h1, h2⟩ := right_bd hr
    have Hr := Lib.hid hr
    clear hr
    cases hs : slotB s
    · have Hs := Lib.hid hs
      clear hs
      go_enter Tryd.func49, Tryd.ntmps49
      go_wp2_with fail
      refine (right_at _ _ Hr.out _).mono ?_
      rintro e w1 ⟨rfl, hb⟩
      go_wp2_with fail
      refine (in_int_at _ _ _ _ Hs.out _).mono ?_
      rintro e w2 ⟨rfl, rfl⟩
      go_wp2_with fail
      go_ret2
      exact ⟨rfl, hb⟩
    · obtain ⟨h3, h4⟩ := slot_bd hs
      have Hs := Lib.hid hs
      have HF := Lib.hid hf
      clear hs hf
      go_enter Tryd.func49, Tryd.ntmps49
      go_wp2_with fail
      refine (right_at _ _ Hr.out _).mono ?_
      rintro e w1 ⟨rfl, hb⟩
      go_wp2_with fail
      refine (in_int_at _ _ _ _ Hs.out _).mono ?_
      rintro e w2 ⟨rfl, rfl⟩
      go_wp2_with fail
      refine (HF.out _ _ _ h1 h2 h3 h4).mono ?_
      rintro e w2 ⟨rfl, rfl⟩
      go_wp2_with fail
      go_ret2
      exact ⟨rfl, hb⟩
end Go.Proofs.YtcahkcbenanfnaaDoor
