
import Derived.Test.YthhpblchiodahaaGreatDoorM1
import Derived.Test.YthhpblchiodahaaGreatDoorRows
import Derived.WalkKit
import Derived.WalkSpells
import Derived.WalkLawsBesides
import Derived.Lib.Hide
import Derived.Laws.RangeString
import Derived.Laws.RangeAny
import Derived.Lib.RuneCount
import Derived.LoopTactic
import Derived.Deep.Cut
import Derived.Lib.Walk
import Derived.Lib.DecodeN
import Derived.Handy
import Derived.BigQuiet
import Derived.OwnWalk
import Derived.Lib.RuneCountTail
import Derived.Deep.OwnRows
/- Package text: which signs may not be; a text goes over them. -/
namespace Go.Proofs.YthhpblchiodahaaGreatDoor
set_option linter.unusedSimpArgs false
set_option linter.unusedVariables false
open Go.RowKit

theorem tx_bool {a b : Bool} (h : a = b) : Ending.returned (.bool a) = Ending.returned (.bool b) := by rw [h]
def signBad (r : Int) : Bool := decide (r < 32) || (decide (127 ≤ r) && decide (r < 160))
theorem c3sign_any (r : Int) (w : World) : Calls Tryz.prog 95 #[.int .i32 r] w fun e w' => e = .returned (.bool (signBad r)) ∧ w = w' := by
  have hc : (r < 32 ∧ signBad r = true) ∨ (¬ r < 32 ∧ 127 ≤ r ∧ r < 160 ∧ signBad r = true) ∨ (¬ r < 32 ∧ 127 ≤ r ∧ ¬ r < 160 ∧ signBad r = false) ∨ (¬ r < 32 ∧ ¬ 127 ≤ r ∧ signBad r = false) := by
    unfold signBad
    by_cases h1 : r < 32
    · simp [h1]
    · by_cases h2 : 127 ≤ r
      · by_cases h3 : r < 160 <;> simp [h1, h2, h3]
      · simp [h1, h2]
  rcases hc with ⟨h1, h⟩ | ⟨h1, h2, h3, h⟩ | ⟨h1, h2, h3, h⟩ | ⟨h1, h2, h⟩
  all_goals
    rw [h]
    clear h
    go_enter Tryz.func95, Tryz.ntmps95
    go_wp2
    go_ret
    exact ⟨rfl, rfl⟩
/-- From place pos on: is there a sign that may not be? -/
def badFrom (s : ByteArray) : Nat → Nat → Bool
  | 0, _ => false
  | k + 1, pos => if pos < s.size then signBad ((Utf8.decode s pos).1 : Nat) || badFrom s k (pos + (Utf8.decode s pos).2) else false
theorem badFrom_end (s : ByteArray) (k pos : Nat) (h : ¬ pos < s.size) : badFrom s k pos = false := by
  cases k <;> simp [badFrom, h]
def badS (s : ByteArray) : Bool := badFrom s s.size 0
set_option maxRecDepth 100000 in
set_option maxHeartbeats 1000000 in
theorem bad1_any (b : Nat) (s : ByteArray) (w : World) (hB : Boxed w b 178 (.func (.func 95) #[] #[])) :
    Calls Tryz.prog 128 #[.string s, .pointer (some ⟨b, 0, none⟩)] w fun e w' => e = .returned (.bool (badS s)) ∧ Below w.heap.size w w' := by
  have hc : ∀ pos, (w.iter s pos).cell? ⟨b, 0, none⟩ = some (.func (.func 95) #[] #[]) := fun pos => (hB.alloc (.stringIter s pos)).cell
  have hbw : ∀ pos, Below w.heap.size w (w.iter s pos) := fun pos => (Below.refl _ _).alloc (Nat.le_refl _) _
  obtain ⟨A, hA⟩ : ∃ A, badS s = A := ⟨_, rfl⟩
  rw [hA]
  clear hB
  go_enter Tryz.func128, Tryz.ntmps128
  go_wp2
  go_loopw [5] (fun _ w' => ∃ (pos k : Nat), w' = w.iter s pos ∧ badFrom s k pos = A ∧ s.size ≤ pos + k) (fun _ w' => s.size - w'.iterPos w.heap.size)
  case atStart => exact ⟨0, s.size, rfl, hA, by omega⟩
  case round =>
    obtain ⟨pos, k, rfl, hk, hb⟩ := hrel
    by_cases hp : pos < s.size
    · have hnx : ∀ ty, (Instr.next (.pointer (some ⟨w.heap.size, 0, none⟩)) true ty).run Tryz.prog (w.iter s pos) = _ := fun ty => run_next_any w s pos ty hp
      have hwd := Lib.decode_width_pos s pos hp
      have hcp := hc (pos + (Utf8.decode s pos).2)
      cases k with
      | zero => omega
      | succ k =>
        unfold badFrom at hk
        rw [if_pos hp] at hk
        cases hsb : signBad ((Utf8.decode s pos).1 : Nat)
        · have hk2 : badFrom s k (pos + (Utf8.decode s pos).2) = A := by rw [hsb] at hk; exact hk
          clear hk
          have cS := fun W => c3sign_any ((Utf8.decode s pos).1 : Nat) W
          rw [hsb] at cS
          clear hsb
          go_wp2_with fail
          refine (cS _).mono ?_
          rintro e w' ⟨rfl, rfl⟩
          go_wp2
          go_roundw
          case rel => exact ⟨pos + (Utf8.decode s pos).2, k, rfl, hk2, by omega⟩
          case measure => simp; omega
        · have hk2 : true = A := by rw [hsb] at hk; simpa using hk
          subst hk2
          clear hk
          have cS := fun W => c3sign_any ((Utf8.decode s pos).1 : Nat) W
          rw [hsb] at cS
          clear hsb
          go_wp2_with fail
          refine (cS _).mono ?_
          rintro e w' ⟨rfl, rfl⟩
          go_wp2
          go_ret
          exact ⟨rfl, hbw _⟩
    · have hnx : ∀ ty, (Instr.next (.pointer (some ⟨w.heap.size, 0, none⟩)) true ty).run Tryz.prog (w.iter s pos) = _ := fun ty => run_next_end w s pos ty hp
      rw [badFrom_end s k pos hp] at hk
      subst hk
      go_wp2
      go_ret
      exact ⟨rfl, hbw _⟩
end Go.Proofs.YthhpblchiodahaaGreatDoor

/- The document's text: one sign. -/
namespace Go.Proofs.YthhpblchiodahaaGreatDoor
open Go.RowKit

def moreB (c : Int) : Bool := decide (128 ≤ c) && decide (c < 192)
theorem more_any (c : Int) (w : World) : Calls Tryz.prog 171 #[.int .u8 c] w fun e w' => e = .returned (.bool (moreB c)) ∧ w = w' := by
  have hc : (128 ≤ c ∧ moreB c = decide (c < 192)) ∨ (¬ 128 ≤ c ∧ moreB c = false) := by
    unfold moreB
    by_cases h1 : 128 ≤ c <;> simp [h1]
  rcases hc with ⟨h1, h⟩ | ⟨h1, h⟩
  all_goals
    rw [h]
    clear h
    go_enter Tryz.func171, Tryz.ntmps171
    go_wp2
    go_ret
    exact ⟨tx_bool (by simp), rfl⟩
theorem more_at (c : Int) (v : Bool) (h : moreB c = v) (w : World) : Calls Tryz.prog 171 #[.int .u8 c] w fun e w' => e = .returned (.bool v) ∧ w = w' := h ▸ more_any c w
/-- What the document's sign tells: of a broken byte nothing. -/
def sgn (d : Nat × Nat) : Nat × Nat := if d.1 = 65533 ∧ d.2 = 1 then (0, 0) else d
def signN (n b0 b1 b2 b3 : Nat) : Nat × Nat := sgn (Lib.decodeN n b0 b1 b2 b3)
def T2 (n b0 b1 : Nat) : Prop := 192 ≤ b0 ∧ b0 < 224 ∧ 2 ≤ n ∧ 128 ≤ b1 ∧ b1 < 192
def T3 (n b0 b1 b2 : Nat) : Prop := 224 ≤ b0 ∧ b0 < 240 ∧ 3 ≤ n ∧ (128 ≤ b1 ∧ b1 < 192) ∧ (128 ≤ b2 ∧ b2 < 192)
def T4 (n b0 b1 b2 b3 : Nat) : Prop := 240 ≤ b0 ∧ b0 < 248 ∧ 4 ≤ n ∧ (128 ≤ b1 ∧ b1 < 192) ∧ (128 ≤ b2 ∧ b2 < 192) ∧ (128 ≤ b3 ∧ b3 < 192)
theorem sign_one {n b0 b1 b2 b3 : Nat} (h : b0 < 128) : signN n b0 b1 b2 b3 = (b0, 1) := by
  unfold signN sgn Lib.decodeN
  rw [if_pos h]
  simp; omega
theorem sign_two {n b0 b1 b2 b3 : Nat} (h : T2 n b0 b1) : signN n b0 b1 b2 b3 = if 128 ≤ (b0 - 192) * 64 + b1 - 128 then ((b0 - 192) * 64 + b1 - 128, 2) else (0, 0) := by
  obtain ⟨h1, h2, h3, h4, h5⟩ := h
  unfold signN sgn Lib.decodeN
  rw [if_neg (show ¬ b0 < 128 by omega), if_pos (show b0 / 32 = 6 ∧ (1 < n ∧ b1 / 64 = 2) by omega)]
  have e : b0 % 32 * 64 + b1 % 64 = (b0 - 192) * 64 + b1 - 128 := by omega
  rw [e]
  by_cases h : 128 ≤ (b0 - 192) * 64 + b1 - 128
  · simp [h]
  · simp [h]
theorem sign_three {n b0 b1 b2 b3 : Nat} (h : T3 n b0 b1 b2) : signN n b0 b1 b2 b3 = if 2048 ≤ ((b0 - 224) * 64 + b1 - 128) * 64 + b2 - 128 ∧ (((b0 - 224) * 64 + b1 - 128) * 64 + b2 - 128 < 55296 ∨ 57343 < ((b0 - 224) * 64 + b1 - 128) * 64 + b2 - 128) then (((b0 - 224) * 64 + b1 - 128) * 64 + b2 - 128, 3) else (0, 0) := by
  obtain ⟨h1, h2, h3, ⟨h4, h5⟩, h6, h7⟩ := h
  unfold signN sgn Lib.decodeN
  rw [if_neg (show ¬ b0 < 128 by omega), if_neg (show ¬ (b0 / 32 = 6 ∧ (1 < n ∧ b1 / 64 = 2)) by omega), if_pos (show b0 / 16 = 14 ∧ (1 < n ∧ b1 / 64 = 2) ∧ (2 < n ∧ b2 / 64 = 2) by omega)]
  have e : b0 % 16 * 4096 + b1 % 64 * 64 + b2 % 64 = ((b0 - 224) * 64 + b1 - 128) * 64 + b2 - 128 := by omega
  rw [e]
  have hm : ((b0 - 224) * 64 + b1 - 128) * 64 + b2 - 128 < 65536 := by omega
  clear e
  generalize ((b0 - 224) * 64 + b1 - 128) * 64 + b2 - 128 = m at hm ⊢
  repeat' split
  all_goals first | rfl | (exfalso; omega) | (simp at *; done) | (exfalso; simp at *; omega)
theorem sign_four {n b0 b1 b2 b3 : Nat} (h : T4 n b0 b1 b2 b3) : signN n b0 b1 b2 b3 = if 65536 ≤ (((b0 - 240) * 64 + b1 - 128) * 64 + b2 - 128) * 64 + b3 - 128 ∧ (((b0 - 240) * 64 + b1 - 128) * 64 + b2 - 128) * 64 + b3 - 128 ≤ 1114111 then ((((b0 - 240) * 64 + b1 - 128) * 64 + b2 - 128) * 64 + b3 - 128, 4) else (0, 0) := by
  obtain ⟨h1, h2, h3, ⟨h4, h5⟩, ⟨h6, h7⟩, h8, h9⟩ := h
  unfold signN sgn Lib.decodeN
  rw [if_neg (show ¬ b0 < 128 by omega), if_neg (show ¬ (b0 / 32 = 6 ∧ (1 < n ∧ b1 / 64 = 2)) by omega), if_neg (show ¬ (b0 / 16 = 14 ∧ (1 < n ∧ b1 / 64 = 2) ∧ (2 < n ∧ b2 / 64 = 2)) by omega), if_pos (show b0 / 8 = 30 ∧ (1 < n ∧ b1 / 64 = 2) ∧ (2 < n ∧ b2 / 64 = 2) ∧ (3 < n ∧ b3 / 64 = 2) by omega)]
  have e : b0 % 8 * 262144 + b1 % 64 * 4096 + b2 % 64 * 64 + b3 % 64 = (((b0 - 240) * 64 + b1 - 128) * 64 + b2 - 128) * 64 + b3 - 128 := by omega
  rw [e]
  generalize (((b0 - 240) * 64 + b1 - 128) * 64 + b2 - 128) * 64 + b3 - 128 = m
  repeat' split
  all_goals first | rfl | (exfalso; omega) | (simp at *; done) | (exfalso; simp at *; omega)
theorem sign_none {n b0 b1 b2 b3 : Nat} (h0 : ¬ b0 < 128) (h2 : ¬ T2 n b0 b1) (h3 : ¬ T3 n b0 b1 b2) (h4 : ¬ T4 n b0 b1 b2 b3) (hb : b0 < 256 ∧ b1 < 256 ∧ b2 < 256 ∧ b3 < 256) : signN n b0 b1 b2 b3 = (0, 0) := by
  unfold T2 at h2
  unfold T3 at h3
  unfold T4 at h4
  unfold signN sgn Lib.decodeN
  rw [if_neg h0, if_neg (show ¬ (b0 / 32 = 6 ∧ (1 < n ∧ b1 / 64 = 2)) by omega), if_neg (show ¬ (b0 / 16 = 14 ∧ (1 < n ∧ b1 / 64 = 2) ∧ (2 < n ∧ b2 / 64 = 2)) by omega), if_neg (show ¬ (b0 / 8 = 30 ∧ (1 < n ∧ b1 / 64 = 2) ∧ (2 < n ∧ b2 / 64 = 2) ∧ (3 < n ∧ b3 / 64 = 2)) by omega)]
  simp
end Go.Proofs.YthhpblchiodahaaGreatDoor

/- The document's text: one sign, walked. -/
namespace Go.Proofs.YthhpblchiodahaaGreatDoor
open Go.RowKit

theorem more_t {c : Nat} (h : 128 ≤ c ∧ c < 192) : moreB (c : Int) = true := by unfold moreB; simp; omega
theorem more_f {c : Nat} (h : ¬ (128 ≤ c ∧ c < 192)) : moreB (c : Int) = false := by
  rw [Bool.eq_false_iff]
  unfold moreB
  simp
  omega
theorem below_dn {B : Nat} {a w : World} (h : Below B a w) : ∀ q, Below B a (w.drewN q)
  | 0 => h
  | q + 1 => (below_dn h q).drew
set_option maxRecDepth 100000 in
set_option maxHeartbeats 4000000 in
theorem sign_any (s : ByteArray) (n b0 b1 b2 b3 : Nat) (hn : s.size = n) (hn0 : 0 < n) (hmax : n ≤ 9223372036854775807) (e0 : ∀ h : 0 < s.size, (s[0]'h).toNat = b0) (e1 : ∀ h : 1 < s.size, (s[1]'h).toNat = b1) (e2 : ∀ h : 2 < s.size, (s[2]'h).toNat = b2) (e3 : ∀ h : 3 < s.size, (s[3]'h).toNat = b3)
    (hb : b0 < 256 ∧ b1 < 256 ∧ b2 < 256 ∧ b3 < 256) (w : World) :
    Calls Tryz.prog 162 #[.string s] w fun e w' => e = .returned (.tuple #[.int .i64 (signN n b0 b1 b2 b3).1, .int .i64 (signN n b0 b1 b2 b3).2]) ∧ Below w.heap.size w w' := by
  obtain ⟨z0, z1, z2, z3⟩ := hb
  have y0 : (0 : Int) ≤ (b0 : Int) := by omega
  have x0 : (b0 : Int) < 256 := by omega
  have y1 : (0 : Int) ≤ (b1 : Int) := by omega
  have x1 : (b1 : Int) < 256 := by omega
  have y2 : (0 : Int) ≤ (b2 : Int) := by omega
  have x2 : (b2 : Int) < 256 := by omega
  have y3 : (0 : Int) ≤ (b3 : Int) := by omega
  have x3 : (b3 : Int) < 256 := by omega
  have hnI : (0 : Int) < (n : Int) := by omega
  have e0' := e0 (by omega)
  have hs0 : 0 < s.size := by omega
  by_cases h0 : b0 < 128
  · rw [sign_one h0]
    have h0' : (b0 : Int) < 128 := by omega
    clear e1 e2 e3
    go_enter Tryz.func162, Tryz.ntmps162
    go_wp2
    go_returns
    exact ⟨rfl, Below.refl _ _⟩
  · have h0' : ¬ (b0 : Int) < 128 := by omega
    by_cases t2 : T2 n b0 b1
    · obtain ⟨q1, q2, q3, q4, q5⟩ := id t2
      have r1 : (192 : Int) ≤ (b0 : Int) := by omega
      have r2 : (b0 : Int) < 224 := by omega
      have r2' : ¬ (224 : Int) ≤ (b0 : Int) := by omega
      have r2'' : ¬ (240 : Int) ≤ (b0 : Int) := by omega
      have r3 : (2 : Int) ≤ (n : Int) := by omega
      have cm := more_t ⟨q4, q5⟩
      have e1' := e1 (by omega)
      have hs1 : 1 < s.size := by omega
      rw [sign_two t2]
      obtain ⟨m, hm⟩ : ∃ m, (b0 - 192) * 64 + b1 - 128 = m := ⟨_, rfl⟩
      have hmI : ((b0 : Int) - 192) * 64 + (b1 : Int) - 128 = (m : Int) := by omega
      rw [hm]
      clear t2 e0 e1 e2 e3 hm
      by_cases hv : 128 ≤ m
      · rw [if_pos hv]
        have hv' : (128 : Int) ≤ (m : Int) := by omega
        go_enter Tryz.func162, Tryz.ntmps162
        go_wp2_with (go_at_call 171; refine (more_any _ _).mono ?_; rintro e w' ⟨rfl, rfl⟩)
        go_returns
        exact ⟨rfl, Below.refl _ _⟩
      · rw [if_neg hv]
        have hv' : ¬ (128 : Int) ≤ (m : Int) := by omega
        go_enter Tryz.func162, Tryz.ntmps162
        go_wp2_with (go_at_call 171; refine (more_any _ _).mono ?_; rintro e w' ⟨rfl, rfl⟩)
        go_returns
        exact ⟨rfl, Below.refl _ _⟩
    · by_cases t3 : T3 n b0 b1 b2
      · obtain ⟨q1, q2, q3, ⟨q4, q5⟩, q6, q7⟩ := id t3
        have r1 : (224 : Int) ≤ (b0 : Int) := by omega
        have r0 : (192 : Int) ≤ (b0 : Int) := by omega
        have r1' : ¬ (b0 : Int) < 224 := by omega
        have r2 : (b0 : Int) < 240 := by omega
        have r2'' : ¬ (240 : Int) ≤ (b0 : Int) := by omega
        have r3 : (3 : Int) ≤ (n : Int) := by omega
        have cm := more_t ⟨q4, q5⟩
        have cm2 := more_t ⟨q6, q7⟩
        have e1' := e1 (by omega)
        have e2' := e2 (by omega)
        have hs1 : 1 < s.size := by omega
        have hs2 : 2 < s.size := by omega
        have hi1 : (1 : Int) < (n : Int) := by omega
        have hi2 : (2 : Int) < (n : Int) := by omega
        have v4 : (128 : Int) ≤ (b1 : Int) := by omega
        have v5 : (b1 : Int) < 192 := by omega
        have v6 : (128 : Int) ≤ (b2 : Int) := by omega
        have v7 : (b2 : Int) < 192 := by omega
        rw [sign_three t3]
        obtain ⟨m, hm⟩ : ∃ m, ((b0 - 224) * 64 + b1 - 128) * 64 + b2 - 128 = m := ⟨_, rfl⟩
        have hmI : (((b0 : Int) - 224) * 64 + (b1 : Int) - 128) * 64 + (b2 : Int) - 128 = (m : Int) := by omega
        rw [hm]
        clear t2 t3 e0 e1 e2 e3 hm
        by_cases ha : 2048 ≤ m
        · have ha' : (2048 : Int) ≤ (m : Int) := by omega
          by_cases hb : m < 55296
          · have hb' : (m : Int) < 55296 := by omega
            rw [if_pos ⟨ha, .inl hb⟩]
            go_enter Tryz.func162, Tryz.ntmps162
            go_wp2_with (go_at_call 171; refine (more_any _ _).mono ?_; rintro e w' ⟨rfl, rfl⟩)
            go_quiet (fail)
            go_wp2
            go_returns
            exact ⟨rfl, below_dn (Below.refl _ _) _⟩
          · have hb' : ¬ (m : Int) < 55296 := by omega
            by_cases hc : 57343 < m
            · have hc' : (57343 : Int) < (m : Int) := by omega
              rw [if_pos ⟨ha, .inr hc⟩]
              go_enter Tryz.func162, Tryz.ntmps162
              go_wp2_with (go_at_call 171; refine (more_any _ _).mono ?_; rintro e w' ⟨rfl, rfl⟩)
              go_quiet (fail)
              go_wp2
              go_returns
              exact ⟨rfl, below_dn (Below.refl _ _) _⟩
            · have hc' : ¬ (57343 : Int) < (m : Int) := by omega
              rw [if_neg (by omega)]
              go_enter Tryz.func162, Tryz.ntmps162
              go_wp2_with (go_at_call 171; refine (more_any _ _).mono ?_; rintro e w' ⟨rfl, rfl⟩)
              go_quiet (fail)
              go_wp2
              go_returns
              exact ⟨rfl, below_dn (Below.refl _ _) _⟩
        · have ha' : ¬ (2048 : Int) ≤ (m : Int) := by omega
          rw [if_neg (by omega)]
          go_enter Tryz.func162, Tryz.ntmps162
          go_wp2_with (go_at_call 171; refine (more_any _ _).mono ?_; rintro e w' ⟨rfl, rfl⟩)
          go_quiet (fail)
          go_wp2
          go_returns
          exact ⟨rfl, below_dn (Below.refl _ _) _⟩
      · by_cases t4 : T4 n b0 b1 b2 b3
        · obtain ⟨q1, q2, q3, ⟨q4, q5⟩, ⟨q6, q7⟩, q8, q9⟩ := id t4
          have r1 : (240 : Int) ≤ (b0 : Int) := by omega
          have r0 : (192 : Int) ≤ (b0 : Int) := by omega
          have r0' : (224 : Int) ≤ (b0 : Int) := by omega
          have r1' : ¬ (b0 : Int) < 224 := by omega
          have r2 : (b0 : Int) < 248 := by omega
          have r2'' : ¬ (b0 : Int) < 240 := by omega
          have r3 : (4 : Int) ≤ (n : Int) := by omega
          have cm := more_t ⟨q4, q5⟩
          have cm2 := more_t ⟨q6, q7⟩
          have cm3 := more_t ⟨q8, q9⟩
          have e1' := e1 (by omega)
          have e2' := e2 (by omega)
          have e3' := e3 (by omega)
          have hs1 : 1 < s.size := by omega
          have hs2 : 2 < s.size := by omega
          have hs3 : 3 < s.size := by omega
          have hi1 : (1 : Int) < (n : Int) := by omega
          have hi2 : (2 : Int) < (n : Int) := by omega
          have hi3 : (3 : Int) < (n : Int) := by omega
          have v4 : (128 : Int) ≤ (b1 : Int) := by omega
          have v5 : (b1 : Int) < 192 := by omega
          have v6 : (128 : Int) ≤ (b2 : Int) := by omega
          have v7 : (b2 : Int) < 192 := by omega
          have v8 : (128 : Int) ≤ (b3 : Int) := by omega
          have v9 : (b3 : Int) < 192 := by omega
          rw [sign_four t4]
          obtain ⟨m, hm⟩ : ∃ m, (((b0 - 240) * 64 + b1 - 128) * 64 + b2 - 128) * 64 + b3 - 128 = m := ⟨_, rfl⟩
          have hmI : ((((b0 : Int) - 240) * 64 + (b1 : Int) - 128) * 64 + (b2 : Int) - 128) * 64 + (b3 : Int) - 128 = (m : Int) := by omega
          rw [hm]
          clear t2 t3 t4 e0 e1 e2 e3 hm
          by_cases ha : 65536 ≤ m
          · have ha' : (65536 : Int) ≤ (m : Int) := by omega
            by_cases hb : m ≤ 1114111
            · have hb' : (m : Int) ≤ 1114111 := by omega
              rw [if_pos ⟨ha, hb⟩]
              go_enter Tryz.func162, Tryz.ntmps162
              go_wp2_with (go_at_call 171; refine (more_any _ _).mono ?_; rintro e w' ⟨rfl, rfl⟩)
              go_quiet (fail)
              go_wp2
              go_returns
              exact ⟨rfl, below_dn (Below.refl _ _) _⟩
            · have hb' : ¬ (m : Int) ≤ 1114111 := by omega
              rw [if_neg (by omega)]
              go_enter Tryz.func162, Tryz.ntmps162
              go_wp2_with (go_at_call 171; refine (more_any _ _).mono ?_; rintro e w' ⟨rfl, rfl⟩)
              go_quiet (fail)
              go_wp2
              go_returns
              exact ⟨rfl, below_dn (Below.refl _ _) _⟩
          · have ha' : ¬ (65536 : Int) ≤ (m : Int) := by omega
            rw [if_neg (fun h => ha h.1)]
            have hd : decide ((65536 : Int) ≤ (m : Int)) = false := decide_eq_false ha'
            clear ha ha'
            go_enter Tryz.func162, Tryz.ntmps162
            go_wp2_with (go_at_call 171; refine (more_any _ _).mono ?_; rintro e w' ⟨rfl, rfl⟩)
            go_quiet (fail)
            go_wp2
            go_returns
            exact ⟨rfl, below_dn (Below.refl _ _) _⟩
        · clear e0
          rw [sign_none h0 t2 t3 t4 ⟨z0, z1, z2, z3⟩]
          unfold T2 at t2
          unfold T3 at t3
          unfold T4 at t4
          by_cases k1 : b0 < 192
          · have k1' : ¬ (192 : Int) ≤ (b0 : Int) := by omega
            have k2' : ¬ (224 : Int) ≤ (b0 : Int) := by omega
            have k3' : ¬ (240 : Int) ≤ (b0 : Int) := by omega
            clear t2 t3 t4 e1 e2 e3
            go_enter Tryz.func162, Tryz.ntmps162
            go_wp2_with (go_at_call 171; refine (more_any _ _).mono ?_; rintro e w' ⟨rfl, rfl⟩)
            go_returns
            exact ⟨rfl, Below.refl _ _⟩
          · have k1' : (192 : Int) ≤ (b0 : Int) := by omega
            by_cases k2 : b0 < 224
            · have k2' : (b0 : Int) < 224 := by omega
              have k2'' : ¬ (224 : Int) ≤ (b0 : Int) := by omega
              have k3' : ¬ (240 : Int) ≤ (b0 : Int) := by omega
              by_cases kn : 2 ≤ n
              · have kn' : (2 : Int) ≤ (n : Int) := by omega
                have hi1 : (1 : Int) < (n : Int) := by omega
                have hs1 : 1 < s.size := by omega
                have e1' := e1 (by omega)
                have cm := more_f (c := b1) (by omega)
                clear t2 t3 t4 e1 e2 e3
                go_enter Tryz.func162, Tryz.ntmps162
                go_wp2_with (go_at_call 171; refine (more_any _ _).mono ?_; rintro e w' ⟨rfl, rfl⟩)
                go_returns
                exact ⟨rfl, Below.refl _ _⟩
              · have kn' : ¬ (2 : Int) ≤ (n : Int) := by omega
                clear t2 t3 t4 e1 e2 e3
                go_enter Tryz.func162, Tryz.ntmps162
                go_wp2_with (go_at_call 171; refine (more_any _ _).mono ?_; rintro e w' ⟨rfl, rfl⟩)
                go_returns
                exact ⟨rfl, Below.refl _ _⟩
            · have k2' : ¬ (b0 : Int) < 224 := by omega
              have k2'' : (224 : Int) ≤ (b0 : Int) := by omega
              by_cases k3 : b0 < 240
              · have k3' : (b0 : Int) < 240 := by omega
                have k3'' : ¬ (240 : Int) ≤ (b0 : Int) := by omega
                by_cases kn : 3 ≤ n
                · have kn' : (3 : Int) ≤ (n : Int) := by omega
                  have hi1 : (1 : Int) < (n : Int) := by omega
                  have hi2 : (2 : Int) < (n : Int) := by omega
                  have hs1 : 1 < s.size := by omega
                  have hs2 : 2 < s.size := by omega
                  have e1' := e1 (by omega)
                  have e2' := e2 (by omega)
                  by_cases km : 128 ≤ b1 ∧ b1 < 192
                  · have cm := more_t km
                    have cm2 := more_f (c := b2) (by omega)
                    clear t2 t3 t4 e1 e2 e3
                    go_enter Tryz.func162, Tryz.ntmps162
                    go_wp2_with (go_at_call 171; refine (more_any _ _).mono ?_; rintro e w' ⟨rfl, rfl⟩)
                    go_returns
                    exact ⟨rfl, Below.refl _ _⟩
                  · have cm := more_f km
                    clear t2 t3 t4 e1 e2 e3
                    go_enter Tryz.func162, Tryz.ntmps162
                    go_wp2_with (go_at_call 171; refine (more_any _ _).mono ?_; rintro e w' ⟨rfl, rfl⟩)
                    go_returns
                    exact ⟨rfl, Below.refl _ _⟩
                · have kn' : ¬ (3 : Int) ≤ (n : Int) := by omega
                  clear t2 t3 t4 e1 e2 e3
                  go_enter Tryz.func162, Tryz.ntmps162
                  go_wp2_with (go_at_call 171; refine (more_any _ _).mono ?_; rintro e w' ⟨rfl, rfl⟩)
                  go_returns
                  exact ⟨rfl, Below.refl _ _⟩
              · have k3' : ¬ (b0 : Int) < 240 := by omega
                have k3'' : (240 : Int) ≤ (b0 : Int) := by omega
                by_cases k4 : b0 < 248
                · have k4' : (b0 : Int) < 248 := by omega
                  by_cases kn : 4 ≤ n
                  · have kn' : (4 : Int) ≤ (n : Int) := by omega
                    have hi1 : (1 : Int) < (n : Int) := by omega
                    have hi2 : (2 : Int) < (n : Int) := by omega
                    have hi3 : (3 : Int) < (n : Int) := by omega
                    have hs1 : 1 < s.size := by omega
                    have hs2 : 2 < s.size := by omega
                    have hs3 : 3 < s.size := by omega
                    have e1' := e1 (by omega)
                    have e2' := e2 (by omega)
                    have e3' := e3 (by omega)
                    by_cases km : 128 ≤ b1 ∧ b1 < 192
                    · have cm := more_t km
                      by_cases km2 : 128 ≤ b2 ∧ b2 < 192
                      · have cm2 := more_t km2
                        have cm3 := more_f (c := b3) (by omega)
                        clear t2 t3 t4 e1 e2 e3
                        go_enter Tryz.func162, Tryz.ntmps162
                        go_wp2_with (go_at_call 171; refine (more_any _ _).mono ?_; rintro e w' ⟨rfl, rfl⟩)
                        go_returns
                        exact ⟨rfl, Below.refl _ _⟩
                      · have cm2 := more_f km2
                        clear t2 t3 t4 e1 e2 e3
                        go_enter Tryz.func162, Tryz.ntmps162
                        go_wp2_with (go_at_call 171; refine (more_any _ _).mono ?_; rintro e w' ⟨rfl, rfl⟩)
                        go_returns
                        exact ⟨rfl, Below.refl _ _⟩
                    · have cm := more_f km
                      clear t2 t3 t4 e1 e2 e3
                      go_enter Tryz.func162, Tryz.ntmps162
                      go_wp2_with (go_at_call 171; refine (more_any _ _).mono ?_; rintro e w' ⟨rfl, rfl⟩)
                      go_returns
                      exact ⟨rfl, Below.refl _ _⟩
                  · have kn' : ¬ (4 : Int) ≤ (n : Int) := by omega
                    clear t2 t3 t4 e1 e2 e3
                    go_enter Tryz.func162, Tryz.ntmps162
                    go_wp2_with (go_at_call 171; refine (more_any _ _).mono ?_; rintro e w' ⟨rfl, rfl⟩)
                    go_returns
                    exact ⟨rfl, Below.refl _ _⟩
                · have k4' : ¬ (b0 : Int) < 248 := by omega
                  clear t2 t3 t4 e1 e2 e3
                  go_enter Tryz.func162, Tryz.ntmps162
                  go_wp2_with (go_at_call 171; refine (more_any _ _).mono ?_; rintro e w' ⟨rfl, rfl⟩)
                  go_returns
                  exact ⟨rfl, Below.refl _ _⟩
end Go.Proofs.YthhpblchiodahaaGreatDoor

/- The document's text: its signs. -/
namespace Go.Proofs.YthhpblchiodahaaGreatDoor
open Go.RowKit

abbrev Sg := Nat × Nat × Nat × Bool
def brk (d : Nat × Nat) : Bool := d.1 == 65533 && d.2 == 1
def signsFrom (s : ByteArray) : Nat → Nat → List Sg
  | 0, _ => []
  | k + 1, i => if i < s.size then (i, (Utf8.decode s i).2, (Utf8.decode s i).1, brk (Utf8.decode s i)) :: signsFrom s k (i + (Utf8.decode s i).2) else []
def signsL (s : ByteArray) : List Sg := signsFrom s s.size 0
theorem signsFrom_end (s : ByteArray) (k i : Nat) (h : ¬ i < s.size) : signsFrom s k i = [] := by
  cases k <;> simp [signsFrom, h]
def cellsS (l : List Sg) : List Value := l.flatMap fun x => [.int .i64 x.1, .int .i64 x.2.1, .int .i64 x.2.2.1, .bool x.2.2.2]
theorem cellsS_len (l : List Sg) : (cellsS l).length = l.length * 4 := by
  induction l with
  | nil => rfl
  | cons a t ih => simp [cellsS] at ih ⊢; omega
def OwnS (W : World) (base : Nat) (v : Value) (l : List Sg) : Prop := W.ownsRow base 221 4 v l.length (cellsS l)
theorem info_sign : (Tryz.prog.info? 221).map (fun i => (i.zero, i.size, i.bytes)) = some (some (.agg #[.int .i64 0, .int .i64 0, .int .i64 0, .bool false]), 4, 32) := by kernel_rfl
theorem get_eq (t : ByteArray) (j : Nat) (h : j < t.size) : t[j]'h = t.get! j := by
  show t.data[j]'h = t.data[j]!
  rw [getElem!_pos t.data j h]
/-- The sign at a place of a text. -/
theorem sign_at (s : ByteArray) (i : Nat) (hi : i < s.size) (hs : s.size ≤ 4096) (w : World) :
    Calls Tryz.prog 162 #[.string (s.extract i s.size)] w fun e w' => e = .returned (.tuple #[.int .i64 (sgn (Utf8.decode s i)).1, .int .i64 (sgn (Utf8.decode s i)).2]) ∧ Below w.heap.size w w' := by
  have hz : (s.extract i s.size).size = s.size - i := by simp
  have key : ∀ j (h : j < (s.extract i s.size).size), ((s.extract i s.size)[j]'h).toNat = (s.get! (i + j)).toNat := by
    intro j h
    rw [← Lib.tail_get! s i j, get_eq]
  have hlt : ∀ j, (s.get! j).toNat < 256 := fun j => (s.get! j).toNat_lt
  rw [Lib.decode_at]
  exact sign_any _ (s.size - i) _ _ _ _ hz (by omega) (by omega) (key 0) (key 1) (key 2) (key 3) ⟨hlt _, hlt _, hlt _, hlt _⟩ w
theorem cellsS_app (l : List Sg) (a b n : Nat) (c : Bool) : cellsS l ++ [.int .i64 a, .int .i64 b, .int .i64 n, .bool c] = cellsS (l ++ [(a, b, n, c)]) := by simp [cellsS]
theorem dec_bd (s : ByteArray) (i : Nat) (h : i < s.size) : 1 ≤ (Utf8.decode s i).2 ∧ i + (Utf8.decode s i).2 ≤ s.size ∧ (Utf8.decode s i).1 ≤ 2000000 ∧ (Utf8.decode s i).2 ≤ 4 := by
  have h0 := (s.get! i).toNat_lt
  have h1 := (s.get! (i + 1)).toNat_lt
  have h2 := (s.get! (i + 2)).toNat_lt
  have h3 := (s.get! (i + 3)).toNat_lt
  rw [Lib.decode_at]
  generalize (s.get! i).toNat = b0 at h0 ⊢
  generalize (s.get! (i + 1)).toNat = b1 at h1 ⊢
  generalize (s.get! (i + 2)).toNat = b2 at h2 ⊢
  generalize (s.get! (i + 3)).toNat = b3 at h3 ⊢
  unfold Lib.decodeN
  repeat' split
  all_goals (refine ⟨?_, ?_, ?_, ?_⟩ <;> simp only <;> omega)
theorem cells_one {a b n : Int} {c : Bool} : ∀ u ∈ ([.int .i64 a, .int .i64 b, .int .i64 n, .bool c] : List Value), u.oneCell' = true := by
  intro u hu
  simp at hu
  rcases hu with rfl | rfl | rfl | rfl <;> rfl
set_option maxRecDepth 100000 in
set_option maxHeartbeats 4000000 in
theorem signs_any (s : ByteArray) (hs : s.size ≤ 4096) (w : World) : Calls Tryz.prog 146 #[.string s] w fun e w' => ∃ v, e = .returned v ∧ OwnS w' w.heap.size v (signsL s) ∧ Below w.heap.size w w' := by
  obtain ⟨i0, hi, hz0, hz1, hz2⟩ := info_parts info_sign
  obtain ⟨A, hA⟩ : ∃ A, signsL s = A := ⟨_, rfl⟩
  rw [hA]
  obtain ⟨n, hn⟩ : ∃ n, s.size = n := ⟨_, rfl⟩
  have hn4 : (n : Int) ≤ 4096 := by omega
  have hn4' : n ≤ 4096 := by omega
  go_enter Tryz.func146, Tryz.ntmps146
  go_wp2_with fail
  go_loopw [3, 4] (fun v i wr => ∃ (p k : Nat) (pre : List Sg), i = .int .i64 p ∧ OwnS wr w.heap.size v pre ∧ Hid (pre ++ signsFrom s k p = A) ∧ n ≤ p + k ∧ pre.length ≤ p ∧ p ≤ n ∧ Below w.heap.size w wr) (fun _ i _ => n - (intOf i).toNat)
  case atStart => exact ⟨0, n, [], rfl, World.ownsRow_nil _ _ _ _, Lib.hid (by rw [← hA, ← hn]; rfl), by omega, by simp, by omega, Below.refl _ _⟩
  case round =>
    obtain ⟨p, k, pre, rfl, hown, hall, hk, hpl, hp4, hb⟩ := hrel
    by_cases hlt : p < n
    · have hp0 : (0 : Int) ≤ (p : Int) := by omega
      have hp1 : (p : Int) < (n : Int) := by omega
      have hp2 : (p : Int) ≤ (n : Int) := by omega
      have cS := sign_at s p (by omega) hs wr
      rw [hn] at cS
      obtain ⟨d1, d2, d3, d4⟩ := dec_bd s p (by omega)
      obtain ⟨k, rfl⟩ : ∃ k', k = k' + 1 := ⟨k - 1, by omega⟩
      have hall' := hall.out
      rw [signsFrom, if_pos (by omega)] at hall'
      have hsg : sgn (Utf8.decode s p) = if brk (Utf8.decode s p) then (0, 0) else Utf8.decode s p := by unfold sgn brk; simp
      rw [hsg] at cS
      clear hall hsg
      obtain ⟨⟨dr, dw⟩, hd⟩ : ∃ d, Utf8.decode s p = d := ⟨_, rfl⟩
      rw [hd] at cS hall' d1 d2 d3 d4
      simp only at cS hall' d1 d2 d3 d4
      rw [hn] at d2
      unfold OwnS at hown
      have hcl := cellsS_len pre
      have hprel : pre.length ≤ 4096 := by omega
      cases hbk : brk (dr, dw)
      · rw [hbk] at cS hall'
        simp only [Bool.false_eq_true, if_false] at cS
        have hall2 : Hid ((pre ++ [(p, dw, dr, false)]) ++ signsFrom s k (p + dw) = A) := Lib.hid (by rw [List.append_assoc]; exact hall')
        have e0 : ¬ (dw : Int) = 0 := by omega
        have e1 : (0 : Int) ≤ (dw : Int) := by omega
        have e2 : (dw : Int) ≤ 4 := by omega
        clear hall' hd hbk
        go_wp2_with fail
        refine (cS).mono ?_
        rintro e w3 ⟨rfl, b3⟩
        have hb3 := hb.trans (b3.mono hb.size)
        replace hown := own_step hown b3
        go_wp2_with (at_builtin; refine wpList_append_own _ rfl _ _ 218 rfl w.heap.size 221 i0 (.agg #[.int .i64 0, .int .i64 0, .int .i64 0, .bool false]) 4 32 Tryz.underlying218 hi hz0 hz1 hz2 rfl (by decide) _ _ _ rfl (hown.alloc _) ⟨w3.heap.size, 0, none⟩ 1 1 [.int .i64 p, .int .i64 dw, .int .i64 dr, .bool false] rfl rfl (Blk.new' rfl 221 [.int .i64 p, .int .i64 dw, .int .i64 dr, .bool false]).news cells_one (by unfold maxLen; omega) (by omega) (by have := hb3.size; simp; omega) ?_)
        intro v' w1 hown' hgrow _
        have hb' := (hb3.alloc hb3.size (.cells #[.int .i64 p, .int .i64 dw, .int .i64 dr, .bool false] 221)).grown hgrow (by have := hb3.size; simp; omega) (fun k e => (hown.lt k e).1)
        have hown2 : Hid (OwnS w1 w.heap.size v' (pre ++ [(p, dw, dr, false)])) := Lib.hid (by unfold OwnS; rw [← cellsS_app, List.length_append]; exact hown')
        clear hown' hgrow hown hb3 hb b3
        go_wp2_with fail
        go_roundw
        case rel => exact ⟨p + dw, k, pre ++ [(p, dw, dr, false)], by go_num, hown2.out, hall2, by omega, by simp; omega, by omega, hb'⟩
        case measure => simp [intOf]; omega
      · rw [hbk] at cS hall'
        simp only [if_true] at cS
        have hdd : dr = 65533 ∧ dw = 1 := by unfold brk at hbk; simpa using hbk
        obtain ⟨rfl, rfl⟩ := hdd
        have hall2 : Hid ((pre ++ [(p, 1, 65533, true)]) ++ signsFrom s k (p + 1) = A) := Lib.hid (by rw [List.append_assoc]; exact hall')
        clear hall' hd hbk
        go_wp2_with fail
        refine (cS).mono ?_
        rintro e w3 ⟨rfl, b3⟩
        have hb3 := hb.trans (b3.mono hb.size)
        replace hown := own_step hown b3
        go_wp2_with (at_builtin; refine wpList_append_own _ rfl _ _ 218 rfl w.heap.size 221 i0 (.agg #[.int .i64 0, .int .i64 0, .int .i64 0, .bool false]) 4 32 Tryz.underlying218 hi hz0 hz1 hz2 rfl (by decide) _ _ _ rfl (hown.alloc _) ⟨w3.heap.size, 0, none⟩ 1 1 [.int .i64 p, .int .i64 1, .int .i64 65533, .bool true] rfl rfl (Blk.new' rfl 221 [.int .i64 p, .int .i64 1, .int .i64 65533, .bool true]).news cells_one (by unfold maxLen; omega) (by omega) (by have := hb3.size; simp; omega) ?_)
        intro v' w1 hown' hgrow _
        have hb' := (hb3.alloc hb3.size (.cells #[.int .i64 p, .int .i64 1, .int .i64 65533, .bool true] 221)).grown hgrow (by have := hb3.size; simp; omega) (fun k e => (hown.lt k e).1)
        have hown2 : Hid (OwnS w1 w.heap.size v' (pre ++ [(p, 1, 65533, true)])) := Lib.hid (by unfold OwnS; rw [← cellsS_app, List.length_append]; exact hown')
        clear hown' hgrow hown hb3 hb b3
        go_wp2_with fail
        go_roundw
        case rel => exact ⟨p + 1, k, pre ++ [(p, 1, 65533, true)], by go_num, hown2.out, hall2, by omega, by simp; omega, by omega, hb'⟩
        case measure => simp [intOf]; omega
    · obtain rfl : p = n := by omega
      have hall' := hall.out
      rw [signsFrom_end s k p (by omega), List.append_nil] at hall'
      have HO := Lib.hid hown
      clear hown
      have HA := Lib.hid hall'
      clear hall'
      clear hall
      go_wp2
      go_ret
      exact ⟨_, rfl, HA.out ▸ HO.out, hb⟩
end Go.Proofs.YthhpblchiodahaaGreatDoor

/- The document's text: which texts may be said. -/
namespace Go.Proofs.YthhpblchiodahaaGreatDoor
open Go.RowKit

theorem cellsS_get (l : List Sg) (j : Nat) (x : Sg) (h : l[j]? = some x) : (cellsS l)[j * 4 + 2]? = some (.int .i64 x.2.2.1) ∧ (cellsS l)[j * 4 + 3]? = some (.bool x.2.2.2) := by
  induction l generalizing j with
  | nil => simp at h
  | cons a t ih =>
    cases j with
    | zero => simp at h; subst h; simp [cellsS]
    | succ j =>
      have h' : t[j]? = some x := by simpa using h
      obtain ⟨h1, h2⟩ := ih j h'
      have e : ∀ q, (cellsS (a :: t))[(j + 1) * 4 + q]? = (cellsS t)[j * 4 + q]? := fun q => by
        rw [show (j + 1) * 4 + q = (j * 4 + q) + 4 by omega]
        simp [cellsS]
      exact ⟨(e 2).trans h1, (e 3).trans h2⟩
theorem signs_own {W : World} {base : Nat} {v : Value} {l : List Sg} (h : OwnS W base v l) : ∃ ao cap, v = .slice ao l.length cap ∧ ∀ (j : Nat) (x : Sg), l[j]? = some x → ∃ g, ao = some ⟨g, 0, none⟩ ∧ W.cell? ⟨g, j * 4 + 2, none⟩ = some (.int .i64 x.2.2.1) ∧ W.cell? ⟨g, j * 4 + 3, none⟩ = some (.bool x.2.2.2) := by
  obtain ⟨h1, h2⟩ := id h
  rcases h2 with ⟨rfl, h0⟩ | ⟨g, cap, cur, hv, hg, hh, r1, r2, r3⟩
  · have : l = [] := by simpa using h0
    subst this
    exact ⟨none, 0, rfl, fun j x hx => by simp at hx⟩
  · refine ⟨_, cap, hv, fun j x hx => ?_⟩
    obtain ⟨g2, g3⟩ := cellsS_get l j x hx
    have c2 := World.ownsRow.cells h (g := g) (by rw [hv]; rfl) (j * 4 + 2) _ g2
    have c3 := World.ownsRow.cells h (g := g) (by rw [hv]; rfl) (j * 4 + 3) _ g3
    exact ⟨g, rfl, by simpa [Addr.add_lit] using c2, by simpa [Addr.add_lit] using c3⟩
def brkS (x : Sg) : Bool := x.2.2.2
def badN (x : Sg) : Bool := decide (x.2.2.1 < 32) || (decide (127 ≤ x.2.2.1) && decide (x.2.2.1 ≤ 159))
def blankD (s : ByteArray) : Bool := s.size == 0 || ((s.get! 0).toNat == 32 || (s.get! (s.size - 1)).toNat == 32)
def refChk (s : ByteArray) : Int := if 200 < s.size then 3 else if (signsL s).any brkS then 130 else if (signsL s).any badN then 131 else if blankD s then 132 else 0
theorem any_true {l : List Sg} {f : Sg → Bool} {j : Nat} {x : Sg} (h : l[j]? = some x) (hf : f x = true) : l.any f = true := List.any_eq_true.2 ⟨x, List.mem_of_getElem? h, hf⟩
theorem any_false {l : List Sg} {f : Sg → Bool} (h : ∀ j x, j < l.length → l[j]? = some x → f x = false) : l.any f = false := by
  rw [List.any_eq_false]
  intro x hx
  obtain ⟨j, hj, rfl⟩ := List.getElem_of_mem hx
  rw [h j _ hj (List.getElem?_eq_getElem hj)]
  simp
theorem signsFrom_len (s : ByteArray) : ∀ k i, (signsFrom s k i).length ≤ s.size - i
  | 0, i => by simp [signsFrom]
  | k + 1, i => by
    unfold signsFrom
    split
    · rename_i h
      obtain ⟨d1, d2, -, -⟩ := dec_bd s i h
      have := signsFrom_len s k (i + (Utf8.decode s i).2)
      simp only [List.length_cons]
      omega
    · simp
set_option maxRecDepth 100000 in
set_option maxHeartbeats 2000000 in
theorem refCheck3_any (s : ByteArray) (hs : s.size ≤ 9223372036854775807) (w : World) : Calls Tryz.prog 126 #[.string s] w fun e w' => e = .returned (.int .i64 (refChk s)) ∧ Below w.heap.size w w' := by
  by_cases h200 : 200 < s.size
  · have hI : (200 : Int) < (s.size : Int) := by omega
    rw [show refChk s = 3 by simp [refChk, h200]]
    go_enter Tryz.func126, Tryz.ntmps126
    go_wp2
    go_ret
    exact ⟨rfl, Below.refl _ _⟩
  · have hI : ¬ (200 : Int) < (s.size : Int) := by omega
    obtain ⟨l, hl⟩ : ∃ l, signsL s = l := ⟨_, rfl⟩
    have cS := signs_any s (by omega) w
    have hll : l.length ≤ s.size := by rw [← hl]; exact signsFrom_len s s.size 0
    rw [hl] at cS
    have hR : refChk s = if l.any brkS then 130 else if l.any badN then 131 else if blankD s then 132 else 0 := by unfold refChk; rw [if_neg h200, hl]
    rw [hR]
    clear hR hl
    obtain ⟨n, hn⟩ : ∃ n, l.length = n := ⟨_, rfl⟩
    have hn200 : n ≤ 200 := by omega
    cases hbr : l.any brkS
    · rw [if_neg (by simp)]
      cases hbn : l.any badN
      · rw [if_neg (by simp)]
        by_cases hz : s.size = 0
        · rw [if_pos (by unfold blankD; simp [hz])]
          have he : s = ByteArray.empty := ByteArray.size_eq_zero_iff.1 hz
          have HE := Lib.hid he
          clear he
          clear hz
          go_enter Tryz.func126, Tryz.ntmps126
          go_wp2_with fail
          refine (cS).mono ?_
          rintro e w1 ⟨v, rfl, hown, b1⟩
          obtain ⟨ao, cap, rfl, hcells⟩ := signs_own hown
          clear hown cS
          have HC := Lib.hid hcells
          clear hcells
          rw [hn]
          go_wp2_with fail
          go_loopw [4] (fun i wr => ∃ j : Nat, j ≤ n ∧ i = .int .i64 j ∧ wr = w1 ∧ Hid (∀ k x, k < j → l[k]? = some x → brkS x = false)) (fun i _ => n - (intOf i).toNat)
          case atStart => exact ⟨0, by omega, rfl, rfl, Lib.hid (fun k x h => absurd h (Nat.not_lt_zero _))⟩
          case' round =>
            obtain ⟨j, hj, rfl, hw1, hA⟩ := hrel
            subst hw1
          by_cases hlt : j < n
          ·
            obtain ⟨x, hx⟩ : ∃ x, l[j]? = some x := ⟨_, List.getElem?_eq_getElem (by omega)⟩
            obtain ⟨g, rfl, c2, c3⟩ := HC.out j x hx
            have hj0 : (0 : Int) ≤ (j : Int) := by omega
            have hj1 : (j : Int) < (n : Int) := by omega
            have hj4 : (j : Int) < 1000000000 := by omega
            cases hb : x.2.2.2
            · rw [hb] at c3
              have hA2 : Hid (∀ k y, k < j + 1 → l[k]? = some y → brkS y = false) := Lib.hid (fun k y hk hy => by
                by_cases e : k = j
                · subst e; rw [hx] at hy; cases hy; exact hb
                · exact hA.out k y (by omega) hy)
              clear hA c2
              go_wp2_with fail
              go_roundw
              case rel => exact ⟨j + 1, by omega, by go_num, by first | rfl | trivial, hA2⟩
              case measure => simp [intOf]; omega
            · exfalso
              have := any_true (f := brkS) hx hb
              rw [this] at hbr
              cases hbr
          ·
            obtain rfl : j = n := by omega
            clear hA hbr
            go_wp2_with fail
            go_loopw [5] (fun i w2 => ∃ q : Nat, q ≤ j ∧ i = .int .i64 q ∧ w2 = wr ∧ Hid (∀ k x, k < q → l[k]? = some x → badN x = false)) (fun i _ => j - (intOf i).toNat)
            case atStart => exact ⟨0, by omega, rfl, rfl, Lib.hid (fun k x h => absurd h (Nat.not_lt_zero _))⟩
            case' round =>
              obtain ⟨q, hq, rfl, hw2, hB⟩ := hrel
              subst hw2
            by_cases hltq : q < j
            ·
              obtain ⟨x, hx⟩ : ∃ x, l[q]? = some x := ⟨_, List.getElem?_eq_getElem (by omega)⟩
              obtain ⟨g, rfl, c2, c3⟩ := HC.out q x hx
              have hj0 : (0 : Int) ≤ (q : Int) := by omega
              have hj1 : (q : Int) < (j : Int) := by omega
              have hj4 : (q : Int) < 1000000000 := by omega
              obtain ⟨m, hm⟩ : ∃ m, x.2.2.1 = m := ⟨_, rfl⟩
              rw [hm] at c2
              have hbm : badN x = (decide (m < 32) || (decide (127 ≤ m) && decide (m ≤ 159))) := by rw [← hm]; rfl
              clear hm
              by_cases m1 : m < 32
              · exfalso
                rw [any_true (f := badN) hx (by rw [hbm]; simp [m1])] at hbn
                cases hbn
              · have m1' : ¬ (m : Int) < 32 := by omega
                by_cases m2 : 127 ≤ m
                · have m2' : (127 : Int) ≤ (m : Int) := by omega
                  by_cases m3 : m ≤ 159
                  · exfalso
                    rw [any_true (f := badN) hx (by rw [hbm]; simp [m2, m3])] at hbn
                    cases hbn
                  · have m3' : ¬ (m : Int) ≤ 159 := by omega
                    have hb : badN x = false := by rw [hbm]; simp [m1, m3]
                    have hB2 : Hid (∀ k y, k < q + 1 → l[k]? = some y → badN y = false) := Lib.hid (fun k y hk hy => by
                      by_cases e : k = q
                      · subst e; rw [hx] at hy; cases hy; exact hb
                      · exact hB.out k y (by omega) hy)
                    clear hB c3 hb
                    go_wp2_with fail
                    go_roundw
                    case rel => exact ⟨q + 1, by omega, by go_num, by first | rfl | trivial, hB2⟩
                    case measure => simp [intOf]; omega
                · have m2' : ¬ (127 : Int) ≤ (m : Int) := by omega
                  have hb : badN x = false := by rw [hbm]; simp [m1, m2]
                  have hB2 : Hid (∀ k y, k < q + 1 → l[k]? = some y → badN y = false) := Lib.hid (fun k y hk hy => by
                    by_cases e : k = q
                    · subst e; rw [hx] at hy; cases hy; exact hb
                    · exact hB.out k y (by omega) hy)
                  clear hB c3 hb
                  go_wp2_with fail
                  go_roundw
                  case rel => exact ⟨q + 1, by omega, by go_num, by first | rfl | trivial, hB2⟩
                  case measure => simp [intOf]; omega
            · obtain rfl : q = j := by omega
              clear hB hbn HC
              have he := HE.out
              go_wp2_with fail
              go_ret
              exact ⟨rfl, b1⟩
        · have he : ¬ s = ByteArray.empty := fun e => hz (by rw [e]; rfl)
          have hz0 : 0 < s.size := by omega
          have hzI : (0 : Int) < (s.size : Int) := by omega
          obtain ⟨b0, hb0⟩ : ∃ b0, (s.get! 0).toNat = b0 := ⟨_, rfl⟩
          obtain ⟨bl, hbl⟩ : ∃ bl, (s.get! (s.size - 1)).toNat = bl := ⟨_, rfl⟩
          have g0 : (s[0]'hz0).toNat = b0 := by rw [get_eq]; exact hb0
          obtain ⟨m1, hm1⟩ : ∃ m1, s.size - 1 = m1 := ⟨_, rfl⟩
          have hml : m1 < s.size := by omega
          have gl : (s[m1]'hml).toNat = bl := by rw [get_eq, ← hm1]; exact hbl
          have hmI : (s.size : Int) - 1 = (m1 : Int) := by omega
          have hm0 : (0 : Int) ≤ (m1 : Int) := by omega
          have hmL : (m1 : Int) < (s.size : Int) := by omega
          have hbk : blankD s = (b0 == 32 || bl == 32) := by unfold blankD; rw [hb0, hbl]; simp [hz]
          rw [hbk]
          clear hbk hb0 hbl hm1 hz
          have HF := Lib.hid (show ¬ s = ByteArray.empty ∧ (0 : Int) < (s.size : Int) ∧ (s[0]'hz0).toNat = b0 ∧ (s[m1]'hml).toNat = bl ∧ (s.size : Int) - 1 = (m1 : Int) ∧ (0 : Int) ≤ (m1 : Int) ∧ (m1 : Int) < (s.size : Int) from ⟨he, hzI, g0, gl, hmI, hm0, hmL⟩)
          clear he hzI g0 gl hmI hm0 hmL
          by_cases k0 : b0 = 32
          · subst k0
            rw [if_pos (by simp)]
            go_enter Tryz.func126, Tryz.ntmps126
            go_wp2_with fail
            refine (cS).mono ?_
            rintro e w1 ⟨v, rfl, hown, b1⟩
            obtain ⟨ao, cap, rfl, hcells⟩ := signs_own hown
            clear hown cS
            have HC := Lib.hid hcells
            clear hcells
            rw [hn]
            go_wp2_with fail
            go_loopw [4] (fun i wr => ∃ j : Nat, j ≤ n ∧ i = .int .i64 j ∧ wr = w1 ∧ Hid (∀ k x, k < j → l[k]? = some x → brkS x = false)) (fun i _ => n - (intOf i).toNat)
            case atStart => exact ⟨0, by omega, rfl, rfl, Lib.hid (fun k x h => absurd h (Nat.not_lt_zero _))⟩
            case' round =>
              obtain ⟨j, hj, rfl, hw1, hA⟩ := hrel
              subst hw1
            by_cases hlt : j < n
            ·
              obtain ⟨x, hx⟩ : ∃ x, l[j]? = some x := ⟨_, List.getElem?_eq_getElem (by omega)⟩
              obtain ⟨g, rfl, c2, c3⟩ := HC.out j x hx
              have hj0 : (0 : Int) ≤ (j : Int) := by omega
              have hj1 : (j : Int) < (n : Int) := by omega
              have hj4 : (j : Int) < 1000000000 := by omega
              cases hb : x.2.2.2
              · rw [hb] at c3
                have hA2 : Hid (∀ k y, k < j + 1 → l[k]? = some y → brkS y = false) := Lib.hid (fun k y hk hy => by
                  by_cases e : k = j
                  · subst e; rw [hx] at hy; cases hy; exact hb
                  · exact hA.out k y (by omega) hy)
                clear hA c2
                go_wp2_with fail
                go_roundw
                case rel => exact ⟨j + 1, by omega, by go_num, by first | rfl | trivial, hA2⟩
                case measure => simp [intOf]; omega
              · exfalso
                have := any_true (f := brkS) hx hb
                rw [this] at hbr
                cases hbr
            ·
              obtain rfl : j = n := by omega
              clear hA hbr
              go_wp2_with fail
              go_loopw [5] (fun i w2 => ∃ q : Nat, q ≤ j ∧ i = .int .i64 q ∧ w2 = wr ∧ Hid (∀ k x, k < q → l[k]? = some x → badN x = false)) (fun i _ => j - (intOf i).toNat)
              case atStart => exact ⟨0, by omega, rfl, rfl, Lib.hid (fun k x h => absurd h (Nat.not_lt_zero _))⟩
              case' round =>
                obtain ⟨q, hq, rfl, hw2, hB⟩ := hrel
                subst hw2
              by_cases hltq : q < j
              ·
                obtain ⟨x, hx⟩ : ∃ x, l[q]? = some x := ⟨_, List.getElem?_eq_getElem (by omega)⟩
                obtain ⟨g, rfl, c2, c3⟩ := HC.out q x hx
                have hj0 : (0 : Int) ≤ (q : Int) := by omega
                have hj1 : (q : Int) < (j : Int) := by omega
                have hj4 : (q : Int) < 1000000000 := by omega
                obtain ⟨m, hm⟩ : ∃ m, x.2.2.1 = m := ⟨_, rfl⟩
                rw [hm] at c2
                have hbm : badN x = (decide (m < 32) || (decide (127 ≤ m) && decide (m ≤ 159))) := by rw [← hm]; rfl
                clear hm
                by_cases m1 : m < 32
                · exfalso
                  rw [any_true (f := badN) hx (by rw [hbm]; simp [m1])] at hbn
                  cases hbn
                · have m1' : ¬ (m : Int) < 32 := by omega
                  by_cases m2 : 127 ≤ m
                  · have m2' : (127 : Int) ≤ (m : Int) := by omega
                    by_cases m3 : m ≤ 159
                    · exfalso
                      rw [any_true (f := badN) hx (by rw [hbm]; simp [m2, m3])] at hbn
                      cases hbn
                    · have m3' : ¬ (m : Int) ≤ 159 := by omega
                      have hb : badN x = false := by rw [hbm]; simp [m1, m3]
                      have hB2 : Hid (∀ k y, k < q + 1 → l[k]? = some y → badN y = false) := Lib.hid (fun k y hk hy => by
                        by_cases e : k = q
                        · subst e; rw [hx] at hy; cases hy; exact hb
                        · exact hB.out k y (by omega) hy)
                      clear hB c3 hb
                      go_wp2_with fail
                      go_roundw
                      case rel => exact ⟨q + 1, by omega, by go_num, by first | rfl | trivial, hB2⟩
                      case measure => simp [intOf]; omega
                  · have m2' : ¬ (127 : Int) ≤ (m : Int) := by omega
                    have hb : badN x = false := by rw [hbm]; simp [m1, m2]
                    have hB2 : Hid (∀ k y, k < q + 1 → l[k]? = some y → badN y = false) := Lib.hid (fun k y hk hy => by
                      by_cases e : k = q
                      · subst e; rw [hx] at hy; cases hy; exact hb
                      · exact hB.out k y (by omega) hy)
                    clear hB c3 hb
                    go_wp2_with fail
                    go_roundw
                    case rel => exact ⟨q + 1, by omega, by go_num, by first | rfl | trivial, hB2⟩
                    case measure => simp [intOf]; omega
              · obtain rfl : q = j := by omega
                clear hB hbn HC
                obtain ⟨he, hzI, g0, gl, hmI, hm0, hmL⟩ := HF.out
                go_wp2_with fail
                go_ret
                exact ⟨rfl, b1⟩
          · have K0 := Lib.hid (show ¬ (b0 : Int) = 32 by omega)
            by_cases kl : bl = 32
            · subst kl
              rw [if_pos (by simp)]
              clear k0
              go_enter Tryz.func126, Tryz.ntmps126
              go_wp2_with fail
              refine (cS).mono ?_
              rintro e w1 ⟨v, rfl, hown, b1⟩
              obtain ⟨ao, cap, rfl, hcells⟩ := signs_own hown
              clear hown cS
              have HC := Lib.hid hcells
              clear hcells
              rw [hn]
              go_wp2_with fail
              go_loopw [4] (fun i wr => ∃ j : Nat, j ≤ n ∧ i = .int .i64 j ∧ wr = w1 ∧ Hid (∀ k x, k < j → l[k]? = some x → brkS x = false)) (fun i _ => n - (intOf i).toNat)
              case atStart => exact ⟨0, by omega, rfl, rfl, Lib.hid (fun k x h => absurd h (Nat.not_lt_zero _))⟩
              case' round =>
                obtain ⟨j, hj, rfl, hw1, hA⟩ := hrel
                subst hw1
              by_cases hlt : j < n
              ·
                obtain ⟨x, hx⟩ : ∃ x, l[j]? = some x := ⟨_, List.getElem?_eq_getElem (by omega)⟩
                obtain ⟨g, rfl, c2, c3⟩ := HC.out j x hx
                have hj0 : (0 : Int) ≤ (j : Int) := by omega
                have hj1 : (j : Int) < (n : Int) := by omega
                have hj4 : (j : Int) < 1000000000 := by omega
                cases hb : x.2.2.2
                · rw [hb] at c3
                  have hA2 : Hid (∀ k y, k < j + 1 → l[k]? = some y → brkS y = false) := Lib.hid (fun k y hk hy => by
                    by_cases e : k = j
                    · subst e; rw [hx] at hy; cases hy; exact hb
                    · exact hA.out k y (by omega) hy)
                  clear hA c2
                  go_wp2_with fail
                  go_roundw
                  case rel => exact ⟨j + 1, by omega, by go_num, by first | rfl | trivial, hA2⟩
                  case measure => simp [intOf]; omega
                · exfalso
                  have := any_true (f := brkS) hx hb
                  rw [this] at hbr
                  cases hbr
              ·
                obtain rfl : j = n := by omega
                clear hA hbr
                go_wp2_with fail
                go_loopw [5] (fun i w2 => ∃ q : Nat, q ≤ j ∧ i = .int .i64 q ∧ w2 = wr ∧ Hid (∀ k x, k < q → l[k]? = some x → badN x = false)) (fun i _ => j - (intOf i).toNat)
                case atStart => exact ⟨0, by omega, rfl, rfl, Lib.hid (fun k x h => absurd h (Nat.not_lt_zero _))⟩
                case' round =>
                  obtain ⟨q, hq, rfl, hw2, hB⟩ := hrel
                  subst hw2
                by_cases hltq : q < j
                ·
                  obtain ⟨x, hx⟩ : ∃ x, l[q]? = some x := ⟨_, List.getElem?_eq_getElem (by omega)⟩
                  obtain ⟨g, rfl, c2, c3⟩ := HC.out q x hx
                  have hj0 : (0 : Int) ≤ (q : Int) := by omega
                  have hj1 : (q : Int) < (j : Int) := by omega
                  have hj4 : (q : Int) < 1000000000 := by omega
                  obtain ⟨m, hm⟩ : ∃ m, x.2.2.1 = m := ⟨_, rfl⟩
                  rw [hm] at c2
                  have hbm : badN x = (decide (m < 32) || (decide (127 ≤ m) && decide (m ≤ 159))) := by rw [← hm]; rfl
                  clear hm
                  by_cases m1 : m < 32
                  · exfalso
                    rw [any_true (f := badN) hx (by rw [hbm]; simp [m1])] at hbn
                    cases hbn
                  · have m1' : ¬ (m : Int) < 32 := by omega
                    by_cases m2 : 127 ≤ m
                    · have m2' : (127 : Int) ≤ (m : Int) := by omega
                      by_cases m3 : m ≤ 159
                      · exfalso
                        rw [any_true (f := badN) hx (by rw [hbm]; simp [m2, m3])] at hbn
                        cases hbn
                      · have m3' : ¬ (m : Int) ≤ 159 := by omega
                        have hb : badN x = false := by rw [hbm]; simp [m1, m3]
                        have hB2 : Hid (∀ k y, k < q + 1 → l[k]? = some y → badN y = false) := Lib.hid (fun k y hk hy => by
                          by_cases e : k = q
                          · subst e; rw [hx] at hy; cases hy; exact hb
                          · exact hB.out k y (by omega) hy)
                        clear hB c3 hb
                        go_wp2_with fail
                        go_roundw
                        case rel => exact ⟨q + 1, by omega, by go_num, by first | rfl | trivial, hB2⟩
                        case measure => simp [intOf]; omega
                    · have m2' : ¬ (127 : Int) ≤ (m : Int) := by omega
                      have hb : badN x = false := by rw [hbm]; simp [m1, m2]
                      have hB2 : Hid (∀ k y, k < q + 1 → l[k]? = some y → badN y = false) := Lib.hid (fun k y hk hy => by
                        by_cases e : k = q
                        · subst e; rw [hx] at hy; cases hy; exact hb
                        · exact hB.out k y (by omega) hy)
                      clear hB c3 hb
                      go_wp2_with fail
                      go_roundw
                      case rel => exact ⟨q + 1, by omega, by go_num, by first | rfl | trivial, hB2⟩
                      case measure => simp [intOf]; omega
                · obtain rfl : q = j := by omega
                  clear hB hbn HC
                  obtain ⟨he, hzI, g0, gl, hmI, hm0, hmL⟩ := HF.out; have k0' := K0.out
                  go_wp2_with fail
                  go_ret
                  exact ⟨rfl, b1⟩
            · have KL := Lib.hid (show ¬ (bl : Int) = 32 ∧ ¬ bl = 32 ∧ ¬ b0 = 32 from ⟨by omega, kl, k0⟩)
              rw [if_neg (by simp [k0, kl])]
              clear k0 kl
              go_enter Tryz.func126, Tryz.ntmps126
              go_wp2_with fail
              refine (cS).mono ?_
              rintro e w1 ⟨v, rfl, hown, b1⟩
              obtain ⟨ao, cap, rfl, hcells⟩ := signs_own hown
              clear hown cS
              have HC := Lib.hid hcells
              clear hcells
              rw [hn]
              go_wp2_with fail
              go_loopw [4] (fun i wr => ∃ j : Nat, j ≤ n ∧ i = .int .i64 j ∧ wr = w1 ∧ Hid (∀ k x, k < j → l[k]? = some x → brkS x = false)) (fun i _ => n - (intOf i).toNat)
              case atStart => exact ⟨0, by omega, rfl, rfl, Lib.hid (fun k x h => absurd h (Nat.not_lt_zero _))⟩
              case' round =>
                obtain ⟨j, hj, rfl, hw1, hA⟩ := hrel
                subst hw1
              by_cases hlt : j < n
              ·
                obtain ⟨x, hx⟩ : ∃ x, l[j]? = some x := ⟨_, List.getElem?_eq_getElem (by omega)⟩
                obtain ⟨g, rfl, c2, c3⟩ := HC.out j x hx
                have hj0 : (0 : Int) ≤ (j : Int) := by omega
                have hj1 : (j : Int) < (n : Int) := by omega
                have hj4 : (j : Int) < 1000000000 := by omega
                cases hb : x.2.2.2
                · rw [hb] at c3
                  have hA2 : Hid (∀ k y, k < j + 1 → l[k]? = some y → brkS y = false) := Lib.hid (fun k y hk hy => by
                    by_cases e : k = j
                    · subst e; rw [hx] at hy; cases hy; exact hb
                    · exact hA.out k y (by omega) hy)
                  clear hA c2
                  go_wp2_with fail
                  go_roundw
                  case rel => exact ⟨j + 1, by omega, by go_num, by first | rfl | trivial, hA2⟩
                  case measure => simp [intOf]; omega
                · exfalso
                  have := any_true (f := brkS) hx hb
                  rw [this] at hbr
                  cases hbr
              ·
                obtain rfl : j = n := by omega
                clear hA hbr
                go_wp2_with fail
                go_loopw [5] (fun i w2 => ∃ q : Nat, q ≤ j ∧ i = .int .i64 q ∧ w2 = wr ∧ Hid (∀ k x, k < q → l[k]? = some x → badN x = false)) (fun i _ => j - (intOf i).toNat)
                case atStart => exact ⟨0, by omega, rfl, rfl, Lib.hid (fun k x h => absurd h (Nat.not_lt_zero _))⟩
                case' round =>
                  obtain ⟨q, hq, rfl, hw2, hB⟩ := hrel
                  subst hw2
                by_cases hltq : q < j
                ·
                  obtain ⟨x, hx⟩ : ∃ x, l[q]? = some x := ⟨_, List.getElem?_eq_getElem (by omega)⟩
                  obtain ⟨g, rfl, c2, c3⟩ := HC.out q x hx
                  have hj0 : (0 : Int) ≤ (q : Int) := by omega
                  have hj1 : (q : Int) < (j : Int) := by omega
                  have hj4 : (q : Int) < 1000000000 := by omega
                  obtain ⟨m, hm⟩ : ∃ m, x.2.2.1 = m := ⟨_, rfl⟩
                  rw [hm] at c2
                  have hbm : badN x = (decide (m < 32) || (decide (127 ≤ m) && decide (m ≤ 159))) := by rw [← hm]; rfl
                  clear hm
                  by_cases m1 : m < 32
                  · exfalso
                    rw [any_true (f := badN) hx (by rw [hbm]; simp [m1])] at hbn
                    cases hbn
                  · have m1' : ¬ (m : Int) < 32 := by omega
                    by_cases m2 : 127 ≤ m
                    · have m2' : (127 : Int) ≤ (m : Int) := by omega
                      by_cases m3 : m ≤ 159
                      · exfalso
                        rw [any_true (f := badN) hx (by rw [hbm]; simp [m2, m3])] at hbn
                        cases hbn
                      · have m3' : ¬ (m : Int) ≤ 159 := by omega
                        have hb : badN x = false := by rw [hbm]; simp [m1, m3]
                        have hB2 : Hid (∀ k y, k < q + 1 → l[k]? = some y → badN y = false) := Lib.hid (fun k y hk hy => by
                          by_cases e : k = q
                          · subst e; rw [hx] at hy; cases hy; exact hb
                          · exact hB.out k y (by omega) hy)
                        clear hB c3 hb
                        go_wp2_with fail
                        go_roundw
                        case rel => exact ⟨q + 1, by omega, by go_num, by first | rfl | trivial, hB2⟩
                        case measure => simp [intOf]; omega
                    · have m2' : ¬ (127 : Int) ≤ (m : Int) := by omega
                      have hb : badN x = false := by rw [hbm]; simp [m1, m2]
                      have hB2 : Hid (∀ k y, k < q + 1 → l[k]? = some y → badN y = false) := Lib.hid (fun k y hk hy => by
                        by_cases e : k = q
                        · subst e; rw [hx] at hy; cases hy; exact hb
                        · exact hB.out k y (by omega) hy)
                      clear hB c3 hb
                      go_wp2_with fail
                      go_roundw
                      case rel => exact ⟨q + 1, by omega, by go_num, by first | rfl | trivial, hB2⟩
                      case measure => simp [intOf]; omega
                · obtain rfl : q = j := by omega
                  clear hB hbn HC
                  obtain ⟨he, hzI, g0, gl, hmI, hm0, hmL⟩ := HF.out; have k0' := K0.out; obtain ⟨kl', kl, k0⟩ := KL.out; have y1 : ((b0 : Int) == 32) = false := (by rw [beq_eq_false_iff_ne]; exact k0'); have y2 : ((bl : Int) == 32) = false := (by rw [beq_eq_false_iff_ne]; exact kl'); have y3 : ((s.size : Int) == 0) = false := (by rw [beq_eq_false_iff_ne]; omega)
                  go_wp2_with fail
                  go_ret
                  exact ⟨rfl, b1⟩
      · rw [if_pos rfl]
        go_enter Tryz.func126, Tryz.ntmps126
        go_wp2_with fail
        refine (cS).mono ?_
        rintro e w1 ⟨v, rfl, hown, b1⟩
        obtain ⟨ao, cap, rfl, hcells⟩ := signs_own hown
        clear hown cS
        have HC := Lib.hid hcells
        clear hcells
        rw [hn]
        go_wp2_with fail
        go_loopw [4] (fun i wr => ∃ j : Nat, j ≤ n ∧ i = .int .i64 j ∧ wr = w1 ∧ Hid (∀ k x, k < j → l[k]? = some x → brkS x = false)) (fun i _ => n - (intOf i).toNat)
        case atStart => exact ⟨0, by omega, rfl, rfl, Lib.hid (fun k x h => absurd h (Nat.not_lt_zero _))⟩
        case' round =>
          obtain ⟨j, hj, rfl, hw1, hA⟩ := hrel
          subst hw1
        by_cases hlt : j < n
        ·
          obtain ⟨x, hx⟩ : ∃ x, l[j]? = some x := ⟨_, List.getElem?_eq_getElem (by omega)⟩
          obtain ⟨g, rfl, c2, c3⟩ := HC.out j x hx
          have hj0 : (0 : Int) ≤ (j : Int) := by omega
          have hj1 : (j : Int) < (n : Int) := by omega
          have hj4 : (j : Int) < 1000000000 := by omega
          cases hb : x.2.2.2
          · rw [hb] at c3
            have hA2 : Hid (∀ k y, k < j + 1 → l[k]? = some y → brkS y = false) := Lib.hid (fun k y hk hy => by
              by_cases e : k = j
              · subst e; rw [hx] at hy; cases hy; exact hb
              · exact hA.out k y (by omega) hy)
            clear hA c2
            go_wp2_with fail
            go_roundw
            case rel => exact ⟨j + 1, by omega, by go_num, by first | rfl | trivial, hA2⟩
            case measure => simp [intOf]; omega
          · exfalso
            have := any_true (f := brkS) hx hb
            rw [this] at hbr
            cases hbr
        ·
          obtain rfl : j = n := by omega
          clear hA hbr
          go_wp2_with fail
          go_loopw [5] (fun i w2 => ∃ q : Nat, q ≤ j ∧ i = .int .i64 q ∧ w2 = wr ∧ Hid (∀ k x, k < q → l[k]? = some x → badN x = false)) (fun i _ => j - (intOf i).toNat)
          case atStart => exact ⟨0, by omega, rfl, rfl, Lib.hid (fun k x h => absurd h (Nat.not_lt_zero _))⟩
          case' round =>
            obtain ⟨q, hq, rfl, hw2, hB⟩ := hrel
            subst hw2
          by_cases hltq : q < j
          ·
            obtain ⟨x, hx⟩ : ∃ x, l[q]? = some x := ⟨_, List.getElem?_eq_getElem (by omega)⟩
            obtain ⟨g, rfl, c2, c3⟩ := HC.out q x hx
            have hj0 : (0 : Int) ≤ (q : Int) := by omega
            have hj1 : (q : Int) < (j : Int) := by omega
            have hj4 : (q : Int) < 1000000000 := by omega
            obtain ⟨m, hm⟩ : ∃ m, x.2.2.1 = m := ⟨_, rfl⟩
            rw [hm] at c2
            have hbm : badN x = (decide (m < 32) || (decide (127 ≤ m) && decide (m ≤ 159))) := by rw [← hm]; rfl
            clear hm
            by_cases m1 : m < 32
            · have m1' : (m : Int) < 32 := by omega
              go_wp2
              go_ret
              exact ⟨rfl, b1⟩
            · have m1' : ¬ (m : Int) < 32 := by omega
              by_cases m2 : 127 ≤ m
              · have m2' : (127 : Int) ≤ (m : Int) := by omega
                by_cases m3 : m ≤ 159
                · have m3' : (m : Int) ≤ 159 := by omega
                  go_wp2
                  go_ret
                  exact ⟨rfl, b1⟩
                · have m3' : ¬ (m : Int) ≤ 159 := by omega
                  have hb : badN x = false := by rw [hbm]; simp [m1, m3]
                  have hB2 : Hid (∀ k y, k < q + 1 → l[k]? = some y → badN y = false) := Lib.hid (fun k y hk hy => by
                    by_cases e : k = q
                    · subst e; rw [hx] at hy; cases hy; exact hb
                    · exact hB.out k y (by omega) hy)
                  clear hB c3 hb
                  go_wp2_with fail
                  go_roundw
                  case rel => exact ⟨q + 1, by omega, by go_num, by first | rfl | trivial, hB2⟩
                  case measure => simp [intOf]; omega
              · have m2' : ¬ (127 : Int) ≤ (m : Int) := by omega
                have hb : badN x = false := by rw [hbm]; simp [m1, m2]
                have hB2 : Hid (∀ k y, k < q + 1 → l[k]? = some y → badN y = false) := Lib.hid (fun k y hk hy => by
                  by_cases e : k = q
                  · subst e; rw [hx] at hy; cases hy; exact hb
                  · exact hB.out k y (by omega) hy)
                clear hB c3 hb
                go_wp2_with fail
                go_roundw
                case rel => exact ⟨q + 1, by omega, by go_num, by first | rfl | trivial, hB2⟩
                case measure => simp [intOf]; omega
          · exfalso
            rw [any_false (fun k y hk hy => hB.out k y (by omega) hy)] at hbn
            cases hbn
    · rw [if_pos rfl]
      go_enter Tryz.func126, Tryz.ntmps126
      go_wp2_with fail
      refine (cS).mono ?_
      rintro e w1 ⟨v, rfl, hown, b1⟩
      obtain ⟨ao, cap, rfl, hcells⟩ := signs_own hown
      clear hown cS
      have HC := Lib.hid hcells
      clear hcells
      rw [hn]
      go_wp2_with fail
      go_loopw [4] (fun i wr => ∃ j : Nat, j ≤ n ∧ i = .int .i64 j ∧ wr = w1 ∧ Hid (∀ k x, k < j → l[k]? = some x → brkS x = false)) (fun i _ => n - (intOf i).toNat)
      case atStart => exact ⟨0, by omega, rfl, rfl, Lib.hid (fun k x h => absurd h (Nat.not_lt_zero _))⟩
      case' round =>
        obtain ⟨j, hj, rfl, hw1, hA⟩ := hrel
        subst hw1
      by_cases hlt : j < n
      ·
        obtain ⟨x, hx⟩ : ∃ x, l[j]? = some x := ⟨_, List.getElem?_eq_getElem (by omega)⟩
        obtain ⟨g, rfl, c2, c3⟩ := HC.out j x hx
        have hj0 : (0 : Int) ≤ (j : Int) := by omega
        have hj1 : (j : Int) < (n : Int) := by omega
        have hj4 : (j : Int) < 1000000000 := by omega
        cases hb : x.2.2.2
        · rw [hb] at c3
          have hA2 : Hid (∀ k y, k < j + 1 → l[k]? = some y → brkS y = false) := Lib.hid (fun k y hk hy => by
            by_cases e : k = j
            · subst e; rw [hx] at hy; cases hy; exact hb
            · exact hA.out k y (by omega) hy)
          clear hA c2
          go_wp2_with fail
          go_roundw
          case rel => exact ⟨j + 1, by omega, by go_num, by first | rfl | trivial, hA2⟩
          case measure => simp [intOf]; omega
        · rw [hb] at c3
          clear hA c2
          go_wp2
          go_ret
          exact ⟨rfl, b1⟩
      · exfalso
        rw [any_false (fun k y hk hy => hA.out k y (by omega) hy)] at hbr
        cases hbr
end Go.Proofs.YthhpblchiodahaaGreatDoor
