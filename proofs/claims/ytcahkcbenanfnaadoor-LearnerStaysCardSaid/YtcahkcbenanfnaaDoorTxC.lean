
/- The document's text: one sign. -/
import Derived.Test.YtcahkcbenanfnaaDoorTxA
import Derived.Deep.Cut
import Derived.Lib.Walk
import Derived.Lib.DecodeN
import Derived.Handy
namespace Go.Proofs.YtcahkcbenanfnaaDoor
set_option linter.unusedSimpArgs false
set_option linter.unusedVariables false
open Go.RowKit

def moreB (c : Int) : Bool := decide (128 ≤ c) && decide (c < 192)
/-- What the document's sign tells: of a broken byte nothing. -/
def sgn (d : Nat × Nat) : Nat × Nat := if d.1 = 65533 ∧ d.2 = 1 then (0, 0) else d
def signN (n b0 b1 b2 b3 : Nat) : Nat × Nat := sgn (Lib.decodeN n b0 b1 b2 b3)
def T2 (n b0 b1 : Nat) : Prop := 192 ≤ b0 ∧ b0 < 224 ∧ 2 ≤ n ∧ 128 ≤ b1 ∧ b1 < 192
def T3 (n b0 b1 b2 : Nat) : Prop := 224 ≤ b0 ∧ b0 < 240 ∧ 3 ≤ n ∧ (128 ≤ b1 ∧ b1 < 192) ∧ (128 ≤ b2 ∧ b2 < 192)
def T4 (n b0 b1 b2 b3 : Nat) : Prop := 240 ≤ b0 ∧ b0 < 248 ∧ 4 ≤ n ∧ (128 ≤ b1 ∧ b1 < 192) ∧ (128 ≤ b2 ∧ b2 < 192) ∧ (128 ≤ b3 ∧ b3 < 192)
theorem sign_one {n b0 b1 b2 b3 : Nat} (h : b0 < 128) : signN n b0 b1 b2 b3 = (b0, 1) := by
  unfold signN sgn Lib.decodeN
  rw [if_pos h]
  simp; omega
theorem sign_two {n b0 b1 b2 b3 : Nat} (h : T2 n b0 b1) : signN n b0 b1 b2 b3 = if 128 ≤ (b0 - 192) * 64 + b1 - 128 then ((b0 - 192) * 64 + b1 - 128, 2) else (0, 0) := by
  obtain ⟨h1, h2, h3, h4, h5⟩ := h
  unfold signN sgn Lib.decodeN
  rw [if_neg (show ¬ b0 < 128 by omega), if_pos (show b0 / 32 = 6 ∧ (1 < n ∧ b1 / 64 = 2) by omega)]
  have e : b0 % 32 * 64 + b1 % 64 = (b0 - 192) * 64 + b1 - 128 := by omega
  rw [e]
  by_cases h : 128 ≤ (b0 - 192) * 64 + b1 - 128
  · simp [h]
  · simp [h]
theorem sign_three {n b0 b1 b2 b3 : Nat} (h : T3 n b0 b1 b2) : signN n b0 b1 b2 b3 = if 2048 ≤ ((b0 - 224) * 64 + b1 - 128) * 64 + b2 - 128 ∧ (((b0 - 224) * 64 + b1 - 128) * 64 + b2 - 128 < 55296 ∨ 57343 < ((b0 - 224) * 64 + b1 - 128) * 64 + b2 - 128) then (((b0 - 224) * 64 + b1 - 128) * 64 + b2 - 128, 3) else (0, 0) := by
  obtain ⟨h1, h2, h3, ⟨h4, h5⟩, h6, h7⟩ := h
  unfold signN sgn Lib.decodeN
  rw [if_neg (show ¬ b0 < 128 by omega), if_neg (show ¬ (b0 / 32 = 6 ∧ (1 < n ∧ b1 / 64 = 2)) by omega), if_pos (show b0 / 16 = 14 ∧ (1 < n ∧ b1 / 64 = 2) ∧ (2 < n ∧ b2 / 64 = 2) by omega)]
  have e : b0 % 16 * 4096 + b1 % 64 * 64 + b2 % 64 = ((b0 - 224) * 64 + b1 - 128) * 64 + b2 - 128 := by omega
  rw [e]
  have hm : ((b0 - 224) * 64 + b1 - 128) * 64 + b2 - 128 < 65536 := by omega
  clear e
  generalize ((b0 - 224) * 64 + b1 - 128) * 64 + b2 - 128 = m at hm ⊢
  repeat' split
  all_goals first | rfl | (exfalso; omega) | (simp at *; done) | (exfalso; simp at *; omega)
theorem sign_four {n b0 b1 b2 b3 : Nat} (h : T4 n b0 b1 b2 b3) : signN n b0 b1 b2 b3 = if 65536 ≤ (((b0 - 240) * 64 + b1 - 128) * 64 + b2 - 128) * 64 + b3 - 128 ∧ (((b0 - 240) * 64 + b1 - 128) * 64 + b2 - 128) * 64 + b3 - 128 ≤ 1114111 then ((((b0 - 240) * 64 + b1 - 128) * 64 + b2 - 128) * 64 + b3 - 128, 4) else (0, 0) := by
  obtain ⟨h1, h2, h3, ⟨h4, h5⟩, ⟨h6, h7⟩, h8, h9⟩ := h
  unfold signN sgn Lib.decodeN
  rw [if_neg (show ¬ b0 < 128 by omega), if_neg (show ¬ (b0 / 32 = 6 ∧ (1 < n ∧ b1 / 64 = 2)) by omega), if_neg (show ¬ (b0 / 16 = 14 ∧ (1 < n ∧ b1 / 64 = 2) ∧ (2 < n ∧ b2 / 64 = 2)) by omega), if_pos (show b0 / 8 = 30 ∧ (1 < n ∧ b1 / 64 = 2) ∧ (2 < n ∧ b2 / 64 = 2) ∧ (3 < n ∧ b3 / 64 = 2) by omega)]
  have e : b0 % 8 * 262144 + b1 % 64 * 4096 + b2 % 64 * 64 + b3 % 64 = (((b0 - 240) * 64 + b1 - 128) * 64 + b2 - 128) * 64 + b3 - 128 := by omega
  rw [e]
  generalize (((b0 - 240) * 64 + b1 - 128) * 64 + b2 - 128) * 64 + b3 - 128 = m
  repeat' split
  all_goals first | rfl | (exfalso; omega) | (simp at *; done) | (exfalso; simp at *; omega)
theorem sign_none {n b0 b1 b2 b3 : Nat} (h0 : ¬ b0 < 128) (h2 : ¬ T2 n b0 b1) (h3 : ¬ T3 n b0 b1 b2) (h4 : ¬ T4 n b0 b1 b2 b3) (hb : b0 < 256 ∧ b1 < 256 ∧ b2 < 256 ∧ b3 < 256) : signN n b0 b1 b2 b3 = (0, 0) := by
  unfold T2 at h2
  unfold T3 at h3
  unfold T4 at h4
  unfold signN sgn Lib.decodeN
  rw [if_neg h0, if_neg (show ¬ (b0 / 32 = 6 ∧ (1 < n ∧ b1 / 64 = 2)) by omega), if_neg (show ¬ (b0 / 16 = 14 ∧ (1 < n ∧ b1 / 64 = 2) ∧ (2 < n ∧ b2 / 64 = 2)) by omega), if_neg (show ¬ (b0 / 8 = 30 ∧ (1 < n ∧ b1 / 64 = 2) ∧ (2 < n ∧ b2 / 64 = 2) ∧ (3 < n ∧ b3 / 64 = 2)) by omega)]
  simp
end Go.Proofs.YtcahkcbenanfnaaDoor
