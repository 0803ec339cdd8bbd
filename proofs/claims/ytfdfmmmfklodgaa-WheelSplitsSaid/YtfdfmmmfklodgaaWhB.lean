
/- Package wheel: what a wheel is; none, in, New, Now, Len. -/
import Derived.Test.YtfdfmmmfklodgaaWhA
namespace Go.Proofs.Ytfdfmmmfklodgaa
set_option linter.unusedSimpArgs false
set_option linter.unusedVariables false
open Go.RowKit
def slotF (L : List (Int × Int)) (i : Nat) : List (Int × Int) := L.filter (fun p => p.2 % 64 == (i : Int))
def slotsV (sb : Nat → Option Nat) : List Value := (List.range 64).map (fun i => .map (sb i))
def whL (now : Int) (sb : Nat → Option Nat) (ba : Nat) : List Value := .int .i64 now :: (slotsV sb ++ [.map (some ba)])
/-- A wheel: its clock, the map of all (A), the maps of the slots (F). -/
structure WhT (W : World) (xs : List Nat) (g : Nat) (now : Int) (A : List (Int × Int)) (F : Nat → List (Int × Int)) (sb : Nat → Option Nat) (ba : Nat) : Prop where
  blk : Blk W g 67 (whL now sb ba)
  all : MapF W ba A
  slot : ∀ i, i < 64 → (sb i = none ∧ F i = []) ∨ ∃ b, sb i = some b ∧ MapF W b (F i)
  one : ∀ i j b, i < 64 → j < 64 → sb i = some b → sb j = some b → i = j
  apart : ∀ i, i < 64 → sb i ≠ some ba
  own : g ∈ xs ∧ ba ∈ xs ∧ ∀ i b, i < 64 → sb i = some b → b ∈ xs
  lt : ∀ x, x ∈ xs → x < W.heap.size
/-- A wheel at which L is set. -/
abbrev WhW (W : World) (xs : List Nat) (g : Nat) (now : Int) (L : List (Int × Int)) (sb : Nat → Option Nat) (ba : Nat) : Prop := WhT W xs g now L (slotF L) sb ba
theorem WhT.step {W W' : World} {xs : List Nat} {g : Nat} {now : Int} {A : List (Int × Int)} {F : Nat → List (Int × Int)} {sb : Nat → Option Nat} {ba : Nat} (h : WhT W xs g now A F sb ba) (hb : Below W.heap.size W W') : WhT W' xs g now A F sb ba :=
  ⟨h.blk.step hb, h.all.step hb, fun i hi => (h.slot i hi).imp id (fun ⟨b, e, hm⟩ => ⟨b, e, hm.step hb⟩), h.one, h.apart, h.own, fun x hx => Nat.lt_of_lt_of_le (h.lt x hx) hb.size⟩
theorem WhT.kx {W W' : World} {xs ys : List Nat} {g : Nat} {now : Int} {A : List (Int × Int)} {F : Nat → List (Int × Int)} {sb : Nat → Option Nat} {ba : Nat} (h : WhT W xs g now A F sb ba) (hk : Kx ys W W') (hy : ∀ x, x ∈ xs → x ∉ ys) : WhT W' xs g now A F sb ba :=
  ⟨h.blk.kx hk (hy _ h.own.1), h.all.kx hk (hy _ h.own.2.1), fun i hi => (h.slot i hi).imp id (fun ⟨b, e, hm⟩ => ⟨b, e, hm.kx hk (hy _ (h.own.2.2 i b hi e))⟩), h.one, h.apart, h.own, fun x hx => Nat.lt_of_lt_of_le (h.lt x hx) hk.size⟩
theorem slots_len (sb : Nat → Option Nat) : (slotsV sb).length = 64 := by simp [slotsV]
theorem whL_at {now : Int} {sb : Nat → Option Nat} {ba : Nat} : (whL now sb ba)[65]? = some (.map (some ba)) := by
  unfold whL
  rw [List.getElem?_cons_succ, List.getElem?_append_right (by rw [slots_len]; exact Nat.le_refl _)]
  simp [slots_len]
theorem whL_slot {now : Int} {sb : Nat → Option Nat} {ba : Nat} (i : Nat) (hi : i < 64) : (whL now sb ba)[i + 1]? = some (.map (sb i)) := by
  unfold whL
  rw [List.getElem?_cons_succ, List.getElem?_append_left (by rw [slots_len]; exact hi)]
  simp [slotsV, hi]
theorem WhT.cat {W : World} {xs : List Nat} {g : Nat} {now : Int} {A : List (Int × Int)} {F : Nat → List (Int × Int)} {sb : Nat → Option Nat} {ba : Nat} (h : WhT W xs g now A F sb ba) : W.cell? ⟨g, 65, none⟩ = some (.map (some ba)) := h.blk.cell whL_at
set_option maxRecDepth 100000 in
set_option maxHeartbeats 400000 in
theorem none_wh (xs : List Nat) (g : Nat) (now : Int) (A : List (Int × Int)) (F : Nat → List (Int × Int)) (sb : Nat → Option Nat) (ba : Nat) (w : World) (h : WhT w xs g now A F sb ba) : Calls Try.prog 33 #[.pointer (some ⟨g, 0, none⟩)] w fun e w' => e = .returned (.bool false) ∧ w = w' := by
  have c := h.cat
  have q := fun (W : World) => run_eql_map_nil W 64 2 2 (some ba) Try.underlying64
  simp only [Option.isNone_some] at q
  go_enter Try.func33, Try.ntmps33
  go_wp2
  go_ret
  exact ⟨rfl, rfl⟩
set_option maxRecDepth 100000 in
set_option maxHeartbeats 400000 in
theorem none_wnil (w : World) : Calls Try.prog 33 #[.pointer none] w fun e w' => e = .returned (.bool true) ∧ w = w' := by
  go_enter Try.func33, Try.ntmps33
  go_wp2
  go_ret
  exact ⟨rfl, rfl⟩
def inI (n least : Int) : Bool := decide (least ≤ n) && decide (n ≤ 2147483647)
set_option maxRecDepth 100000 in
set_option maxHeartbeats 400000 in
theorem in_any (n least : Int) (w : World) : Calls Try.prog 34 #[.int .i64 n, .int .i64 least] w fun e w' => e = .returned (.bool (inI n least)) ∧ w = w' := by
  unfold inI
  by_cases h : least ≤ n
  · go_enter Try.func34, Try.ntmps34
    go_wp2
    go_ret
    exact ⟨by simp [h], rfl⟩
  · go_enter Try.func34, Try.ntmps34
    go_wp2
    go_ret
    exact ⟨by have q : decide (least ≤ n) = false := decide_eq_false (Int.not_le.mpr h)
              rw [q]; rfl, rfl⟩
end Go.Proofs.Ytfdfmmmfklodgaa
