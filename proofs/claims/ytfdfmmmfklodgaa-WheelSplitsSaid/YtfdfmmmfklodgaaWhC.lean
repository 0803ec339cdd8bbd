
/- Package wheel: New, Now, Len, slot. -/
import Derived.Test.YtfdfmmmfklodgaaWhB
import Derived.WideMake
namespace Go.Proofs.Ytfdfmmmfklodgaa
set_option linter.unusedSimpArgs false
set_option linter.unusedVariables false
open Go.RowKit
attribute [local go_sem] run_makeMap_plain
theorem Blk.newV {W : World} {g : Nat} (hg : W.heap.size = g) (t : TypeId) (cs : Array Value) : Blk (W.alloc (.cells cs t)) g t cs.toList := hg ▸ World.alloc_heap_new W _
theorem zero_wh (ba : Nat) : (Try.zeroCells67).setIfInBounds 65 (.map (some ba)) = (whL 0 (fun _ => none) ba).toArray := by kernel_rfl
theorem WhW.made (w : World) : WhW ((w.alloc (.map #[] 0)).alloc (.cells (whL 0 (fun _ => none) w.heap.size).toArray 67)) [w.heap.size, w.heap.size + 1] (w.heap.size + 1) 0 [] (fun _ => none) w.heap.size where
  blk := Blk.newV (alloc_size rfl _) _ _
  all := (MapF.made w).step ((Below.refl _ _).alloc (Nat.le_refl _) _)
  slot _ _ := .inl ⟨rfl, rfl⟩
  one _ _ _ _ _ h := by cases h
  apart _ _ h := by cases h
  own := ⟨by simp, by simp, fun _ _ _ h => by cases h⟩
  lt x hx := by
    simp at hx
    have h1 := alloc_size (W := w) rfl (.map #[] 0)
    rw [alloc_size h1]
    omega
set_option maxRecDepth 100000 in
set_option maxHeartbeats 400000 in
theorem new_any (w : World) : Calls Try.prog 11 #[] w fun e w' => (∃ g ba xs, e = .returned (.pointer (some ⟨g, 0, none⟩)) ∧ WhW w' xs g 0 [] (fun _ => none) ba ∧ ∀ x, x ∈ xs → w.heap.size ≤ x) ∧ Below w.heap.size w w' := by
  have q := zero_wh w.heap.size
  have c := WhW.made w
  go_enter Try.func11, Try.ntmps11
  go_wp2
  go_ret
  exact ⟨⟨_, rfl, _, _, c, by simp⟩, ((Below.refl _ _).alloc (Nat.le_refl _) _).alloc (by rw [alloc_size rfl]; exact Nat.le_succ _) _⟩
set_option maxRecDepth 100000 in
set_option maxHeartbeats 400000 in
theorem len_wh (xs : List Nat) (g : Nat) (now : Int) (L : List (Int × Int)) (sb : Nat → Option Nat) (ba : Nat) (w : World) (h : WhW w xs g now L sb ba) : Calls Try.prog 17 #[.pointer (some ⟨g, 0, none⟩)] w fun e w' => e = .returned (.int .i64 L.length) ∧ w = w' := by
  have c := h.cat
  have q := h.all.len
  have cn := none_wh xs g now L _ sb ba w h
  go_enter Try.func17, Try.ntmps17
  go_wp2_with fail
  refine (cn).mono ?_
  rintro e _ ⟨rfl, rfl⟩
  go_wp2
  go_ret
  exact ⟨rfl, rfl⟩
set_option maxRecDepth 100000 in
set_option maxHeartbeats 400000 in
theorem now_wh (xs : List Nat) (g : Nat) (now : Int) (L : List (Int × Int)) (sb : Nat → Option Nat) (ba : Nat) (w : World) (h : WhW w xs g now L sb ba) : Calls Try.prog 29 #[.pointer (some ⟨g, 0, none⟩)] w fun e w' => e = .returned (.int .i64 now) ∧ w = w' := by
  have c := h.blk.cell (j := 0) rfl
  have cn := none_wh xs g now L _ sb ba w h
  go_enter Try.func29, Try.ntmps29
  go_wp2_with fail
  refine (cn).mono ?_
  rintro e _ ⟨rfl, rfl⟩
  go_wp2
  go_ret
  exact ⟨rfl, rfl⟩
set_option maxRecDepth 100000 in
set_option maxHeartbeats 400000 in
theorem at_wh (xs : List Nat) (g : Nat) (now : Int) (L : List (Int × Int)) (sb : Nat → Option Nat) (ba : Nat) (id : Int) (hid : wf64 id) (w : World) (h : WhW w xs g now L sb ba) : Calls Try.prog 21 #[.pointer (some ⟨g, 0, none⟩), .int .i64 id] w fun e w' => e = .returned (.tuple #[.int .i64 ((getF L id).getD 0), .bool (getF L id).isSome]) ∧ w = w' := by
  have c := h.cat
  have q := h.all.look id hid
  have cn := none_wh xs g now L _ sb ba w h
  go_enter Try.func21, Try.ntmps21
  go_wp2_with fail
  refine (cn).mono ?_
  rintro e _ ⟨rfl, rfl⟩
  go_wp2
  go_ret2
  exact ⟨rfl, rfl⟩
def NoW (w : World) (p : Value) : Prop := p = .pointer none ∨ ∃ g, p = .pointer (some ⟨g, 0, none⟩) ∧ w.cell? ⟨g, 65, none⟩ = some (.map none)
set_option maxRecDepth 100000 in
set_option maxHeartbeats 400000 in
theorem none_no (p : Value) (w : World) (h : NoW w p) : Calls Try.prog 33 #[p] w fun e w' => e = .returned (.bool true) ∧ w = w' := by
  rcases h with rfl | ⟨g, rfl, c⟩
  · exact none_wnil w
  · have q := fun (W : World) => run_eql_map_nil W 64 2 2 none Try.underlying64
    simp only [Option.isNone_none] at q
    go_enter Try.func33, Try.ntmps33
    go_wp2
    go_ret
    exact ⟨rfl, rfl⟩
set_option maxRecDepth 100000 in
set_option maxHeartbeats 400000 in
theorem len_no (p : Value) (w : World) (h : NoW w p) : Calls Try.prog 17 #[p] w fun e w' => e = .returned (.int .i64 0) ∧ w = w' := by
  have cn := none_no p w h
  clear h
  go_enter Try.func17, Try.ntmps17
  go_wp2_with fail
  refine (cn).mono ?_
  rintro e _ ⟨rfl, rfl⟩
  go_wp2
  go_ret
  exact ⟨rfl, rfl⟩
set_option maxRecDepth 100000 in
set_option maxHeartbeats 400000 in
theorem now_no (p : Value) (w : World) (h : NoW w p) : Calls Try.prog 29 #[p] w fun e w' => e = .returned (.int .i64 0) ∧ w = w' := by
  have cn := none_no p w h
  clear h
  go_enter Try.func29, Try.ntmps29
  go_wp2_with fail
  refine (cn).mono ?_
  rintro e _ ⟨rfl, rfl⟩
  go_wp2
  go_ret
  exact ⟨rfl, rfl⟩
set_option maxRecDepth 100000 in
set_option maxHeartbeats 400000 in
theorem at_no (p : Value) (w : World) (h : NoW w p) : Calls Try.prog 21 #[p, .int .i64 1] w fun e w' => e = .returned (.tuple #[.int .i64 0, .bool false]) ∧ w = w' := by
  have cn := none_no p w h
  clear h
  go_enter Try.func21, Try.ntmps21
  go_wp2_with fail
  refine (cn).mono ?_
  rintro e _ ⟨rfl, rfl⟩
  go_wp2
  go_ret2
  exact ⟨rfl, rfl⟩
set_option maxRecDepth 100000 in
set_option maxHeartbeats 400000 in
theorem copy_no (p : Value) (w : World) (h : NoW w p) : Calls Try.prog 26 #[p] w fun e w' => e = .returned (.pointer none) ∧ w = w' := by
  have cn := none_no p w h
  clear h
  go_enter Try.func26, Try.ntmps26
  go_wp2_with fail
  refine (cn).mono ?_
  rintro e _ ⟨rfl, rfl⟩
  go_wp2
  go_ret
  exact ⟨rfl, rfl⟩
set_option maxRecDepth 100000 in
set_option maxHeartbeats 400000 in
theorem all_no (p : Value) (w : World) (h : NoW w p) : Calls Try.prog 36 #[p] w fun e w' => e = .returned (.slice none 0 0) ∧ w = w' := by
  have cn := none_no p w h
  clear h
  go_enter Try.func36, Try.ntmps36
  go_wp2_with fail
  refine (cn).mono ?_
  rintro e _ ⟨rfl, rfl⟩
  go_wp2
  go_ret
  exact ⟨rfl, rfl⟩
set_option maxRecDepth 100000 in
set_option maxHeartbeats 400000 in
theorem cancel_no (p : Value) (w : World) (h : NoW w p) : Calls Try.prog 16 #[p, .int .i64 1] w fun e w' => e = .returned (.int .i64 1) ∧ w = w' := by
  have cn := none_no p w h
  clear h
  go_enter Try.func16, Try.ntmps16
  go_wp2_with fail
  refine (cn).mono ?_
  rintro e _ ⟨rfl, rfl⟩
  go_wp2
  go_ret
  exact ⟨rfl, rfl⟩
set_option maxRecDepth 100000 in
set_option maxHeartbeats 400000 in
theorem advance_no (p : Value) (w : World) (h : NoW w p) : Calls Try.prog 23 #[p, .int .i64 0] w fun e w' => e = .returned (.tuple #[.slice none 0 0, .int .i64 1]) ∧ w = w' := by
  have cn := none_no p w h
  clear h
  go_enter Try.func23, Try.ntmps23
  go_wp2_with fail
  refine (cn).mono ?_
  rintro e _ ⟨rfl, rfl⟩
  go_wp2
  go_ret2
  exact ⟨rfl, rfl⟩
end Go.Proofs.Ytfdfmmmfklodgaa
