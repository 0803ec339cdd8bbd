
/- Package wheel: Same. -/
import Derived.Test.YtfdfmmmfklodgaaWhO
namespace Go.Proofs.Ytfdfmmmfklodgaa
set_option linter.unusedSimpArgs false
set_option linter.unusedVariables false
open Go.RowKit Go.Maps Go.Shelf
def sameN : DataW Unit → DataW Unit → Bool
  | .lit (.int _ x), .lit (.int _ y) => x == y
  | _, _ => false
theorem neq_int (W : World) (x y : Value) (xd yd : DataW Unit) (xp yp : List MemPlace) (hx : plainElem Try.prog 2 x = some (xd, xp)) (hy : plainElem Try.prog 2 y = some (yd, yp)) :
    (binOp .neq 2 x y).run Try.prog W = .ok (.bool (!sameN xd yd)) W ∧ ∀ (a b : Operand), (eqGuard .neq 2 a b x y).run Try.prog W = .ok () W := by
  obtain ⟨a, rfl, h1, _⟩ := plainElem_int_inv Try.underlying2 hx
  obtain ⟨b, rfl, h2, _⟩ := plainElem_int_inv Try.underlying2 hy
  obtain rfl : xd = .lit (.int .i64 a) := by simpa using (congrArg Prod.fst h1)
  obtain rfl : yd = .lit (.int .i64 b) := by simpa using (congrArg Prod.fst h2)
  refine ⟨?_, fun _ _ => by rw [eqGuard_at_int]; rfl⟩
  simp [go_sem, sameN, binOp]
  rfl
theorem perm_of_sub {α : Type} [DecidableEq α] : ∀ {l1 l2 : List α}, l1.Nodup → (∀ x, x ∈ l1 → x ∈ l2) → l2.length ≤ l1.length → l1.Perm l2
  | [], l2, _, _, hl => by
    have : l2 = [] := List.eq_nil_of_length_eq_zero (by simpa using hl)
    rw [this]
  | a :: r, l2, hn, hs, hl => by
    have ha := hs a (by simp)
    rw [List.nodup_cons] at hn
    have h1 := List.perm_cons_erase ha
    refine List.Perm.trans ?_ h1.symm
    refine (perm_of_sub hn.2 (fun x hx => ?_) ?_).cons a
    · have hne : x ≠ a := by rintro rfl; exact hn.1 hx
      exact (List.mem_erase_of_ne hne).2 (hs x (by simp [hx]))
    · rw [List.length_erase_of_mem ha]
      rw [List.length_cons] at hl
      omega
theorem nodup_of_keys {l : List (Int × Int)} (h : (l.map (·.1)).Nodup) : l.Nodup := (List.pairwise_map.1 h).imp (fun h e => h (by rw [e]))
theorem get_of_mem {l : List (Int × Int)} (hn : (l.map (·.1)).Nodup) {p : Int × Int} (hm : p ∈ l) : getF l p.1 = some p.2 := by
  unfold getF
  cases hf : l.find? (fun q => q.1 == p.1) with
  | none => exact absurd (by simp) (List.find?_eq_none.1 hf p hm)
  | some q =>
    have h1 := List.mem_of_find?_eq_some hf
    have h2 := List.find?_some hf
    simp only [beq_iff_eq] at h2
    rw [key_one hn q h1 p hm h2]
    rfl
theorem equal_lists {l1 l2 : List (Int × Int)} {es1 es2 : List (Lit × DataW Unit)} (hp1 : es1.Perm (l1.map pe)) (hp2 : es2.Perm (l2.map pe)) (hn1 : (l1.map (·.1)).Nodup) (hn2 : (l2.map (·.1)).Nodup)
    (hs1 : l1.Pairwise (fun a b => aheadB a b = true)) (hs2 : l2.Pairwise (fun a b => aheadB a b = true)) : Lib.equalFuncD sameN (.map es1) (.map es2) = decide (l1 = l2) := by
  have hg : ∀ p : Int × Int, Lib.goodD sameN (.map es2) (pe p) = decide (getF l2 p.1 = some p.2) := by
    intro p
    unfold Lib.goodD
    have h1 := has_list l2 es2 hp2 p.1
    have h2 := at_list l2 hn2 es2 hp2 p.1
    simp only [pe]
    rw [h1]
    cases hq : getF l2 p.1 with
    | none => simp
    | some c =>
      rw [atKey_indep (by rw [h1, hq]; rfl) .nil (.lit (.int .i64 0)), h2, hq]
      simp only [Option.isSome_some, Option.getD_some, Bool.true_and, sameN, Option.some.injEq]
      rw [Bool.eq_iff_iff]
      simp only [beq_iff_eq, decide_eq_true_eq]
      exact eq_comm
  rw [Bool.eq_iff_iff]
  unfold Lib.equalFuncD
  simp only [Lib.entriesD, Bool.and_eq_true, decide_eq_true_eq, Maps.size_eq, hp1.length_eq, hp2.length_eq, List.length_map]
  rw [hp1.all_eq, List.all_map, List.all_eq_true]
  constructor
  · rintro ⟨h1, h2⟩
    have h3 : ∀ x, x ∈ l1 → x ∈ l2 := fun x hx => by
      have := h2 x hx
      simp only [Function.comp, hg, decide_eq_true_eq] at this
      exact get_mem this
    have h4 := perm_of_sub (nodup_of_keys hn1) h3 (by omega)
    rw [← sortD_eq (List.Perm.refl l1) hs1, sortD_eq h4 hs2]
  · rintro rfl
    refine ⟨rfl, fun x hx => ?_⟩
    simp only [Function.comp, hg, decide_eq_true_eq]
    exact get_of_mem hn1 hx
theorem equal_map {w : World} {b1 b2 : Nat} {l1 l2 : List (Int × Int)} (h1 : MapF w b1 l1) (h2 : MapF w b2 l2) (hs1 : l1.Pairwise (fun a b => aheadB a b = true)) (hs2 : l2.Pairwise (fun a b => aheadB a b = true)) :
    Calls Try.prog 40 #[.map (some b1), .map (some b2)] w fun e w' => e = .returned (.bool (decide (l1 = l2))) ∧ Below w.heap.size w w' := by
  obtain ⟨es1, o1, p1, n1⟩ := h1
  obtain ⟨es2, o2, p2, n2⟩ := h2
  refine (AnyEq.maps_Equal_opt Try.eqM law64 (plainElem Try.prog 2) (plainElem Try.prog 2) sameN (some b1) (some b2) _ _ w (.inr ⟨b1, _, rfl, o1⟩) (.inr ⟨b2, _, rfl, o2⟩) (.int .i64 0) zero64 (.lit (.int .i64 0)) [] (plainElem_int Try.underlying2 (by decide)) neq_int).mono ?_
  rintro e w' ⟨he, hg⟩
  rw [equal_lists p1 p2 n1 n2 hs1 hs2] at he
  exact ⟨he, (Below.refl _ w).grown hg (Nat.le_refl _) (fun j hj => by cases hj)⟩
theorem wp_region_extB {P : Program} {id : Nat} {Q : Exit → Act → World → Prop} {a : Act} {w : World} {l : List Oper} (hm : P.follows .mixedOrders = true) (hB : Region.lexB .any l.toArray = true)
    (h : wpQuiet P l.toArray (ExtA w) (fun a' => ∀ w', ExtA w w' → Q .normal a' w') l a) : (Code.region id l.toArray true).wp P Q a w :=
  wp_region_quiet (C := ExtA w) hm hB ⟨rfl, rfl, rfl, Nat.le_refl _, fun _ _ => rfl⟩ (by simpa using h)
set_option maxRecDepth 100000 in
set_option maxHeartbeats 400000 in
theorem eq_clock (a b : Int) (w : World) : (binOp .eql 63 (.agg #[.int .i64 a]) (.agg #[.int .i64 b])).run Try.prog w = .ok (.bool (a == b)) w := by
  go_simp
  by_cases h0 : a = b
  case neg => simp [h0]
  simp [h0]
set_option maxRecDepth 100000 in
set_option maxHeartbeats 400000 in
theorem eq_due (a b c d : Int) (w : World) : (binOp .eql 50 (.agg #[.int .i64 a, .int .i64 b]) (.agg #[.int .i64 c, .int .i64 d])).run Try.prog w = .ok (.bool ((decide (a = c ∧ b = d)))) w := by
  go_simp
  by_cases h0 : a = c
  case neg => simp [h0]
  by_cases h1 : b = d
  case neg => simp [h0, h1]
  simp [h0, h1]
set_option maxRecDepth 100000 in
set_option maxHeartbeats 400000 in
theorem ne_due (a b c d : Int) (w : World) : (binOp .neq 50 (.agg #[.int .i64 a, .int .i64 b]) (.agg #[.int .i64 c, .int .i64 d])).run Try.prog w = .ok (.bool (!(decide (a = c ∧ b = d)))) w := by
  go_simp
  by_cases h0 : a = c
  case neg => simp [h0]
  by_cases h1 : b = d
  case neg => simp [h0, h1]
  simp [h0, h1]
def sameW (n1 : Int) (l1 : List (Int × Int)) (n2 : Int) (l2 : List (Int × Int)) : Bool := n1 == n2 && decide (l1 = l2)
set_option maxRecDepth 100000 in
set_option maxHeartbeats 1000000 in
theorem same_wh (xs1 : List Nat) (g1 : Nat) (n1 : Int) (l1 : List (Int × Int)) (sb1 : Nat → Option Nat) (ba1 : Nat) (xs2 : List Nat) (g2 : Nat) (n2 : Int) (l2 : List (Int × Int)) (sb2 : Nat → Option Nat) (ba2 : Nat) (w : World)
    (h1 : WhW w xs1 g1 n1 l1 sb1 ba1) (h2 : WhW w xs2 g2 n2 l2 sb2 ba2) (hs1 : l1.Pairwise (fun a b => aheadB a b = true)) (hs2 : l2.Pairwise (fun a b => aheadB a b = true)) :
    Calls Try.prog 25 #[.pointer (some ⟨g1, 0, none⟩), .pointer (some ⟨g2, 0, none⟩)] w fun e w' => e = .returned (.bool (sameW n1 l1 n2 l2)) ∧ Below w.heap.size w w' := by
  unfold sameW
  obtain ⟨R, hR⟩ : ∃ R, decide (l1 = l2) = R := ⟨_, rfl⟩
  have cE := fun W (hW : ExtA w W) => equal_map (h1.step hW).all (h2.step hW).all hs1 hs2
  rw [hR] at cE ⊢
  clear hR hs1 hs2
  obtain ⟨E, hE⟩ : ∃ E, (n1 == n2) = E := ⟨_, rfl⟩
  rw [hE]
  have hq : ∀ W, (binOp .eql 63 (.agg #[.int .i64 n1]) (.agg #[.int .i64 n2])).run Try.prog W = .ok (.bool E) W := by
    intro W
    rw [← hE]
    exact eq_clock n1 n2 W
  have c1 := none_wh xs1 g1 n1 l1 _ sb1 ba1 w h1
  have c2 := none_wh xs2 g2 n2 l2 _ sb2 ba2 w h2
  have a0 := extA_cell (h1.blk.cell (j := 0) rfl)
  have b0 := extA_cell (h2.blk.cell (j := 0) rfl)
  have a1 := extA_cell h1.cat
  have b1 := extA_cell h2.cat
  have hb := Below.refl w.heap.size w
  clear h1 h2
  cases E
  · go_enter Try.func25, Try.ntmps25
    go_wp2_with fail
    refine (c1).mono ?_
    rintro e _ ⟨rfl, rfl⟩
    go_wp2_with fail
    refine (c2).mono ?_
    rintro e _ ⟨rfl, rfl⟩
    go_upto_region 3 with fail
    refine wp_region_extB (by kernel_rfl) (by kernel_rfl) ?_
    repeat
      (first
        | go_big_quiet_skip
        | (go_big_quiet_want
           go_big_quiet_op
           first
             | go_big_quiet_on
             | (apply Exists.intro
                refine ⟨fun w' hC => ?_, ?_⟩
                · (first
                    | with_reducible rfl
                    | fail
                    | (go_simp; done)
                    | (go_simp; with_reducible rfl))
                go_big_quiet_on)))
    refine wpQuiet_nil ?_
    intro w2 hbn
    go_wp2
    go_ret
    exact ⟨rfl, hbn⟩
  · go_enter Try.func25, Try.ntmps25
    go_wp2_with fail
    refine (c1).mono ?_
    rintro e _ ⟨rfl, rfl⟩
    go_wp2_with fail
    refine (c2).mono ?_
    rintro e _ ⟨rfl, rfl⟩
    go_upto_region 3 with fail
    refine wp_region_extB (by kernel_rfl) (by kernel_rfl) ?_
    repeat
      (first
        | go_big_quiet_skip
        | (go_big_quiet_want
           go_big_quiet_op
           first
             | go_big_quiet_on
             | (apply Exists.intro
                refine ⟨fun w' hC => ?_, ?_⟩
                · (first
                    | with_reducible rfl
                    | (go_at_call 40; refine (cE _ hC).mono ?_; rintro e w2 ⟨rfl, hb9⟩; exact ⟨rfl, extB_then hC hb9⟩)
                    | (go_simp; done)
                    | (go_simp; with_reducible rfl))
                go_big_quiet_on)))
    refine wpQuiet_nil ?_
    intro w2 hbn
    go_wp2
    go_ret
    exact ⟨by simp, hbn⟩
end Go.Proofs.Ytfdfmmmfklodgaa
