
/- Package wheel: all. -/
import Derived.Test.YtfdfmmmfklodgaaWhI
namespace Go.Proofs.Ytfdfmmmfklodgaa
set_option linter.unusedSimpArgs false
set_option linter.unusedVariables false
open Go.RowKit Go.Maps Go.Sort
theorem sortD_eq {O L : List (Int × Int)} (hp : O.Perm L) (hL : L.Pairwise (fun a b => aheadB a b = true)) : sortD O = L := by
  have h1 : (sortD O).Pairwise (fun x y => !aheadB y x) := List.pairwise_mergeSort (le := fun x y => !aheadB y x)
    (fun a b c h1 h2 => by unfold aheadB at *; simp at *; omega) (fun a b => by unfold aheadB; simp; omega) O
  have h2 : L.Pairwise (fun x y => !aheadB y x) := hL.imp (fun {a b} h => by unfold aheadB at *; simp at *; omega)
  refine List.Perm.eq_of_pairwise (le := fun x y => !aheadB y x) ?_ h1 h2 ((List.mergeSort_perm _ _).trans hp)
  intro a b _ _ h3 h4
  unfold aheadB at h3 h4
  simp at h3 h4
  ext <;> omega
structure AllI (w0 : World) (ba : Nat) (L : List (Int × Int)) (v : Value) (W : World) (left : Lit → Bool) (cnt : Nat) (C O : List (Int × Int)) : Prop where
  rg : ∃ es n, W.ranges Try.prog 2 (plainElem (H := Unit) Try.prog 2) ba w0.heap.size n (.map es) left cnt ∧ es.Perm (L.map pe)
  pm : (C ++ O).Perm L
  rest : ∀ p, p ∈ C → left (.int .i64 p.1) = true
  done : ∀ p, p ∈ O → left (.int .i64 p.1) = false
  row : W.ownsRow (w0.heap.size + 1) 50 2 v O.length (cellsD O)
  kx : Kx [] w0 W
def AllP (w : World) (L : List (Int × Int)) (e : Ending) (w' : World) : Prop :=
  (∃ v, e = .returned v ∧ w'.ownsRow w.heap.size 50 2 v L.length (cellsD L)) ∧ Below w.heap.size w w'
set_option maxRecDepth 100000 in
set_option maxHeartbeats 4000000 in
theorem all_wh (xs : List Nat) (g : Nat) (now : Int) (L : List (Int × Int)) (sb : Nat → Option Nat) (ba : Nat) (w : World) (h : WhW w xs g now L sb ba) (hl : L.length ≤ 4096) (hL : L.Pairwise (fun a b => aheadB a b = true)) :
    Calls Try.prog 36 #[.pointer (some ⟨g, 0, none⟩)] w (AllP w L) := by
  obtain ⟨i0, hi0, hz0, hz1, hz2⟩ := info_parts info_due
  obtain ⟨es0, ho0, hp0, hn0⟩ := h.all
  have cat := h.cat
  have hbl := h.all.lt
  have cn := none_wh xs g now L _ sb ba w h
  go_enter Try.func36, Try.ntmps36
  go_wp2_with fail
  refine (cn).mono ?_
  rintro e _ ⟨rfl, rfl⟩
  go_wp2_with (first
    | (at_range; refine wpList_range_own _ rfl _ 64 rfl 2 2 law64 Try.underlying64 (plainElem (H := Unit) Try.prog 2) ba _ _ rfl ho0 ?_; intro w1 hrg0 hg0 hs0; clear hs0)
    | fail)
  go_frame
  go_loopw [2] (fun v wr => ∃ left cnt C O, AllI w ba L v wr left cnt C O) (fun _ wr => wr.rangeLeft ba w.heap.size)
  case atStart =>
    refine ⟨_, _, L, [], ⟨⟨_, _, hrg0, hp0⟩, by simp, fun p hp => has_left hp0 hp, by simp, World.ownsRow_nil _ _ _ _, (kx_grown hg0).mono (by simp)⟩⟩
  case round =>
    obtain ⟨left, cnt, C, O, hI⟩ := hrel
    obtain ⟨es, n, hrg, hes⟩ := hI.rg
    have hO1 : O.length ≤ 4096 := by have := hI.pm.length_eq; rw [List.length_append] at this; omega
    go_wp2_with (first
      | (at_next; refine wpList_next_ranges_ii _ rfl _ rfl 2 2 .i64 .i64 law64 Try.underlying2 Try.underlying2 ba w.heap.size n _ _ _ rfl hrg ?_ ?_)
      | fail)
    · intro hc0 hl0
      have hC : C = [] := by
        cases C with
        | nil => rfl
        | cons a r => have := hI.rest a (by simp); rw [hl0] at this; cases this
      subst hC
      have hsL := sortD_eq hI.pm hL
      rw [List.nil_append] at hsL
      have hln : O.length = L.length := by have := hI.pm.length_eq; simpa using this
      have hrow := hI.row
      have hkx := hI.kx
      have hco := fun v hv => ordered_any (w.heap.size + 1) v O wr hv (by omega)
      unfold OrdP at hco
      rw [hsL, hln] at hco
      rw [hln] at hrow
      clear hI hrg hes hsL hln hO1
      go_wp2_with fail
      refine (hco _ hrow).mono ?_
      rintro e w3 ⟨rfl, hr3, hk3⟩
      go_wp2
      go_ret
      exact ⟨⟨_, rfl, row_low hr3 (by omega)⟩, (hkx.kx hk3 (fun x hx => .inr (by have := (row_ge hrow x (by simpa using hx)).1; omega))).below (Nat.le_refl _) (by simp)⟩
    · intro x c w1 cnt1 hwx hwc hlx hat hrg1 hlt hg1 hs1 hen
      clear hs1
      have hxm : (x, c) ∈ C := by
        have h1 := hI.pm.mem_iff.2 (mem_of_at hes hat)
        rcases List.mem_append.1 h1 with h1 | h1
        · exact h1
        · have := hI.done _ h1; rw [hlx] at this; cases this
      have row1 := row_kx hI.row (kx_grown hg1) (fun k hk => by have := (row_ge hI.row k hk).1; simp; omega)
      have hx1 : w.heap.size + 1 ≤ w1.heap.size := by have := hrg1.lt; omega
      have hkx1 : Kx [] w w1 := hI.kx.kx (kx_grown hg1) (by simp)
      have hB := Blk.new w1 50 [.int .i64 c, .int .i64 x]
      have hk2 : Kx [] w1 (w1.alloc (.cells #[.int .i64 c, .int .i64 x] 50)) := (Kx.refl [] w1).alloc _
      have row2 := row_kx row1 hk2 (by simp)
      have hz2s : w.heap.size + 1 ≤ (w1.alloc (.cells #[.int .i64 c, .int .i64 x] 50)).heap.size := by rw [alloc_size rfl]; omega
      have hrow3 := row_ge row2
      go_wp2_with (first
        | (at_builtin; refine wpList_append_own_at _ rfl (.tmp 17) (.tmp 21) 26 rfl (w.heap.size + 1) 50 i0 (.agg #[.int .i64 0, .int .i64 0]) 2 16 Try.underlying26 hi0 hz0 hz1 hz2 rfl (by decide) u2 O.length (cellsD O) (by rfl) row2 ⟨w1.heap.size, 0, none⟩ 1 1 [.int .i64 c, .int .i64 x] (by rfl) rfl hB.news (by simp [Value.oneCell']) (by unfold maxLen; omega) (by omega) hz2s ?_
           intro v3 w3 row3 hgr3 _ hob3)
        | fail)
      have hk3 : Kx u2.ownBlock.toList w1 w3 := (hk2.mono (by simp)).trans (kx_grown hgr3)
      have hnb : ba ∉ u2.ownBlock.toList := fun hm => by have := (hrow3 ba (by simpa using hm)).1; omega
      have hnr : w.heap.size ∉ u2.ownBlock.toList := fun hm => by have := (hrow3 _ (by simpa using hm)).1; omega
      have kx3 : Kx [] w w3 := hkx1.kx hk3 (fun z hm => .inr (by have := (hrow3 z (by simpa using hm)).1; omega))
      have hrg3 := (hrg1.alloc (.cells #[.int .i64 c, .int .i64 x] 50)).kept hgr3 (fun e => hnb (by rw [← e]; simp)) (fun e => hnr (by rw [← e]; simp))
      rw [cellsD_app] at row3
      go_roundw
      case rel =>
        refine ⟨_, cnt1, delF C x, O ++ [(x, c)], ⟨⟨es, n, hrg3, hes⟩, del_snoc ?_ hxm hI.pm, ?_, ?_, ?_, kx3⟩⟩
        · have := ((hI.pm.map (·.1)).nodup_iff.2 hn0)
          rw [List.map_append] at this
          exact (List.nodup_append.1 this).1
        · intro p hp
          obtain ⟨h1, h2⟩ := mem_del hp
          rw [hI.rest p h1, same64]
          simp [h2]
        · intro p hp
          rcases List.mem_append.1 hp with hp | hp
          · rw [hI.done p hp]; rfl
          · simp at hp; subst hp; simp [same64]
        · rw [List.length_append, List.length_cons, List.length_nil]
          exact row3
      case measure => rw [hrg3.left_eq, hrg.left_eq]; exact hlt
end Go.Proofs.Ytfdfmmmfklodgaa
