
/- The document's wheel: ahead, At, without. -/
import Derived.Test.YtfdfmmmfklodgaaWhQ
namespace Go.Proofs.Ytfdfmmmfklodgaa
set_option linter.unusedSimpArgs false
set_option linter.unusedVariables false
open Go.RowKit
/-- The place of an ID. -/
def posD (L : List (Int × Int)) (id : Int) : Int := (L.findIdx? (fun p => p.1 == id)).elim (-1) (fun k => (k : Int))
theorem pos_yes {L : List (Int × Int)} {id : Int} {k : Nat} {p : Int × Int} (h : L[k]? = some p) (hp : p.1 = id) (hb : ∀ j q, j < k → L[j]? = some q → q.1 ≠ id) : posD L id = k := by
  obtain ⟨hk, he⟩ := List.getElem?_eq_some_iff.1 h
  have : L.findIdx? (fun p => p.1 == id) = some k := by
    rw [List.findIdx?_eq_some_iff_getElem]
    refine ⟨hk, by rw [he]; simpa using hp, fun j hj => ?_⟩
    have := hb j L[j] hj (by simp)
    simpa using this
  unfold posD
  rw [this]
  rfl
theorem pos_no {L : List (Int × Int)} {id : Int} (hb : ∀ j q, j < L.length → L[j]? = some q → q.1 ≠ id) : posD L id = -1 := by
  have : L.findIdx? (fun p => p.1 == id) = none := by
    rw [List.findIdx?_eq_none_iff]
    intro x hx
    obtain ⟨j, hj, rfl⟩ := List.getElem_of_mem hx
    have := hb j L[j] hj (by simp [hj])
    simpa using this
  unfold posD
  rw [this]
  rfl
theorem pos_get (L : List (Int × Int)) (id : Int) : (posD L id = -1 ∧ getF L id = none) ∨ ∃ (k : Nat) (p : Int × Int), posD L id = (k : Int) ∧ L[k]? = some p ∧ p.1 = id ∧ getF L id = some p.2 := by
  unfold posD getF
  cases h : L.findIdx? (fun p => p.1 == id) with
  | none =>
    rw [List.findIdx?_eq_none_iff] at h
    refine .inl ⟨rfl, ?_⟩
    rw [Option.map_eq_none_iff, List.find?_eq_none]
    intro x hx
    have := h x hx
    simpa using this
  | some k =>
    rw [List.findIdx?_eq_some_iff_getElem] at h
    obtain ⟨hk, h1, h2⟩ := h
    refine .inr ⟨k, L[k], rfl, by simp [hk], by simpa using h1, ?_⟩
    have : L.find? (fun p => p.1 == id) = some L[k] := by
      rw [List.find?_eq_some_iff_getElem]
      exact ⟨h1, k, hk, rfl, fun j hj => by have := h2 j hj; simpa using this⟩
    rw [this]
    rfl
set_option maxRecDepth 100000 in
set_option maxHeartbeats 1000000 in
theorem ahead_any (a b : Int × Int) (w : World) : Calls Try.prog 43 #[.agg #[.int .i64 a.2, .int .i64 a.1], .agg #[.int .i64 b.2, .int .i64 b.1]] w fun e w' => e = .returned (.bool (aheadB a b)) ∧ Below w.heap.size w w' := by
  obtain ⟨p, r⟩ := a
  obtain ⟨q, s⟩ := b
  unfold aheadB
  simp only
  have hb := From.refl w
  by_cases h1 : r < s
  · go_enter Try.func43, Try.ntmps43
    go_upto_region 1 with fail
    obtain ⟨gX, hgX⟩ : ∃ g, (w).heap.size = g := ⟨_, rfl⟩
    have X := Blk.newV hgX 50 #[.int .i64 r, .int .i64 p]
    have hbn := (Below.refl (w).heap.size w).alloc (Nat.le_refl _) (.cells #[.int .i64 r, .int .i64 p] 50)
    replace hb := hb.step hbn
    clear hbn
    rw [hgX]
    have szX := alloc_size hgX (.cells #[.int .i64 r, .int .i64 p] 50)
    generalize (w).alloc (.cells #[.int .i64 r, .int .i64 p] 50) = w1 at *
    obtain ⟨gY, hgY⟩ : ∃ g, (w1).heap.size = g := ⟨_, rfl⟩
    have lt_X_Y := X.lt
    rw [hgY] at lt_X_Y
    have Y := Blk.newV hgY 50 #[.int .i64 s, .int .i64 q]
    have hbn := (Below.refl (w1).heap.size w1).alloc (Nat.le_refl _) (.cells #[.int .i64 s, .int .i64 q] 50)
    replace hb := hb.step hbn
    replace X := X.step hbn
    clear hbn
    have egY : gX + 1 = gY := szX.symm.trans hgY
    rw [egY]
    clear szX
    generalize (w1).alloc (.cells #[.int .i64 s, .int .i64 q] 50) = w2 at *
    have X_0 := X.cell (j := 0) rfl
    have X_1 := X.cell (j := 1) rfl
    have Y_0 := Y.cell (j := 0) rfl
    have Y_1 := Y.cell (j := 1) rfl
    go_wp2
    go_ret
    exact ⟨by simp [h1], by rw [← hgX]; exact hb⟩
  · have h1' : decide (r < s) = false := decide_eq_false h1
    by_cases h2 : r = s
    · subst h2
      rw [h1']
      go_enter Try.func43, Try.ntmps43
      go_upto_region 1 with fail
      obtain ⟨gX, hgX⟩ : ∃ g, (w).heap.size = g := ⟨_, rfl⟩
      have X := Blk.newV hgX 50 #[.int .i64 r, .int .i64 p]
      have hbn := (Below.refl (w).heap.size w).alloc (Nat.le_refl _) (.cells #[.int .i64 r, .int .i64 p] 50)
      replace hb := hb.step hbn
      clear hbn
      rw [hgX]
      have szX := alloc_size hgX (.cells #[.int .i64 r, .int .i64 p] 50)
      generalize (w).alloc (.cells #[.int .i64 r, .int .i64 p] 50) = w1 at *
      obtain ⟨gY, hgY⟩ : ∃ g, (w1).heap.size = g := ⟨_, rfl⟩
      have lt_X_Y := X.lt
      rw [hgY] at lt_X_Y
      have Y := Blk.newV hgY 50 #[.int .i64 r, .int .i64 q]
      have hbn := (Below.refl (w1).heap.size w1).alloc (Nat.le_refl _) (.cells #[.int .i64 r, .int .i64 q] 50)
      replace hb := hb.step hbn
      replace X := X.step hbn
      clear hbn
      have egY : gX + 1 = gY := szX.symm.trans hgY
      rw [egY]
      clear szX
      generalize (w1).alloc (.cells #[.int .i64 r, .int .i64 q] 50) = w2 at *
      have X_0 := X.cell (j := 0) rfl
      have X_1 := X.cell (j := 1) rfl
      have Y_0 := Y.cell (j := 0) rfl
      have Y_1 := Y.cell (j := 1) rfl
      go_wp2
      go_ret
      exact ⟨by simp, by rw [← hgX]; exact hb⟩
    · have h2' : decide (r = s) = false := decide_eq_false h2
      rw [h1', h2']
      go_enter Try.func43, Try.ntmps43
      go_upto_region 1 with fail
      obtain ⟨gX, hgX⟩ : ∃ g, (w).heap.size = g := ⟨_, rfl⟩
      have X := Blk.newV hgX 50 #[.int .i64 r, .int .i64 p]
      have hbn := (Below.refl (w).heap.size w).alloc (Nat.le_refl _) (.cells #[.int .i64 r, .int .i64 p] 50)
      replace hb := hb.step hbn
      clear hbn
      rw [hgX]
      have szX := alloc_size hgX (.cells #[.int .i64 r, .int .i64 p] 50)
      generalize (w).alloc (.cells #[.int .i64 r, .int .i64 p] 50) = w1 at *
      obtain ⟨gY, hgY⟩ : ∃ g, (w1).heap.size = g := ⟨_, rfl⟩
      have lt_X_Y := X.lt
      rw [hgY] at lt_X_Y
      have Y := Blk.newV hgY 50 #[.int .i64 s, .int .i64 q]
      have hbn := (Below.refl (w1).heap.size w1).alloc (Nat.le_refl _) (.cells #[.int .i64 s, .int .i64 q] 50)
      replace hb := hb.step hbn
      replace X := X.step hbn
      clear hbn
      have egY : gX + 1 = gY := szX.symm.trans hgY
      rw [egY]
      clear szX
      generalize (w1).alloc (.cells #[.int .i64 s, .int .i64 q] 50) = w2 at *
      have X_0 := X.cell (j := 0) rfl
      have X_1 := X.cell (j := 1) rfl
      have Y_0 := Y.cell (j := 0) rfl
      have Y_1 := Y.cell (j := 1) rfl
      go_wp2
      go_ret
      exact ⟨by simp [h2], by rw [← hgX]; exact hb⟩
set_option maxRecDepth 100000 in
set_option maxHeartbeats 1000000 in
theorem refAt_any (base : Nat) (now : Int) (a : Option Addr) (c : Nat) (L : List (Int × Int)) (id : Int) (w : World) (h : RowD w base (.slice a L.length c) L) (hl : L.length ≤ 5000) :
    Calls Try.prog 22 #[.agg #[.int .i64 now, .slice a L.length c], .int .i64 id] w fun e w' => e = .returned (.int .i64 (posD L id)) ∧ Below w.heap.size w w' := by
  have hd := h.has.2.1
  clear h
  obtain ⟨N, hN⟩ : ∃ N, L.length = N := ⟨_, rfl⟩
  rw [hN] at hl ⊢
  obtain ⟨R, hR⟩ : ∃ R, posD L id = R := ⟨_, rfl⟩
  rw [hR]
  have hb := From.refl w
  have HR := Lib.hid hR
  clear hR
  have HN := Lib.hid hN
  clear hN
  go_enter Try.func22, Try.ntmps22
  go_upto_region 1 with fail
  obtain ⟨gX, hgX⟩ : ∃ g, (w).heap.size = g := ⟨_, rfl⟩
  have X := Blk.newV hgX 28 #[.int .i64 now, .slice a N c]
  have hbn := (Below.refl (w).heap.size w).alloc (Nat.le_refl _) (.cells #[.int .i64 now, .slice a N c] 28)
  replace hb := hb.step hbn
  replace hd := hd.step hbn
  clear hbn
  rw [hgX]
  generalize (w).alloc (.cells #[.int .i64 now, .slice a N c] 28) = w1 at *
  have X_0 := X.cell (j := 0) rfl
  have X_1 := X.cell (j := 1) rfl
  go_wp2_with fail
  go_loopw [5] (fun i wr => ∃ k : Nat, i = .int .i64 k ∧ k ≤ N ∧ wr = w1 ∧ Hid (∀ j q, j < k → L[j]? = some q → q.1 ≠ id)) (fun i _ => N - (intOf i).toNat)
  case atStart => exact ⟨0, rfl, by omega, by first | rfl | trivial, Lib.hid (fun j q hj => absurd hj (Nat.not_lt_zero _))⟩
  case round =>
    obtain ⟨k, rfl, hk, hw, hA⟩ := hrel
    subst hw
    by_cases hlt : k < N
    · obtain ⟨p, hp⟩ : ∃ p, L[k]? = some p := ⟨L[k]'(by rw [HN.out]; exact hlt), by simp [HN.out, hlt]⟩
      have k0 : (0 : Int) ≤ (k : Int) := by omega
      have k1 : (k : Int) < (N : Int) := by omega
      have k2 : (k : Int) < 5000 := by omega
      obtain ⟨b, off, rfl, d0, d1⟩ := hd k p hp
      clear hd
      by_cases he : p.1 = id
      · have hf := pos_yes hp he hA.out
        rw [HR.out] at hf
        subst hf
        clear hp
        rw [he] at d1
        clear he
        go_wp2
        go_ret
        exact ⟨rfl, hb⟩
      · have hA2 : Hid (∀ j q, j < k + 1 → L[j]? = some q → q.1 ≠ id) := Lib.hid (fun j q hj hq => by
          by_cases e : j = k
          · subst e; rw [hp] at hq; cases hq; exact he
          · exact hA.out j q (by omega) hq)
        clear hp hA
        go_wp2_with fail
        go_roundw
        case rel => exact ⟨k + 1, by go_num, by omega, by first | rfl | trivial, hA2⟩
        case measure => simp [intOf]; omega
    · obtain rfl : k = N := by omega
      have hf := pos_no (L := L) (id := id) (by rw [HN.out]; exact hA.out)
      rw [HR.out] at hf
      subst hf
      go_wp2
      go_ret
      exact ⟨rfl, hb⟩
end Go.Proofs.Ytfdfmmmfklodgaa
