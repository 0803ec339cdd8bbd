
/- The document's text: which texts may be said. -/
import Derived.Test.YtehjglaofhgjfaaDoorTxF
namespace Go.Proofs.YtehjglaofhgjfaaDoor
set_option linter.unusedSimpArgs false
set_option linter.unusedVariables false
open Go.RowKit

theorem cellsS_get (l : List Sg) (j : Nat) (x : Sg) (h : l[j]? = some x) : (cellsS l)[j * 4 + 2]? = some (.int .i64 x.2.2.1) ∧ (cellsS l)[j * 4 + 3]? = some (.bool x.2.2.2) := by
  induction l generalizing j with
  | nil => simp at h
  | cons a t ih =>
    cases j with
    | zero => simp at h; subst h; simp [cellsS]
    | succ j =>
      have h' : t[j]? = some x := by simpa using h
      obtain ⟨h1, h2⟩ := ih j h'
      have e : ∀ q, (cellsS (a :: t))[(j + 1) * 4 + q]? = (cellsS t)[j * 4 + q]? := fun q => by
        rw [show (j + 1) * 4 + q = (j * 4 + q) + 4 by omega]
        simp [cellsS]
      exact ⟨(e 2).trans h1, (e 3).trans h2⟩
theorem signs_own {W : World} {base : Nat} {v : Value} {l : List Sg} (h : OwnS W base v l) : ∃ ao cap, v = .slice ao l.length cap ∧ ∀ (j : Nat) (x : Sg), l[j]? = some x → ∃ g, ao = some ⟨g, 0, none⟩ ∧ W.cell? ⟨g, j * 4 + 2, none⟩ = some (.int .i64 x.2.2.1) ∧ W.cell? ⟨g, j * 4 + 3, none⟩ = some (.bool x.2.2.2) := by
  obtain ⟨h1, h2⟩ := id h
  rcases h2 with ⟨rfl, h0⟩ | ⟨g, cap, cur, hv, hg, hh, r1, r2, r3⟩
  · have : l = [] := by simpa using h0
    subst this
    exact ⟨none, 0, rfl, fun j x hx => by simp at hx⟩
  · refine ⟨_, cap, hv, fun j x hx => ?_⟩
    obtain ⟨g2, g3⟩ := cellsS_get l j x hx
    have c2 := World.ownsRow.cells h (g := g) (by rw [hv]; rfl) (j * 4 + 2) _ g2
    have c3 := World.ownsRow.cells h (g := g) (by rw [hv]; rfl) (j * 4 + 3) _ g3
    exact ⟨g, rfl, by simpa [Addr.add_lit] using c2, by simpa [Addr.add_lit] using c3⟩
def brkS (x : Sg) : Bool := x.2.2.2
def badN (x : Sg) : Bool := decide (x.2.2.1 < 32) || (decide (127 ≤ x.2.2.1) && decide (x.2.2.1 ≤ 159))
def blankD (s : ByteArray) : Bool := s.size == 0 || ((s.get! 0).toNat == 32 || (s.get! (s.size - 1)).toNat == 32)
def refChk (s : ByteArray) : Int := if 200 < s.size then 3 else if (signsL s).any brkS then 130 else if (signsL s).any badN then 131 else if blankD s then 132 else 0
theorem any_true {l : List Sg} {f : Sg → Bool} {j : Nat} {x : Sg} (h : l[j]? = some x) (hf : f x = true) : l.any f = true := List.any_eq_true.2 ⟨x, List.mem_of_getElem? h, hf⟩
theorem any_false {l : List Sg} {f : Sg → Bool} (h : ∀ j x, j < l.length → l[j]? = some x → f x = false) : l.any f = false := by
  rw [List.any_eq_false]
  intro x hx
  obtain ⟨j, hj, rfl⟩ := List.getElem_of_mem hx
  rw [h j _ hj (List.getElem?_eq_getElem hj)]
  simp
theorem signsFrom_len (s : ByteArray) : ∀ k i, (signsFrom s k i).length ≤ s.size - i
  | 0, i => by simp [signsFrom]
  | k + 1, i => by
    unfold signsFrom
    split
    · rename_i h
      obtain ⟨d1, d2, -, -⟩ := dec_bd s i h
      have := signsFrom_len s k (i + (Utf8.decode s i).2)
      simp only [List.length_cons]
      omega
    · simp
set_option maxRecDepth 100000 in
set_option maxHeartbeats 2000000 in
theorem refCheck3_any (s : ByteArray) (hs : s.size ≤ 9223372036854775807) (w : World) : Calls Tryd.prog 15 #[.string s] w fun e w' => e = .returned (.int .i64 (refChk s)) ∧ Below w.heap.size w w' := by
  by_cases h200 : 200 < s.size
  · have hI : (200 : Int) < (s.size : Int) := by omega
    rw [show refChk s = 3 by simp [refChk, h200]]
    go_enter Tryd.func15, Tryd.ntmps15
    go_wp2
    go_ret
    exact ⟨rfl, Below.refl _ _⟩
  · have hI : ¬ (200 : Int) < (s.size : Int) := by omega
    obtain ⟨l, hl⟩ : ∃ l, signsL s = l := ⟨_, rfl⟩
    have cS := signs_any s (by omega) w
    have hll : l.length ≤ s.size := by rw [← hl]; exact signsFrom_len s s.size 0
    rw [hl] at cS
    have hR : refChk s = if l.any brkS then 130 else if l.any badN then 131 else if blankD s then 132 else 0 := by unfold refChk; rw [if_neg h200, hl]
    rw [hR]
    clear hR hl
    obtain ⟨n, hn⟩ : ∃ n, l.length = n := ⟨_, rfl⟩
    have hn200 : n ≤ 200 := by omega
    cases hbr : l.any brkS
    · rw [if_neg (by simp)]
      cases hbn : l.any badN
      · rw [if_neg (by simp)]
        by_cases hz : s.size = 0
        · rw [if_pos (by unfold blankD; simp [hz])]
          have he : s = ByteArray.empty := ByteArray.size_eq_zero_iff.1 hz
          have HE := Lib.hid he
          clear he
          clear hz
          go_enter Tryd.func15, Tryd.ntmps15
          go_wp2_with fail
          refine (cS).mono ?_
          rintro e w1 ⟨v, rfl, hown, b1⟩
          obtain ⟨ao, cap, rfl, hcells⟩ := signs_own hown
          clear hown cS
          have HC := Lib.hid hcells
          clear hcells
          rw [hn]
          go_wp2_with fail
          go_loopw [4] (fun i wr => ∃ j : Nat, j ≤ n ∧ i = .int .i64 j ∧ wr = w1 ∧ Hid (∀ k x, k < j → l[k]? = some x → brkS x = false)) (fun i _ => n - (intOf i).toNat)
          case atStart => exact ⟨0, by omega, rfl, rfl, Lib.hid (fun k x h => absurd h (Nat.not_lt_zero _))⟩
          case' round =>
            obtain ⟨j, hj, rfl, hw1, hA⟩ := hrel
            subst hw1
          by_cases hlt : j < n
          ·
            obtain ⟨x, hx⟩ : ∃ x, l[j]? = some x := ⟨_, List.getElem?_eq_getElem (by omega)⟩
            obtain ⟨g, rfl, c2, c3⟩ := HC.out j x hx
            have hj0 : (0 : Int) ≤ (j : Int) := by omega
            have hj1 : (j : Int) < (n : Int) := by omega
            have hj4 : (j : Int) < 1000000000 := by omega
            cases hb : x.2.2.2
            · rw [hb] at c3
              have hA2 : Hid (∀ k y, k < j + 1 → l[k]? = some y → brkS y = false) := Lib.hid (fun k y hk hy => by
                by_cases e : k = j
                · subst e; rw [hx] at hy; cases hy; exact hb
                · exact hA.out k y (by omega) hy)
              clear hA c2
              go_wp2_with fail
              go_roundw
              case rel => exact ⟨j + 1, by omega, by go_num, by first | rfl | trivial, hA2⟩
              case measure => simp [intOf]; omega
            · exfalso
              have := any_true (f := brkS) hx hb
              rw [this] at hbr
              cases hbr
          ·
            obtain rfl : j = n := by omega
            clear hA hbr
            go_wp2_with fail
            go_loopw [5] (fun i w2 => ∃ q : Nat, q ≤ j ∧ i = .int .i64 q ∧ w2 = wr ∧ Hid (∀ k x, k < q → l[k]? = some x → badN x = false)) (fun i _ => j - (intOf i).toNat)
            case atStart => exact ⟨0, by omega, rfl, rfl, Lib.hid (fun k x h => absurd h (Nat.not_lt_zero _))⟩
            case' round =>
              obtain ⟨q, hq, rfl, hw2, hB⟩ := hrel
              subst hw2
            by_cases hltq : q < j
            ·
              obtain ⟨x, hx⟩ : ∃ x, l[q]? = some x := ⟨_, List.getElem?_eq_getElem (by omega)⟩
              obtain ⟨g, rfl, c2, c3⟩ := HC.out q x hx
              have hj0 : (0 : Int) ≤ (q : Int) := by omega
              have hj1 : (q : Int) < (j : Int) := by omega
              have hj4 : (q : Int) < 1000000000 := by omega
              obtain ⟨m, hm⟩ : ∃ m, x.2.2.1 = m := ⟨_, rfl⟩
              rw [hm] at c2
              have hbm : badN x = (decide (m < 32) || (decide (127 ≤ m) && decide (m ≤ 159))) := by rw [← hm]; rfl
              clear hm
              by_cases m1 : m < 32
              · exfalso
                rw [any_true (f := badN) hx (by rw [hbm]; simp [m1])] at hbn
                cases hbn
              · have m1' : ¬ (m : Int) < 32 := by omega
                by_cases m2 : 127 ≤ m
                · have m2' : (127 : Int) ≤ (m : Int) := by omega
                  by_cases m3 : m ≤ 159
                  · exfalso
                    rw [any_true (f := badN) hx (by rw [hbm]; simp [m2, m3])] at hbn
                    cases hbn
                  · have m3' : ¬ (m : Int) ≤ 159 := by omega
                    have hb : badN x = false := by rw [hbm]; simp [m1, m3]
                    have hB2 : Hid (∀ k y, k < q + 1 → l[k]? = some y → badN y = false) := Lib.hid (fun k y hk hy => by
                      by_cases e : k = q
                      · subst e; rw [hx] at hy; cases hy; exact hb
                      · exact hB.out k y (by omega) hy)
                    clear hB c3 hb
                    go_wp2_with fail
                    go_roundw
                    case rel => exact ⟨q + 1, by omega, by go_num, by first | rfl | trivial, hB2⟩
                    case measure => simp [intOf]; omega
                · have m2' : ¬ (127 : Int) ≤ (m : Int) := by omega
                  have hb : badN x = false := by rw [hbm]; simp [m1, m2]
                  have hB2 : Hid (∀ k y, k < q + 1 → l[k]? = some y → badN y = false) := Lib.hid (fun k y hk hy => by
                    by_cases e : k = q
                    · subst e; rw [hx] at hy; cases hy; exact hb
                    · exact hB.out k y (by omega) hy)
                  clear hB c3 hb
                  go_wp2_with fail
                  go_roundw
                  case rel => exact ⟨q + 1, by omega, by go_num, by first | rfl | trivial, hB2⟩
                  case measure => simp [intOf]; omega
            · obtain rfl : q = j := by omega
              clear hB hbn HC
              have he := HE.out
              go_wp2_with fail
              go_ret
              exact ⟨rfl, b1⟩
        · have he : ¬ s = ByteArray.empty := fun e => hz (by rw [e]; rfl)
          have hz0 : 0 < s.size := by omega
          have hzI : (0 : Int) < (s.size : Int) := by omega
          obtain ⟨b0, hb0⟩ : ∃ b0, (s.get! 0).toNat = b0 := ⟨_, rfl⟩
          obtain ⟨bl, hbl⟩ : ∃ bl, (s.get! (s.size - 1)).toNat = bl := ⟨_, rfl⟩
          have g0 : (s[0]'hz0).toNat = b0 := by rw [get_eq]; exact hb0
          obtain ⟨m1, hm1⟩ : ∃ m1, s.size - 1 = m1 := ⟨_, rfl⟩
          have hml : m1 < s.size := by omega
          have gl : (s[m1]'hml).toNat = bl := by rw [get_eq, ← hm1]; exact hbl
          have hmI : (s.size : Int) - 1 = (m1 : Int) := by omega
          have hm0 : (0 : Int) ≤ (m1 : Int) := by omega
          have hmL : (m1 : Int) < (s.size : Int) := by omega
          have hbk : blankD s = (b0 == 32 || bl == 32) := by unfold blankD; rw [hb0, hbl]; simp [hz]
          rw [hbk]
          clear hbk hb0 hbl hm1 hz
          have HF := Lib.hid (show ¬ s = ByteArray.empty ∧ (0 : Int) < (s.size : Int) ∧ (s[0]'hz0).toNat = b0 ∧ (s[m1]'hml).toNat = bl ∧ (s.size : Int) - 1 = (m1 : Int) ∧ (0 : Int) ≤ (m1 : Int) ∧ (m1 : Int) < (s.size : Int) from ⟨he, hzI, g0, gl, hmI, hm0, hmL⟩)
          clear he hzI g0 gl hmI hm0 hmL
          by_cases k0 : b0 = 32
          · subst k0
            rw [if_pos (by simp)]
            go_enter Tryd.func15, Tryd.ntmps15
            go_wp2_with fail
            refine (cS).mono ?_
            rintro e w1 ⟨v, rfl, hown, b1⟩
            obtain ⟨ao, cap, rfl, hcells⟩ := signs_own hown
            clear hown cS
            have HC := Lib.hid hcells
            clear hcells
            rw [hn]
            go_wp2_with fail
            go_loopw [4] (fun i wr => ∃ j : Nat, j ≤ n ∧ i = .int .i64 j ∧ wr = w1 ∧ Hid (∀ k x, k < j → l[k]? = some x → brkS x = false)) (fun i _ => n - (intOf i).toNat)
            case atStart => exact ⟨0, by omega, rfl, rfl, Lib.hid (fun k x h => absurd h (Nat.not_lt_zero _))⟩
            case' round =>
              obtain ⟨j, hj, rfl, hw1, hA⟩ := hrel
              subst hw1
            by_cases hlt : j < n
            ·
              obtain ⟨x, hx⟩ : ∃ x, l[j]? = some x := ⟨_, List.getElem?_eq_getElem (by omega)⟩
              obtain ⟨g, rfl, c2, c3⟩ := HC.out j x hx
              have hj0 : (0 : Int) ≤ (j : Int) := by omega
              have hj1 : (j : Int) < (n : Int) := by omega
              have hj4 : (j : Int) < 1000000000 := by omega
              cases hb : x.2.2.2
              · rw [hb] at c3
                have hA2 : Hid (∀ k y, k < j + 1 → l[k]? = some y → brkS y = false) := Lib.hid (fun k y hk hy => by
                  by_cases e : k = j
                  · subst e; rw [hx] at hy; cases hy; exact hb
                  · exact hA.out k y (by omega) hy)
                clear hA c2
                go_wp2_with fail
                go_roundw
                case rel => exact ⟨j + 1, by omega, by go_num, by first | rfl | trivial, hA2⟩
                case measure => simp [intOf]; omega
              · exfalso
                have := any_true (f := brkS) hx hb
                rw [this] at hbr
                cases hbr
            ·
              obtain rfl : j = n := by omega
              clear hA hbr
              go_wp2_with fail
              go_loopw [5] (fun i w2 => ∃ q : Nat, q ≤ j ∧ i = .int .i64 q ∧ w2 = wr ∧ Hid (∀ k x, k < q → l[k]? = some x → badN x = false)) (fun i _ => j - (intOf i).toNat)
              case atStart => exact ⟨0, by omega, rfl, rfl, Lib.hid (fun k x h => absurd h (Nat.not_lt_zero _))⟩
              case' round =>
                obtain ⟨q, hq, rfl, hw2, hB⟩ := hrel
                subst hw2
              by_cases hltq : q < j
              ·
                obtain ⟨x, hx⟩ : ∃ x, l[q]? = some x := ⟨_, List.getElem?_eq_getElem (by omega)⟩
                obtain ⟨g, rfl, c2, c3⟩ := HC.out q x hx
                have hj0 : (0 : Int) ≤ (q : Int) := by omega
                have hj1 : (q : Int) < (j : Int) := by omega
                have hj4 : (q : Int) < 1000000000 := by omega
                obtain ⟨m, hm⟩ : ∃ m, x.2.2.1 = m := ⟨_, rfl⟩
                rw [hm] at c2
                have hbm : badN x = (decide (m < 32) || (decide (127 ≤ m) && decide (m ≤ 159))) := by rw [← hm]; rfl
                clear hm
                by_cases m1 : m < 32
                · exfalso
                  rw [any_true (f := badN) hx (by rw [hbm]; simp [m1])] at hbn
                  cases hbn
                · have m1' : ¬ (m : Int) < 32 := by omega
                  by_cases m2 : 127 ≤ m
                  · have m2' : (127 : Int) ≤ (m : Int) := by omega
                    by_cases m3 : m ≤ 159
                    · exfalso
                      rw [any_true (f := badN) hx (by rw [hbm]; simp [m2, m3])] at hbn
                      cases hbn
                    · have m3' : ¬ (m : Int) ≤ 159 := by omega
                      have hb : badN x = false := by rw [hbm]; simp [m1, m3]
                      have hB2 : Hid (∀ k y, k < q + 1 → l[k]? = some y → badN y = false) := Lib.hid (fun k y hk hy => by
                        by_cases e : k = q
                        · subst e; rw [hx] at hy; cases hy; exact hb
                        · exact hB.out k y (by omega) hy)
                      clear hB c3 hb
                      go_wp2_with fail
                      go_roundw
                      case rel => exact ⟨q + 1, by omega, by go_num, by first | rfl | trivial, hB2⟩
                      case measure => simp [intOf]; omega
                  · have m2' : ¬ (127 : Int) ≤ (m : Int) := by omega
                    have hb : badN x = false := by rw [hbm]; simp [m1, m2]
                    have hB2 : Hid (∀ k y, k < q + 1 → l[k]? = some y → badN y = false) := Lib.hid (fun k y hk hy => by
                      by_cases e : k = q
                      · subst e; rw [hx] at hy; cases hy; exact hb
                      · exact hB.out k y (by omega) hy)
                    clear hB c3 hb
                    go_wp2_with fail
                    go_roundw
                    case rel => exact ⟨q + 1, by omega, by go_num, by first | rfl | trivial, hB2⟩
                    case measure => simp [intOf]; omega
              · obtain rfl : q = j := by omega
                clear hB hbn HC
                obtain ⟨he, hzI, g0, gl, hmI, hm0, hmL⟩ := HF.out
                go_wp2_with fail
                go_ret
                exact ⟨rfl, b1⟩
          · have K0 := Lib.hid (show ¬ (b0 : Int) = 32 by omega)
            by_cases kl : bl = 32
            · subst kl
              rw [if_pos (by simp)]
              clear k0
              go_enter Tryd.func15, Tryd.ntmps15
              go_wp2_with fail
              refine (cS).mono ?_
              rintro e w1 ⟨v, rfl, hown, b1⟩
              obtain ⟨ao, cap, rfl, hcells⟩ := signs_own hown
              clear hown cS
              have HC := Lib.hid hcells
              clear hcells
              rw [hn]
              go_wp2_with fail
              go_loopw [4] (fun i wr => ∃ j : Nat, j ≤ n ∧ i = .int .i64 j ∧ wr = w1 ∧ Hid (∀ k x, k < j → l[k]? = some x → brkS x = false)) (fun i _ => n - (intOf i).toNat)
              case atStart => exact ⟨0, by omega, rfl, rfl, Lib.hid (fun k x h => absurd h (Nat.not_lt_zero _))⟩
              case' round =>
                obtain ⟨j, hj, rfl, hw1, hA⟩ := hrel
                subst hw1
              by_cases hlt : j < n
              ·
                obtain ⟨x, hx⟩ : ∃ x, l[j]? = some x := ⟨_, List.getElem?_eq_getElem (by omega)⟩
                obtain ⟨g, rfl, c2, c3⟩ := HC.out j x hx
                have hj0 : (0 : Int) ≤ (j : Int) := by omega
                have hj1 : (j : Int) < (n : Int) := by omega
                have hj4 : (j : Int) < 1000000000 := by omega
                cases hb : x.2.2.2
                · rw [hb] at c3
                  have hA2 : Hid (∀ k y, k < j + 1 → l[k]? = some y → brkS y = false) := Lib.hid (fun k y hk hy => by
                    by_cases e : k = j
                    · subst e; rw [hx] at hy; cases hy; exact hb
                    · exact hA.out k y (by omega) hy)
                  clear hA c2
                  go_wp2_with fail
                  go_roundw
                  case rel => exact ⟨j + 1, by omega, by go_num, by first | rfl | trivial, hA2⟩
                  case measure => simp [intOf]; omega
                · exfalso
                  have := any_true (f := brkS) hx hb
                  rw [this] at hbr
                  cases hbr
              ·
                obtain rfl : j = n := by omega
                clear hA hbr
                go_wp2_with fail
                go_loopw [5] (fun i w2 => ∃ q : Nat, q ≤ j ∧ i = .int .i64 q ∧ w2 = wr ∧ Hid (∀ k x, k < q → l[k]? = some x → badN x = false)) (fun i _ => j - (intOf i).toNat)
                case atStart => exact ⟨0, by omega, rfl, rfl, Lib.hid (fun k x h => absurd h (Nat.not_lt_zero _))⟩
                case' round =>
                  obtain ⟨q, hq, rfl, hw2, hB⟩ := hrel
                  subst hw2
                by_cases hltq : q < j
                ·
                  obtain ⟨x, hx⟩ : ∃ x, l[q]? = some x := ⟨_, List.getElem?_eq_getElem (by omega)⟩
                  obtain ⟨g, rfl, c2, c3⟩ := HC.out q x hx
                  have hj0 : (0 : Int) ≤ (q : Int) := by omega
                  have hj1 : (q : Int) < (j : Int) := by omega
                  have hj4 : (q : Int) < 1000000000 := by omega
                  obtain ⟨m, hm⟩ : ∃ m, x.2.2.1 = m := ⟨_, rfl⟩
                  rw [hm] at c2
                  have hbm : badN x = (decide (m < 32) || (decide (127 ≤ m) && decide (m ≤ 159))) := by rw [← hm]; rfl
                  clear hm
                  by_cases m1 : m < 32
                  · exfalso
                    rw [any_true (f := badN) hx (by rw [hbm]; simp [m1])] at hbn
                    cases hbn
                  · have m1' : ¬ (m : Int) < 32 := by omega
                    by_cases m2 : 127 ≤ m
                    · have m2' : (127 : Int) ≤ (m : Int) := by omega
                      by_cases m3 : m ≤ 159
                      · exfalso
                        rw [any_true (f := badN) hx (by rw [hbm]; simp [m2, m3])] at hbn
                        cases hbn
                      · have m3' : ¬ (m : Int) ≤ 159 := by omega
                        have hb : badN x = false := by rw [hbm]; simp [m1, m3]
                        have hB2 : Hid (∀ k y, k < q + 1 → l[k]? = some y → badN y = false) := Lib.hid (fun k y hk hy => by
                          by_cases e : k = q
                          · subst e; rw [hx] at hy; cases hy; exact hb
                          · exact hB.out k y (by omega) hy)
                        clear hB c3 hb
                        go_wp2_with fail
                        go_roundw
                        case rel => exact ⟨q + 1, by omega, by go_num, by first | rfl | trivial, hB2⟩
                        case measure => simp [intOf]; omega
                    · have m2' : ¬ (127 : Int) ≤ (m : Int) := by omega
                      have hb : badN x = false := by rw [hbm]; simp [m1, m2]
                      have hB2 : Hid (∀ k y, k < q + 1 → l[k]? = some y → badN y = false) := Lib.hid (fun k y hk hy => by
                        by_cases e : k = q
                        · subst e; rw [hx] at hy; cases hy; exact hb
                        · exact hB.out k y (by omega) hy)
                      clear hB c3 hb
                      go_wp2_with fail
                      go_roundw
                      case rel => exact ⟨q + 1, by omega, by go_num, by first | rfl | trivial, hB2⟩
                      case measure => simp [intOf]; omega
                · obtain rfl : q = j := by omega
                  clear hB hbn HC
                  obtain ⟨he, hzI, g0, gl, hmI, hm0, hmL⟩ := HF.out; have k0' := K0.out
                  go_wp2_with fail
                  go_ret
                  exact ⟨rfl, b1⟩
            · have KL := Lib.hid (show ¬ (bl : Int) = 32 ∧ ¬ bl = 32 ∧ ¬ b0 = 32 from ⟨by omega, kl, k0⟩)
              rw [if_neg (by simp [k0, kl])]
              clear k0 kl
              go_enter Tryd.func15, Tryd.ntmps15
              go_wp2_with fail
              refine (cS).mono ?_
              rintro e w1 ⟨v, rfl, hown, b1⟩
              obtain ⟨ao, cap, rfl, hcells⟩ := signs_own hown
              clear hown cS
              have HC := Lib.hid hcells
              clear hcells
              rw [hn]
              go_wp2_with fail
              go_loopw [4] (fun i wr => ∃ j : Nat, j ≤ n ∧ i = .int .i64 j ∧ wr = w1 ∧ Hid (∀ k x, k < j → l[k]? = some x → brkS x = false)) (fun i _ => n - (intOf i).toNat)
              case atStart => exact ⟨0, by omega, rfl, rfl, Lib.hid (fun k x h => absurd h (Nat.not_lt_zero _))⟩
              case' round =>
                obtain ⟨j, hj, rfl, hw1, hA⟩ := hrel
                subst hw1
              by_cases hlt : j < n
              ·
                obtain ⟨x, hx⟩ : ∃ x, l[j]? = some x := ⟨_, List.getElem?_eq_getElem (by omega)⟩
                obtain ⟨g, rfl, c2, c3⟩ := HC.out j x hx
                have hj0 : (0 : Int) ≤ (j : Int) := by omega
                have hj1 : (j : Int) < (n : Int) := by omega
                have hj4 : (j : Int) < 1000000000 := by omega
                cases hb : x.2.2.2
                · rw [hb] at c3
                  have hA2 : Hid (∀ k y, k < j + 1 → l[k]? = some y → brkS y = false) := Lib.hid (fun k y hk hy => by
                    by_cases e : k = j
                    · subst e; rw [hx] at hy; cases hy; exact hb
                    · exact hA.out k y (by omega) hy)
                  clear hA c2
                  go_wp2_with fail
                  go_roundw
                  case rel => exact ⟨j + 1, by omega, by go_num, by first | rfl | trivial, hA2⟩
                  case measure => simp [intOf]; omega
                · exfalso
                  have := any_true (f := brkS) hx hb
                  rw [this] at hbr
                  cases hbr
              ·
                obtain rfl : j = n := by omega
                clear hA hbr
                go_wp2_with fail
                go_loopw [5] (fun i w2 => ∃ q : Nat, q ≤ j ∧ i = .int .i64 q ∧ w2 = wr ∧ Hid (∀ k x, k < q → l[k]? = some x → badN x = false)) (fun i _ => j - (intOf i).toNat)
                case atStart => exact ⟨0, by omega, rfl, rfl, Lib.hid (fun k x h => absurd h (Nat.not_lt_zero _))⟩
                case' round =>
                  obtain ⟨q, hq, rfl, hw2, hB⟩ := hrel
                  subst hw2
                by_cases hltq : q < j
                ·
                  obtain ⟨x, hx⟩ : ∃ x, l[q]? = some x := ⟨_, List.getElem?_eq_getElem (by omega)⟩
                  obtain ⟨g, rfl, c2, c3⟩ := HC.out q x hx
                  have hj0 : (0 : Int) ≤ (q : Int) := by omega
                  have hj1 : (q : Int) < (j : Int) := by omega
                  have hj4 : (q : Int) < 1000000000 := by omega
                  obtain ⟨m, hm⟩ : ∃ m, x.2.2.1 = m := ⟨_, rfl⟩
                  rw [hm] at c2
                  have hbm : badN x = (decide (m < 32) || (decide (127 ≤ m) && decide (m ≤ 159))) := by rw [← hm]; rfl
                  clear hm
                  by_cases m1 : m < 32
                  · exfalso
                    rw [any_true (f := badN) hx (by rw [hbm]; simp [m1])] at hbn
                    cases hbn
                  · have m1' : ¬ (m : Int) < 32 := by omega
                    by_cases m2 : 127 ≤ m
                    · have m2' : (127 : Int) ≤ (m : Int) := by omega
                      by_cases m3 : m ≤ 159
                      · exfalso
                        rw [any_true (f := badN) hx (by rw [hbm]; simp [m2, m3])] at hbn
                        cases hbn
                      · have m3' : ¬ (m : Int) ≤ 159 := by omega
                        have hb : badN x = false := by rw [hbm]; simp [m1, m3]
                        have hB2 : Hid (∀ k y, k < q + 1 → l[k]? = some y → badN y = false) := Lib.hid (fun k y hk hy => by
                          by_cases e : k = q
                          · subst e; rw [hx] at hy; cases hy; exact hb
                          · exact hB.out k y (by omega) hy)
                        clear hB c3 hb
                        go_wp2_with fail
                        go_roundw
                        case rel => exact ⟨q + 1, by omega, by go_num, by first | rfl | trivial, hB2⟩
                        case measure => simp [intOf]; omega
                    · have m2' : ¬ (127 : Int) ≤ (m : Int) := by omega
                      have hb : badN x = false := by rw [hbm]; simp [m1, m2]
                      have hB2 : Hid (∀ k y, k < q + 1 → l[k]? = some y → badN y = false) := Lib.hid (fun k y hk hy => by
                        by_cases e : k = q
                        · subst e; rw [hx] at hy; cases hy; exact hb
                        · exact hB.out k y (by omega) hy)
                      clear hB c3 hb
                      go_wp2_with fail
                      go_roundw
                      case rel => exact ⟨q + 1, by omega, by go_num, by first | rfl | trivial, hB2⟩
                      case measure => simp [intOf]; omega
                · obtain rfl : q = j := by omega
                  clear hB hbn HC
                  obtain ⟨he, hzI, g0, gl, hmI, hm0, hmL⟩ := HF.out; have k0' := K0.out; obtain ⟨kl', kl, k0⟩ := KL.out; have y1 : ((b0 : Int) == 32) = false := (by rw [beq_eq_false_iff_ne]; exact k0'); have y2 : ((bl : Int) == 32) = false := (by rw [beq_eq_false_iff_ne]; exact kl'); have y3 : ((s.size : Int) == 0) = false := (by rw [beq_eq_false_iff_ne]; omega)
                  go_wp2_with fail
                  go_ret
                  exact ⟨rfl, b1⟩
      · rw [if_pos rfl]
        go_enter Tryd.func15, Tryd.ntmps15
        go_wp2_with fail
        refine (cS).mono ?_
        rintro e w1 ⟨v, rfl, hown, b1⟩
        obtain ⟨ao, cap, rfl, hcells⟩ := signs_own hown
        clear hown cS
        have HC := Lib.hid hcells
        clear hcells
        rw [hn]
        go_wp2_with fail
        go_loopw [4] (fun i wr => ∃ j : Nat, j ≤ n ∧ i = .int .i64 j ∧ wr = w1 ∧ Hid (∀ k x, k < j → l[k]? = some x → brkS x = false)) (fun i _ => n - (intOf i).toNat)
        case atStart => exact ⟨0, by omega, rfl, rfl, Lib.hid (fun k x h => absurd h (Nat.not_lt_zero _))⟩
        case' round =>
          obtain ⟨j, hj, rfl, hw1, hA⟩ := hrel
          subst hw1
        by_cases hlt : j < n
        ·
          obtain ⟨x, hx⟩ : ∃ x, l[j]? = some x := ⟨_, List.getElem?_eq_getElem (by omega)⟩
          obtain ⟨g, rfl, c2, c3⟩ := HC.out j x hx
          have hj0 : (0 : Int) ≤ (j : Int) := by omega
          have hj1 : (j : Int) < (n : Int) := by omega
          have hj4 : (j : Int) < 1000000000 := by omega
          cases hb : x.2.2.2
          · rw [hb] at c3
            have hA2 : Hid (∀ k y, k < j + 1 → l[k]? = some y → brkS y = false) := Lib.hid (fun k y hk hy => by
              by_cases e : k = j
              · subst e; rw [hx] at hy; cases hy; exact hb
              · exact hA.out k y (by omega) hy)
            clear hA c2
            go_wp2_with fail
            go_roundw
            case rel => exact ⟨j + 1, by omega, by go_num, by first | rfl | trivial, hA2⟩
            case measure => simp [intOf]; omega
          · exfalso
            have := any_true (f := brkS) hx hb
            rw [this] at hbr
            cases hbr
        ·
          obtain rfl : j = n := by omega
          clear hA hbr
          go_wp2_with fail
          go_loopw [5] (fun i w2 => ∃ q : Nat, q ≤ j ∧ i = .int .i64 q ∧ w2 = wr ∧ Hid (∀ k x, k < q → l[k]? = some x → badN x = false)) (fun i _ => j - (intOf i).toNat)
          case atStart => exact ⟨0, by omega, rfl, rfl, Lib.hid (fun k x h => absurd h (Nat.not_lt_zero _))⟩
          case' round =>
            obtain ⟨q, hq, rfl, hw2, hB⟩ := hrel
            subst hw2
          by_cases hltq : q < j
          ·
            obtain ⟨x, hx⟩ : ∃ x, l[q]? = some x := ⟨_, List.getElem?_eq_getElem (by omega)⟩
            obtain ⟨g, rfl, c2, c3⟩ := HC.out q x hx
            have hj0 : (0 : Int) ≤ (q : Int) := by omega
            have hj1 : (q : Int) < (j : Int) := by omega
            have hj4 : (q : Int) < 1000000000 := by omega
            obtain ⟨m, hm⟩ : ∃ m, x.2.2.1 = m := ⟨_, rfl⟩
            rw [hm] at c2
            have hbm : badN x = (decide (m < 32) || (decide (127 ≤ m) && decide (m ≤ 159))) := by rw [← hm]; rfl
            clear hm
            by_cases m1 : m < 32
            · have m1' : (m : Int) < 32 := by omega
              go_wp2
              go_ret
              exact ⟨rfl, b1⟩
            · have m1' : ¬ (m : Int) < 32 := by omega
              by_cases m2 : 127 ≤ m
              · have m2' : (127 : Int) ≤ (m : Int) := by omega
                by_cases m3 : m ≤ 159
                · have m3' : (m : Int) ≤ 159 := by omega
                  go_wp2
                  go_ret
                  exact ⟨rfl, b1⟩
                · have m3' : ¬ (m : Int) ≤ 159 := by omega
                  have hb : badN x = false := by rw [hbm]; simp [m1, m3]
                  have hB2 : Hid (∀ k y, k < q + 1 → l[k]? = some y → badN y = false) := Lib.hid (fun k y hk hy => by
                    by_cases e : k = q
                    · subst e; rw [hx] at hy; cases hy; exact hb
                    · exact hB.out k y (by omega) hy)
                  clear hB c3 hb
                  go_wp2_with fail
                  go_roundw
                  case rel => exact ⟨q + 1, by omega, by go_num, by first | rfl | trivial, hB2⟩
                  case measure => simp [intOf]; omega
              · have m2' : ¬ (127 : Int) ≤ (m : Int) := by omega
                have hb : badN x = false := by rw [hbm]; simp [m1, m2]
                have hB2 : Hid (∀ k y, k < q + 1 → l[k]? = some y → badN y = false) := Lib.hid (fun k y hk hy => by
                  by_cases e : k = q
                  · subst e; rw [hx] at hy; cases hy; exact hb
                  · exact hB.out k y (by omega) hy)
                clear hB c3 hb
                go_wp2_with fail
                go_roundw
                case rel => exact ⟨q + 1, by omega, by go_num, by first | rfl | trivial, hB2⟩
                case measure => simp [intOf]; omega
          · exfalso
            rw [any_false (fun k y hk hy => hB.out k y (by omega) hy)] at hbn
            cases hbn
    · rw [if_pos rfl]
      go_enter Tryd.func15, Tryd.ntmps15
      go_wp2_with fail
      refine (cS).mono ?_
      rintro e w1 ⟨v, rfl, hown, b1⟩
      obtain ⟨ao, cap, rfl, hcells⟩ := signs_own hown
      clear hown cS
      have HC := Lib.hid hcells
      clear hcells
      rw [hn]
      go_wp2_with fail
      go_loopw [4] (fun i wr => ∃ j : Nat, j ≤ n ∧ i = .int .i64 j ∧ wr = w1 ∧ Hid (∀ k x, k < j → l[k]? = some x → brkS x = false)) (fun i _ => n - (intOf i).toNat)
      case atStart => exact ⟨0, by omega, rfl, rfl, Lib.hid (fun k x h => absurd h (Nat.not_lt_zero _))⟩
      case' round =>
        obtain ⟨j, hj, rfl, hw1, hA⟩ := hrel
        subst hw1
      by_cases hlt : j < n
      ·
        obtain ⟨x, hx⟩ : ∃ x, l[j]? = some x := ⟨_, List.getElem?_eq_getElem (by omega)⟩
        obtain ⟨g, rfl, c2, c3⟩ := HC.out j x hx
        have hj0 : (0 : Int) ≤ (j : Int) := by omega
        have hj1 : (j : Int) < (n : Int) := by omega
        have hj4 : (j : Int) < 1000000000 := by omega
        cases hb : x.2.2.2
        · rw [hb] at c3
          have hA2 : Hid (∀ k y, k < j + 1 → l[k]? = some y → brkS y = false) := Lib.hid (fun k y hk hy => by
            by_cases e : k = j
            · subst e; rw [hx] at hy; cases hy; exact hb
            · exact hA.out k y (by omega) hy)
          clear hA c2
          go_wp2_with fail
          go_roundw
          case rel => exact ⟨j + 1, by omega, by go_num, by first | rfl | trivial, hA2⟩
          case measure => simp [intOf]; omega
        · rw [hb] at c3
          clear hA c2
          go_wp2
          go_ret
          exact ⟨rfl, b1⟩
      · exfalso
        rw [any_false (fun k y hk hy => hA.out k y (by omega) hy)] at hbr
        cases hbr
end Go.Proofs.YtehjglaofhgjfaaDoor
