
/- The document's signs, counted and placed; the document's Cut; the first signs of a text. -/
import Derived.Test.YtehjglaofhgjfaaDoorTyR
import Derived.Test.YtehjglaofhgjfaaDoorTyC
namespace Go.Proofs.YtehjglaofhgjfaaDoor
set_option linter.unusedSimpArgs false
set_option linter.unusedVariables false
open Go.RowKit
theorem signs_len (s : ByteArray) : ∀ k i, s.size ≤ i + k → (signsFrom s k i).length = lenB (s.data.toList.drop i)
  | 0, i, h => by rw [drop_nil (by omega), lenB_nil]; rfl
  | k + 1, i, h => by
    unfold signsFrom
    split
    · rename_i hi
      have := Lib.decode_width_pos s i hi
      rw [List.length_cons, lenB_at s i hi, signs_len s k _ (by omega)]
      omega
    · rename_i hi
      rw [drop_nil hi, lenB_nil]; rfl
theorem posF_at (s : ByteArray) (n pos : Nat) (h : pos < s.size) : posF (n + 1) (s.data.toList.drop pos) = (Utf8.decode s pos).2 + posF n (s.data.toList.drop (pos + (Utf8.decode s pos).2)) := by
  rw [posF, if_neg (drop_ne h), Lib.decodeL_drop, List.drop_drop]
theorem signs_pos (s : ByteArray) : ∀ k i n x, s.size ≤ i + k → (signsFrom s k i)[n]? = some x → x.1 = i + posF n (s.data.toList.drop i)
  | 0, i, n, x, h, hx => by simp [signsFrom] at hx
  | k + 1, i, n, x, h, hx => by
    unfold signsFrom at hx
    split at hx
    · rename_i hi
      have hw := Lib.decode_width_pos s i hi
      cases n with
      | zero => simp at hx; subst hx; rfl
      | succ n =>
        rw [List.getElem?_cons_succ] at hx
        rw [signs_pos s k _ n x (by omega) hx, posF_at s n i hi]
        omega
    · simp at hx
theorem signsL_len (s : ByteArray) : (signsL s).length = lenB s.data.toList := by
  have := signs_len s s.size 0 (by omega)
  simpa [signsL] using this
theorem signsL_pos (s : ByteArray) (n : Nat) (x : Sg) (h : (signsL s)[n]? = some x) : x.1 = posF n s.data.toList := by
  have := signs_pos s s.size 0 n x (by omega) h
  simpa using this
theorem cellsS_get0 (l : List Sg) (j : Nat) (x : Sg) (h : l[j]? = some x) : (cellsS l)[j * 4]? = some (.int .i64 x.1) := by
  induction l generalizing j with
  | nil => simp at h
  | cons a t ih =>
    cases j with
    | zero => simp at h; subst h; simp [cellsS]
    | succ j =>
      have h' : t[j]? = some x := by simpa using h
      rw [show (j + 1) * 4 = j * 4 + 4 by omega]
      simpa [cellsS] using ih j h'
/-- The signs, read: where each begins and which it is. -/
theorem signs_own0 {W : World} {base : Nat} {v : Value} {l : List Sg} (h : OwnS W base v l) : ∃ ao cap, v = .slice ao l.length cap ∧ ∀ (j : Nat) (x : Sg), l[j]? = some x → ∃ g, ao = some ⟨g, 0, none⟩ ∧ W.cell? ⟨g, j * 4, none⟩ = some (.int .i64 x.1) ∧ W.cell? ⟨g, j * 4 + 2, none⟩ = some (.int .i64 x.2.2.1) := by
  obtain ⟨h1, h2⟩ := id h
  rcases h2 with ⟨rfl, h0⟩ | ⟨g, cap, cur, hv, hg, hh, r1, r2, r3⟩
  · have : l = [] := by simpa using h0
    subst this
    exact ⟨none, 0, rfl, fun j x hx => by simp at hx⟩
  · refine ⟨_, cap, hv, fun j x hx => ?_⟩
    have c0 := World.ownsRow.cells h (g := g) (by rw [hv]; rfl) (j * 4) _ (cellsS_get0 l j x hx)
    have c2 := World.ownsRow.cells h (g := g) (by rw [hv]; rfl) (j * 4 + 2) _ (cellsS_get l j x hx).1
    exact ⟨g, rfl, by simpa [Addr.add_lit] using c0, by simpa [Addr.add_lit] using c2⟩
theorem cutV_no (n : Int) (s : ByteArray) (h : n ≤ 0) : cutV n s = ⟨#[]⟩ := by
  unfold cutV cutB
  rw [show n.toNat = 0 by omega]; rfl
theorem cutV_all (n : Int) (s : ByteArray) (h : ((signsL s).length : Int) ≤ n) : cutV n s = s := by
  unfold cutV
  rw [cutB_all _ _ (by rw [← signsL_len]; omega), mkS_self]
theorem cutV_at (n : Nat) (s : ByteArray) (x : Sg) (h : (signsL s)[n]? = some x) : cutV n s = s.extract 0 x.1 := by
  unfold cutV cutB
  rw [ext_take, signsL_pos s n x h]; rfl
set_option maxRecDepth 100000 in
set_option maxHeartbeats 1000000 in
theorem rcut_any (s : ByteArray) (hs : s.size ≤ 4096) (n : Int) (w : World) : Calls Tryd.prog 29 #[.string s, .int .i64 n] w fun e w' => e = .returned (.string (cutV n s)) ∧ Below w.heap.size w w' := by
  have cS := signs_any s hs w
  obtain ⟨L, hL⟩ : ∃ L, (signsL s).length = L := ⟨_, rfl⟩
  by_cases h0 : n ≤ 0
  · rw [cutV_no n s h0]
    go_enter Tryd.func29, Tryd.ntmps29
    go_wp2_with fail
    refine (cS).mono ?_
    rintro e w1 ⟨v, rfl, hown, hb⟩
    go_wp2_with fail
    go_ret
    exact ⟨rfl, hb⟩
  · by_cases h1 : (L : Int) ≤ n
    · rw [cutV_all n s (by rw [hL]; exact h1)]
      go_enter Tryd.func29, Tryd.ntmps29
      go_wp2_with fail
      refine (cS).mono ?_
      rintro e w1 ⟨v, rfl, hown, hb⟩
      obtain ⟨ao, cap, rfl, -⟩ := signs_own0 hown
      rw [hL]
      clear hL
      go_wp2_with fail
      go_ret
      exact ⟨rfl, hb⟩
    · obtain ⟨N, rfl⟩ : ∃ N : Nat, n = N := ⟨n.toNat, by omega⟩
      obtain ⟨x, hx⟩ : ∃ x, (signsL s)[N]? = some x := ⟨_, List.getElem?_eq_getElem (by omega)⟩
      have hx1 : x.1 ≤ s.size := by rw [signsL_pos s N x hx, Lib.size_eq]; exact posF_le _ _
      rw [cutV_at N s x hx]
      have hN0 : (0 : Int) ≤ (N : Int) := by omega
      have hN1 : (N : Int) < (L : Int) := by omega
      have hN2 : (N : Int) < 5000 := by have := signs_len s s.size 0 (by omega); have := lenB_le (s.data.toList.drop 0); rw [List.length_drop, ← Lib.size_eq] at this; unfold signsL at hL; omega
      go_enter Tryd.func29, Tryd.ntmps29
      go_wp2_with fail
      refine (cS).mono ?_
      rintro e w1 ⟨v, rfl, hown, hb⟩
      obtain ⟨ao, cap, rfl, hc⟩ := signs_own0 hown
      obtain ⟨g, rfl, c0, -⟩ := hc N x hx
      have hz0 : (0 : Int) ≤ (x.1 : Int) := by omega
      have hz1 : (x.1 : Int) ≤ (s.size : Int) := by omega
      rw [hL]
      clear hL hc hown cS hs
      obtain ⟨p, hp⟩ : ∃ p, x.1 = p := ⟨_, rfl⟩
      obtain ⟨M, hM⟩ : ∃ M, s.size = M := ⟨_, rfl⟩
      rw [hp] at c0 hx1 hz0 hz1
      rw [hM] at hx1 hz1
      have HP := Lib.hid hp
      clear hp
      clear hx
      go_upto_region 6 with fail
      clear hN2 hx1
      go_wp2_with fail
      go_ret
      exact ⟨by rw [HP.out]; rfl, hb⟩
set_option maxRecDepth 100000 in
set_option maxHeartbeats 1000000 in
theorem TextCuts_walk (s : ByteArray) (n : Int) (w : World) (hT : Tabs w) (hM : MaxL w) (hs : s.size ≤ 9223372036854775807) (hn : -9223372036854775808 ≤ n ∧ n ≤ 9223372036854775807) :
    Calls Tryd.prog 9 #[.string s, .int .i64 n] w fun e w' => e = .returned (.bool true) ∧ Below w.heap.size w w' := by
  by_cases h3 : 300 < s.size
  · have hI : (300 : Int) < (s.size : Int) := by omega
    go_enter Tryd.func9, Tryd.ntmps9
    go_wp2_with fail
    refine (works3_any _ hT hM).mono ?_
    rintro e w1 ⟨rfl, hb⟩
    go_wp2_with fail
    go_ret
    exact ⟨rfl, hb⟩
  · have hI : ¬ (300 : Int) < (s.size : Int) := by omega
    have hb := From.refl w
    have e1 : ((cutV n s).toList == (cutV n s).toList) = true := beq_self_eq_true _
    have e2 : ((foldS s).toList == (foldS s).toList) = true := beq_self_eq_true _
    go_enter Tryd.func9, Tryd.ntmps9
    go_wp2_with fail
    refine (cut_any s n hn.2 _).mono ?_
    rintro e w1 ⟨rfl, hb1⟩
    replace hb := hb.step hb1
    replace hT := hT.step hb1
    replace hM := hM.step hb1
    clear hb1
    go_wp2_with fail
    refine (rcut_any s (by omega) n _).mono ?_
    rintro e w2 ⟨rfl, hb1⟩
    replace hb := hb.step hb1
    replace hT := hT.step hb1
    replace hM := hM.step hb1
    clear hb1
    go_wp2_with fail
    refine (fold_any s _ rfl (by omega) _).mono ?_
    rintro e w3 ⟨rfl, hb1⟩
    replace hb := hb.step hb1
    replace hT := hT.step hb1
    replace hM := hM.step hb1
    clear hb1
    go_wp2_with fail
    refine (rfold_any s _ rfl (by omega) _).mono ?_
    rintro e w4 ⟨rfl, hb1⟩
    replace hb := hb.step hb1
    replace hT := hT.step hb1
    replace hM := hM.step hb1
    clear hb1
    go_wp2_with fail
    refine (works3_any _ hT hM).mono ?_
    rintro e w5 ⟨rfl, hb1⟩
    replace hb := hb.step hb1
    go_wp2_with fail
    go_ret
    exact ⟨rfl, hb⟩
end Go.Proofs.YtehjglaofhgjfaaDoor
