
/- Lines and Named on what is out of bounds; TextLines. -/
import Derived.Test.YtehjglaofhgjfaaDoorTyY
namespace Go.Proofs.YtehjglaofhgjfaaDoor
set_option linter.unusedSimpArgs false
set_option linter.unusedVariables false
open Go.RowKit
theorem linesF_len (width : Nat) (hw : 1 ≤ width) (M : Nat) : ∀ (ws out : List BL) (line : BL) (has : Nat), (∀ x ∈ ws, x.length ≤ M) → (linesF width ws out line has).length ≤ out.length + 1 + ws.length * (M + 1)
  | [], out, line, has, _ => by unfold linesF; split <;> simp
  | x :: ws, out, line, has, h => by
    have hx := h x (by simp)
    have ht : ∀ y ∈ ws, y.length ≤ M := fun y hy => h y (by simp [hy])
    have e : (x :: ws).length * (M + 1) = ws.length * (M + 1) + (M + 1) := by rw [List.length_cons, Nat.add_mul, Nat.one_mul]
    unfold linesF
    split
    · have := linesF_len width hw M ws out (line ++ 32 :: x) (has + 1 + lenB x) ht
      omega
    · have := linesF_len width hw M ws ((if 0 < has then out ++ [line] else out) ++ (splitW width x.length x).1) (splitW width x.length x).2 (lenB (splitW width x.length x).2) ht
      have h2 := (splitW_len width hw x.length x).1
      have h3 : (if 0 < has then out ++ [line] else out).length ≤ out.length + 1 := by split <;> simp
      rw [List.length_append] at this
      omega
theorem linesL_len (width : Nat) (s : ByteArray) (hw : 1 ≤ width) (hs : s.size ≤ 300) : (linesL width s.data.toList).length ≤ 9000000 := by
  obtain ⟨h1, h2⟩ := wrd_len s.data.toList []
  rw [← Lib.size_eq] at h1
  have h3 := linesF_len width hw 300 (wrd [] s.data.toList) [] [] 0 (fun x hx => by have := h2 x hx; rw [← Lib.size_eq] at this; simp at this; omega)
  unfold linesL
  simp at h3
  omega
set_option maxRecDepth 100000 in
set_option maxHeartbeats 1000000 in
theorem lines_bad (s : ByteArray) (width : Int) (hw : width < 1 ∨ 200 < width) (w : World) :
    Calls Tryd.prog 19 #[.string s, .int .i64 width] w fun e w' => e = .returned (.tuple #[.slice none 0 0, .int .i64 2]) ∧ Below w.heap.size w w' := by
  have hb := (Below.refl w.heap.size w).alloc (Nat.le_refl _) (.cells #[.int .i64 width] 3)
  have c0 := (Blk.newV (W := w) rfl 3 #[.int .i64 width]).cell (j := 0) rfl
  by_cases h1 : width < 1
  · clear hw
    go_enter Tryd.func19, Tryd.ntmps19
    go_wp2_with fail
    go_returns
    exact ⟨rfl, hb⟩
  · have h2 : 200 < width := by omega
    clear hw
    go_enter Tryd.func19, Tryd.ntmps19
    go_wp2_with fail
    go_returns
    exact ⟨rfl, hb⟩
theorem lines_long (s : ByteArray) (hs : 1048576 < s.size) (w : World) :
    Calls Tryd.prog 19 #[.string s, .int .i64 200] w fun e w' => e = .returned (.tuple #[.slice none 0 0, .int .i64 3]) ∧ Below w.heap.size w w' := by
  have hb := (Below.refl w.heap.size w).alloc (Nat.le_refl _) (.cells #[.int .i64 200] 3)
  have c0 := (Blk.newV (W := w) rfl 3 #[.int .i64 200]).cell (j := 0) rfl
  have h1 : (1048576 : Int) < (s.size : Int) := by omega
  clear hs
  go_enter Tryd.func19, Tryd.ntmps19
  go_wp2_with fail
  go_returns
  exact ⟨rfl, hb⟩
theorem named_long (s : ByteArray) (hs : 1048576 < s.size) (w : World) :
    Calls Tryd.prog 16 #[.string s] w fun e w' => e = .returned (.tuple #[.slice none 0 0, .int .i64 3]) ∧ Below w.heap.size w w' := by
  refine callsIn_wide (n := 3).1 ?_
  have hb := From.refl w
  have h1 : (1048576 : Int) < (s.size : Int) := by omega
  refine callsIn_of_wp_marks Tryd.func16 rfl trivial ?_ rfl
  simp only [Tryd.ntmps16, List.size_toArray, List.length_cons, List.length_nil, Nat.reduceAdd, Nat.reduceSub, Array.replicate_succ, Array.replicate_zero, List.push_toArray, List.append_toArray, List.nil_append, List.cons_append]
  refine (wpIn_wide (n := 3)).2 ?_
  go_upto_region 1 with fail
  obtain ⟨gO, hgO⟩ : ∃ g, (w).heap.size = g := ⟨_, rfl⟩
  have O := Blk.newV hgO 28 #[.slice none 0 0]
  have hbn := (Below.refl (w).heap.size w).alloc (Nat.le_refl _) (.cells #[.slice none 0 0] 28)
  replace hb := hb.step hbn
  clear hbn
  rw [hgO]
  generalize (w).alloc (.cells #[.slice none 0 0] 28) = w1 at *
  have fO := O.frozen 0
  have c0 := O.cell (j := 0) rfl
  go_wp2_with fail
  have O9 := O.set 0 (.slice none 0 0)
  have c9 : (w1.setCell ⟨gO, 0, none⟩ (.slice none 0 0)).cell? ⟨gO, 0, none⟩ = some (.slice none 0 0) := O9.cell (j := 0) rfl
  have hb9 : Below gO w (w1.setCell ⟨gO, 0, none⟩ (.slice none 0 0)) := Below.setCell (hgO ▸ hb.out) (p := ⟨gO, 0, none⟩) (Nat.le_refl _) _
  clear O9 O c0 fO hb
  generalize w1.setCell ⟨gO, 0, none⟩ (.slice none 0 0) = W9 at *
  refine leaves_nil (v := .tuple #[.slice none 0 0, .int .i64 3]) rfl ?_ ⟨rfl, hb9⟩
  simp [results, Tryd.results16, go_sem, c9]
set_option maxRecDepth 100000 in
set_option maxHeartbeats 1000000 in
theorem TextLines_walk (s : ByteArray) (width : Int) (w : World) (hT : Tabs w) (hM : MaxL w) (hs : s.size ≤ 9223372036854775807) (hn : -9223372036854775808 ≤ width ∧ width ≤ 9223372036854775807) :
    Calls Tryd.prog 5 #[.string s, .int .i64 width] w fun e w' => e = .returned (.bool true) ∧ Below w.heap.size w w' := by
  by_cases h3 : 300 < s.size
  · have hI : (300 : Int) < (s.size : Int) := by omega
    go_enter Tryd.func5, Tryd.ntmps5
    go_wp2_with fail
    refine (works3_any _ hT hM).mono ?_
    rintro e w1 ⟨rfl, hb⟩
    go_wp2_with fail
    go_ret
    exact ⟨rfl, hb⟩
  · have hI : ¬ (300 : Int) < (s.size : Int) := by omega
    have hb := From.refl w
    by_cases hw : width < 1 ∨ 200 < width
    · have cL := lines_bad s width hw w
      rcases hw with h1 | h1
      · clear hn
        go_enter Tryd.func5, Tryd.ntmps5
        go_wp2_with fail
        refine (cL).mono ?_
        rintro e w1 ⟨rfl, hb1⟩
        replace hb := hb.step hb1
        replace hT := hT.step hb1
        replace hM := hM.step hb1
        clear hb1 cL
        go_wp2_with fail
        refine (num3_any _ _).mono ?_
        rintro e wz ⟨rfl, rfl⟩
        go_wp2_with fail
        refine (works3_any _ hT hM).mono ?_
        rintro e w5 ⟨rfl, hb1⟩
        replace hb := hb.step hb1
        go_wp2_with fail
        go_ret
        exact ⟨rfl, hb⟩
      · have h2 : ¬ width < 1 := by omega
        clear hn
        go_enter Tryd.func5, Tryd.ntmps5
        go_wp2_with fail
        refine (cL).mono ?_
        rintro e w1 ⟨rfl, hb1⟩
        replace hb := hb.step hb1
        replace hT := hT.step hb1
        replace hM := hM.step hb1
        clear hb1 cL
        go_wp2_with fail
        refine (num3_any _ _).mono ?_
        rintro e wz ⟨rfl, rfl⟩
        go_wp2_with fail
        refine (works3_any _ hT hM).mono ?_
        rintro e w5 ⟨rfl, hb1⟩
        replace hb := hb.step hb1
        go_wp2_with fail
        go_ret
        exact ⟨rfl, hb⟩
    · obtain ⟨W, rfl⟩ : ∃ W : Nat, width = W := ⟨width.toNat, by omega⟩
      have hW1 : 1 ≤ W := by omega
      have hW2 : W ≤ 200 := by omega
      have hl : (linesL W s.data.toList).length ≤ 9000000 := linesL_len W s hW1 (by omega)
      have g1 : ¬ (W : Int) < 1 := by omega
      have g2 : ¬ (200 : Int) < (W : Int) := by omega
      clear hn hw
      go_enter Tryd.func5, Tryd.ntmps5
      go_wp2_with fail
      refine (lines_any s W (by omega) hW1 hW2 _ hM).mono ?_
      rintro e w1 ⟨⟨v, rfl, hO⟩, hb1⟩
      have hS := hO.strS
      replace hb := hb.step hb1
      replace hT := hT.step hb1
      replace hM := hM.step hb1
      clear hb1 hO
      go_wp2_with fail
      refine (rlines_any s W (by omega) hW1 hW2 _).mono ?_
      rintro e w2 ⟨⟨v2, rfl, hO⟩, hb1⟩
      have hS2 := hO.strS
      replace hS := hS.step hb1
      replace hb := hb.step hb1
      replace hT := hT.step hb1
      replace hM := hM.step hb1
      clear hb1 hO
      go_wp2_with fail
      refine (same_yes _ _ _ _ hS hS2 hl).mono ?_
      rintro e w3 ⟨rfl, hb1⟩
      replace hb := hb.step hb1
      replace hT := hT.step hb1
      replace hM := hM.step hb1
      clear hb1 hS hS2
      go_wp2_with fail
      refine (num3_any _ _).mono ?_
      rintro e wz ⟨rfl, rfl⟩
      go_wp2_with fail
      refine (works3_any _ hT hM).mono ?_
      rintro e w5 ⟨rfl, hb1⟩
      replace hb := hb.step hb1
      go_wp2_with fail
      go_ret
      exact ⟨rfl, hb⟩
end Go.Proofs.YtehjglaofhgjfaaDoor
