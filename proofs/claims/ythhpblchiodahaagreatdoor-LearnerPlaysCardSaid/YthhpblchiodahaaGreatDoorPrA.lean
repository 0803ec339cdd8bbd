
/- Package proposer: what a proposer is; none, nothing, all, the places of a set. -/
import Derived.Test.YthhpblchiodahaaGreatDoorM2
import Derived.Test.YthhpblchiodahaaGreatDoorM1
import Derived.Shelf.Abstract
import Derived.OwnWalkIn
import Derived.TacticsInMore
import Derived.LoopNIn
import Derived.LoopIn
import Derived.BigGuardIn
namespace Go.Proofs.YthhpblchiodahaaGreatDoor
set_option linter.unusedSimpArgs false
set_option linter.unusedVariables false
open Go.RowKit Go.Shelf
/-- A proposer: its phase, its entry (k, m, n, s), who promised, who accepted, the best (br, bp: bk, bm, bn, bs), above (ur, up), choir, slot, ballot (r, p). -/
structure Prp where (ph k m n : Int) (s : ByteArray) (pr ac : List Bool) (br bp bk bm bn : Int) (bs : ByteArray) (ur up c sl r p : Int)
def prpL (A : Prp) : List Value := [.int .i64 A.ph, .int .i64 A.k, .int .i64 A.m, .int .i64 A.n, .string A.s] ++ (A.pr.map Value.bool ++ (A.ac.map Value.bool ++
  [.int .i64 A.br, .int .i64 A.bp, .int .i64 A.bk, .int .i64 A.bm, .int .i64 A.bn, .string A.bs, .int .i64 A.ur, .int .i64 A.up, .int .i64 A.c, .int .i64 A.sl, .int .i64 A.r, .int .i64 A.p]))
def PW (W : World) (g : Nat) (A : Prp) : Prop := Blk W g 97 (prpL A) ∧ A.pr.length = 9 ∧ A.ac.length = 9
theorem PW.lt {W : World} {g : Nat} {A : Prp} (h : PW W g A) : g < W.heap.size := h.1.lt
theorem PW.step {W w1 : World} {g : Nat} {A : Prp} (h : PW W g A) (hb : Below W.heap.size W w1) : PW w1 g A := ⟨h.1.step hb, h.2⟩
theorem PW.kx {W W' : World} {g : Nat} {A : Prp} {ws : List Nat} (h : PW W g A) (hb : Kx ws W W') (hw : g ∉ ws) : PW W' g A := ⟨hb.blk h.1 hw, h.2⟩
theorem nine {hs : List Bool} (h : hs.length = 9) : ∃ a0 a1 a2 a3 a4 a5 a6 a7 a8, hs = [a0, a1, a2, a3, a4, a5, a6, a7, a8] := by
  match hs, h with
  | [a0, a1, a2, a3, a4, a5, a6, a7, a8], _ => exact ⟨_, _, _, _, _, _, _, _, _, rfl⟩
theorem PW.at {W : World} {g : Nat} {A : Prp} (h : PW W g A) (j : Nat) (u : Value) (hj : (prpL A)[j]? = some u) : W.cell? ⟨g, j, none⟩ = some u := h.1.cell hj
theorem PW.c0 {W : World} {g : Nat} {A : Prp} (h : PW W g A) : W.cell? ⟨g, 0, none⟩ = some (.int .i64 A.ph) := by
  obtain ⟨hB, h1, h2⟩ := h
  obtain ⟨ph, k, m, n, s, pr, ac, br, bp, bk, bm, bn, bs, ur, up, c, sl, r, p⟩ := A
  obtain ⟨a0, a1, a2, a3, a4, a5, a6, a7, a8, rfl⟩ := nine h1
  obtain ⟨b0, b1, b2, b3, b4, b5, b6, b7, b8, rfl⟩ := nine h2
  exact hB.cell (j := 0) rfl
theorem PW.cc {W : World} {g : Nat} {A : Prp} (h : PW W g A) : W.cell? ⟨g, 31, none⟩ = some (.int .i64 A.c) := by
  obtain ⟨hB, h1, h2⟩ := h
  obtain ⟨ph, k, m, n, s, pr, ac, br, bp, bk, bm, bn, bs, ur, up, c, sl, r, p⟩ := A
  obtain ⟨a0, a1, a2, a3, a4, a5, a6, a7, a8, rfl⟩ := nine h1
  obtain ⟨b0, b1, b2, b3, b4, b5, b6, b7, b8, rfl⟩ := nine h2
  exact hB.cell (j := 31) rfl
theorem PW.csl {W : World} {g : Nat} {A : Prp} (h : PW W g A) : W.cell? ⟨g, 32, none⟩ = some (.int .i64 A.sl) := by
  obtain ⟨hB, h1, h2⟩ := h
  obtain ⟨ph, k, m, n, s, pr, ac, br, bp, bk, bm, bn, bs, ur, up, c, sl, r, p⟩ := A
  obtain ⟨a0, a1, a2, a3, a4, a5, a6, a7, a8, rfl⟩ := nine h1
  obtain ⟨b0, b1, b2, b3, b4, b5, b6, b7, b8, rfl⟩ := nine h2
  exact hB.cell (j := 32) rfl
theorem PW.cr {W : World} {g : Nat} {A : Prp} (h : PW W g A) : W.cell? ⟨g, 33, none⟩ = some (.int .i64 A.r) := by
  obtain ⟨hB, h1, h2⟩ := h
  obtain ⟨ph, k, m, n, s, pr, ac, br, bp, bk, bm, bn, bs, ur, up, c, sl, r, p⟩ := A
  obtain ⟨a0, a1, a2, a3, a4, a5, a6, a7, a8, rfl⟩ := nine h1
  obtain ⟨b0, b1, b2, b3, b4, b5, b6, b7, b8, rfl⟩ := nine h2
  exact hB.cell (j := 33) rfl
theorem PW.cp {W : World} {g : Nat} {A : Prp} (h : PW W g A) : W.cell? ⟨g, 34, none⟩ = some (.int .i64 A.p) := by
  obtain ⟨hB, h1, h2⟩ := h
  obtain ⟨ph, k, m, n, s, pr, ac, br, bp, bk, bm, bn, bs, ur, up, c, sl, r, p⟩ := A
  obtain ⟨a0, a1, a2, a3, a4, a5, a6, a7, a8, rfl⟩ := nine h1
  obtain ⟨b0, b1, b2, b3, b4, b5, b6, b7, b8, rfl⟩ := nine h2
  exact hB.cell (j := 34) rfl
theorem PW.apr {W : World} {g : Nat} {A : Prp} (h : PW W g A) (j : Nat) (hj : j < 9) : W.cell? ⟨g, 5 + j, none⟩ = some (.bool (A.pr.getD j false)) := by
  refine h.1.cell (j := 5 + j) ?_
  have h1 := h.2.1
  unfold prpL
  rw [List.getElem?_append_right (by simp), List.getElem?_append_left (by simp; omega)]
  simp [show 5 + j - 5 = j by omega, h1, hj]
theorem PW.aac {W : World} {g : Nat} {A : Prp} (h : PW W g A) (j : Nat) (hj : j < 9) : W.cell? ⟨g, 14 + j, none⟩ = some (.bool (A.ac.getD j false)) := by
  refine h.1.cell (j := 14 + j) ?_
  have h1 := h.2.1
  have h2 := h.2.2
  unfold prpL
  rw [List.getElem?_append_right (by simp; omega), List.getElem?_append_right (by simp [h1]; omega), List.getElem?_append_left (by simp [h1, h2]; omega)]
  simp [h1, show 14 + j - 5 - 9 = j by omega, h2, hj]
theorem PW.setPr {W : World} {g : Nat} {A : Prp} (h : PW W g A) (j : Nat) (hj : j < 9) : PW (W.setCell ⟨g, 5 + j, none⟩ (.bool true)) g { A with pr := A.pr.set j true } := by
  refine ⟨?_, by simp [h.2.1], h.2.2⟩
  have := h.1.set (5 + j) (.bool true)
  have h1 := h.2.1
  have e : (prpL A).set (5 + j) (.bool true) = prpL { A with pr := A.pr.set j true } := by
    unfold prpL
    rw [List.set_append_right _ _ (by simp), List.set_append_left _ _ (by simp; omega)]
    simp [show 5 + j - 5 = j by omega, List.map_set]
  rw [e] at this
  exact this
theorem PW.setAc {W : World} {g : Nat} {A : Prp} (h : PW W g A) (j : Nat) (hj : j < 9) : PW (W.setCell ⟨g, 14 + j, none⟩ (.bool true)) g { A with ac := A.ac.set j true } := by
  refine ⟨?_, h.2.1, by simp [h.2.2]⟩
  have := h.1.set (14 + j) (.bool true)
  have h1 := h.2.1
  have h2 := h.2.2
  have e : (prpL A).set (14 + j) (.bool true) = prpL { A with ac := A.ac.set j true } := by
    unfold prpL
    rw [List.set_append_right _ _ (by simp; omega), List.set_append_right _ _ (by simp [h1]; omega), List.set_append_left _ _ (by simp [h1, h2]; omega)]
    simp [h1, show 14 + j - 5 - 9 = j by omega, List.map_set]
  rw [e] at this
  exact this
set_option maxRecDepth 100000 in
set_option maxHeartbeats 400000 in
theorem none15_at (g : Nat) (c : Int) (b : Bool) (w : World) (hb : (c == 0) = b) (hc : w.cell? ⟨g, 31, none⟩ = some (.int .i64 c)) : Calls Tryz.prog 70 #[.pointer (some ⟨g, 0, none⟩)] w fun e w' => e = .returned (.bool b) ∧ w = w' := by
  by_cases h : c = 0
  · subst h
    obtain rfl : true = b := hb
    go_enter Tryz.func70, Tryz.ntmps70
    go_wp2
    go_ret
    exact ⟨rfl, rfl⟩
  · obtain rfl : b = false := by rw [← hb]; simp [h]
    go_enter Tryz.func70, Tryz.ntmps70
    go_wp2
    go_ret
    exact ⟨by simp, rfl⟩
set_option maxRecDepth 100000 in
set_option maxHeartbeats 400000 in
theorem none15_nil (w : World) : Calls Tryz.prog 70 #[.pointer none] w fun e w' => e = .returned (.bool true) ∧ w = w' := by
  go_enter Tryz.func70, Tryz.ntmps70
  go_wp2
  go_ret
  exact ⟨rfl, rfl⟩
/-- A pointer at no proposer. -/
def NoR (W : World) (p : Value) : Prop := p = .pointer none ∨ ∃ g, p = .pointer (some ⟨g, 0, none⟩) ∧ W.cell? ⟨g, 31, none⟩ = some (.int .i64 0)
theorem NoR.step {W W' : World} {p : Value} (h : NoR W p) (hb : Below W.heap.size W W') : NoR W' p := by
  rcases h with h | ⟨g, h, hc⟩
  · exact .inl h
  · exact .inr ⟨g, h, (hb.cell (World.block_lt_of_cell? W _ hc)).trans hc⟩
theorem none15_no (p : Value) (w : World) (h : NoR w p) : Calls Tryz.prog 70 #[p] w fun e w' => e = .returned (.bool true) ∧ w = w' := by
  rcases h with rfl | ⟨g, rfl, hc⟩
  · exact none15_nil w
  · exact none15_at g 0 true w rfl hc
set_option maxRecDepth 100000 in
set_option maxHeartbeats 400000 in
theorem nothing15_any (w : World) : Calls Tryz.prog 54 #[] w fun e w' => e = .returned (.agg #[.int .i64 (-1), .int .i64 0, .int .i64 0, .int .i64 0, .int .i64 0, .string ⟨#[]⟩]) ∧ Below w.heap.size w w' := by
  go_enter Tryz.func54, Tryz.ntmps54
  go_upto_region 1 with fail
  obtain ⟨B, hB⟩ : ∃ B, w.heap.size = B := ⟨_, rfl⟩
  have X := Blk.newV (W := w) hB 93 #[.int .i64 0, .int .i64 0, .int .i64 0, .int .i64 0, .int .i64 0, .string ⟨#[]⟩]
  have hb := (Below.refl w.heap.size w).alloc (Nat.le_refl _) (.cells #[.int .i64 0, .int .i64 0, .int .i64 0, .int .i64 0, .int .i64 0, .string ⟨#[]⟩] 93)
  generalize w.alloc (.cells #[.int .i64 0, .int .i64 0, .int .i64 0, .int .i64 0, .int .i64 0, .string ⟨#[]⟩] 93) = W at *
  go_wp2_with fail
  refine (bnone_any _).mono ?_
  rintro e w2 ⟨rfl, hb2⟩
  have X2 := X.step hb2
  have hb3 := hb.trans (hb2.mono hb.size)
  have X2_0 := X2.cell (j := 0) rfl
  have X2_1 := X2.cell (j := 1) rfl
  have X2_2 := X2.cell (j := 2) rfl
  have X2_3 := X2.cell (j := 3) rfl
  have X2_4 := X2.cell (j := 4) rfl
  have X2_5 := X2.cell (j := 5) rfl
  have X2f0 := X2.frozen 0
  have X2f1 := X2.frozen 1
  have X2f2 := X2.frozen 2
  have X2f3 := X2.frozen 3
  have X2f4 := X2.frozen 4
  have X2f5 := X2.frozen 5
  go_wp2
  rw [hB] at hb3
  (try simp only [Exit.inBlock, Exit.then])
  refine bodyPost_ret (v := .agg #[.int .i64 (-1), .int .i64 0, .int .i64 0, .int .i64 0, .int .i64 0, .string ⟨#[]⟩]) ?_ rfl ⟨rfl, ?_⟩
  · rw [r_cell1 rfl]
    go_simp
  · (try rw [hB])
    exact below6 hb3 (Nat.le_refl _) _ _ _ _ _ _
set_option maxRecDepth 100000 in
set_option maxHeartbeats 1000000 in
theorem index_false (b : Nat) (bs : List Bool) (n : Nat) (hn : bs.length = n) (hn9 : n ≤ 9) (w : World) (hB : Blk w b 4 (bs.map Value.bool)) :
    Calls Tryz.prog 151 #[.slice (some ⟨b, 0, none⟩) n n, .bool false] w fun e w' => (∃ i : Int, e = .returned (.int .i64 i) ∧ decide (0 ≤ i) = !(bs.all id)) ∧ w = w' := by
  obtain ⟨R, hR⟩ : ∃ R, bs.all id = R := ⟨_, rfl⟩
  rw [hR]
  go_enter Tryz.func151, Tryz.ntmps151
  go_wp2
  go_loopw [8] (fun i wr => ∃ j : Nat, j ≤ n ∧ i = .int .i64 j ∧ w = wr ∧ Hid (∀ k, k < j → bs.getD k false = true)) (fun i _ => n - (intOf i).toNat)
  case atStart => exact ⟨0, by omega, rfl, by first | rfl | trivial, Lib.hid (fun k h => absurd h (Nat.not_lt_zero _))⟩
  case round =>
    obtain ⟨j, hj, rfl, rfl, hA⟩ := hrel
    by_cases hlt : j < n
    · obtain ⟨v, hv⟩ : ∃ v, bs.getD j false = v := ⟨_, rfl⟩
      have hjl : j < bs.length := by omega
      have hc : (bs.map Value.bool)[j]? = some (.bool v) := by rw [← hv]; simp [hjl]
      have cj := hB.cell hc
      have hj0 : (0 : Int) ≤ (j : Int) := by omega
      have hj1 : (j : Int) < (n : Int) := by omega
      have hj2 : (j : Int) < 100 := by omega
      clear hc
      cases v
      · have hf : R = false := by
          rw [← hR, List.all_eq_false]
          exact ⟨bs[j], List.getElem_mem hjl, by simpa [hjl] using hv⟩
        subst hf
        clear hv hA
        go_wp2
        go_ret
        exact ⟨⟨j, rfl, by simp⟩, rfl⟩
      · have hA2 : Hid (∀ k, k < j + 1 → bs.getD k false = true) := Lib.hid (fun k hk => by
          by_cases e : k = j
          · subst e; exact hv
          · exact hA.out k (by omega))
        clear hv hA
        go_wp2_with fail
        go_roundw
        case rel => exact ⟨j + 1, by omega, by go_num, by first | rfl | trivial, hA2⟩
        case measure => simp [intOf]; omega
    · obtain rfl : j = n := by omega
      have hf : R = true := by
        rw [← hR, List.all_eq_true]
        intro x hx
        obtain ⟨k, hk, rfl⟩ := List.getElem_of_mem hx
        have := hA.out k (by omega)
        simpa [hk] using this
      subst hf
      clear hA
      go_wp2
      go_ret
      exact ⟨⟨-1, rfl, by simp⟩, rfl⟩
set_option maxRecDepth 100000 in
set_option maxHeartbeats 1000000 in
theorem contains_false (b : Nat) (bs : List Bool) (n : Nat) (hn : bs.length = n) (hn9 : n ≤ 9) (w : World) (hB : Blk w b 4 (bs.map Value.bool)) :
    Calls Tryz.prog 138 #[.slice (some ⟨b, 0, none⟩) n n, .bool false] w fun e w' => e = .returned (.bool (!(bs.all id))) ∧ w = w' := by
  have cI := index_false b bs n hn hn9 w hB
  obtain ⟨R, hR⟩ : ∃ R, (!(bs.all id)) = R := ⟨_, rfl⟩
  rw [hR] at cI ⊢
  clear hR
  go_enter Tryz.func138, Tryz.ntmps138
  go_wp2_with fail
  refine (cI).mono ?_
  rintro e w2 ⟨⟨i, rfl, hi⟩, rfl⟩
  subst hi
  go_wp2
  go_ret
  exact ⟨rfl, rfl⟩
set_option maxRecDepth 100000 in
set_option maxHeartbeats 1000000 in
theorem allP_any (b : Nat) (bs : List Bool) (n : Nat) (hn : bs.length = n) (hn9 : n ≤ 9) (w : World) (hB : Blk w b 4 (bs.map Value.bool)) :
    Calls Tryz.prog 107 #[.slice (some ⟨b, 0, none⟩) n n] w fun e w' => e = .returned (.bool (bs.all id)) ∧ w = w' := by
  have cI := contains_false b bs n hn hn9 w hB
  obtain ⟨R, hR⟩ : ∃ R, bs.all id = R := ⟨_, rfl⟩
  rw [hR] at cI ⊢
  clear hR
  cases R
  · go_enter Tryz.func107, Tryz.ntmps107
    go_wp2_with fail
    refine (cI).mono ?_
    rintro e w2 ⟨rfl, rfl⟩
    go_wp2
    go_ret
    exact ⟨rfl, rfl⟩
  · go_enter Tryz.func107, Tryz.ntmps107
    go_wp2_with fail
    refine (cI).mono ?_
    rintro e w2 ⟨rfl, rfl⟩
    go_wp2
    go_ret
    exact ⟨rfl, rfl⟩
def plEnc (x : Int) : Array Value := #[.int .i64 x]
def plK (k : Int) : List Bool → List Int
  | [] => []
  | true :: t => k :: plK (k + 1) t
  | false :: t => plK (k + 1) t
theorem pl_round (xs : List Int) (hs : List Bool) (k : Nat) (hk : k < hs.length) (n : Nat) (h : ∃ pre : List Int, pre.length = n ∧ xs = pre ++ plK k (hs.drop k)) :
    (hs.getD k false = true → xs[n]? = some (k : Int) ∧ ∃ pre : List Int, pre.length = n + 1 ∧ xs = pre ++ plK (k + 1 : Nat) (hs.drop (k + 1))) ∧
    (hs.getD k false = false → ∃ pre : List Int, pre.length = n ∧ xs = pre ++ plK (k + 1 : Nat) (hs.drop (k + 1))) := by
  obtain ⟨pre, hp, rfl⟩ := h
  rw [List.drop_eq_getElem_cons hk]
  have he : hs.getD k false = hs[k] := by simp [hk]
  rw [he]
  constructor
  · intro h
    rw [h]
    simp only [plK]
    refine ⟨by simp [← hp], pre ++ [(k : Int)], by simp [hp], by simp⟩
  · intro h
    rw [h]
    simp only [plK]
    exact ⟨pre, hp, by simp⟩
end Go.Proofs.YthhpblchiodahaaGreatDoor
