
/- WheelPlays. -/
import Derived.Test.YtfdfmmmfklodgaaWiJ
namespace Go.Proofs.Ytfdfmmmfklodgaa
set_option linter.unusedSimpArgs false
set_option linter.unusedVariables false
open Go.RowKit
attribute [local go_sem] Oper.semAt_some
theorem NoW.step {w w' : World} {p : Value} (h : NoW w p) (hb : Below w.heap.size w w') : NoW w' p := by
  rcases h with rfl | ⟨g, rfl, c⟩
  · exact .inl rfl
  · exact .inr ⟨g, rfl, cells_kept hb c⟩
set_option maxRecDepth 100000 in
set_option maxHeartbeats 400000 in
theorem set_no (p : Value) (w : World) (h : NoW w p) : Calls Try.prog 14 #[p, .int .i64 1, .int .i64 1] w fun e w' => e = .returned (.tuple #[.int .i64 0, .int .i64 1]) ∧ w = w' := by
  have cn := none_no p w h
  clear h
  go_enter Try.func14, Try.ntmps14
  go_wp2_with fail
  refine wp_scope_fwd 0 rfl ?_
  intro Q2 hR hGo
  go_wp2_with fail
  refine (cn).mono ?_
  rintro e _ ⟨rfl, rfl⟩
  go_wp2
  apply wp_goto
  (try simp only [Exit.then])
  refine hGo.out _ _ ?_
  go_wp2
  rw [Exit.noGoto_ret]
  go_ret2
  exact ⟨rfl, rfl⟩
set_option maxRecDepth 100000 in
set_option maxHeartbeats 400000 in
theorem same_nn (p q : Value) (w : World) (h1 : NoW w p) (h2 : NoW w q) : Calls Try.prog 25 #[p, q] w fun e w' => e = .returned (.bool true) ∧ w = w' := by
  have c1 := none_no p w h1
  have c2 := none_no q w h2
  clear h1 h2
  go_enter Try.func25, Try.ntmps25
  go_wp2_with fail
  refine (c1).mono ?_
  rintro e _ ⟨rfl, rfl⟩
  go_wp2_with fail
  refine (c1).mono ?_
  rintro e _ ⟨rfl, rfl⟩
  go_wp2_with fail
  refine (c2).mono ?_
  rintro e _ ⟨rfl, rfl⟩
  go_wp2
  go_ret
  exact ⟨rfl, rfl⟩
set_option maxRecDepth 100000 in
set_option maxHeartbeats 400000 in
theorem same_wn (xs : List Nat) (g : Nat) (now : Int) (L : List (Int × Int)) (q : Value) (w : World) (h1 : WhV w xs g now L) (h2 : NoW w q) : Calls Try.prog 25 #[.pointer (some ⟨g, 0, none⟩), q] w fun e w' => e = .returned (.bool false) ∧ w = w' := by
  obtain ⟨sb, ba, hW⟩ := h1
  have c1 := none_wh xs g now L _ sb ba w hW
  have c2 := none_no q w h2
  clear h2 hW
  go_enter Try.func25, Try.ntmps25
  go_wp2_with fail
  refine (c1).mono ?_
  rintro e _ ⟨rfl, rfl⟩
  go_wp2_with fail
  refine (c2).mono ?_
  rintro e _ ⟨rfl, rfl⟩
  go_wp2_with fail
  refine (c1).mono ?_
  rintro e _ ⟨rfl, rfl⟩
  go_wp2
  go_ret
  exact ⟨rfl, rfl⟩
theorem next_no (p : Value) (w : World) (h : NoW w p) : Calls Try.prog 28 #[p] w fun e w' => e = .returned (.tuple #[.agg #[.int .i64 0, .int .i64 0], .bool false]) ∧ Below w.heap.size w w' :=
  next_of p [] (by decide) w (fun W hW => allF_no p W (h.step hW))
set_option maxRecDepth 100000 in
set_option maxHeartbeats 8000000 in
theorem plays_some (ao : Option Addr) (n c0 : Nat) (w : World) (hA : HasA w ao n) (hn : n ≤ 9223372036854775807) (h50 : n ≤ 50) :
    Calls Try.prog 9 #[.slice ao n c0] w (WorksP w) := by
  refine callsIn_wide (n := 3).1 ?_
  have n0 : (0 : Int) ≤ (n : Int) := by omega
  have n1 : (n : Int) ≤ 50 := by omega
  have hb := From.refl w
  have heq := eql_seq
  refine callsIn_of_wp_marks Try.func9 rfl trivial ?_ rfl
  simp only [Try.ntmps9, List.size_toArray, List.length_cons, List.length_nil, Nat.reduceAdd, Nat.reduceSub, Array.replicate_succ, Array.replicate_zero, List.push_toArray, List.append_toArray, List.nil_append, List.cons_append]
  refine (wpIn_wide (n := 3)).2 ?_
  go_upto_region 1 with fail
  obtain ⟨gR, hgR⟩ : ∃ g, (w).heap.size = g := ⟨_, rfl⟩
  have R := Blk.newV hgR 4 #[.bool false]
  have hbn := (Below.refl (w).heap.size w).alloc (Nat.le_refl _) (.cells #[.bool false] 4)
  replace hb := hb.step hbn
  replace hA := hA.step hbn
  clear hbn
  rw [hgR]
  generalize (w).alloc (.cells #[.bool false] 4) = w3 at *
  have hwR : w.heap.size ≤ gR := by omega
  clear hgR
  go_wp2_with fail
  refine (small_any ao n c0 hn _ hA).mono ?_
  rintro e _ ⟨⟨b1, rfl⟩, rfl⟩
  cases b1
  · go_wp2_with fail
    refine (works_any _).mono ?_
    rintro e w4 ⟨rfl, hb9⟩
    have hb9 : Below w3.heap.size w3 w4 := hb9
    replace hb := hb.step hb9
    replace hA := hA.step hb9
    replace R := R.step hb9
    have r0 := R.cell (j := 0) rfl
    have f0 := R.frozen 0
    have R2 := R.set 0 (.bool true)
    have r2 := R2.cell (j := 0) rfl
    go_wp2_with fail
    have hb8 := hb.out.setCell (p := ⟨gR, 0, none⟩) (by show w.heap.size ≤ gR; omega) (.bool true)
    exact leaves_list w.heap.size [] rfl (fun D' h => by simp at h) (by simp) (v := .bool true) (fun W' hbW hcW => by
      have G1' : Blk W' gR 4 [.bool true] := hcW _ _ R2 rfl
      have r10 := G1'.cell (j := 0) rfl
      exact ⟨by simp [results, Try.results9, go_sem, r10], rfl, hb8.trans hbW⟩)
  go_wp2_with fail
  refine (played_any ao n c0 hn _ hA).mono ?_
  rintro e w5 ⟨g, now, L, a, c, xs, rfl, -, -, hbn⟩
  replace hb := hb.step hbn
  replace R := R.step hbn
  clear hA hbn
  obtain ⟨N, hN⟩ : ∃ N, L.length = N := ⟨_, rfl⟩
  rw [hN]
  clear hN
  go_upto_region 4 with fail
  obtain ⟨gQ, hgQ⟩ : ∃ g, (w5).heap.size = g := ⟨_, rfl⟩
  have lt_R_Q := R.lt
  rw [hgQ] at lt_R_Q
  have Q := Blk.newV hgQ 28 #[.int .i64 now, .slice a N c]
  have hbn := (Below.refl (w5).heap.size w5).alloc (Nat.le_refl _) (.cells #[.int .i64 now, .slice a N c] 28)
  replace hb := hb.step hbn
  replace R := R.step hbn
  clear hbn
  rw [hgQ]
  generalize (w5).alloc (.cells #[.int .i64 now, .slice a N c] 28) = w6 at *
  clear hgQ lt_R_Q Q
  go_wp2_with fail
  · obtain ⟨gZ, hgZ⟩ : ∃ gZ, w6.heap.size = gZ := ⟨_, rfl⟩
    have Z := Blk.newV hgZ 67 Try.zeroCells67
    have hba := (Below.refl w6.heap.size w6).alloc (Nat.le_refl _) (.cells Try.zeroCells67 67)
    replace hb := hb.step hba
    replace R := R.step hba
    rw [hgZ]
    have hN : NoW (w6.alloc (.cells Try.zeroCells67 67)) (.pointer (some ⟨gZ, 0, none⟩)) := .inr ⟨gZ, rfl, Z.cell (j := 65) (by kernel_rfl)⟩
    clear hba Z hgZ
    generalize w6.alloc (.cells Try.zeroCells67 67) = w7 at *
    refine (set_no _ _ hN).mono ?_
    rintro e _ ⟨rfl, rfl⟩
    go_wp2_with fail
    refine (advance_no _ _ hN).mono ?_
    rintro e _ ⟨rfl, rfl⟩
    go_wp2_with fail
    refine (next_no _ _ hN).mono ?_
    rintro e wa ⟨rfl, hbn⟩
    replace hb := hb.step hbn
    replace R := R.step hbn
    replace hN := hN.step hbn
    clear hbn
    go_upto_region 10 with fail
    obtain ⟨gD, hgD⟩ : ∃ g, (wa).heap.size = g := ⟨_, rfl⟩
    have lt_R_D := R.lt
    rw [hgD] at lt_R_D
    have D := Blk.newV hgD 50 #[.int .i64 0, .int .i64 0]
    have hbn := (Below.refl (wa).heap.size wa).alloc (Nat.le_refl _) (.cells #[.int .i64 0, .int .i64 0] 50)
    replace hb := hb.step hbn
    replace R := R.step hbn
    replace hN := hN.step hbn
    clear hbn
    rw [hgD]
    generalize (wa).alloc (.cells #[.int .i64 0, .int .i64 0] 50) = wb at *
    clear hgD lt_R_D D
    go_wp2_with fail
    refine (at_no _ _ hN).mono ?_
    rintro e _ ⟨rfl, rfl⟩
    go_wp2_with fail
    refine (allF_no _ _ hN).mono ?_
    rintro e wc ⟨b1, rfl, -, hbn⟩
    unfold DueF
    replace hb := hb.step hbn
    replace R := R.step hbn
    replace hN := hN.step hbn
    clear hbn
    go_wp2_with fail
    refine (allF_no _ _ hN).mono ?_
    rintro e wd ⟨b, rfl, ⟨ao2, c3, hBx, hHas, hbb, hrow⟩, hbn⟩
    unfold DueF
    replace hb := hb.step hbn
    replace R := R.step hbn
    replace hN := hN.step hbn
    clear hbn
    have hseq := all_xs b ao2 c3 [] wd hBx hHas (by decide)
    have hrl := row_lt hrow
    clear hBx hHas hbb hrow
    go_wp2_with fail
    refine (wpIn_wide (n := 3)).1 ?_
    apply wpIn_range_xs 37 #[.pointer (some ⟨b, 0, none⟩)] rfl enters_All (rowS ao2) hseq hrl (Below.refl _ _) (fun _ => rfl)
      (fun _ W => Kx [] wd W)
      (fun _ _ _ => False)
      (ownFrom_kx _ _)
      (fun _ _ _ _ _ h _ _ => h)
      (Kx.refl _ _)
    case hassign =>
      intro l x W K hK
      dsimp only [dueEnc]
      gi_wp2
      exact hK
    case hbody =>
      rintro l k x W hx
      simp at hx
    case hstop =>
      rintro D c k W hD hk h
      exact h.elim
    case hdone =>
      rintro D W hD hK hDf0
      have hDd : Dfr D W := hDf0
      have hDw : w.heap.size ≤ D := by have := hb.size; omega
      clear hDf0
      replace R := R.kx hK (by simp)
      replace hb := hb.kx hK (by simp)
      have hbk := hK.below (B := wd.heap.size) (Nat.le_refl _) (by simp)
      replace hN := hN.step hbk
      clear hK hbk hseq hrl
      gi_wp2_with fail
      go_wp2_with fail
      refine (num_any _ _).mono ?_
      rintro e _ ⟨rfl, rfl⟩
      go_wp2_with fail
      refine (num_any _ _).mono ?_
      rintro e _ ⟨rfl, rfl⟩
      go_wp2_with fail
      refine (cancel_no _ _ hN).mono ?_
      rintro e _ ⟨rfl, rfl⟩
      go_wp2_with fail
      refine (num_any _ _).mono ?_
      rintro e _ ⟨rfl, rfl⟩
      go_wp2_with fail
      refine (now_no _ _ hN).mono ?_
      rintro e _ ⟨rfl, rfl⟩
      go_wp2_with fail
      refine (len_no _ _ hN).mono ?_
      rintro e _ ⟨rfl, rfl⟩
      go_wp2_with fail
      refine (copy_no _ _ hN).mono ?_
      rintro e _ ⟨rfl, rfl⟩
      go_wp2_with fail
      refine (same_nn _ _ _ hN (.inl rfl)).mono ?_
      rintro e _ ⟨rfl, rfl⟩
      go_wp2_with fail
      refine (new_any W).mono ?_
      rintro e we ⟨⟨g3, ba3, xs3, rfl, hW3, -⟩, hbn⟩
      replace hb := hb.step hbn
      replace R := R.step hbn
      replace hN := hN.step hbn
      replace hDd := hDd.step hbn
      clear hbn
      go_wp2_with fail
      refine (same_wn xs3 g3 0 [] _ _ ⟨_, _, hW3⟩ hN).mono ?_
      rintro e _ ⟨rfl, rfl⟩
      clear hW3
      go_wp2_with fail
      refine (works_any _).mono ?_
      rintro e wz ⟨rfl, hb9⟩
      have hb9 : Below we.heap.size we wz := hb9
      replace hb := hb.step hb9
      replace R := R.step hb9
      replace hN := hN.step hb9
      replace hDd := hDd.step hb9
      have r0 := R.cell (j := 0) rfl
      have f0 := R.frozen 0
      have R2 := R.set 0 (.bool true)
      have hb8 := hb.out.setCell (p := ⟨gR, 0, none⟩) (by show w.heap.size ≤ gR; omega) (.bool true)
      have hD10 := (KeepsOthers.setCell wz ⟨gR, 0, none⟩ (.bool true)).same D _ hDd rfl
      go_wp2_with fail
      exact leaves_list w.heap.size [D] rfl (fun D' h => by simp at h; subst h; exact ⟨hDw, hD10⟩) (by simp) (v := .bool true) (fun W' hbW hcW => by
        have G1' : Blk W' gR 4 [.bool true] := hcW _ _ R2 rfl
        have r10 := G1'.cell (j := 0) rfl
        exact ⟨by simp [results, Try.results9, go_sem, r10], rfl, hb8.trans hbW⟩)
  · have hN : NoW w6 (.pointer none) := .inl rfl
    refine (set_no _ _ hN).mono ?_
    rintro e _ ⟨rfl, rfl⟩
    go_wp2_with fail
    refine (advance_no _ _ hN).mono ?_
    rintro e _ ⟨rfl, rfl⟩
    go_wp2_with fail
    refine (next_no _ _ hN).mono ?_
    rintro e wa ⟨rfl, hbn⟩
    replace hb := hb.step hbn
    replace R := R.step hbn
    replace hN := hN.step hbn
    clear hbn
    go_upto_region 10 with fail
    obtain ⟨gD, hgD⟩ : ∃ g, (wa).heap.size = g := ⟨_, rfl⟩
    have lt_R_D := R.lt
    rw [hgD] at lt_R_D
    have D := Blk.newV hgD 50 #[.int .i64 0, .int .i64 0]
    have hbn := (Below.refl (wa).heap.size wa).alloc (Nat.le_refl _) (.cells #[.int .i64 0, .int .i64 0] 50)
    replace hb := hb.step hbn
    replace R := R.step hbn
    replace hN := hN.step hbn
    clear hbn
    rw [hgD]
    generalize (wa).alloc (.cells #[.int .i64 0, .int .i64 0] 50) = wb at *
    clear hgD lt_R_D D
    go_wp2_with fail
    refine (at_no _ _ hN).mono ?_
    rintro e _ ⟨rfl, rfl⟩
    go_wp2_with fail
    refine (allF_no _ _ hN).mono ?_
    rintro e wc ⟨b1, rfl, -, hbn⟩
    unfold DueF
    replace hb := hb.step hbn
    replace R := R.step hbn
    replace hN := hN.step hbn
    clear hbn
    go_wp2_with fail
    refine (allF_no _ _ hN).mono ?_
    rintro e wd ⟨b, rfl, ⟨ao2, c3, hBx, hHas, hbb, hrow⟩, hbn⟩
    unfold DueF
    replace hb := hb.step hbn
    replace R := R.step hbn
    replace hN := hN.step hbn
    clear hbn
    have hseq := all_xs b ao2 c3 [] wd hBx hHas (by decide)
    have hrl := row_lt hrow
    clear hBx hHas hbb hrow
    go_wp2_with fail
    refine (wpIn_wide (n := 3)).1 ?_
    apply wpIn_range_xs 37 #[.pointer (some ⟨b, 0, none⟩)] rfl enters_All (rowS ao2) hseq hrl (Below.refl _ _) (fun _ => rfl)
      (fun _ W => Kx [] wd W)
      (fun _ _ _ => False)
      (ownFrom_kx _ _)
      (fun _ _ _ _ _ h _ _ => h)
      (Kx.refl _ _)
    case hassign =>
      intro l x W K hK
      dsimp only [dueEnc]
      gi_wp2
      exact hK
    case hbody =>
      rintro l k x W hx
      simp at hx
    case hstop =>
      rintro D c k W hD hk h
      exact h.elim
    case hdone =>
      rintro D W hD hK hDf0
      have hDd : Dfr D W := hDf0
      have hDw : w.heap.size ≤ D := by have := hb.size; omega
      clear hDf0
      replace R := R.kx hK (by simp)
      replace hb := hb.kx hK (by simp)
      have hbk := hK.below (B := wd.heap.size) (Nat.le_refl _) (by simp)
      replace hN := hN.step hbk
      clear hK hbk hseq hrl
      gi_wp2_with fail
      go_wp2_with fail
      refine (num_any _ _).mono ?_
      rintro e _ ⟨rfl, rfl⟩
      go_wp2_with fail
      refine (num_any _ _).mono ?_
      rintro e _ ⟨rfl, rfl⟩
      go_wp2_with fail
      refine (cancel_no _ _ hN).mono ?_
      rintro e _ ⟨rfl, rfl⟩
      go_wp2_with fail
      refine (num_any _ _).mono ?_
      rintro e _ ⟨rfl, rfl⟩
      go_wp2_with fail
      refine (now_no _ _ hN).mono ?_
      rintro e _ ⟨rfl, rfl⟩
      go_wp2_with fail
      refine (len_no _ _ hN).mono ?_
      rintro e _ ⟨rfl, rfl⟩
      go_wp2_with fail
      refine (copy_no _ _ hN).mono ?_
      rintro e _ ⟨rfl, rfl⟩
      go_wp2_with fail
      refine (same_nn _ _ _ hN (.inl rfl)).mono ?_
      rintro e _ ⟨rfl, rfl⟩
      go_wp2_with fail
      refine (new_any W).mono ?_
      rintro e we ⟨⟨g3, ba3, xs3, rfl, hW3, -⟩, hbn⟩
      replace hb := hb.step hbn
      replace R := R.step hbn
      replace hN := hN.step hbn
      replace hDd := hDd.step hbn
      clear hbn
      go_wp2_with fail
      refine (same_wn xs3 g3 0 [] _ _ ⟨_, _, hW3⟩ hN).mono ?_
      rintro e _ ⟨rfl, rfl⟩
      clear hW3
      go_wp2_with fail
      refine (works_any _).mono ?_
      rintro e wz ⟨rfl, hb9⟩
      have hb9 : Below we.heap.size we wz := hb9
      replace hb := hb.step hb9
      replace R := R.step hb9
      replace hN := hN.step hb9
      replace hDd := hDd.step hb9
      have r0 := R.cell (j := 0) rfl
      have f0 := R.frozen 0
      have R2 := R.set 0 (.bool true)
      have hb8 := hb.out.setCell (p := ⟨gR, 0, none⟩) (by show w.heap.size ≤ gR; omega) (.bool true)
      have hD10 := (KeepsOthers.setCell wz ⟨gR, 0, none⟩ (.bool true)).same D _ hDd rfl
      go_wp2_with fail
      exact leaves_list w.heap.size [D] rfl (fun D' h => by simp at h; subst h; exact ⟨hDw, hD10⟩) (by simp) (v := .bool true) (fun W' hbW hcW => by
        have G1' : Blk W' gR 4 [.bool true] := hcW _ _ R2 rfl
        have r10 := G1'.cell (j := 0) rfl
        exact ⟨by simp [results, Try.results9, go_sem, r10], rfl, hb8.trans hbW⟩)
theorem WheelPlays_walk (ao : Option Addr) (n c0 : Nat) (w : World) (hA : HasA w ao n ∧ n ≤ 9223372036854775807) :
    Calls Try.prog 9 #[.slice ao n c0] w (WorksP w) := by
  obtain ⟨hA, hn⟩ := hA
  by_cases h50 : n ≤ 50
  · exact plays_some ao n c0 w hA hn h50
  · refine callsIn_wide (n := 3).1 ?_
    have n1 : (50 : Int) < (n : Int) := by omega
    clear hA
    have hb := From.refl w
    refine callsIn_of_wp_marks Try.func9 rfl trivial ?_ rfl
    simp only [Try.ntmps9, List.size_toArray, List.length_cons, List.length_nil, Nat.reduceAdd, Nat.reduceSub, Array.replicate_succ, Array.replicate_zero, List.push_toArray, List.append_toArray, List.nil_append, List.cons_append]
    refine (wpIn_wide (n := 3)).2 ?_
    go_upto_region 1 with fail
    obtain ⟨gR, hgR⟩ : ∃ g, (w).heap.size = g := ⟨_, rfl⟩
    have R := Blk.newV hgR 4 #[.bool false]
    have hbn := (Below.refl (w).heap.size w).alloc (Nat.le_refl _) (.cells #[.bool false] 4)
    replace hb := hb.step hbn
    clear hbn
    rw [hgR]
    generalize (w).alloc (.cells #[.bool false] 4) = w3 at *
    have hwR : w.heap.size ≤ gR := by omega
    clear hgR
    go_wp2_with fail
    refine (works_any _).mono ?_
    rintro e w4 ⟨rfl, hb9⟩
    have hb9 : Below w3.heap.size w3 w4 := hb9
    replace hb := hb.step hb9
    replace R := R.step hb9
    have r0 := R.cell (j := 0) rfl
    have f0 := R.frozen 0
    have R2 := R.set 0 (.bool true)
    have r2 := R2.cell (j := 0) rfl
    go_wp2_with fail
    have hb8 := hb.out.setCell (p := ⟨gR, 0, none⟩) (by show w.heap.size ≤ gR; omega) (.bool true)
    exact leaves_list w.heap.size [] rfl (fun D' h => by simp at h) (by simp) (v := .bool true) (fun W' hbW hcW => by
      have G1' : Blk W' gR 4 [.bool true] := hcW _ _ R2 rfl
      have r10 := G1'.cell (j := 0) rfl
      exact ⟨by simp [results, Try.results9, go_sem, r10], rfl, hb8.trans hbW⟩)
end Go.Proofs.Ytfdfmmmfklodgaa
