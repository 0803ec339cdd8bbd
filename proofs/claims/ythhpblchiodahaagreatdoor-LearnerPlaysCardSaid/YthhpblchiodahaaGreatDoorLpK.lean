
/- Package learner: its functions on no learner. -/
import Derived.Test.YthhpblchiodahaaGreatDoorLpJ
namespace Go.Proofs.YthhpblchiodahaaGreatDoor
set_option linter.unusedSimpArgs false
set_option linter.unusedVariables false
open Go.RowKit Go.Maps
/-- No learner: nil, or one that is no choir's. -/
def NoL (W : World) (p : Value) : Prop := p = .pointer none ∨ ∃ g, p = .pointer (some ⟨g, 0, none⟩) ∧ W.cell? ⟨g, 5, none⟩ = some (.int .i64 0)
theorem NoL.step {W W' : World} {p : Value} (h : NoL W p) (hb : Below W.heap.size W W') : NoL W' p := by
  rcases h with h | ⟨g, h, hc⟩
  · exact .inl h
  · exact .inr ⟨g, h, (hb.cell (World.block_lt_of_cell? W _ hc)).trans hc⟩
theorem none16_no (p : Value) (w : World) (h : NoL w p) : Calls Tryz.prog 40 #[p] w fun e w' => e = .returned (.bool true) ∧ w = w' := by
  rcases h with rfl | ⟨g, rfl, hc⟩
  · exact none16_nil w
  · exact none16_at g 0 true w rfl hc
set_option maxRecDepth 100000 in
set_option maxHeartbeats 1000000 in
theorem heard_no (p : Value) (w : World) (h : NoL w p) : Calls Tryz.prog 19 #[p] w fun e w' => e = .returned (.slice none 0 0) ∧ Below w.heap.size w w' := by
  have hb := From.refl w
  go_enter Tryz.func19, Tryz.ntmps19
  go_upto_region 1 with fail
  obtain ⟨gX, hgX⟩ : ∃ g, (w).heap.size = g := ⟨_, rfl⟩
  have X := Blk.newV hgX 53 #[.slice none 0 0]
  have hbn := (Below.refl (w).heap.size w).alloc (Nat.le_refl _) (.cells #[.slice none 0 0] 53)
  replace hb := hb.step hbn
  replace h := h.step hbn
  clear hbn
  rw [hgX]
  generalize (w).alloc (.cells #[.slice none 0 0] 53) = w1 at *
  go_wp2_with fail
  refine (none16_no p _ h).mono ?_
  rintro e wx ⟨rfl, rfl⟩
  have X_0 := X.cell (j := 0) rfl
  have Xf0 := X.frozen 0
  go_wp2_with fail
  have hwX : w.heap.size ≤ gX := by omega
  clear hgX
  have hkn : Kx [gX] w1 (w1.setCell ⟨gX, 0, none⟩ (.slice none 0 0)) := Kx.setCells [.slice none 0 0] 0 _ (Kx.refl _ _) (.inl (by simp))
  replace X : Blk (w1.setCell ⟨gX, 0, none⟩ (.slice none 0 0)) gX 53 [.slice none 0 0] := Blk.puts [.slice none 0 0] X rfl
  replace hb := hb.kx hkn (by first | (simp; done) | (simp; omega))
  clear hkn
  generalize w1.setCell ⟨gX, 0, none⟩ (.slice none 0 0) = w2 at *
  have X_0 := X.cell (j := 0) rfl
  refine bodyPost_ret (v := .slice none 0 0) ?_ rfl ⟨rfl, hb⟩
  rw [r_cell1 rfl]
  go_simp
set_option maxRecDepth 100000 in
set_option maxHeartbeats 1000000 in
theorem copy_no (p : Value) (w : World) (h : NoL w p) : Calls Tryz.prog 20 #[p] w fun e w' => e = .returned (.pointer none) ∧ w = w' := by
  go_enter Tryz.func20, Tryz.ntmps20
  go_wp2_with fail
  refine (none16_no p _ h).mono ?_
  rintro e wx ⟨rfl, rfl⟩
  go_wp2_with fail
  go_ret
  exact ⟨rfl, rfl⟩
set_option maxRecDepth 100000 in
set_option maxHeartbeats 1000000 in
theorem told_no (p : Value) (k m n : Int) (s : ByteArray) (w : World) (h : NoL w p) : Calls Tryz.prog 16 #[p, kV k m n s] w fun e w' => e = .returned (.tuple #[.bool false, .int .i64 1]) ∧ Below w.heap.size w w' := by
  unfold kV
  have hb := From.refl w
  go_enter Tryz.func16, Tryz.ntmps16
  go_upto_region 1 with fail
  obtain ⟨gX, hgX⟩ : ∃ g, (w).heap.size = g := ⟨_, rfl⟩
  have X := Blk.newV hgX 24 #[.int .i64 k, .int .i64 m, .int .i64 n, .string s]
  have hbn := (Below.refl (w).heap.size w).alloc (Nat.le_refl _) (.cells #[.int .i64 k, .int .i64 m, .int .i64 n, .string s] 24)
  replace hb := hb.step hbn
  replace h := h.step hbn
  clear hbn
  rw [hgX]
  generalize (w).alloc (.cells #[.int .i64 k, .int .i64 m, .int .i64 n, .string s] 24) = w1 at *
  go_wp2_with fail
  refine (none16_no p _ h).mono ?_
  rintro e wx ⟨rfl, rfl⟩
  go_wp2_with fail
  go_ret2
  exact ⟨rfl, hb⟩
set_option maxRecDepth 100000 in
set_option maxHeartbeats 1000000 in
theorem skipped_no (p : Value) (w : World) (h : NoL w p) : Calls Tryz.prog 17 #[p] w fun e w' => e = .returned (.tuple #[.bool false, .int .i64 1]) ∧ Below w.heap.size w w' := by
  have cT := fun W h => told_no p 1 0 0 ⟨#[]⟩ W h
  unfold kV at cT
  have hb := From.refl w
  go_enter Tryz.func17, Tryz.ntmps17
  go_wp2_with fail
  refine (cT _ h).mono ?_
  rintro e w1 ⟨rfl, hbn⟩
  replace hb := hb.step hbn
  replace h := h.step hbn
  clear hbn
  go_wp2_with fail
  go_ret2
  exact ⟨rfl, hb⟩
set_option maxRecDepth 100000 in
set_option maxHeartbeats 1000000 in
theorem chosen_no (p : Value) (w : World) (h : NoL w p) : Calls Tryz.prog 18 #[p] w fun e w' => e = .returned (.tuple #[.agg #[.int .i64 0, .int .i64 0, .int .i64 0, .string ⟨#[]⟩], .bool false]) ∧ Below w.heap.size w w' := by
  have hb := From.refl w
  go_enter Tryz.func18, Tryz.ntmps18
  go_upto_region 1 with fail
  obtain ⟨gX, hgX⟩ : ∃ g, (w).heap.size = g := ⟨_, rfl⟩
  have X := Blk.newV hgX 24 #[.int .i64 0, .int .i64 0, .int .i64 0, .string ⟨#[]⟩]
  have hbn := (Below.refl (w).heap.size w).alloc (Nat.le_refl _) (.cells #[.int .i64 0, .int .i64 0, .int .i64 0, .string ⟨#[]⟩] 24)
  replace hb := hb.step hbn
  replace h := h.step hbn
  clear hbn
  rw [hgX]
  generalize (w).alloc (.cells #[.int .i64 0, .int .i64 0, .int .i64 0, .string ⟨#[]⟩] 24) = w1 at *
  go_wp2_with fail
  refine (none16_no p _ h).mono ?_
  rintro e wx ⟨rfl, rfl⟩
  have X_0 := X.cell (j := 0) rfl
  have X_1 := X.cell (j := 1) rfl
  have X_2 := X.cell (j := 2) rfl
  have X_3 := X.cell (j := 3) rfl
  have Xf0 := X.frozen 0
  have Xf1 := X.frozen 1
  have Xf2 := X.frozen 2
  have Xf3 := X.frozen 3
  go_wp2_with fail
  have hwX : w.heap.size ≤ gX := by omega
  clear hgX
  have hkn : Kx [gX] w1 ((((w1.setCell ⟨gX, 0, none⟩ (.int .i64 0)).setCell ⟨gX, 1, none⟩ (.int .i64 0)).setCell ⟨gX, 2, none⟩ (.int .i64 0)).setCell ⟨gX, 3, none⟩ (.string ⟨#[]⟩)) := Kx.setCells [.int .i64 0, .int .i64 0, .int .i64 0, .string ⟨#[]⟩] 0 _ (Kx.refl _ _) (.inl (by simp))
  replace X : Blk ((((w1.setCell ⟨gX, 0, none⟩ (.int .i64 0)).setCell ⟨gX, 1, none⟩ (.int .i64 0)).setCell ⟨gX, 2, none⟩ (.int .i64 0)).setCell ⟨gX, 3, none⟩ (.string ⟨#[]⟩)) gX 24 [.int .i64 0, .int .i64 0, .int .i64 0, .string ⟨#[]⟩] := Blk.puts [.int .i64 0, .int .i64 0, .int .i64 0, .string ⟨#[]⟩] X rfl
  replace hb := hb.kx hkn (by first | (simp; done) | (simp; omega))
  clear hkn
  generalize (((w1.setCell ⟨gX, 0, none⟩ (.int .i64 0)).setCell ⟨gX, 1, none⟩ (.int .i64 0)).setCell ⟨gX, 2, none⟩ (.int .i64 0)).setCell ⟨gX, 3, none⟩ (.string ⟨#[]⟩) = w2 at *
  have X_0 := X.cell (j := 0) rfl
  have X_1 := X.cell (j := 1) rfl
  have X_2 := X.cell (j := 2) rfl
  have X_3 := X.cell (j := 3) rfl
  refine bodyPost_ret (v := .tuple #[.agg #[.int .i64 0, .int .i64 0, .int .i64 0, .string ⟨#[]⟩], .bool false]) ?_ rfl ⟨rfl, hb⟩
  rw [r_cell1t rfl]
  go_simp
set_option maxRecDepth 100000 in
set_option maxHeartbeats 1000000 in
theorem hear16_no (p : Value) (pl r q k m n : Int) (s : ByteArray) (w : World) (h : NoL w p) : Calls Tryz.prog 15 #[p, .int .i64 pl, bV r q, kV k m n s] w fun e w' => e = .returned (.tuple #[.bool false, .int .i64 1]) ∧ Below w.heap.size w w' := by
  unfold bV kV
  have hb := From.refl w
  go_enter Tryz.func15, Tryz.ntmps15
  go_upto_region 1 with fail
  obtain ⟨gP, hgP⟩ : ∃ g, (w).heap.size = g := ⟨_, rfl⟩
  have P := Blk.newV hgP 66 #[.int .i64 r, .int .i64 q]
  have hbn := (Below.refl (w).heap.size w).alloc (Nat.le_refl _) (.cells #[.int .i64 r, .int .i64 q] 66)
  replace hb := hb.step hbn
  replace h := h.step hbn
  clear hbn
  rw [hgP]
  have szP := alloc_size hgP (.cells #[.int .i64 r, .int .i64 q] 66)
  generalize (w).alloc (.cells #[.int .i64 r, .int .i64 q] 66) = w1 at *
  obtain ⟨gX, hgX⟩ : ∃ g, (w1).heap.size = g := ⟨_, rfl⟩
  have lt_P_X := P.lt
  rw [hgX] at lt_P_X
  have X := Blk.newV hgX 24 #[.int .i64 k, .int .i64 m, .int .i64 n, .string s]
  have hbn := (Below.refl (w1).heap.size w1).alloc (Nat.le_refl _) (.cells #[.int .i64 k, .int .i64 m, .int .i64 n, .string s] 24)
  replace hb := hb.step hbn
  replace h := h.step hbn
  replace P := P.step hbn
  clear hbn
  have egX : gP + 1 = gX := szP.symm.trans hgX
  rw [egX]
  clear szP
  generalize (w1).alloc (.cells #[.int .i64 k, .int .i64 m, .int .i64 n, .string s] 24) = w2 at *
  refine wp_scope_fwd 0 rfl ?_
  intro Q2 hR hGo
  go_upto_region 2 with fail
  obtain ⟨gH, hgH⟩ : ∃ g, (w2).heap.size = g := ⟨_, rfl⟩
  have lt_P_H := P.lt
  rw [hgH] at lt_P_H
  have lt_X_H := X.lt
  rw [hgH] at lt_X_H
  have H := Blk.newV hgH 121 #[.int .i64 0, .int .i64 0, .int .i64 0, .string ⟨#[]⟩, .bool false, .bool false, .bool false, .bool false, .bool false, .bool false, .bool false, .bool false, .bool false]
  have hbn := (Below.refl (w2).heap.size w2).alloc (Nat.le_refl _) (.cells #[.int .i64 0, .int .i64 0, .int .i64 0, .string ⟨#[]⟩, .bool false, .bool false, .bool false, .bool false, .bool false, .bool false, .bool false, .bool false, .bool false] 121)
  replace hb := hb.step hbn
  replace h := h.step hbn
  replace P := P.step hbn
  replace X := X.step hbn
  clear hbn
  rw [hgH]
  generalize (w2).alloc (.cells #[.int .i64 0, .int .i64 0, .int .i64 0, .string ⟨#[]⟩, .bool false, .bool false, .bool false, .bool false, .bool false, .bool false, .bool false, .bool false, .bool false] 121) = w3 at *
  go_wp2_with fail
  refine (none16_no p _ h).mono ?_
  rintro e w4 ⟨rfl, rfl⟩
  go_wp2_with fail
  apply wp_goto
  (try simp only [Exit.then])
  refine hGo.out _ _ ?_
  go_wp2_with fail
  rw [Exit.noGoto_ret]
  go_ret2
  exact ⟨rfl, hb⟩
set_option maxRecDepth 100000 in
set_option maxHeartbeats 1000000 in
theorem same_no (p q : Value) (w : World) (h : NoL w p) (hq : NoL w q) : Calls Tryz.prog 21 #[p, q] w fun e w' => e = .returned (.bool true) ∧ w = w' := by
  go_enter Tryz.func21, Tryz.ntmps21
  go_wp2_with fail
  refine (none16_no p _ h).mono ?_
  rintro e wx ⟨rfl, rfl⟩
  go_wp2_with fail
  refine (none16_no p _ h).mono ?_
  rintro e wx ⟨rfl, rfl⟩
  go_wp2_with fail
  refine (none16_no q _ hq).mono ?_
  rintro e wx ⟨rfl, rfl⟩
  go_wp2_with fail
  go_ret
  exact ⟨rfl, rfl⟩
end Go.Proofs.YthhpblchiodahaaGreatDoor
