
/- The document's proposer: SameState of states that are alike. -/
import Derived.Test.YtcahkcbenanfnaaGreatDoorPrY
namespace Go.Proofs.YtcahkcbenanfnaaGreatDoor
set_option linter.unusedSimpArgs false
set_option linter.unusedVariables false
open Go.RowKit
/-- A slice of numbers, read. -/
def IntS (W : World) (v : Value) (l : List Int) : Prop := ∃ ao cap, v = .slice ao l.length cap ∧ ∀ j x, l[j]? = some x → ∃ g, ao = some ⟨g, 0, none⟩ ∧ W.cell? ⟨g, j, none⟩ = some (.int .i64 x)
theorem IntS.step {W W' : World} {v : Value} {l : List Int} (h : IntS W v l) (hb : Below W.heap.size W W') : IntS W' v l := by
  obtain ⟨ao, cap, hv, hc⟩ := h
  refine ⟨ao, cap, hv, fun j x hx => ?_⟩
  obtain ⟨g, hg, hcc⟩ := hc j x hx
  exact ⟨g, hg, (hb.cell (World.block_lt_of_cell? W _ hcc)).trans hcc⟩
theorem IntS.nil (W : World) : IntS W (.slice none 0 0) [] := ⟨none, 0, rfl, fun j x hx => by simp at hx⟩
theorem RowI.intS {W : World} {base : Nat} {v : Value} {l : List Int} (h : RowI W base v l) : IntS W v l := by
  rcases h.2 with ⟨rfl, h0⟩ | ⟨g, cap, cur, rfl, hg, hh, r⟩
  · have : l = [] := List.length_eq_zero_iff.1 h0
    subst this
    exact IntS.nil W
  · refine ⟨_, cap, rfl, fun j x hx => ⟨g, rfl, ?_⟩⟩
    have := World.ownsRow.cells h (g := g) rfl j (.int .i64 x) (by unfold intsL; rw [List.getElem?_map, hx]; rfl)
    simpa [Addr.add_lit] using this
set_option maxRecDepth 100000 in
set_option maxHeartbeats 4000000 in
theorem rsame_any (A : Prp) (va vb : Value) (l : List Int) (hl : l.length ≤ 100) (w : World) (hva : IntS w va l) (hvb : IntS w vb l) :
    Calls Tryz.prog 16 #[ppV A va, ppV A vb] w fun e w' => e = .returned (.bool true) ∧ Below w.heap.size w w' := by
  obtain ⟨ao, ca, rfl, hca⟩ := hva
  obtain ⟨bo, cb, rfl, hcb⟩ := hvb
  obtain ⟨n, hn⟩ : ∃ n, l.length = n := ⟨_, rfl⟩
  rw [hn] at hl ⊢
  have HA := Lib.hid hca
  have HB := Lib.hid hcb
  clear hca hcb
  have heb := fun W => ne_ballot A.r A.p A.r A.p W
  have heu := fun W => ne_ballot A.ur A.up A.ur A.up W
  have hee := fun W => ne_entry A.k A.m A.n A.s A.k A.m A.n A.s W
  simp only [show eq2 A.r A.p A.r A.p = true by simp [eq2]] at heb
  simp only [show eq2 A.ur A.up A.ur A.up = true by simp [eq2]] at heu
  simp only [show eq4 A.k A.m A.n A.s A.k A.m A.n A.s = true by simp [eq4]] at hee
  have hep : (A.ph != A.ph) = false := by simp
  have hen : ((n : Int) != (n : Int)) = false := by simp
  have hb := From.refl w
  unfold ppV
  go_enter Tryz.func16, Tryz.ntmps16
  go_upto_region 1 with fail
  obtain ⟨gX, hgX⟩ : ∃ g, (w).heap.size = g := ⟨_, rfl⟩
  have X := Blk.newV hgX 55 #[.int .i64 A.ph, .int .i64 A.r, .int .i64 A.p, .int .i64 A.k, .int .i64 A.m, .int .i64 A.n, .string A.s, .slice ao n ca, .int .i64 A.ur, .int .i64 A.up]
  have hbn := (Below.refl (w).heap.size w).alloc (Nat.le_refl _) (.cells #[.int .i64 A.ph, .int .i64 A.r, .int .i64 A.p, .int .i64 A.k, .int .i64 A.m, .int .i64 A.n, .string A.s, .slice ao n ca, .int .i64 A.ur, .int .i64 A.up] 55)
  replace hb := hb.step hbn
  clear hbn
  rw [hgX]
  have szX := alloc_size hgX (.cells #[.int .i64 A.ph, .int .i64 A.r, .int .i64 A.p, .int .i64 A.k, .int .i64 A.m, .int .i64 A.n, .string A.s, .slice ao n ca, .int .i64 A.ur, .int .i64 A.up] 55)
  generalize (w).alloc (.cells #[.int .i64 A.ph, .int .i64 A.r, .int .i64 A.p, .int .i64 A.k, .int .i64 A.m, .int .i64 A.n, .string A.s, .slice ao n ca, .int .i64 A.ur, .int .i64 A.up] 55) = w1 at *
  obtain ⟨gY, hgY⟩ : ∃ g, (w1).heap.size = g := ⟨_, rfl⟩
  have lt_X_Y := X.lt
  rw [hgY] at lt_X_Y
  have Y := Blk.newV hgY 55 #[.int .i64 A.ph, .int .i64 A.r, .int .i64 A.p, .int .i64 A.k, .int .i64 A.m, .int .i64 A.n, .string A.s, .slice bo n cb, .int .i64 A.ur, .int .i64 A.up]
  have hbn := (Below.refl (w1).heap.size w1).alloc (Nat.le_refl _) (.cells #[.int .i64 A.ph, .int .i64 A.r, .int .i64 A.p, .int .i64 A.k, .int .i64 A.m, .int .i64 A.n, .string A.s, .slice bo n cb, .int .i64 A.ur, .int .i64 A.up] 55)
  replace hb := hb.step hbn
  replace X := X.step hbn
  clear hbn
  have egY : gX + 1 = gY := szX.symm.trans hgY
  rw [egY]
  clear szX
  generalize (w1).alloc (.cells #[.int .i64 A.ph, .int .i64 A.r, .int .i64 A.p, .int .i64 A.k, .int .i64 A.m, .int .i64 A.n, .string A.s, .slice bo n cb, .int .i64 A.ur, .int .i64 A.up] 55) = w2 at *
  clear hgX hgY egY
  have X_0 := X.cell (j := 0) rfl
  have X_1 := X.cell (j := 1) rfl
  have X_2 := X.cell (j := 2) rfl
  have X_3 := X.cell (j := 3) rfl
  have X_4 := X.cell (j := 4) rfl
  have X_5 := X.cell (j := 5) rfl
  have X_6 := X.cell (j := 6) rfl
  have X_7 := X.cell (j := 7) rfl
  have X_8 := X.cell (j := 8) rfl
  have X_9 := X.cell (j := 9) rfl
  have Y_0 := Y.cell (j := 0) rfl
  have Y_1 := Y.cell (j := 1) rfl
  have Y_2 := Y.cell (j := 2) rfl
  have Y_3 := Y.cell (j := 3) rfl
  have Y_4 := Y.cell (j := 4) rfl
  have Y_5 := Y.cell (j := 5) rfl
  have Y_6 := Y.cell (j := 6) rfl
  have Y_7 := Y.cell (j := 7) rfl
  have Y_8 := Y.cell (j := 8) rfl
  have Y_9 := Y.cell (j := 9) rfl
  go_upto_region 3 with fail
  clear X_0 X_1 X_2 X_3 X_4 X_5 X_6 X_7 X_8 X_9
  clear Y_0 Y_1 Y_2 Y_3 Y_4 Y_5 Y_6 Y_7 Y_8 Y_9
  clear heb heu hee hep
  go_wp2_with fail
  go_loopw [5] (fun v wr => ∃ i : Nat, v = .int .i64 i ∧ i ≤ n ∧ Blk wr gX 55 [.int .i64 A.ph, .int .i64 A.r, .int .i64 A.p, .int .i64 A.k, .int .i64 A.m, .int .i64 A.n, .string A.s, .slice ao n ca, .int .i64 A.ur, .int .i64 A.up] ∧ Blk wr gY 55 [.int .i64 A.ph, .int .i64 A.r, .int .i64 A.p, .int .i64 A.k, .int .i64 A.m, .int .i64 A.n, .string A.s, .slice bo n cb, .int .i64 A.ur, .int .i64 A.up] ∧ From w wr) (fun v _ => n - (intOf v).toNat)
  case atStart => exact ⟨0, rfl, by omega, X, Y, hb⟩
  clear X Y hb
  case round =>
    obtain ⟨i, rfl, hi, X, Y, hb⟩ := hrel
    have x7 := X.cell (j := 7) rfl
    have y7 := Y.cell (j := 7) rfl
    have i0 : (0 : Int) ≤ (i : Int) := by omega
    by_cases hlt : i < n
    · obtain ⟨x, hx⟩ : ∃ x, l[i]? = some x := ⟨_, List.getElem?_eq_getElem (by omega)⟩
      obtain ⟨ga, rfl, ca1⟩ := HA.out i x hx
      obtain ⟨gb, rfl, cb1⟩ := HB.out i x hx
      have ca2 := (hb.out.cell (World.block_lt_of_cell? w _ ca1)).trans ca1
      have cb2 := (hb.out.cell (World.block_lt_of_cell? w _ cb1)).trans cb1
      have i1 : (i : Int) < (n : Int) := by omega
      have e1 : (x != x) = false := by simp
      clear ca1 cb1
      go_upto_region 6 with fail
      replace x7 := extA_cell x7
      replace y7 := extA_cell y7
      replace ca2 := extA_cell ca2
      replace cb2 := extA_cell cb2
      refine wp_region_extB (by kernel_rfl) (by kernel_rfl) ?_
      repeat
        (first
          | go_big_quiet_skip
          | (go_big_quiet_want
             go_big_quiet_op
             first
               | go_big_quiet_on
               | (apply Exists.intro
                  refine ⟨fun w' hC9 => ?_, ?_⟩
                  · (first
                      | with_reducible rfl
                      | fail
                      | (go_simp; done)
                      | (go_simp; with_reducible rfl))
                  go_big_quiet_on)))
      refine wpQuiet_nil ?_
      intro w3 hq
      replace X := X.step hq
      replace Y := Y.step hq
      replace hb := hb.step hq
      clear hq x7 y7 ca2 cb2
      go_wp2_with fail
      go_roundw
      case rel => exact ⟨i + 1, by go_num, by omega, X, Y, hb⟩
      case measure => simp [intOf]; omega
    · obtain rfl : i = n := by omega
      go_wp2_with fail
      go_ret
      exact ⟨rfl, hb⟩
end Go.Proofs.YtcahkcbenanfnaaGreatDoor
