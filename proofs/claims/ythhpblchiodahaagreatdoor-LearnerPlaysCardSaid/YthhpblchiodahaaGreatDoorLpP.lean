
/- Walk of LearnerPlays. -/
import Derived.Test.YthhpblchiodahaaGreatDoorLpO
import Derived.Test.YthhpblchiodahaaGreatDoorLnI
namespace Go.Proofs.YthhpblchiodahaaGreatDoor
set_option linter.unusedSimpArgs false
set_option linter.unusedVariables false
open Go.RowKit Go.Maps
/-- No learner, of blocks from B on. -/
def NoQ16 (B : Nat) (p : Value) (W : World) : Prop := p = .pointer none ∨ ∃ g, p = .pointer (some ⟨g, 0, none⟩) ∧ B ≤ g ∧ W.cell? ⟨g, 5, none⟩ = some (.int .i64 0)
theorem NoQ16.out {B : Nat} {p : Value} {W : World} (h : NoQ16 B p W) : NoL W p := by
  rcases h with h | ⟨g, h, -, hc⟩
  · exact .inl h
  · exact .inr ⟨g, h, hc⟩
theorem NoQ16.step {B : Nat} {p : Value} {W W' : World} (h : NoQ16 B p W) (hb : Below W.heap.size W W') : NoQ16 B p W' := by
  rcases h with h | ⟨g, h, hg, hc⟩
  · exact .inl h
  · exact .inr ⟨g, h, hg, (hb.cell (World.block_lt_of_cell? W _ hc)).trans hc⟩
theorem NoQ16.kx {B : Nat} {p : Value} {W W' : World} {ws : List Nat} (h : NoQ16 B p W) (hk : Kx ws W W') (hw : ∀ x ∈ ws, x < B) : NoQ16 B p W' := by
  rcases h with h | ⟨g, h, hg, hc⟩
  · exact .inl h
  · exact .inr ⟨g, h, hg, kx_all hc (fun hm => by have := hw g hm; omega) _ hk⟩
set_option maxRecDepth 100000 in
set_option maxHeartbeats 2000000 in
theorem plays16_few (c sl : Int) (l : List La) (ao : Option Addr) (cap : Nat) (w : World) (hT : Tabs w) (hE : HasLa w ao l) (hl : l.length ≤ 9223372036854775807) (hs : ∀ e, e ∈ l → e.s.size ≤ 9223372036854775807) (hf : fewL l 40 = false) :
    Calls Tryz.prog 4 #[.int .i64 c, .int .i64 sl, .slice ao l.length cap] w fun e w' => e = .returned (.bool true) ∧ Below w.heap.size w w' := by
  have cF := fun W (hW : Below w.heap.size w W) => few16_any l ao cap 40 W (hE.step hW) hl hs
  rw [hf] at cF
  clear hf hE hs
  have hb := From.refl w
  go_enter Tryz.func4, Tryz.ntmps4
  go_wp2_with fail
  refine (cF _ hb.out).mono ?_
  rintro e w1 ⟨rfl, hbn⟩
  replace hb := hb.step hbn
  clear hbn
  go_wp2_with fail
  refine (works16_any _ (hT.step hb)).mono ?_
  rintro e w2 ⟨rfl, hbn⟩
  replace hb := hb.step hbn
  clear hbn
  go_wp2_with fail
  go_ret
  exact ⟨rfl, hb⟩
set_option maxRecDepth 100000 in
set_option maxHeartbeats 4000000 in
theorem plays16_no (c sl : Int) (l : List La) (ao : Option Addr) (cap : Nat) (w : World) (hT : Tabs w) (hE : HasLa w ao l) (hl : l.length ≤ 9223372036854775807) (hs : ∀ e, e ∈ l → e.s.size ≤ 9223372036854775807) (hf : fewL l 40 = true) (h0 : opErr c sl ≠ 0) :
    Calls Tryz.prog 4 #[.int .i64 c, .int .i64 sl, .slice ao l.length cap] w fun e w' => e = .returned (.bool true) ∧ Below w.heap.size w w' := by
  have cF := fun W (hW : Below w.heap.size w W) => few16_any l ao cap 40 W (hE.step hW) hl hs
  rw [hf] at cF
  have cA := fun W => new16_no c sl W h0
  have cB := fun W => rnew16_any c sl W
  rw [if_neg h0] at cB
  unfold zeroR rV at cB
  simp only at cB
  have h2 : ((opErr c sl) != 0) = true := by simpa using h0
  have hl40 := (fewL_small hf).1
  obtain ⟨E, hEe⟩ : ∃ E, opErr c sl = E := ⟨_, rfl⟩
  obtain ⟨N, hN⟩ : ∃ N, l.length = N := ⟨_, rfl⟩
  rw [hN] at cF hl40 ⊢
  rw [hEe] at cA cB h2
  clear hf hE hs hEe h0 hN hl
  have hb := From.refl w
  go_enter Tryz.func4, Tryz.ntmps4
  go_wp2_with fail
  refine (cF _ hb.out).mono ?_
  rintro e w1 ⟨rfl, hbn⟩
  replace hb := hb.step hbn
  clear hbn
  go_wp2_with fail
  refine (cA _).mono ?_
  rintro e w3 ⟨rfl, hbn⟩
  replace hb := hb.step hbn
  clear hbn
  go_wp2_with fail
  refine (cB _).mono ?_
  rintro e w4 ⟨rfl, hbn⟩
  replace hb := hb.step hbn
  clear hbn
  go_upto_region 5 with fail
  obtain ⟨gO, hgO⟩ : ∃ g, (w4).heap.size = g := ⟨_, rfl⟩
  have O := Blk.newV hgO 55 #[.int .i64 0, .int .i64 0, .slice none 0 0, .bool false, .int .i64 0, .int .i64 0, .int .i64 0, .string ⟨#[]⟩]
  have hbn := (Below.refl (w4).heap.size w4).alloc (Nat.le_refl _) (.cells #[.int .i64 0, .int .i64 0, .slice none 0 0, .bool false, .int .i64 0, .int .i64 0, .int .i64 0, .string ⟨#[]⟩] 55)
  replace hb := hb.step hbn
  clear hbn
  rw [hgO]
  generalize (w4).alloc (.cells #[.int .i64 0, .int .i64 0, .slice none 0 0, .bool false, .int .i64 0, .int .i64 0, .int .i64 0, .string ⟨#[]⟩] 55) = wk at *
  clear O hgO
  go_upto_if 45 with fail
  obtain ⟨nq, hnq⟩ : ∃ n, wk.heap.size = n := ⟨_, rfl⟩
  go_cut [11] from 42 to 48 (fun v11 wx => ∃ p, p = v11 ∧ NoQ16 nq p wx ∧ Below wk.heap.size wk wx)
  case first =>
    go_wp2_with fail
    · go_meet
      exact ⟨_, rfl, .inr ⟨wk.heap.size, by rw [hnq], by omega, (Blk.newV (W := wk) rfl 62 #[.int .i64 0, .int .i64 0, .int .i64 0, .string ⟨#[]⟩, .bool false, .int .i64 0, .int .i64 0, .map none]).cell (j := 5) rfl⟩, (Below.refl wk.heap.size wk).alloc (Nat.le_refl _) _⟩
    · go_meet
      exact ⟨_, rfl, .inl rfl, Below.refl _ _⟩
  case' rest =>
    obtain ⟨p, rfl, hq, hbn⟩ := hcut
    replace hb := hb.step hbn
    clear hbn
    generalize wc = w0 at *
    go_wp2_with fail
    refine (hear16_no _ 0 0 0 0 0 0 ⟨#[]⟩ _ hq.out).mono ?_
    rintro e w6 ⟨rfl, hbn⟩
    replace hb := hb.step hbn
    replace hq := hq.step hbn
    clear hbn
    go_wp2_with fail
    refine (told_no _ 0 0 0 ⟨#[]⟩ _ hq.out).mono ?_
    rintro e w7 ⟨rfl, hbn⟩
    replace hb := hb.step hbn
    replace hq := hq.step hbn
    clear hbn
    go_wp2_with fail
    refine (skipped_no _ _ hq.out).mono ?_
    rintro e w8 ⟨rfl, hbn⟩
    replace hb := hb.step hbn
    replace hq := hq.step hbn
    clear hbn
    go_wp2_with fail
    refine (chosen_no _ _ hq.out).mono ?_
    rintro e w9 ⟨rfl, hbn⟩
    replace hb := hb.step hbn
    replace hq := hq.step hbn
    clear hbn
    go_upto_region 12 with fail
    obtain ⟨gZ, hgZ⟩ : ∃ g, (w9).heap.size = g := ⟨_, rfl⟩
    have Z := Blk.newV hgZ 24 #[.int .i64 0, .int .i64 0, .int .i64 0, .string ⟨#[]⟩]
    have hbn := (Below.refl (w9).heap.size w9).alloc (Nat.le_refl _) (.cells #[.int .i64 0, .int .i64 0, .int .i64 0, .string ⟨#[]⟩] 24)
    replace hb := hb.step hbn
    replace hq := hq.step hbn
    clear hbn
    rw [hgZ]
    generalize (w9).alloc (.cells #[.int .i64 0, .int .i64 0, .int .i64 0, .string ⟨#[]⟩] 24) = w10 at *
    clear hgZ
    go_wp2_with fail
    refine (num16_any 1 _).mono ?_
    rintro e wx ⟨rfl, rfl⟩
    go_wp2_with fail
    refine (num16_any 1 _).mono ?_
    rintro e wx ⟨rfl, rfl⟩
    go_wp2_with fail
    refine (num16_any 1 _).mono ?_
    rintro e wx ⟨rfl, rfl⟩
    go_wp2_with fail
    refine (heard_no _ _ hq.out).mono ?_
    rintro e w11 ⟨rfl, hbn⟩
    replace hb := hb.step hbn
    replace hq := hq.step hbn
    replace Z := Z.step hbn
    clear hbn
    go_wp2_with fail
    refine (copy_no _ _ hq.out).mono ?_
    rintro e wx ⟨rfl, rfl⟩
    go_wp2_with fail
    refine (same_no _ (.pointer none) _ hq.out (.inl rfl)).mono ?_
    rintro e wx ⟨rfl, rfl⟩
    go_wp2_with fail
    refine (num16_any E _).mono ?_
    rintro e wx ⟨rfl, rfl⟩
    go_wp2_with fail
    refine (works16_any _ (hT.step hb)).mono ?_
    rintro e w12 ⟨rfl, hbn⟩
    replace hb := hb.step hbn
    replace hq := hq.step hbn
    replace Z := Z.step hbn
    clear hbn
    go_wp2_with fail
    go_ret
    exact ⟨rfl, hb⟩
end Go.Proofs.YthhpblchiodahaaGreatDoor
