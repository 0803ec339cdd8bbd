
/- Package disk: Same, Copy, Sure, Names. -/
import Derived.Test.YtceoehjjebkgpaaDlB
import Derived.Test.YtceoehjjebkgpaaDlS
namespace Go.Proofs.Ytceoehjjebkgpaa
set_option linter.unusedSimpArgs false
set_option linter.unusedVariables false
open Go.RowKit Go.Maps
set_option maxRecDepth 100000 in
set_option maxHeartbeats 4000000 in
theorem dsame_any (d1 m1 d2 m2 : Nat) (D : Ds) (L1 L2 : FMap) (w : World) (h1 : DkW w d1 m1 D L1) (h2 : DkW w d2 m2 D L2) (hlen : L1.length = L2.length) (hok : ∀ p ∈ L1, okS p.1) (hS : ∀ p ∈ L1, ∃ m2, getG L2 p.1 = some m2 ∧ SameF p.2 m2) :
    Calls Try.prog 17 #[.pointer (some ⟨d1, 0, none⟩), .pointer (some ⟨d2, 0, none⟩)] w fun e w' => e = .returned (.bool true) ∧ Below w.heap.size w w' := by
  obtain ⟨room, stop, after, dead⟩ := D
  have hc1 := h1.c1
  have hc2 := h2.c1
  have cE := fun W (hW : ExtA w W) => equalF_any m1 m2 L1 L2 W (MapG.step h1.map hW) (MapG.step h2.map hW) hlen hok (fun p hp => (h1.con p hp).step hW) (fun p hp => (h2.con p hp).step hW) hS
  go_enter Try.func17, Try.ntmps17
  go_wp2_with fail
  refine (dnone_at d1 m1 _ hc1).mono ?_
  rintro e wx ⟨rfl, rfl⟩
  go_wp2_with fail
  refine (dnone_at d2 m2 _ hc2).mono ?_
  rintro e wx ⟨rfl, rfl⟩
  go_upto_region 4 with fail
  have x0 := extA_cell (h1.blk.cell (j := 0) rfl)
  have x1 := extA_cell hc1
  have x2 := extA_cell (h1.blk.cell (j := 2) rfl)
  have x3 := extA_cell (h1.blk.cell (j := 3) rfl)
  have x4 := extA_cell (h1.blk.cell (j := 4) rfl)
  have y0 := extA_cell (h2.blk.cell (j := 0) rfl)
  have y1 := extA_cell hc2
  have y2 := extA_cell (h2.blk.cell (j := 2) rfl)
  have y3 := extA_cell (h2.blk.cell (j := 3) rfl)
  have y4 := extA_cell (h2.blk.cell (j := 4) rfl)
  clear hc1 hc2
  refine wp_region_extB (by kernel_rfl) (by kernel_rfl) ?_
  repeat
    (first
      | go_big_quiet_skip
      | (go_big_quiet_want
         go_big_quiet_op
         first
           | go_big_quiet_on
           | (apply Exists.intro
              refine ⟨fun w' hC9 => ?_, ?_⟩
              · (first
                  | with_reducible rfl
                  | (go_at_call 37; refine (cE _ hC9).mono ?_; rintro e w2 ⟨rfl, hb9⟩; exact ⟨rfl, extA_then hC9 hb9⟩)
                  | (go_simp; done)
                  | (go_simp; with_reducible rfl))
              go_big_quiet_on)))
  refine wpQuiet_nil ?_
  intro w6 hq
  go_wp2_with fail
  go_ret
  exact ⟨rfl, hq⟩
theorem dclone_any (b : Nat) (L : FMap) (w : World) (h : MapD w b L) :
    Calls Try.prog 34 #[.map (some b)] w fun e w' => e = .returned (.map (some w.heap.size)) ∧ MapD w' w.heap.size L ∧ Below w.heap.size w w' := by
  obtain ⟨es, clock, hb, hrest⟩ := h
  refine (AnyW.maps_Clone Try.cloneM b es clock w hb).mono ?_
  rintro e w' ⟨he, rfl⟩
  exact ⟨he, ⟨es, clock, World.alloc_heap_new w _, hrest⟩, (Below.refl _ w).alloc (Nat.le_refl _) _⟩
set_option maxRecDepth 100000 in
set_option maxHeartbeats 4000000 in
theorem dcopy_any (d mb : Nat) (D : Ds) (L : FMap) (w : World) (h : DkW w d mb D L) :
    Calls Try.prog 16 #[.pointer (some ⟨d, 0, none⟩)] w fun e w' => (∃ c mc, e = .returned (.pointer (some ⟨c, 0, none⟩)) ∧ DkW w' c mc D L ∧ w.heap.size ≤ c ∧ w.heap.size ≤ mc) ∧ Below w.heap.size w w' := by
  obtain ⟨room, stop, after, dead⟩ := D
  have hc1 := h.c1
  have x0 := h.blk.cell (j := 0) rfl
  have x2 := h.blk.cell (j := 2) rfl
  have x3 := h.blk.cell (j := 3) rfl
  have x4 := h.blk.cell (j := 4) rfl
  have hb := From.refl w
  go_enter Try.func16, Try.ntmps16
  go_wp2_with fail
  refine (dnone_at d mb _ hc1).mono ?_
  rintro e wx ⟨rfl, rfl⟩
  go_upto_region 4 with fail
  clear x0 x2 x3 x4 hc1
  obtain ⟨gX, hgX⟩ : ∃ g, (w).heap.size = g := ⟨_, rfl⟩
  have X := Blk.newV hgX 55 #[.int .i64 room, .map (some mb), .bool stop, .int .i64 after, .bool dead]
  have hbn := (Below.refl (w).heap.size w).alloc (Nat.le_refl _) (.cells #[.int .i64 room, .map (some mb), .bool stop, .int .i64 after, .bool dead] 55)
  replace hb := hb.step hbn
  replace h := h.step hbn
  clear hbn
  rw [hgX]
  generalize (w).alloc (.cells #[.int .i64 room, .map (some mb), .bool stop, .int .i64 after, .bool dead] 55) = w1 at *
  have hc1 := h.c1
  go_wp2_with fail
  refine (dclone_any mb L _ h.map).mono ?_
  rintro e w2 ⟨rfl, hM, hbn⟩
  obtain ⟨mc, hmc⟩ : ∃ mc, w1.heap.size = mc := ⟨_, rfl⟩
  rw [hmc] at hM ⊢
  have hXm := X.lt
  rw [hmc] at hXm
  replace hb := hb.step hbn
  replace h := h.step hbn
  replace X := X.step hbn
  clear hbn hc1
  have X1 := X.frozen 1
  have hXl := X.lt
  have z1 := X.cell (j := 1) rfl
  have hkn : Kx [gX] w2 (w2.setCell ⟨gX, 1, none⟩ (.map (some mc))) := (Kx.refl _ _).setCell (.inl (by simp)) _
  have X9 := X.set 1 (.map (some mc))
  have hM9 : MapD (w2.setCell ⟨gX, 1, none⟩ (.map (some mc))) mc L := MapG.kx hM hkn (by have := blk_ne_map X hM; simpa using fun h => this h.symm)
  have hb9 := hb.kx hkn (by simp; omega)
  have hcon : ∀ p ∈ L, BySl (w2.setCell ⟨gX, 1, none⟩ (.map (some mc))) p.2.ao p.2.b := fun p hp => (h.con p hp).kx hkn (fun g hg => by
    rcases h.con p hp with ⟨h1, -⟩ | ⟨g', h1, h2⟩
    · rw [h1] at hg; cases hg
    · rw [h1] at hg
      cases hg
      have := h2.ne_any X (by decide)
      simpa using this)
  have hroom := h.room
  clear hkn hM h X hb
  go_wp2_with fail
  go_ret
  exact ⟨⟨gX, mc, rfl, ⟨X9, hM9, hcon, hroom⟩, by omega, by omega⟩, hb9.out⟩
set_option maxRecDepth 100000 in
set_option maxHeartbeats 2000000 in
theorem dsure_any (d mb : Nat) (D : Ds) (L : FMap) (s : ByteArray) (w : World) (h : DkW w d mb D L) (hs : okS s) :
    Calls Try.prog 19 #[.pointer (some ⟨d, 0, none⟩), .string s] w fun e w' => e = .returned (.tuple #[.int .i64 (fileM L s).s, .int .i64 (fileE L s)]) ∧ Below w.heap.size w w' := by
  have hb := From.refl w
  have cF := fun W (hW : DkW W d mb D L) => dfile_any d mb D L s W hW hs
  generalize fileM L s = m at *
  generalize fileE L s = E at *
  obtain ⟨ao, cap, x, sr⟩ := m
  unfold fmV at cF
  simp only at cF ⊢
  go_enter Try.func19, Try.ntmps19
  go_upto_region 1 with fail
  go_wp2_with fail
  refine (cF _ h).mono ?_
  rintro e w2 ⟨rfl, hbn⟩
  replace hb := hb.step hbn
  replace h := h.step hbn
  clear hbn cF
  go_upto_region 2 with fail
  obtain ⟨gX, hgX⟩ : ∃ g, (w2).heap.size = g := ⟨_, rfl⟩
  have X := Blk.newV hgX 61 #[.slice ao x.length cap, .int .i64 sr]
  have hbn := (Below.refl (w2).heap.size w2).alloc (Nat.le_refl _) (.cells #[.slice ao x.length cap, .int .i64 sr] 61)
  replace hb := hb.step hbn
  replace h := h.step hbn
  clear hbn
  rw [hgX]
  generalize (w2).alloc (.cells #[.slice ao x.length cap, .int .i64 sr] 61) = w3 at *
  have x1 := X.cell (j := 1) rfl
  go_wp2_with fail
  go_ret2
  exact ⟨rfl, hb.out⟩
end Go.Proofs.Ytceoehjjebkgpaa
