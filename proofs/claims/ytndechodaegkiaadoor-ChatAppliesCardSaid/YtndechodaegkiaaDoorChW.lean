
/- Package chat: the chapter's rows (works). -/
import Derived.Test.YtndechodaegkiaaDoorChI
import Derived.Test.YtndechodaegkiaaDoorChK
namespace Go.Proofs.YtndechodaegkiaaDoor
open Go.RowKit
theorem ExtA.call {W W' W'' : World} (h : ExtA W W') (hb : Below W'.heap.size W' W'') : ExtA W W'' := Below.trans h (hb.mono h.size)
def wkL : List En := [⟨2, 1, 0, ⟨#[]⟩⟩, ⟨4, 1, 1, ⟨#[104, 105]⟩⟩, ⟨4, 1, 1, ⟨#[104, 105]⟩⟩, ⟨4, 1, 3, ⟨#[120]⟩⟩, ⟨1, 0, 0, ⟨#[]⟩⟩]
def wkT : Tk := ⟨5, [⟨0, 0, ⟨2, 1, 0, ⟨#[]⟩⟩⟩, ⟨1, 1, ⟨4, 1, 1, ⟨#[104, 105]⟩⟩⟩], z0 :: ⟨true, 0, 1⟩ :: List.replicate 14 z0⟩
def wkX : Ln := ⟨2, 5, ⟨3, 1, 0, ⟨#[]⟩⟩⟩
def wkT2 : Tk := ⟨6, [⟨0, 0, ⟨2, 1, 0, ⟨#[]⟩⟩⟩, ⟨1, 1, ⟨4, 1, 1, ⟨#[104, 105]⟩⟩⟩, wkX], z0 :: ⟨false, 0, 1⟩ :: List.replicate 14 z0⟩
theorem wk_new : newF tk0 0 wkL = (wkT, 0) := by kernel_rfl
theorem wk_leave : apT wkT 5 ⟨3, 1, 0, ⟨#[]⟩⟩ = wkT2 ∧ apB wkT 5 ⟨3, 1, 0, ⟨#[]⟩⟩ = true ∧ apE wkT 5 ⟨3, 1, 0, ⟨#[]⟩⟩ = 0 ∧ apX wkT 5 ⟨3, 1, 0, ⟨#[]⟩⟩ = wkX := ⟨by kernel_rfl, by kernel_rfl, by kernel_rfl, by kernel_rfl⟩
theorem wk_none : apT wkT2 5 nE = wkT2 ∧ apB wkT2 5 nE = false ∧ apE wkT2 5 nE = 320 ∧ apX wkT2 5 nE = zL := ⟨by kernel_rfl, by kernel_rfl, by kernel_rfl, by kernel_rfl⟩
theorem wk_would : wdB wkT ⟨4, 1, 2, ⟨#[121]⟩⟩ = true ∧ wdB wkT ⟨4, 2, 1, ⟨#[121]⟩⟩ = false ∧ wdB wkT ⟨2, 1, 0, ⟨#[]⟩⟩ = false := ⟨by kernel_rfl, by kernel_rfl, by kernel_rfl⟩
theorem wk_page : pgE wkT2 1 9 = 0 ∧ pgL wkT2 1 9 = [⟨1, 1, ⟨4, 1, 1, ⟨#[104, 105]⟩⟩⟩, wkX] := ⟨by kernel_rfl, by kernel_rfl⟩
theorem wp_region_extA {P : Program} {id : Nat} {Q : Exit → Act → World → Prop} {a : Act} {w : World} {l : List Oper} (hm : P.follows .mixedOrders = true) (hB : Region.lexB .any l.toArray = true)
    (h : wpQuiet P l.toArray (ExtA w) (fun a' => ∀ w', ExtA w w' → Q .normal a' w') l a) : (Code.region id l.toArray true).wp P Q a w :=
  wp_region_quiet (C := ExtA w) hm hB ⟨rfl, rfl, rfl, Nat.le_refl _, fun _ _ => rfl⟩ (by simpa using h)
theorem wk_size {e : En} (h : e ∈ wkL) : e.s.size ≤ 9223372036854775807 := by
  simp only [wkL, List.mem_cons, List.mem_nil_iff, or_false] at h
  rcases h with rfl | rfl | rfl | rfl | rfl <;> decide
theorem new_wk (g : Nat) (w : World) (hB : Blk w g 26 (cellsE wkL)) (hT : Tabs w) :
    Calls Tryd.prog 11 #[.slice (some ⟨g, 0, none⟩) 5 5] w fun r w' => (∃ k v, r = .returned (.tuple #[.pointer (some ⟨k, 0, none⟩), .int .i64 0]) ∧ TkW w' w.heap.size k v wkT ∧ w.heap.size ≤ k) ∧ Below w.heap.size w w' := by
  have h := new_any wkL (some ⟨g, 0, none⟩) 5 w (hasE_blk hB) hT (fun e he => wk_size he) (by decide)
  refine Calls.mono h ?_
  rintro r w' ⟨hP, hb⟩
  rw [wk_new, if_pos rfl] at hP
  exact ⟨hP, hb⟩
set_option maxRecDepth 100000 in
set_option maxHeartbeats 8000000 in
theorem works_any (w : World) (hT : Tabs w) : Calls Tryd.prog 10 #[] w fun r w' => r = .returned (.bool true) ∧ Below w.heap.size w w' := by
  go_enter Tryd.func10, Tryd.ntmps10
  go_upto_region 2 with fail
  obtain ⟨X1, X2, hb, hz⟩ := two w 26 26 #[.int .i64 2, .int .i64 1, .int .i64 0, .string ⟨#[]⟩] #[.int .i64 1, .int .i64 0, .int .i64 0, .string ⟨#[]⟩]
  generalize (w.alloc (.cells #[.int .i64 2, .int .i64 1, .int .i64 0, .string ⟨#[]⟩] 26)).alloc (.cells #[.int .i64 1, .int .i64 0, .int .i64 0, .string ⟨#[]⟩] 26) = W at *
  have hT1 := hT.step hb
  obtain ⟨B, hB⟩ : ∃ B, w.heap.size = B := ⟨_, rfl⟩
  rw [hB] at X1 X2 hb hz ⊢
  have a0 := extA_cell (X1.cell (j := 0) rfl)
  have a1 := extA_cell (X1.cell (j := 1) rfl)
  have a2 := extA_cell (X1.cell (j := 2) rfl)
  have a3 := extA_cell (X1.cell (j := 3) rfl)
  have b0 := extA_cell (X2.cell (j := 0) rfl)
  have b1 := extA_cell (X2.cell (j := 1) rfl)
  have b2 := extA_cell (X2.cell (j := 2) rfl)
  have b3 := extA_cell (X2.cell (j := 3) rfl)
  refine wp_region_head (C := ExtA W) 5 (by kernel_rfl) (by decide) (by kernel_rfl) ⟨rfl, rfl, rfl, Nat.le_refl _, fun _ _ => rfl⟩ ?_
  simp only [List.take_succ_cons, List.take_zero]
  repeat
    (first
      | go_big_quiet_skip
      | (go_big_quiet_want
         go_big_quiet_op
         first
           | go_big_quiet_on
           | (apply Exists.intro
              refine ⟨fun w' hC => ?_, ?_⟩
              · (first
                  | with_reducible rfl
                  | (go_at_call 33; refine (say_any _ _ _ _).mono ?_; rintro e w2 ⟨rfl, hb2⟩; exact ⟨rfl, hC.call hb2⟩)
                  | (go_simp; done)
                  | (go_simp; with_reducible rfl))
              go_big_quiet_on)))
  refine wpQuiet_nil ?_
  intro wq hq
  change wpAny _ _ _ _ (6 + 1) _ _ _
  refine wpAny_ready (rs := [5]) (by kernel_rfl) (by simp) ?_
  refine AllReady.cons (o := { dst := some 26, op := .buildSlice 23 5 #[(0, .tmp 21), (1, .tmp 22), (2, .tmp 23), (3, .tmp 24), (4, .tmp 25)], type := _, pos := _, after := _, guard := _ }) rfl (fun K hK => ?_) AllReady.nil
  go_simp
  refine hK _ _ ?_
  clear hK K
  have hB3 : Blk (wq.alloc (.cells (cellsE wkL).toArray 26)) wq.heap.size 26 (cellsE wkL) := Blk.newA' rfl _ _
  change Blk (wq.alloc (.cells #[.int .i64 2, .int .i64 1, .int .i64 0, .string ⟨#[]⟩, .int .i64 4, .int .i64 1, .int .i64 1, .string ⟨#[104, 105]⟩, .int .i64 4, .int .i64 1, .int .i64 1, .string ⟨#[104, 105]⟩, .int .i64 4, .int .i64 1, .int .i64 3, .string ⟨#[120]⟩, .int .i64 1, .int .i64 0, .int .i64 0, .string ⟨#[]⟩] 26)) wq.heap.size 26 (cellsE wkL) at hB3
  have hx3 : ExtA W (wq.alloc (.cells #[.int .i64 2, .int .i64 1, .int .i64 0, .string ⟨#[]⟩, .int .i64 4, .int .i64 1, .int .i64 1, .string ⟨#[104, 105]⟩, .int .i64 4, .int .i64 1, .int .i64 1, .string ⟨#[104, 105]⟩, .int .i64 4, .int .i64 1, .int .i64 3, .string ⟨#[120]⟩, .int .i64 1, .int .i64 0, .int .i64 0, .string ⟨#[]⟩] 26)) := ExtA.call hq ((Below.refl _ _).alloc (Nat.le_refl _) _)
  generalize wq.alloc (.cells #[.int .i64 2, .int .i64 1, .int .i64 0, .string ⟨#[]⟩, .int .i64 4, .int .i64 1, .int .i64 1, .string ⟨#[104, 105]⟩, .int .i64 4, .int .i64 1, .int .i64 1, .string ⟨#[104, 105]⟩, .int .i64 4, .int .i64 1, .int .i64 3, .string ⟨#[120]⟩, .int .i64 1, .int .i64 0, .int .i64 0, .string ⟨#[]⟩] 26) = w3 at *
  have cN := new_wk _ _ hB3 (hT1.step hx3)
  refine wpAny_ready (rs := [6]) (by kernel_rfl) (by simp) ?_
  refine AllReady.cons (o := { dst := some 27, op := .call ⟨.value (.func 11), #[.tmp 26], #[23]⟩, type := _, pos := _, after := _, guard := _ }) rfl (fun K hK => ?_) AllReady.nil
  go_simp
  refine cN.mono ?_
  rintro e w4 ⟨⟨g, v, rfl, hW, hgk⟩, hb4⟩
  refine hK _ _ ?_
  clear hK K cN
  refine take_dst (i := 7) (d := 20) (v := ?_) rfl rfl (by kernel_rfl) (by kernel_rfl) (by kernel_rfl) (fun _ _ _ h => h) (Or.inl ⟨by rfl, ?_⟩) ?_
  rotate_left
  · intro w
    go_simp
    try with_reducible rfl
  simp only [Act.put, List.setIfInBounds_toArray, List.set_cons_zero, List.set_cons_succ]
  refine take_dst (i := 8) (d := 28) (v := ?_) rfl rfl (by kernel_rfl) (by kernel_rfl) (by kernel_rfl) (fun _ _ _ h => h) (Or.inl ⟨by rfl, ?_⟩) ?_
  rotate_left
  · intro w
    go_simp
    try with_reducible rfl
  simp only [Act.put, List.setIfInBounds_toArray, List.set_cons_zero, List.set_cons_succ]
  refine take_dst (i := 9) (d := 29) (v := ?_) rfl rfl (by kernel_rfl) (by kernel_rfl) (by kernel_rfl) (fun _ _ _ h => h) (Or.inl ⟨by rfl, ?_⟩) ?_
  rotate_left
  · intro w
    go_simp
    try with_reducible rfl
  simp only [Act.put, List.setIfInBounds_toArray, List.set_cons_zero, List.set_cons_succ]
  refine wpAny_ready (rs := [10]) (by kernel_rfl) (by simp) ?_
  refine AllReady.cons (o := { dst := some 3, op := .assign (.tmp 28), type := _, pos := _, after := _, guard := _ }) rfl (fun K hK => ?_) AllReady.nil
  go_simp
  refine hK _ _ ?_
  clear hK K
  refine wpAny_ready (rs := [11]) (by kernel_rfl) (by simp) ?_
  refine AllReady.cons (o := { dst := some 4, op := .assign (.tmp 29), type := _, pos := _, after := _, guard := _ }) rfl (fun K hK => ?_) AllReady.nil
  go_simp
  refine hK _ _ ?_
  clear hK K
  refine wpAny_done (by kernel_rfl) ?_ _
  have hx4 : ExtA W w4 := ExtA.call hx3 hb4
  have hbase : B + 2 ≤ w3.heap.size := by have := Below.size hx3; omega
  have hge := hW.ge_base hgk
  generalize w3.heap.size = base at *
  have d0 := extA_cell (a0 w4 hx4)
  have d1 := extA_cell (a1 w4 hx4)
  have d2 := extA_cell (a2 w4 hx4)
  have d3 := extA_cell (a3 w4 hx4)
  have hT4 := hT1.step hx4
  have XB4 := X2.step hx4
  have bb4 : Below B w w4 := hb.trans (Below.mono hx4 (by omega))
  clear hB3 hx3 hb4 hq a0 a1 a2 a3 b0 b1 b2 b3 hx4 X1 X2 hT1 hb
  have cL : Calls Tryd.prog 16 #[.pointer (some ⟨g, 0, none⟩)] w4 fun e w' => e = .returned (.int .i64 2) ∧ w4 = w' := len_any base g v wkT w4 hW
  have cS : Calls Tryd.prog 14 #[.pointer (some ⟨g, 0, none⟩)] w4 fun e w' => e = .returned (.int .i64 5) ∧ w4 = w' := slot_any base g v wkT w4 hW
  go_wp2_with fail
  refine (cL).mono ?_
  rintro e w5 ⟨rfl, rfl⟩
  go_wp2_with fail
  refine (cS).mono ?_
  rintro e w5 ⟨rfl, rfl⟩
  clear cL cS
  have wdA : ∀ k m q s W', s.size ≤ 9223372036854775807 → ExtA w4 W' → Calls Tryd.prog 31 #[.pointer (some ⟨g, 0, none⟩), .agg #[.int .i64 k, .int .i64 m, .int .i64 q, .string s]] W' fun r w' => r = .returned (.bool (wdB wkT ⟨k, m, q, s⟩)) ∧ Below W'.heap.size W' w' :=
    fun k m q s W' hs hW' => would_any base g v wkT ⟨k, m, q, s⟩ W' (hW.step hW') (hT4.step hW') hs
  go_wp2_with fail
  refine wp_region_extA (by kernel_rfl) (by kernel_rfl) ?_
  repeat
    (first
      | go_big_quiet_skip
      | (go_big_quiet_want
         go_big_quiet_op
         first
           | go_big_quiet_on
           | (apply Exists.intro
              refine ⟨fun w' hC => ?_, ?_⟩
              · (first
                  | with_reducible rfl
                  | (go_at_call 33; refine (say_any _ _ _ _).mono ?_; rintro e w2 ⟨rfl, hb2⟩; exact ⟨rfl, hC.call hb2⟩) | (go_at_call 31; refine (wdA _ _ _ _ _ (by decide) hC).mono ?_; rintro e w2 ⟨rfl, hb2⟩; exact ⟨rfl, hC.call hb2⟩)
                  | (go_simp; done)
                  | (go_simp; with_reducible rfl))
              go_big_quiet_on)))
  refine wpQuiet_nil ?_
  intro wq hq
  clear wdA d0 d1 d2 d3
  have hW5 := hW.step hq
  have hT5 := hT4.step hq
  have XB5 := XB4.step hq
  have bb5 : Below B w _ := bb4.trans (Below.mono hq (by have := bb4.size; omega))
  rw [wk_would.1, wk_would.2.1, wk_would.2.2]
  clear hq hW XB4 bb4 hT4
  have cA : Calls Tryd.prog 13 #[.pointer (some ⟨g, 0, none⟩), .int .i64 5, .agg #[.int .i64 3, .int .i64 1, .int .i64 0, .string ⟨#[]⟩]] wq fun r w' => r = .returned (.tuple #[.agg #[.int .i64 2, .int .i64 5, .int .i64 3, .int .i64 1, .int .i64 0, .string ⟨#[]⟩], .bool true, .int .i64 0]) ∧
      ∃ v', TkW w' base g v' wkT2 ∧ Kx (g :: v.ownBlock.toList) wq w' ∧ (v'.ownBlock = v.ownBlock ∨ ∃ k, v'.ownBlock = some k ∧ wq.heap.size ≤ k) := by
    have h := apply_any base g v wkT 5 ⟨3, 1, 0, ⟨#[]⟩⟩ wq hW5 hT5 (by have := hW5.blk.lt; omega) (by decide)
    obtain ⟨h1, h2, h3, h4⟩ := wk_leave
    rw [h1, h2, h3, h4] at h
    exact h
  go_wp2_with fail
  refine (cA).mono ?_
  rintro e w6 ⟨rfl, v6, hW6, hK6, ho6⟩
  clear cA
  have hlt5 := hW5.lt
  have bb6 : Below B w w6 := bb5.trans (hK6.below (by have := bb5.size; omega) (fun x hx => by have := hge x hx; omega))
  have hT6 : Tabs w6 := hT.step (by rw [hB]; exact bb6)
  have XB6 : Blk w6 (B + 1) 26 _ := hK6.blk XB5 (fun hx => by have := hge _ hx; omega)
  have hge6 := hW6.ge_base hgk
  clear hK6 ho6 XB5 hW5 hT5 bb5 hge hlt5
  have hbX := (Below.refl w6.heap.size w6).alloc (Nat.le_refl _) (.cells #[.int .i64 2, .int .i64 5, .int .i64 3, .int .i64 1, .int .i64 0, .string ⟨#[]⟩] 33)
  have hsX := alloc_size (W := w6) rfl (.cells #[.int .i64 2, .int .i64 5, .int .i64 3, .int .i64 1, .int .i64 0, .string ⟨#[]⟩] 33)
  have XX := Blk.newA' (W := w6) rfl 33 #[.int .i64 2, .int .i64 5, .int .i64 3, .int .i64 1, .int .i64 0, .string ⟨#[]⟩]
  have XB7 := XB6.step hbX
  have b0 := XB7.cell (j := 0) rfl
  have b1 := XB7.cell (j := 1) rfl
  have b2 := XB7.cell (j := 2) rfl
  have b3 := XB7.cell (j := 3) rfl
  have cB : ∀ W', TkW W' base g v6 wkT2 → Tabs W' → Calls Tryd.prog 13 #[.pointer (some ⟨g, 0, none⟩), .int .i64 5, .agg #[.int .i64 1, .int .i64 0, .int .i64 0, .string ⟨#[]⟩]] W' fun r w' => r = .returned (.tuple #[.agg #[.int .i64 0, .int .i64 0, .int .i64 0, .int .i64 0, .int .i64 0, .string ⟨#[]⟩], .bool false, .int .i64 320]) ∧
      ∃ v', TkW w' base g v' wkT2 ∧ Kx (g :: v6.ownBlock.toList) W' w' ∧ (v'.ownBlock = v6.ownBlock ∨ ∃ k, v'.ownBlock = some k ∧ W'.heap.size ≤ k) := fun W' hW' hT' => by
    have h := apply_any base g v6 wkT2 5 ⟨1, 0, 0, ⟨#[]⟩⟩ W' hW' hT' (by have := hW'.blk.lt; omega) (by decide)
    obtain ⟨h1, h2, h3, h4⟩ := wk_none
    unfold nE at h1 h2 h3 h4
    rw [h1, h2, h3, h4] at h
    exact h
  go_wp2_with fail
  refine (cB _ (hW6.step hbX) (hT6.step hbX)).mono ?_
  rintro e w8 ⟨rfl, v8, hW8, hK8, ho8⟩
  clear cB b0 b1 b2 b3
  have bb8 : Below B w w8 := (bb6.trans (hbX.mono (by have := bb6.size; omega))).trans (hK8.below (by have := bb6.size; omega) (fun x hx => by have := hge6 x hx; omega))
  have hlt6 := hW6.lt
  have XX8 : Blk w8 w6.heap.size 33 _ := hK8.blk XX (fun hx => by have := hlt6 _ hx; omega)
  generalize w6.heap.size = gx at *
  clear hK8 ho8 hW6 XX hbX hsX XB6 XB7 bb6 hT6 hge6 hlt6
  have hbZ := (Below.refl w8.heap.size w8).alloc (Nat.le_refl _) (.cells #[.int .i64 0, .int .i64 0, .int .i64 0, .int .i64 0, .int .i64 0, .string ⟨#[]⟩] 33)
  have bb9 := bb8.trans (hbZ.mono (by have := bb8.size; omega))
  have cP : ∀ W', TkW W' base g v8 wkT2 → Calls Tryd.prog 18 #[.pointer (some ⟨g, 0, none⟩), .int .i64 1, .int .i64 9] W' fun r w' => (∃ v', r = .returned (.tuple #[v', .int .i64 0]) ∧ w'.ownsRow W'.heap.size 33 6 v' 2 (cellsN [⟨1, 1, ⟨4, 1, 1, ⟨#[104, 105]⟩⟩⟩, wkX])) ∧ Below W'.heap.size W' w' := fun W' hW' => by
    have h := page_any base g v8 wkT2 1 9 W' hW'
    unfold pgP at h
    rw [wk_page.1, wk_page.2] at h
    exact h
  go_wp2_with fail
  refine (cP _ (hW8.step hbZ)).mono ?_
  rintro e w10 ⟨⟨vp, rfl, hrow⟩, hb10⟩
  clear cP
  obtain ⟨pb, pc, rfl⟩ : ∃ pb pc, vp = .slice (some ⟨pb, 0, none⟩) 2 pc := by
    rcases hrow.2 with ⟨_, e2⟩ | ⟨g', cap', cur, e, -⟩
    · cases e2
    · exact ⟨_, _, e⟩
  have p0 : w10.cell? ⟨pb, 0, none⟩ = some (.int .i64 1) := hrow.cellAt 0 (by decide)
  have XX9 := (XX8.step hbZ).step hb10
  have y0 := XX9.cell (j := 0) rfl
  have y1 := XX9.cell (j := 1) rfl
  have bb10 := bb9.trans (hb10.mono (by have := bb9.size; omega))
  clear hrow hb10 bb9 hbZ XX8 XX9 bb8 hW8
  go_wp2_with fail
  refine (num_any 0 _).mono ?_
  rintro e w' ⟨rfl, rfl⟩
  go_wp2_with fail
  refine (num_any 0 _).mono ?_
  rintro e w' ⟨rfl, rfl⟩
  go_wp2_with fail
  refine (num_any 0 _).mono ?_
  rintro e w' ⟨rfl, rfl⟩
  go_wp2_with fail
  refine (num_any 320 _).mono ?_
  rintro e w' ⟨rfl, rfl⟩
  go_wp2
  go_ret
  exact ⟨rfl, by rw [hB]; exact bb10⟩
end Go.Proofs.YtndechodaegkiaaDoor
