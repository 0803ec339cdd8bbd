
/- Package text: what Lines lays down, word by word. -/
import Derived.Test.YtehjglaofhgjfaaDoorTyL
import Derived.Maps.AppendAt
import Derived.OrdersHeld
import Derived.Deep.RegionHeld3
import Derived.LoopN
namespace Go.Proofs.YtehjglaofhgjfaaDoor
set_option linter.unusedSimpArgs false
set_option linter.unusedVariables false
open Go.RowKit
theorem step_app_run {P : Program} {w w' : World} {ops : Array Oper} {o : Oper} {a : Act} {K : Act → World → Prop} {Q : Exit → Act → World → Prop} {E : Prop} (hgd : o.guard = none) (s x : Operand) (t : TypeId)
    (ho : o.op = .call { callee := .builtin .append, args := #[s, x], argTypes := #[t, t] }) {v v2 v' : Value} (hs : a.eval s = v) (hx : a.eval x = v2) (hrun : (Builtin.append_ #[t, t] o.type #[v, v2]).run P w = .ok v' w') (h : K (a.put o.dst v') w') :
    if Region.wanted o (yielded ops a.tmps) = true then Oper.wp P o a w K Q else E := by
  have hw : Region.wanted o (yielded ops a.tmps) = true := by simp [Region.wanted, hgd]
  rw [if_pos hw]
  unfold Oper.wp execOp
  simp only [ho, resolve, invoke, builtin, Sem.run_bind, Sem.run_pure, Result.andThen_ok, List.map_toArray, List.map_cons, List.map_nil, hs, hx, hrun]
  exact h
theorem newsW {W : World} {g : Nat} {t : TypeId} {v : Value} (h : Blk W g t [v]) : ∀ j u, [v][j]? = some u → W.cell? ((⟨g, 0, none⟩ : Addr).add j) = some u := by
  intro j u hu
  match j, hu with
  | 0, hu =>
    simp at hu; subst hu
    rw [Addr.add_lit, Nat.zero_add]
    exact h.cell (j := 0) rfl
theorem cell_step {W W' : World} {g : Nat} {v : Value} (h : W.cell? ⟨g, 0, none⟩ = some v) (hb : Below W.heap.size W W') : W'.cell? ⟨g, 0, none⟩ = some v := (hb.cell (World.block_lt_of_cell? W _ h)).trans h
/-- What Lines has at hand: out (its row from gZ on), width, line, room. -/
structure LW (w : World) (gO gD gL gR gZ : Nat) (wd : Int) (out : List BL) (line : BL) (room : Int) (v : Value) (W : World) : Prop where
  O : Blk W gO 28 [v]
  D : Blk W gD 3 [.int .i64 wd]
  L : Blk W gL 9 [.string (mkS line)]
  R : Blk W gR 3 [.int .i64 room]
  own : OwnL W gZ v out
  hb : From w W
  le : gZ ≤ W.heap.size
theorem LW.step {w : World} {gO gD gL gR gZ : Nat} {wd : Int} {out : List BL} {line : BL} {room : Int} {v : Value} {W W' : World} (h : LW w gO gD gL gR gZ wd out line room v W) (hb : Below W.heap.size W W') : LW w gO gD gL gR gZ wd out line room v W' :=
  ⟨h.O.step hb, h.D.step hb, h.L.step hb, h.R.step hb, h.own.step hb, h.hb.step hb, Nat.le_trans h.le hb.size⟩
/-- A row that has been appended to. -/
theorem LW.app {w : World} {gO gD gL gR gZ : Nat} {wd : Int} {out : List BL} {line : BL} {room : Int} {v : Value} {W W' : World} (h : LW w gO gD gL gR gZ wd out line room v W) (hg : W.grownBy W' v.ownBlock)
    (h1 : gO < gZ) (h2 : gD < gZ) (h3 : gL < gZ) (h4 : gR < gZ) (h5 : w.heap.size ≤ gZ) :
    Blk W' gO 28 [v] ∧ Blk W' gD 3 [.int .i64 wd] ∧ Blk W' gL 9 [.string (mkS line)] ∧ Blk W' gR 3 [.int .i64 room] ∧ From w W' ∧ gZ ≤ W'.heap.size := by
  have rowB : ∀ r, v.ownBlock = some r → gZ ≤ r := fun r e => (World.ownsRow.lt h.own r e).1
  have le := h.le
  have k2 : ∀ j, j < gZ → W'.heap[j]? = W.heap[j]? := fun j hj => hg.block j (by omega) (fun e => by have := rowB j e.symm; omega)
  exact ⟨(k2 gO h1).trans h.O, (k2 gD h2).trans h.D, (k2 gL h3).trans h.L, (k2 gR h4).trans h.R, Below.grown h.hb.out hg (by have := h.hb.size; omega) (fun j e => by have := rowB j e; omega), Nat.le_trans le hg.size⟩
theorem OwnL.other {W : World} {base : Nat} {v : Value} {l : List BL} (h : OwnL W base v l) {g : Nat} (hg : g < base) (u : Value) : OwnL (W.setCell ⟨g, 0, none⟩ u) base v l := by
  refine ⟨h.1, ?_⟩
  rcases h.2 with h | ⟨k, c, cur, hv, hgb, hh, r⟩
  · exact .inl h
  · exact .inr ⟨k, c, cur, hv, hgb, (Below.heap_setCell W ⟨g, 0, none⟩ u k (by simp; omega)).trans hh, r⟩
theorem OwnL.snoc {W : World} {base : Nat} {v : Value} {l : List BL} {x : BL} (h : W.ownsRow base 9 1 v (l.length + 1) (strL l ++ [.string (mkS x)])) : OwnL W base v (l ++ [x]) := by
  unfold OwnL strL
  rw [List.length_append, List.map_append]
  exact h
set_option maxRecDepth 100000 in
set_option maxHeartbeats 4000000 in
theorem put_any (g gO gD gL gR gZ : Nat) (wd room : Int) (out : List BL) (line x : BL) (v : Value) (w0 w : World) (h : LW w0 gO gD gL gR gZ wd out line room v w) (hX : Blk w g 9 [.string (mkS x)])
    (h1 : gO < gZ) (h2 : gD < gZ) (h3 : gL < gZ) (h4 : gR < gZ) (h5 : w0.heap.size ≤ gZ) (h6 : w0.heap.size ≤ gO) (h7 : w0.heap.size ≤ gL) (h8 : w0.heap.size ≤ gR) (hOD : gO ≠ gD) (hOL : gO ≠ gL) (hOR : gO ≠ gR) (hDL : gD ≠ gL) (hDR : gD ≠ gR) (hLR : gL ≠ gR)
    (gP : Nat) (cs : List Value) (P : Blk w gP 9 cs) (hP1 : gP < gZ) (hP2 : gP ≠ gO) (hP3 : gP ≠ gL) (hP4 : gP ≠ gR) (hwd : 0 ≤ wd ∧ wd ≤ 1000) (hxl : x.length ≤ 2000000) (hout : out.length ≤ 2000000) :
    Calls Tryd.prog 41 #[.slice (some ⟨g, 0, none⟩) 1 1, .pointer (some ⟨gO, 0, none⟩), .pointer (some ⟨gD, 0, none⟩), .pointer (some ⟨gL, 0, none⟩), .pointer (some ⟨gR, 0, none⟩)] w fun e w' => e = .returned (.tuple #[]) ∧
      ∃ v', LW w0 gO gD gL gR gZ wd (out ++ [x]) x (wd - (lenB x : Nat)) v' w' ∧ Blk w' gP 9 cs := by
  obtain ⟨i0, hi, hz0, hz1, hz2⟩ := info_parts info_str
  have cX := hX.cell (j := 0) rfl
  have hlx := lenB_le x
  obtain ⟨ao, co, rfl⟩ := h.own.form
  go_enter Tryd.func41, Tryd.ntmps41
  go_wp2_with fail
  refine wp_loop_rounds 2 ?_
  rw [rounds_succ]
  go_upto_region 3 with fail
  have cX' := cX
  have hS0 := h.D.cell (j := 0) rfl
  have hid1 : ∀ W' : World, W'.cell? ⟨gD, 0, none⟩ = some (.int .i64 wd) → W'.cell? ⟨gD, 0, none⟩ = some (.int .i64 wd) := fun _ h => h
  have hXs : x.length ≤ 1000000000000 := by omega
  have cLen := fun W => len_any (mkS x) (by rw [mkS_size]; exact hXs) W
  rw [mkS_data] at cLen
  have hwz : IntKind.i64.wrap (wd - (lenB x : Nat)) = wd - (lenB x : Nat) := IntWalk.i64_in _ (by omega)
  clear cX cX'
  refine wp_region_held (S := fun W' : World => W'.cell? ⟨gD, 0, none⟩ = some (.int .i64 wd)) (by kernel_rfl) ?_
  have hst : Below (w).heap.size w { w with drawn := (w).drawn + 1 } := ⟨rfl, rfl, rfl, Nat.le_refl _, fun _ _ => rfl⟩
  have hS : (fun W' : World => W'.cell? ⟨gD, 0, none⟩ = some (.int .i64 wd)) { w with drawn := (w).drawn + 1 } := by first | exact ⟨rfl, rfl, rfl, Nat.le_refl _, fun _ _ _ => rfl⟩ | exact ⟨rfl, rfl, rfl, Nat.le_refl _, fun _ _ => rfl⟩ | exact hS0
  replace h := h.step hst
  replace P := P.step hst
  clear hst
  generalize ({ w with drawn := (w).drawn + 1 } : World) = wq at *
  refine wpAnyH_take (i := 1) (v := ?_) rfl (by kernel_rfl) (by kernel_rfl) (by kernel_rfl) (fun _ _ _ h => h) (Or.inl ⟨by kernel_rfl, ?_⟩) hS ?_
  rotate_left
  · intro W hSW
    have y0 := hid1 _ hSW
    go_simp
    try with_reducible rfl
  dsimp only [Act.put]
  refine wpAnyH_take (i := 4) (v := ?_) rfl (by kernel_rfl) (by kernel_rfl) (by kernel_rfl) (fun _ _ _ h => h) (Or.inl ⟨by kernel_rfl, ?_⟩) hS ?_
  rotate_left
  · intro W hSW
    have y0 := hid1 _ hSW
    go_simp
    try with_reducible rfl
  dsimp only [Act.put]
  refine wpAnyH_take (i := 5) (v := ?_) rfl (by kernel_rfl) (by kernel_rfl) (by kernel_rfl) (fun _ _ _ h => h) (Or.inl ⟨by kernel_rfl, ?_⟩) hS ?_
  rotate_left
  · intro W hSW
    have y0 := hid1 _ hSW
    go_simp
    try with_reducible rfl
  dsimp only [Act.put]
  refine wpAnyH_take (i := 6) (v := ?_) rfl (by kernel_rfl) (by kernel_rfl) (by kernel_rfl) (fun _ _ _ h => h) (Or.inl ⟨by kernel_rfl, ?_⟩) hS ?_
  rotate_left
  · intro W hSW
    have y0 := hid1 _ hSW
    go_simp
    try with_reducible rfl
  dsimp only [Act.put]
  refine wpAnyH_ready (rs := [0, 2]) (by kernel_rfl) (by simp) ?_
  refine AllReadyH.cons rfl (fun K hK => ?_) (AllReadyH.cons rfl (fun K hK => ?_) AllReadyH.nil)
  ·
    have cO := h.O.cell (j := 0) rfl
    go_simp
    refine hK.out _ _ (hS) (fun hS => ?_)
    clear hK K
    refine wpAnyH_ready (rs := [2]) (by kernel_rfl) (by simp) ?_
    refine AllReadyH.cons rfl (fun K hK => ?_) AllReadyH.nil
    go_simp
    obtain ⟨gX, hgX⟩ : ∃ g, (wq).heap.size = g := ⟨_, rfl⟩
    have X := Blk.newV hgX 9 #[.string (mkS x)]
    have hbn := (Below.refl (wq).heap.size (wq)).alloc (Nat.le_refl _) (.cells #[.string (mkS x)] 9)
    replace h := h.step hbn
    replace P := P.step hbn
    refine hK.out _ _ (cell_step hS hbn) (fun hS => ?_)
    rw [hgX]
    clear hbn hgX
    generalize (wq).alloc (.cells #[.string (mkS x)] 9) = w4 at *
    clear hK K
    obtain ⟨v', w5, ra, hown5, hg5, -, -⟩ := run_append_own_at (P := Tryd.prog) w4 gZ 28 28 9 i0 (.string ⟨#[]⟩) 1 16 Tryd.underlying28 hi hz0 hz1 hz2 rfl (by decide) _ _ _ h.own ⟨gX, 0, none⟩ 1 1 [.string (mkS x)] rfl (newsW X) (by simp [Value.oneCell']) (by unfold maxLen; omega) (by omega) h.le
    refine wpAnyH_ready (rs := [3]) (by kernel_rfl) (by simp) ?_
    refine AllReadyH.cons rfl (fun K hK => ?_) AllReadyH.nil
    obtain ⟨a2, c2, rfl⟩ : ∃ a c, v' = .slice a (out.length + 1) c := by
      rcases hown5.2 with ⟨e, e2⟩ | ⟨g', cap', cur, e, -⟩
      · omega
      · exact ⟨_, _, e⟩
    have hown6 := OwnL.snoc hown5
    obtain ⟨O5, D5, L5, R5, hb5, le5⟩ := h.app hg5 h1 h2 h3 h4 h5
    have hle4 := h.le
    replace P : Blk w5 gP 9 cs := (hg5.block gP (by omega) (fun e => by have := (World.ownsRow.lt h.own gP e.symm).1; omega)).trans P
    clear hle4
    refine step_app_run rfl (.tmp 14) (.tmp 16) 28 rfl (by kernel_rfl) (by kernel_rfl) ra ?_
    refine hK.out _ _ ((D5.cell (j := 0) rfl)) (fun hS => ?_)
    clear ra hown5 hg5 h X
    clear hK K
    refine wpAnyH_ready (rs := [7]) (by kernel_rfl) (by simp) ?_
    refine AllReadyH.cons rfl (fun K hK => ?_) AllReadyH.nil
    go_simp
    refine (cLen _).mono ?_
    rintro e w6 ⟨rfl, hbn⟩
    refine hK.out _ _ ((cell_step hS hbn)) (fun hS => ?_)
    replace O5 := O5.step hbn
    replace P := P.step hbn
    replace D5 := D5.step hbn
    replace L5 := L5.step hbn
    replace R5 := R5.step hbn
    replace hown6 := hown6.step hbn
    replace hb5 := hb5.step hbn
    replace le5 := Nat.le_trans le5 hbn.size
    clear hbn
    clear hK K
    refine wpAnyH_take (i := 8) (v := ?_) rfl (by kernel_rfl) (by kernel_rfl) (by kernel_rfl) (fun _ _ _ h => h) (Or.inl ⟨by kernel_rfl, ?_⟩) hS ?_
    rotate_left
    · intro W hSW
      go_simp
      try with_reducible rfl
    dsimp only [Act.put]
    have cO := O5.cell (j := 0) rfl
    have fO := O5.frozen 0
    refine wpAnyH_ready (rs := [9]) (by kernel_rfl) (by simp) ?_
    refine AllReadyH.cons rfl (fun K hK => ?_) AllReadyH.nil
    go_simp
    refine hK.out _ _ ((D5.other (Ne.symm hOD) 0 _).cell (j := 0) rfl) (fun hS => ?_)
    clear cO fO
    replace P := P.other hP2 0 (.slice a2 (out.length + 1) c2)
    replace O5 := O5.set 0 (.slice a2 (out.length + 1) c2)
    replace D5 := D5.other (Ne.symm hOD) 0 (.slice a2 (out.length + 1) c2)
    replace L5 := L5.other (Ne.symm hOL) 0 (.slice a2 (out.length + 1) c2)
    replace R5 := R5.other (Ne.symm hOR) 0 (.slice a2 (out.length + 1) c2)
    replace hown6 := hown6.other h1 (.slice a2 (out.length + 1) c2)
    replace hb5 : From w0 (w6.setCell ⟨gO, 0, none⟩ (.slice a2 (out.length + 1) c2)) := Below.setCell hb5 (p := ⟨gO, 0, none⟩) h6 _
    replace le5 : gZ ≤ (w6.setCell ⟨gO, 0, none⟩ (.slice a2 (out.length + 1) c2)).heap.size := by rw [World.size_setCell]; exact le5
    generalize w6.setCell ⟨gO, 0, none⟩ (.slice a2 (out.length + 1) c2) = w7 at *
    clear hK K
    have cL := L5.cell (j := 0) rfl
    have fL := L5.frozen 0
    refine wpAnyH_ready (rs := [10]) (by kernel_rfl) (by simp) ?_
    refine AllReadyH.cons rfl (fun K hK => ?_) AllReadyH.nil
    go_simp
    refine hK.out _ _ ((D5.other hDL 0 _).cell (j := 0) rfl) (fun hS => ?_)
    clear cL fL
    replace P := P.other hP3 0 (.string (mkS x))
    replace O5 := O5.other hOL 0 (.string (mkS x))
    replace D5 := D5.other hDL 0 (.string (mkS x))
    replace L5 := L5.set 0 (.string (mkS x))
    replace R5 := R5.other (Ne.symm hLR) 0 (.string (mkS x))
    replace hown6 := hown6.other h3 (.string (mkS x))
    replace hb5 : From w0 (w7.setCell ⟨gL, 0, none⟩ (.string (mkS x))) := Below.setCell hb5 (p := ⟨gL, 0, none⟩) h7 _
    replace le5 : gZ ≤ (w7.setCell ⟨gL, 0, none⟩ (.string (mkS x))).heap.size := by rw [World.size_setCell]; exact le5
    generalize w7.setCell ⟨gL, 0, none⟩ (.string (mkS x)) = w8 at *
    clear hK K
    have cR := R5.cell (j := 0) rfl
    have fR := R5.frozen 0
    refine wpAnyH_ready (rs := [11]) (by kernel_rfl) (by simp) ?_
    refine AllReadyH.cons rfl (fun K hK => ?_) AllReadyH.nil
    go_simp
    refine hK.out _ _ ((D5.other hDR 0 _).cell (j := 0) rfl) (fun hS => ?_)
    clear cR fR
    replace P := P.other hP4 0 (.int .i64 (wd - (lenB x : Nat)))
    replace O5 := O5.other hOR 0 (.int .i64 (wd - (lenB x : Nat)))
    replace D5 := D5.other hDR 0 (.int .i64 (wd - (lenB x : Nat)))
    replace L5 := L5.other hLR 0 (.int .i64 (wd - (lenB x : Nat)))
    replace R5 := R5.set 0 (.int .i64 (wd - (lenB x : Nat)))
    replace hown6 := hown6.other h4 (.int .i64 (wd - (lenB x : Nat)))
    replace hb5 : From w0 (w8.setCell ⟨gR, 0, none⟩ (.int .i64 (wd - (lenB x : Nat)))) := Below.setCell hb5 (p := ⟨gR, 0, none⟩) h8 _
    replace le5 : gZ ≤ (w8.setCell ⟨gR, 0, none⟩ (.int .i64 (wd - (lenB x : Nat)))).heap.size := by rw [World.size_setCell]; exact le5
    generalize w8.setCell ⟨gR, 0, none⟩ (.int .i64 (wd - (lenB x : Nat))) = w9 at *
    clear hK K
    refine wpAnyH_done (by kernel_rfl) ?_ _
    clear hS
    go_wp2_with fail
    rw [rounds_succ]
    go_wp2_with fail
    (try simp only [Exit.inBlock, Exit.then])
    refine bodyPost_end (results_none rfl _ _ _) rfl ?_
    exact ⟨rfl, _, ⟨O5, D5, L5, R5, hown6, hb5, le5⟩, P⟩
  ·
    go_simp
    obtain ⟨gX, hgX⟩ : ∃ g, (wq).heap.size = g := ⟨_, rfl⟩
    have X := Blk.newV hgX 9 #[.string (mkS x)]
    have hbn := (Below.refl (wq).heap.size (wq)).alloc (Nat.le_refl _) (.cells #[.string (mkS x)] 9)
    replace h := h.step hbn
    replace P := P.step hbn
    refine hK.out _ _ (cell_step hS hbn) (fun hS => ?_)
    rw [hgX]
    clear hbn hgX
    generalize (wq).alloc (.cells #[.string (mkS x)] 9) = w4 at *
    clear hK K
    refine wpAnyH_ready (rs := [0]) (by kernel_rfl) (by simp) ?_
    refine AllReadyH.cons rfl (fun K hK => ?_) AllReadyH.nil
    have cO := h.O.cell (j := 0) rfl
    go_simp
    refine hK.out _ _ (hS) (fun hS => ?_)
    clear hK K
    obtain ⟨v', w5, ra, hown5, hg5, -, -⟩ := run_append_own_at (P := Tryd.prog) w4 gZ 28 28 9 i0 (.string ⟨#[]⟩) 1 16 Tryd.underlying28 hi hz0 hz1 hz2 rfl (by decide) _ _ _ h.own ⟨gX, 0, none⟩ 1 1 [.string (mkS x)] rfl (newsW X) (by simp [Value.oneCell']) (by unfold maxLen; omega) (by omega) h.le
    refine wpAnyH_ready (rs := [3]) (by kernel_rfl) (by simp) ?_
    refine AllReadyH.cons rfl (fun K hK => ?_) AllReadyH.nil
    obtain ⟨a2, c2, rfl⟩ : ∃ a c, v' = .slice a (out.length + 1) c := by
      rcases hown5.2 with ⟨e, e2⟩ | ⟨g', cap', cur, e, -⟩
      · omega
      · exact ⟨_, _, e⟩
    have hown6 := OwnL.snoc hown5
    obtain ⟨O5, D5, L5, R5, hb5, le5⟩ := h.app hg5 h1 h2 h3 h4 h5
    have hle4 := h.le
    replace P : Blk w5 gP 9 cs := (hg5.block gP (by omega) (fun e => by have := (World.ownsRow.lt h.own gP e.symm).1; omega)).trans P
    clear hle4
    refine step_app_run rfl (.tmp 14) (.tmp 16) 28 rfl (by kernel_rfl) (by kernel_rfl) ra ?_
    refine hK.out _ _ ((D5.cell (j := 0) rfl)) (fun hS => ?_)
    clear ra hown5 hg5 h X
    clear hK K
    refine wpAnyH_ready (rs := [7]) (by kernel_rfl) (by simp) ?_
    refine AllReadyH.cons rfl (fun K hK => ?_) AllReadyH.nil
    go_simp
    refine (cLen _).mono ?_
    rintro e w6 ⟨rfl, hbn⟩
    refine hK.out _ _ ((cell_step hS hbn)) (fun hS => ?_)
    replace O5 := O5.step hbn
    replace P := P.step hbn
    replace D5 := D5.step hbn
    replace L5 := L5.step hbn
    replace R5 := R5.step hbn
    replace hown6 := hown6.step hbn
    replace hb5 := hb5.step hbn
    replace le5 := Nat.le_trans le5 hbn.size
    clear hbn
    clear hK K
    refine wpAnyH_take (i := 8) (v := ?_) rfl (by kernel_rfl) (by kernel_rfl) (by kernel_rfl) (fun _ _ _ h => h) (Or.inl ⟨by kernel_rfl, ?_⟩) hS ?_
    rotate_left
    · intro W hSW
      go_simp
      try with_reducible rfl
    dsimp only [Act.put]
    have cO := O5.cell (j := 0) rfl
    have fO := O5.frozen 0
    refine wpAnyH_ready (rs := [9]) (by kernel_rfl) (by simp) ?_
    refine AllReadyH.cons rfl (fun K hK => ?_) AllReadyH.nil
    go_simp
    refine hK.out _ _ ((D5.other (Ne.symm hOD) 0 _).cell (j := 0) rfl) (fun hS => ?_)
    clear cO fO
    replace P := P.other hP2 0 (.slice a2 (out.length + 1) c2)
    replace O5 := O5.set 0 (.slice a2 (out.length + 1) c2)
    replace D5 := D5.other (Ne.symm hOD) 0 (.slice a2 (out.length + 1) c2)
    replace L5 := L5.other (Ne.symm hOL) 0 (.slice a2 (out.length + 1) c2)
    replace R5 := R5.other (Ne.symm hOR) 0 (.slice a2 (out.length + 1) c2)
    replace hown6 := hown6.other h1 (.slice a2 (out.length + 1) c2)
    replace hb5 : From w0 (w6.setCell ⟨gO, 0, none⟩ (.slice a2 (out.length + 1) c2)) := Below.setCell hb5 (p := ⟨gO, 0, none⟩) h6 _
    replace le5 : gZ ≤ (w6.setCell ⟨gO, 0, none⟩ (.slice a2 (out.length + 1) c2)).heap.size := by rw [World.size_setCell]; exact le5
    generalize w6.setCell ⟨gO, 0, none⟩ (.slice a2 (out.length + 1) c2) = w7 at *
    clear hK K
    have cL := L5.cell (j := 0) rfl
    have fL := L5.frozen 0
    refine wpAnyH_ready (rs := [10]) (by kernel_rfl) (by simp) ?_
    refine AllReadyH.cons rfl (fun K hK => ?_) AllReadyH.nil
    go_simp
    refine hK.out _ _ ((D5.other hDL 0 _).cell (j := 0) rfl) (fun hS => ?_)
    clear cL fL
    replace P := P.other hP3 0 (.string (mkS x))
    replace O5 := O5.other hOL 0 (.string (mkS x))
    replace D5 := D5.other hDL 0 (.string (mkS x))
    replace L5 := L5.set 0 (.string (mkS x))
    replace R5 := R5.other (Ne.symm hLR) 0 (.string (mkS x))
    replace hown6 := hown6.other h3 (.string (mkS x))
    replace hb5 : From w0 (w7.setCell ⟨gL, 0, none⟩ (.string (mkS x))) := Below.setCell hb5 (p := ⟨gL, 0, none⟩) h7 _
    replace le5 : gZ ≤ (w7.setCell ⟨gL, 0, none⟩ (.string (mkS x))).heap.size := by rw [World.size_setCell]; exact le5
    generalize w7.setCell ⟨gL, 0, none⟩ (.string (mkS x)) = w8 at *
    clear hK K
    have cR := R5.cell (j := 0) rfl
    have fR := R5.frozen 0
    refine wpAnyH_ready (rs := [11]) (by kernel_rfl) (by simp) ?_
    refine AllReadyH.cons rfl (fun K hK => ?_) AllReadyH.nil
    go_simp
    refine hK.out _ _ ((D5.other hDR 0 _).cell (j := 0) rfl) (fun hS => ?_)
    clear cR fR
    replace P := P.other hP4 0 (.int .i64 (wd - (lenB x : Nat)))
    replace O5 := O5.other hOR 0 (.int .i64 (wd - (lenB x : Nat)))
    replace D5 := D5.other hDR 0 (.int .i64 (wd - (lenB x : Nat)))
    replace L5 := L5.other hLR 0 (.int .i64 (wd - (lenB x : Nat)))
    replace R5 := R5.set 0 (.int .i64 (wd - (lenB x : Nat)))
    replace hown6 := hown6.other h4 (.int .i64 (wd - (lenB x : Nat)))
    replace hb5 : From w0 (w8.setCell ⟨gR, 0, none⟩ (.int .i64 (wd - (lenB x : Nat)))) := Below.setCell hb5 (p := ⟨gR, 0, none⟩) h8 _
    replace le5 : gZ ≤ (w8.setCell ⟨gR, 0, none⟩ (.int .i64 (wd - (lenB x : Nat)))).heap.size := by rw [World.size_setCell]; exact le5
    generalize w8.setCell ⟨gR, 0, none⟩ (.int .i64 (wd - (lenB x : Nat))) = w9 at *
    clear hK K
    refine wpAnyH_done (by kernel_rfl) ?_ _
    clear hS
    go_wp2_with fail
    rw [rounds_succ]
    go_wp2_with fail
    (try simp only [Exit.inBlock, Exit.then])
    refine bodyPost_end (results_none rfl _ _ _) rfl ?_
    exact ⟨rfl, _, ⟨O5, D5, L5, R5, hown6, hb5, le5⟩, P⟩
end Go.Proofs.YtehjglaofhgjfaaDoor
