
/- Package disk: append on a full slice; the steps of regions that draw their order; Append's closure. -/
import Derived.Test.YtceoehjjebkgpaaDkF
import Derived.Deep.AppendSrc
namespace Go.Proofs.Ytceoehjjebkgpaa
set_option linter.unusedSimpArgs false
set_option linter.unusedVariables false
open Go.RowKit Go.Maps
/-- Bytes as they lie, from whatever address on. -/
def ByAt (W : World) (bo : Option Addr) (y : BL) : Prop := y = [] ∨ ∃ b off, bo = some ⟨b, off, none⟩ ∧ ∀ j u, y[j]? = some u → W.cell? ⟨b, off + j, none⟩ = some (encB u)
theorem ByAt.step {W W' : World} {bo : Option Addr} {y : BL} (h : ByAt W bo y) (hb : Below W.heap.size W W') : ByAt W' bo y := by
  rcases h with h | ⟨b, off, h1, h2⟩
  · exact .inl h
  · exact .inr ⟨b, off, h1, fun j u hu => (hb.cell (World.block_lt_of_cell? W _ (h2 j u hu))).trans (h2 j u hu)⟩
theorem BySl.at {W : World} {ao : Option Addr} {b : BL} (h : BySl W ao b) : ByAt W ao b := by
  rcases h with h | ⟨g, h1, h2⟩
  · exact .inl h.2
  · exact .inr ⟨g, 0, h1, fun j u hu => by rw [Nat.zero_add]; exact h2.cell hu⟩
theorem info_u8 : (Try.prog.info? 5).map (fun i => (i.zero, i.size, i.bytes)) = some (some (.int .u8 0), 1, 1) := by kernel_rfl
theorem oneB (y : BL) : ∀ u ∈ y.map encB, u.oneCell' = true := by
  intro u hu
  obtain ⟨x, -, rfl⟩ := List.mem_map.1 hu
  rfl
theorem src_at {W : World} {bo : Option Addr} {y : BL} (h : ByAt W bo y) (c : Nat) : Src Try.prog 1 22 (.slice bo y.length c) y.length (y.map encB) W := by
  rcases h with rfl | ⟨b, off, rfl, h2⟩
  · cases bo with
    | none => exact Src.ofNil W Try.underlying22 c
    | some a => exact Src.ofSlice W Try.underlying22 a 0 c [] rfl (fun j u hu => by simp at hu) (fun u hu => by simp at hu)
  · refine Src.ofSlice W Try.underlying22 ⟨b, off, none⟩ y.length c (y.map encB) (by simp) ?_ (oneB y)
    intro j u hu
    rw [List.getElem?_map] at hu
    cases hj : y[j]? with
    | none => rw [hj] at hu; cases hu
    | some v =>
      rw [hj] at hu
      obtain rfl : encB v = u := by simpa using hu
      rw [Addr.add_lit]
      exact h2 j v hj
theorem src_atC {W : World} {bo : Option Addr} {y : BL} (h : ByAt W bo y) (c : Nat) : Src Try.prog 1 59 (.slice bo y.length c) y.length (y.map encB) W := by
  rcases h with rfl | ⟨b, off, rfl, h2⟩
  · cases bo with
    | none => exact Src.ofNil W Try.underlying59 c
    | some a => exact Src.ofSlice W Try.underlying59 a 0 c [] rfl (fun j u hu => by simp at hu) (fun u hu => by simp at hu)
  · refine Src.ofSlice W Try.underlying59 ⟨b, off, none⟩ y.length c (y.map encB) (by simp) ?_ (oneB y)
    intro j u hu
    rw [List.getElem?_map] at hu
    cases hj : y[j]? with
    | none => rw [hj] at hu; cases hu
    | some v =>
      rw [hj] at hu
      obtain rfl : encB v = u := by simpa using hu
      rw [Addr.add_lit]
      exact h2 j v hj
theorem first_full {W : World} {ao : Option Addr} {x : BL} (h : BySl W ao x) (c : Nat) : (Builtin.firstCells 1 x.length (.slice ao x.length c)).run Try.prog W.drew = .ok (x.map encB).toArray W.drew := by
  rcases h with ⟨rfl, rfl⟩ | ⟨g, rfl, h2⟩
  · exact run_firstCells_none W.drew 1 0 0 c
  · refine run_firstCells_some W.drew 1 x.length ⟨g, 0, none⟩ x.length c (x.map encB) (by simp) ?_
    intro j u hu
    rw [List.getElem?_map] at hu
    cases hj : x[j]? with
    | none => rw [hj] at hu; cases hu
    | some v =>
      rw [hj] at hu
      obtain rfl : encB v = u := by simpa using hu
      rw [Addr.add_lit, Nat.zero_add]
      exact (h2.cell hj : W.cell? ⟨g, j, none⟩ = some (encB v))
theorem byR_made (W : World) (l : BL) (z : Array Value) : ByR (W.alloc (.cells ((l.map encB).toArray ++ z) 5)) W.heap.size l := by
  refine ⟨z.toList, (0, 0), ?_, .inr rfl⟩
  rw [World.alloc_heap_new]
  congr 2
  apply Array.toList_inj.1
  simp
theorem append_full (W : World) (ao bo : Option Addr) (x y : BL) (cb : Nat) (ty : TypeId) (hx : BySl W ao x) (hy : ByAt W bo y) (hsz : x.length + y.length ≤ 33554432) :
    ∃ ao' cap' W', (Builtin.append_ #[59, 22] ty #[.slice ao x.length x.length, .slice bo y.length cb]).run Try.prog W = .ok (.slice ao' (x ++ y).length cap') W' ∧ BySl W' ao' (x ++ y) ∧ (x ++ y).length ≤ cap' ∧ (∀ g, ao' = some ⟨g, 0, none⟩ → W.heap.size ≤ g ∨ ao = some ⟨g, 0, none⟩) ∧ Below W.heap.size W W' := by
  obtain ⟨i, hi, hz0, hz1, hz2⟩ := info_parts info_u8
  by_cases h0 : y = []
  · subst h0
    simp only [List.append_nil]
    have hsrc := src_at hy cb
    rcases id hx with ⟨rfl, rfl⟩ | ⟨g, rfl, h2⟩
    · refine ⟨none, 0, W, ?_, .inl ⟨rfl, rfl⟩, Nat.le_refl _, fun g hg => .inr hg, Below.refl _ _⟩
      have hl : ∀ w', (Builtin.lenOf (.slice bo 0 cb)).run Try.prog w' = .ok 0 w' := hsrc.len
      have hc : (Builtin.firstCells 1 0 (.slice bo 0 cb)).run Try.prog W = .ok #[] W := hsrc.cells
      rcases hsrc.kind with ⟨e', hk⟩ | hk
      · simp [Builtin.append_, run_underlying Try.underlying59, run_underlying hk, sizeOf, typeInfo, hi, hl, hc, hz1]
      · have := Try.underlying22
        rw [hk] at this
        cases this
    · refine ⟨some ⟨g, 0, none⟩, x.length, W, ?_, hx, Nat.le_refl _, fun g hg => .inr hg, Below.refl _ _⟩
      have := run_append_room_src W 59 22 ty 5 i Try.underlying59 hi g 0 x.length x.length (.slice bo 0 cb) 0 [] (by rw [hz1]; exact hsrc) (by omega) (by simp) (by simp)
      simpa [World.setCells] using this
  · have hyl : 0 < y.length := List.length_pos_iff.2 h0
    have hrun := run_append_grow_src W 59 22 ty 5 i (.int .u8 0) Try.underlying59 hi hz0 ao x.length x.length (x.map encB) (by rw [hz1]; exact first_full hx _) (.slice bo y.length cb) y.length (y.map encB) (by rw [hz1]; exact src_at hy cb) (by omega) (by omega)
      (by rw [hz2]; exact growslice_fits (by omega) (by omega))
    have hcap := grownCap_ge W (x.length + y.length) x.length 5
    rw [List.length_append]
    have hbr := byR_made W.drew (x ++ y) (Builtin.zeroCells (Value.int .u8 0).cells (grownCap W (x.length + y.length) x.length 5 - (x.length + y.length)))
    rw [List.map_append] at hbr
    exact ⟨_, _, _, hrun, .inr ⟨W.heap.size, rfl, hbr⟩, hcap, fun g hg => .inl (by cases hg; exact Nat.le_refl _), (Below.refl _ W).drew.alloc (Nat.le_refl _) _⟩
theorem append_fullC (W : World) (ao bo : Option Addr) (x y : BL) (cb : Nat) (ty : TypeId) (hx : BySl W ao x) (hy : ByAt W bo y) (hsz : x.length + y.length ≤ 33554432) :
    ∃ ao' cap' W', (Builtin.append_ #[59, 59] ty #[.slice ao x.length x.length, .slice bo y.length cb]).run Try.prog W = .ok (.slice ao' (x ++ y).length cap') W' ∧ BySl W' ao' (x ++ y) ∧ (x ++ y).length ≤ cap' ∧ (∀ g, ao' = some ⟨g, 0, none⟩ → W.heap.size ≤ g ∨ ao = some ⟨g, 0, none⟩) ∧ Below W.heap.size W W' := by
  obtain ⟨i, hi, hz0, hz1, hz2⟩ := info_parts info_u8
  by_cases h0 : y = []
  · subst h0
    simp only [List.append_nil]
    have hsrc := src_atC hy cb
    rcases id hx with ⟨rfl, rfl⟩ | ⟨g, rfl, h2⟩
    · refine ⟨none, 0, W, ?_, .inl ⟨rfl, rfl⟩, Nat.le_refl _, fun g hg => .inr hg, Below.refl _ _⟩
      have hl : ∀ w', (Builtin.lenOf (.slice bo 0 cb)).run Try.prog w' = .ok 0 w' := hsrc.len
      have hc : (Builtin.firstCells 1 0 (.slice bo 0 cb)).run Try.prog W = .ok #[] W := hsrc.cells
      rcases hsrc.kind with ⟨e', hk⟩ | hk
      · simp [Builtin.append_, run_underlying Try.underlying59, run_underlying hk, sizeOf, typeInfo, hi, hl, hc, hz1]
      · have := Try.underlying59
        rw [hk] at this
        cases this
    · refine ⟨some ⟨g, 0, none⟩, x.length, W, ?_, hx, Nat.le_refl _, fun g hg => .inr hg, Below.refl _ _⟩
      have := run_append_room_src W 59 59 ty 5 i Try.underlying59 hi g 0 x.length x.length (.slice bo 0 cb) 0 [] (by rw [hz1]; exact hsrc) (by omega) (by simp) (by simp)
      simpa [World.setCells] using this
  · have hyl : 0 < y.length := List.length_pos_iff.2 h0
    have hrun := run_append_grow_src W 59 59 ty 5 i (.int .u8 0) Try.underlying59 hi hz0 ao x.length x.length (x.map encB) (by rw [hz1]; exact first_full hx _) (.slice bo y.length cb) y.length (y.map encB) (by rw [hz1]; exact src_atC hy cb) (by omega) (by omega)
      (by rw [hz2]; exact growslice_fits (by omega) (by omega))
    have hcap := grownCap_ge W (x.length + y.length) x.length 5
    rw [List.length_append]
    have hbr := byR_made W.drew (x ++ y) (Builtin.zeroCells (Value.int .u8 0).cells (grownCap W (x.length + y.length) x.length 5 - (x.length + y.length)))
    rw [List.map_append] at hbr
    exact ⟨_, _, _, hrun, .inr ⟨W.heap.size, rfl, hbr⟩, hcap, fun g hg => .inl (by cases hg; exact Nat.le_refl _), (Below.refl _ W).drew.alloc (Nat.le_refl _) _⟩
theorem append_fullB (W : World) (ao bo : Option Addr) (x y : BL) (cb : Nat) (ty : TypeId) (hx : BySl W ao x) (hy : ByAt W bo y) (hsz : x.length + y.length ≤ 33554432) :
    ∃ ao' cap' W', (Builtin.append_ #[22, 22] ty #[.slice ao x.length x.length, .slice bo y.length cb]).run Try.prog W = .ok (.slice ao' (x ++ y).length cap') W' ∧ BySl W' ao' (x ++ y) ∧ (x ++ y).length ≤ cap' ∧ (∀ g, ao' = some ⟨g, 0, none⟩ → W.heap.size ≤ g ∨ ao = some ⟨g, 0, none⟩) ∧ Below W.heap.size W W' := by
  obtain ⟨i, hi, hz0, hz1, hz2⟩ := info_parts info_u8
  by_cases h0 : y = []
  · subst h0
    simp only [List.append_nil]
    have hsrc := src_at hy cb
    rcases id hx with ⟨rfl, rfl⟩ | ⟨g, rfl, h2⟩
    · refine ⟨none, 0, W, ?_, .inl ⟨rfl, rfl⟩, Nat.le_refl _, fun g hg => .inr hg, Below.refl _ _⟩
      have hl : ∀ w', (Builtin.lenOf (.slice bo 0 cb)).run Try.prog w' = .ok 0 w' := hsrc.len
      have hc : (Builtin.firstCells 1 0 (.slice bo 0 cb)).run Try.prog W = .ok #[] W := hsrc.cells
      rcases hsrc.kind with ⟨e', hk⟩ | hk
      · simp [Builtin.append_, run_underlying Try.underlying22, run_underlying hk, sizeOf, typeInfo, hi, hl, hc, hz1]
      · have := Try.underlying22
        rw [hk] at this
        cases this
    · refine ⟨some ⟨g, 0, none⟩, x.length, W, ?_, hx, Nat.le_refl _, fun g hg => .inr hg, Below.refl _ _⟩
      have := run_append_room_src W 22 22 ty 5 i Try.underlying22 hi g 0 x.length x.length (.slice bo 0 cb) 0 [] (by rw [hz1]; exact hsrc) (by omega) (by simp) (by simp)
      simpa [World.setCells] using this
  · have hyl : 0 < y.length := List.length_pos_iff.2 h0
    have hrun := run_append_grow_src W 22 22 ty 5 i (.int .u8 0) Try.underlying22 hi hz0 ao x.length x.length (x.map encB) (by rw [hz1]; exact first_full hx _) (.slice bo y.length cb) y.length (y.map encB) (by rw [hz1]; exact src_at hy cb) (by omega) (by omega)
      (by rw [hz2]; exact growslice_fits (by omega) (by omega))
    have hcap := grownCap_ge W (x.length + y.length) x.length 5
    rw [List.length_append]
    have hbr := byR_made W.drew (x ++ y) (Builtin.zeroCells (Value.int .u8 0).cells (grownCap W (x.length + y.length) x.length 5 - (x.length + y.length)))
    rw [List.map_append] at hbr
    exact ⟨_, _, _, hrun, .inr ⟨W.heap.size, rfl, hbr⟩, hcap, fun g hg => .inl (by cases hg; exact Nat.le_refl _), (Below.refl _ W).drew.alloc (Nat.le_refl _) _⟩
theorem step_append2 {P : Program} {w w' : World} {ops : Array Oper} {o : Oper} {a : Act} {K : Act → World → Prop} {Q : Exit → Act → World → Prop} {E : Prop} (hgd : o.guard = none) (s x : Operand) (t tx : TypeId)
    (ho : o.op = .call { callee := .builtin .append, args := #[s, x], argTypes := #[t, tx] }) {v v2 v' : Value} (hs : a.eval s = v) (hx : a.eval x = v2) (hrun : (Builtin.append_ #[t, tx] o.type #[v, v2]).run P w = .ok v' w') (h : K (a.put o.dst v') w') :
    if Region.wanted o (yielded ops a.tmps) = true then Oper.wp P o a w K Q else E := by
  have hw : Region.wanted o (yielded ops a.tmps) = true := by simp [Region.wanted, hgd]
  rw [if_pos hw]
  unfold Oper.wp execOp
  simp only [ho, resolve, invoke, builtin, Sem.run_bind, Sem.run_pure, Result.andThen_ok, List.map_toArray, List.map_cons, List.map_nil, hs, hx, hrun]
  exact h
/-- What a disk is behind a file that is put. -/
theorem DkW.put {W W' : World} {d mb : Nat} {D : Ds} {L : FMap} {s : ByteArray} {m : Fm} (h : DkW W d mb D L) (hk : Kx [mb] W W') (hM : MapD W' mb (putG L s m)) (hb : BySl W m.ao m.b) (hr : m.b.length ≤ m.cap) : DkW W' d mb D (putG L s m) := by
  have hne := h.ne
  have key : ∀ ao b, BySl W ao b → BySl W' ao b := fun ao b hb => hb.kx hk (fun g hg => by
    rcases hb with ⟨h1, -⟩ | ⟨g', h1, h2⟩
    · rw [h1] at hg; cases hg
    · rw [h1] at hg
      cases hg
      have := h2.ne_map h.map
      simpa using this)
  refine ⟨hk.blk h.blk (by simp; omega), hM, ?_, ?_⟩
  · intro p hp
    rcases List.mem_cons.1 hp with rfl | hp
    · exact key _ _ hb
    · exact key _ _ (h.con p (List.mem_filter.1 hp).1)
  · intro p hp
    rcases List.mem_cons.1 hp with rfl | hp
    · exact hr
    · exact h.room p (List.mem_filter.1 hp).1
def fm0 : Fm := ⟨none, 0, [], 0⟩
def getM (L : FMap) (s : ByteArray) : Fm := (getG L s).getD fm0
theorem getM_con {W : World} {d mb : Nat} {D : Ds} {L : FMap} (h : DkW W d mb D L) (s : ByteArray) : BySl W (getM L s).ao (getM L s).b ∧ (getM L s).b.length ≤ (getM L s).cap := by
  unfold getM
  cases hg : getG L s with
  | none => exact ⟨.inl ⟨rfl, rfl⟩, Nat.le_refl _⟩
  | some m => exact ⟨h.con (s, m) (mem_getG hg), h.room (s, m) (mem_getG hg)⟩
theorem look_getM {W : World} {mb : Nat} {L : FMap} (h : MapD W mb L) (s : ByteArray) (hs : okS s) : (Instr.lookup 53 (.map (some mb)) (.string s) false).run Try.prog W = .ok (fmV (getM L s)) W := by
  have := MapG.look1 h keyS Try.underlying53 (zero_file W) s hs
  unfold getM
  cases hg : getG L s with
  | none => simpa [hg, fmV, fm0] using this
  | some m => simpa [hg] using this
end Go.Proofs.Ytceoehjjebkgpaa
