
/- Package learner: Heard. -/
import Derived.Test.YthhpblchiodahaaGreatDoorLoE
namespace Go.Proofs.YthhpblchiodahaaGreatDoor
set_option linter.unusedSimpArgs false
set_option linter.unusedVariables false
open Go.RowKit Go.Maps
attribute [local go_sem] Oper.semAt_some
/-- What was heard by a ballot, field by field. -/
structure H9 where (r p k m n : Int) (s : ByteArray) (a0 a1 a2 a3 a4 a5 a6 a7 a8 : Bool)
def H9.vs (y : H9) : List Bool := [y.a0, y.a1, y.a2, y.a3, y.a4, y.a5, y.a6, y.a7, y.a8]
def H9.to (y : H9) : (Int × Int) × Hd := ((y.r, y.p), ⟨y.k, y.m, y.n, y.s, y.vs⟩)
def enc9 (y : H9) : Array Value := #[.agg #[.int .i64 y.r, .int .i64 y.p], .agg #[.int .i64 y.k, .int .i64 y.m, .int .i64 y.n, .string y.s, .bool y.a0, .bool y.a1, .bool y.a2, .bool y.a3, .bool y.a4, .bool y.a5, .bool y.a6, .bool y.a7, .bool y.a8]]
theorem all9 : ∀ (xs : HMap), (∀ x ∈ xs, x.2.vs.length = 9) → ∃ ys : List H9, ys.map H9.to = xs
  | [], _ => ⟨[], rfl⟩
  | x :: r, h => by
    obtain ⟨ys, rfl⟩ := all9 r (fun y hy => h y (List.mem_cons_of_mem _ hy))
    obtain ⟨⟨a, b⟩, ⟨k, m, n, s, vs⟩⟩ := x
    obtain ⟨a0, a1, a2, a3, a4, a5, a6, a7, a8, rfl⟩ := nine (h _ List.mem_cons_self)
    exact ⟨⟨a, b, k, m, n, s, a0, a1, a2, a3, a4, a5, a6, a7, a8⟩ :: ys, rfl⟩
theorem SeqXs.of_map {α β : Type} {P : Program} {g : Nat} {lb : Array Value} {encs : α → Array Value} {encs' : β → Array Value} {f : β → α} {ys : List β} {Kp : World → World → Prop} {w : World}
    (h : SeqXs P g lb encs (ys.map f) Kp w) (he : ∀ y, encs (f y) = encs' y) : SeqXs P g lb encs' ys Kp w := by
  intro l J Jx W hW hJ hJx hY h0
  have := h l J Jx W hW hJ hJx (fun k x W1 hx hJ1 => by
    rw [List.getElem?_map] at hx
    cases hy : ys[k]? with
    | none => rw [hy] at hx; cases hx
    | some y =>
      rw [hy] at hx
      cases hx
      rw [he]
      exact hY k y W1 hy hJ1) h0
  rw [List.length_map] at this
  exact this
/-- What has been put by so far. -/
structure HrI (w : World) (gO B k : Nat) (L : HMap) (v : Value) (W : World) : Prop where
  O : Blk W gO 53 [v]
  row : HdR W B v L
  n : L.length = k
  hb : From w W
  le : B ≤ W.heap.size
theorem HrI.step {w : World} {gO B k : Nat} {L : HMap} {v : Value} {W W' : World} (h : HrI w gO B k L v W) (hb : Below W.heap.size W W') : HrI w gO B k L v W' := ⟨h.O.step hb, h.row.step hb, h.n, h.hb.step hb, Nat.le_trans h.le hb.size⟩
theorem HdR.grown {W W' : World} {base : Nat} {v : Value} {L : HMap} {row : Option Nat} (h : HdR W base v L) (hg : W.grownBy W' row) (hr : ∀ r, row = some r → ∃ o : Obj, W.heap[r]? = some o ∧ o.isCells = false) : HdR W' base v L := by
  have key : ∀ {e : TypeId} {size n : Nat} {u : Value} {xs : List Value}, W.ownsRow base e size u n xs → W'.ownsRow base e size u n xs := fun h => by
    refine ⟨h.1, ?_⟩
    rcases h.2 with h | ⟨g, c, cur, hv, hgb, hh, r⟩
    · exact .inl h
    · refine .inr ⟨g, c, cur, hv, hgb, (hg.block g (Array.getElem?_eq_some_iff.1 hh).1 (fun e => ?_)).trans hh, r⟩
      obtain ⟨o, ho, hoc⟩ := hr g e.symm
      rw [hh] at ho
      cases ho
      cases hoc
  obtain ⟨us, h1, h2, h3⟩ := h
  exact ⟨us, h1, key h2, fun j x u hx hu => key (h3 j x u hx hu)⟩
theorem HrI.ownFrom {w : World} {gO B : Nat} (f : Nat → HMap) (h1 : gO < B) (h4 : w.heap.size ≤ B) : OwnFrom B (fun (k : Nat) W => ∃ v, HrI w gO B k (f k) v W) := by
  rintro k W W' row ⟨v, ⟨O, own, hn, hb, le⟩⟩ hg hr
  refine ⟨v, (hg.block gO (by omega) (fun e => by have := (hr gO e.symm).1; omega)).trans O, own.grown hg (fun r e => (hr r e).2), hn, Below.grown hb.out hg (by have := hb.size; omega) (fun j e => by have := (hr j e).1; omega), Nat.le_trans le hg.size⟩
theorem HdR.cells {W W' : World} {base : Nat} {v : Value} {L : HMap} (h : HdR W base v L) (hc : ∀ (k : Nat) (o : Obj), W.heap[k]? = some o → o.isCells = true → W'.heap[k]? = some o) : HdR W' base v L := by
  have key : ∀ {e : TypeId} {size n : Nat} {u : Value} {xs : List Value}, W.ownsRow base e size u n xs → W'.ownsRow base e size u n xs := fun h => by
    refine ⟨h.1, ?_⟩
    rcases h.2 with h | ⟨g, c, cur, hv, hg, hh, r⟩
    · exact .inl h
    · exact .inr ⟨g, c, cur, hv, hg, hc _ _ hh rfl, r⟩
  obtain ⟨us, h1, h2, h3⟩ := h
  exact ⟨us, h1, key h2, fun j x u hx hu => key (h3 j x u hx hu)⟩
theorem enters_ord : ∀ args w, (callFunc 75 args).run Tryz.prog w = .ok (.enter 75 args) w := enters_of Tryz.func75 (by kernel_rfl) rfl
theorem wpIn_normal {F : Fence} {n : Nat} {P : Program} {c : Code} {Q : Exit → Act → World → Prop} {a : Act} {w : World} (h : c.wpIn F n P (Exit.then (fun a w => Q .normal a w) (fun _ _ _ => False)) a w) : c.wpIn F n P Q a w :=
  wpIn_mono h (fun e _ _ hq => by
    cases e with
    | normal => exact hq
    | exit id => exact hq.elim
    | goto l => exact hq.elim
    | ret => exact hq.elim
    | panic ch => exact hq.elim
    | outgrown => exact hq.elim)
set_option maxRecDepth 100000 in
set_option maxHeartbeats 4000000 in
theorem heard_any (g b : Nat) (A : Lrn) (L : HMap) (w : World) (h : LW w g b A L) (hc : A.c ≠ 0) (hk : ∀ p ∈ L, okB p.1) (hv : ∀ x ∈ L, x.2.vs.length = 9) (hn : L.length ≤ 1000) :
    Calls Tryz.prog 19 #[.pointer (some ⟨g, 0, none⟩)] w fun e w' => (∃ v, e = .returned v ∧ HdR w' w.heap.size v (srtB L)) ∧ Below w.heap.size w w' := by
  have hl := srtB_len L
  obtain ⟨ys, hys⟩ := all9 (srtB L) (fun x hx => hv x ((srtB_perm L).mem_iff.1 hx))
  have hyl : ys.length ≤ 1000 := by have := congrArg List.length hys; simp at this; omega
  have hord := fun gO bm bc w hBm hBc hM hO h1 h3 => SeqXs.of_map (encs' := enc9) (f := H9.to) (ys := ys) (by rw [hys]; exact ord_xsO gO bm bc b L w hBm hBc hM hn hk hO h1 h3) (fun y => rfl)
  rw [← hys]
  clear hys hl hv hk hn
  have hcb : (A.c == 0) = false := by simpa using hc
  have cN := fun W hW => none16_at g A.c false W hcb hW
  clear hcb hc
  refine callsIn_wide (n := 3).1 ?_
  have hb := From.refl w
  have hgw := h.lt
  have hbw := h.ltb
  refine callsIn_of_wp_marks Tryz.func19 rfl trivial ?_ rfl
  simp only [Tryz.ntmps19, List.size_toArray, List.length_cons, List.length_nil, Nat.reduceAdd, Nat.reduceSub, Array.replicate_succ, Array.replicate_zero, List.push_toArray, List.append_toArray, List.nil_append, List.cons_append]
  gi_upto_region 1 with fail
  obtain ⟨gO, hgO⟩ : ∃ g, (w).heap.size = g := ⟨_, rfl⟩
  have O := Blk.newV hgO 53 #[.slice none 0 0]
  have hbn := (Below.refl (w).heap.size w).alloc (Nat.le_refl _) (.cells #[.slice none 0 0] 53)
  replace hb := hb.step hbn
  replace h := h.step hbn
  clear hbn
  rw [hgO]
  generalize (w).alloc (.cells #[.slice none 0 0] 53) = w1 at *
  have hwO : w.heap.size ≤ gO := by omega
  have hO1 := O.lt
  gi_wp2_with (apply wpIn_label)
  refine ⟨trivial, ?_⟩
  refine (callsIn_wide.2 (cN _ (h.1.cell (j := 5) rfl))).mono ?_
  rintro e wx ⟨rfl, rfl⟩
  have c7 := h.1.cell (j := 7) rfl
  have cOr := fun W => ordered16_any b W
  unfold cmpV at cOr
  gi_wp2_with (apply wpIn_label)
  refine ⟨trivial, ?_⟩
  refine (callsIn_wide.2 (cOr _)).mono ?_
  rintro e w3 ⟨⟨bm, bc, rfl, hBm, hBc, hbm, hbc⟩, hbn⟩
  replace hb := hb.step hbn
  replace h := h.step hbn
  replace O := O.step hbn
  have hO3 := O.lt
  have hseq := hord gO bm bc w3 hBm hBc h.2 (O.cell (j := 0) rfl) (by omega) (by omega)
  obtain ⟨B, hB⟩ : ∃ B, w3.heap.size = B := ⟨_, rfl⟩
  rw [hB] at hO3
  have hwB : w.heap.size ≤ B := by omega
  have N0 : HrI w gO B 0 ((ys.map H9.to).take 0) (.slice none 0 0) w3 := ⟨O, HdR.nil _ _, rfl, hb, by omega⟩
  clear hbn cOr cN c7 hBm hBc hbm hbc hord O h hb
  unfold ordF
  gi_wp2_with fail
  apply wpIn_range_xsAAK 75 #[.pointer (some ⟨bm, 0, none⟩), .pointer (some ⟨bc, 0, none⟩)] rfl enters_ord (keepsL_O gO (fun k => k = gO)) hseq (Below.refl _ _) (fun _ => rfl)
    (fun k W => ∃ v, HrI w gO B k ((ys.map H9.to).take k) v W)
    (fun _ _ _ => False)
    (by rw [hB]; exact HrI.ownFrom (fun k => (ys.map H9.to).take k) hO3 hwB)
    (fun c => fun _ _ _ _ h _ _ => h)
    ⟨_, N0⟩ (ob := fun y => .cells #[.int .i64 y.r, .int .i64 y.p] 66) (ob2 := fun y => .cells #[.int .i64 y.k, .int .i64 y.m, .int .i64 y.n, .string y.s, .bool y.a0, .bool y.a1, .bool y.a2, .bool y.a3, .bool y.a4, .bool y.a5, .bool y.a6, .bool y.a7, .bool y.a8] 121)
  case hassign =>
    intro l d x W K hx hd hK
    dsimp only [enc9]
    gi_wp2
    exact hK
  case hbody =>
    rintro l k d x W hx ⟨v, I⟩ hd hWd hWd2 hsW
    have D0 : Blk W d 66 [.int .i64 x.r, .int .i64 x.p] := hWd
    have D1 : Blk W (d + 1) 121 [.int .i64 x.k, .int .i64 x.m, .int .i64 x.n, .string x.s, .bool x.a0, .bool x.a1, .bool x.a2, .bool x.a3, .bool x.a4, .bool x.a5, .bool x.a6, .bool x.a7, .bool x.a8] := hWd2
    have hkl : k < ys.length := (List.getElem?_eq_some_iff.1 hx).1
    have HST : Hid ((ys.map H9.to).take (k + 1) = (ys.map H9.to).take k ++ [H9.to x]) := Lib.hid (by rw [List.take_add_one, List.getElem?_map, hx]; rfl)
    obtain ⟨M, hM⟩ : ∃ M, (ys.map H9.to).take k = M := ⟨_, rfl⟩
    rw [hM] at I HST
    have hMk := I.n
    obtain ⟨ao, co, rfl, -⟩ := I.row.form
    rw [hMk] at I
    have hge := I.row.ge
    have hrt := I.row.cellsT
    obtain ⟨rows, hrows⟩ : ∃ rows, (Value.ownBlock (.slice ao k co)).toList = rows := ⟨_, rfl⟩
    have hrow1 : ∀ r ∈ rows, Value.ownBlock (.slice ao k co) = some r := fun r hr => by rw [← hrows] at hr; simpa using hr
    have hdr : ∀ r ∈ rows, r ≠ d ∧ r ≠ d + 1 ∧ r ≠ gO := fun r hr => by
      obtain ⟨cs, fz, hc⟩ := hrt r (hrow1 r hr)
      refine ⟨?_, ?_, by have := (hge r (hrow1 r hr)).1; omega⟩
      · rintro rfl
        rw [hWd] at hc
        injection hc with hc; injection hc with _ e _; exact absurd e (by decide)
      · rintro rfl
        rw [hWd2] at hc
        injection hc with hc; injection hc with _ e _; exact absurd e (by decide)
    have hd0 : d ∉ gO :: rows := by
      simp only [List.mem_cons, not_or]
      exact ⟨by omega, fun hm => (hdr d hm).1 rfl⟩
    have hd1 : d + 1 ∉ gO :: rows := by
      simp only [List.mem_cons, not_or]
      exact ⟨by omega, fun hm => (hdr _ hm).2.1 rfl⟩
    have cV := fun W => votall_any x.vs rfl W
    have hvl : (plK 0 x.vs).length ≤ 100 := by have h1 := plK_len 0 x.vs; have h2 : x.vs.length = 9 := rfl; omega
    have cC := fun gV W hV => collect_xs 82 #[.pointer (some ⟨gV, 0, none⟩)] (enters_of Tryz.func82 (by kernel_rfl) rfl) (plK 0 x.vs) hvl W (fun _ => False) (fun _ h => h.elim) (vot_xs gV x.vs W rfl hV)
    unfold votV VotF H9.vs at cV
    simp only [List.map_cons, List.map_nil] at cV
    clear hseq N0 hM hx hvl
    have f0 := fun (W' : World) (h : Kx (gO :: rows) W W') => (h.blk D0 hd0).cell (j := 0) rfl
    have f1 := fun (W' : World) (h : Kx (gO :: rows) W W') => (h.blk D0 hd0).cell (j := 1) rfl
    have e0 := fun (W' : World) (h : Kx (gO :: rows) W W') => (h.blk D1 hd1).cell (j := 0) rfl
    have e1 := fun (W' : World) (h : Kx (gO :: rows) W W') => (h.blk D1 hd1).cell (j := 1) rfl
    have e2 := fun (W' : World) (h : Kx (gO :: rows) W W') => (h.blk D1 hd1).cell (j := 2) rfl
    have e3 := fun (W' : World) (h : Kx (gO :: rows) W W') => (h.blk D1 hd1).cell (j := 3) rfl
    have e4 := fun (W' : World) (h : Kx (gO :: rows) W W') => (h.blk D1 hd1).cell (j := 4) rfl
    have e5 := fun (W' : World) (h : Kx (gO :: rows) W W') => (h.blk D1 hd1).cell (j := 5) rfl
    have e6 := fun (W' : World) (h : Kx (gO :: rows) W W') => (h.blk D1 hd1).cell (j := 6) rfl
    have e7 := fun (W' : World) (h : Kx (gO :: rows) W W') => (h.blk D1 hd1).cell (j := 7) rfl
    have e8 := fun (W' : World) (h : Kx (gO :: rows) W W') => (h.blk D1 hd1).cell (j := 8) rfl
    have e9 := fun (W' : World) (h : Kx (gO :: rows) W W') => (h.blk D1 hd1).cell (j := 9) rfl
    have e10 := fun (W' : World) (h : Kx (gO :: rows) W W') => (h.blk D1 hd1).cell (j := 10) rfl
    have e11 := fun (W' : World) (h : Kx (gO :: rows) W W') => (h.blk D1 hd1).cell (j := 11) rfl
    have e12 := fun (W' : World) (h : Kx (gO :: rows) W W') => (h.blk D1 hd1).cell (j := 12) rfl
    have cW : W.cell? ⟨gO, 0, none⟩ = some (.slice ao k co) := I.O.cell (j := 0) rfl
    have OW := I.O
    clear hWd hWd2
    gi_upto_region 6 with fail
    refine wpIn_normal ?_
    refine wpIn_region_heldR (S := Kx (gO :: rows) W) (by kernel_rfl) (by kernel_rfl) ?_
    have hst : Below (W).heap.size W { W with drawn := (W).drawn + 1 } := ⟨rfl, rfl, rfl, Nat.le_refl _, fun _ _ => rfl⟩
    have hS : (Kx (gO :: rows) W) { W with drawn := (W).drawn + 1 } := by first | exact ⟨rfl, rfl, rfl, Nat.le_refl _, fun _ _ _ => rfl⟩ | exact ⟨rfl, rfl, rfl, Nat.le_refl _, fun _ _ => rfl⟩ | exact hS0
    replace I := I.step hst
    clear hst
    generalize ({ W with drawn := (W).drawn + 1 } : World) = wq at *
    refine wpAnyH_take (i := 1) (v := ?_) rfl (by kernel_rfl) (by kernel_rfl) (by kernel_rfl) (fun _ _ _ h => h) (Or.inl ⟨by kernel_rfl, ?_⟩) hS ?_
    rotate_left
    · intro W hSW
      have y0 := f0 _ hSW
      have y1 := f1 _ hSW
      have y2 := e0 _ hSW
      have y3 := e1 _ hSW
      have y4 := e2 _ hSW
      have y5 := e3 _ hSW
      have y6 := e4 _ hSW
      have y7 := e5 _ hSW
      have y8 := e6 _ hSW
      have y9 := e7 _ hSW
      have y10 := e8 _ hSW
      have y11 := e9 _ hSW
      have y12 := e10 _ hSW
      have y13 := e11 _ hSW
      have y14 := e12 _ hSW
      go_simp
      try with_reducible rfl
    dsimp only [Act.put]
    refine wpAnyH_take (i := 2) (v := ?_) rfl (by kernel_rfl) (by kernel_rfl) (by kernel_rfl) (fun _ _ _ h => h) (Or.inl ⟨by kernel_rfl, ?_⟩) hS ?_
    rotate_left
    · intro W hSW
      have y0 := f0 _ hSW
      have y1 := f1 _ hSW
      have y2 := e0 _ hSW
      have y3 := e1 _ hSW
      have y4 := e2 _ hSW
      have y5 := e3 _ hSW
      have y6 := e4 _ hSW
      have y7 := e5 _ hSW
      have y8 := e6 _ hSW
      have y9 := e7 _ hSW
      have y10 := e8 _ hSW
      have y11 := e9 _ hSW
      have y12 := e10 _ hSW
      have y13 := e11 _ hSW
      have y14 := e12 _ hSW
      go_simp
      try with_reducible rfl
    dsimp only [Act.put]
    refine wpAnyH_take (i := 3) (v := ?_) rfl (by kernel_rfl) (by kernel_rfl) (by kernel_rfl) (fun _ _ _ h => h) (Or.inl ⟨by kernel_rfl, ?_⟩) hS ?_
    rotate_left
    · intro W hSW
      have y0 := f0 _ hSW
      have y1 := f1 _ hSW
      have y2 := e0 _ hSW
      have y3 := e1 _ hSW
      have y4 := e2 _ hSW
      have y5 := e3 _ hSW
      have y6 := e4 _ hSW
      have y7 := e5 _ hSW
      have y8 := e6 _ hSW
      have y9 := e7 _ hSW
      have y10 := e8 _ hSW
      have y11 := e9 _ hSW
      have y12 := e10 _ hSW
      have y13 := e11 _ hSW
      have y14 := e12 _ hSW
      go_simp
      try with_reducible rfl
    dsimp only [Act.put]
    refine wpAnyH_take (i := 4) (v := ?_) rfl (by kernel_rfl) (by kernel_rfl) (by kernel_rfl) (fun _ _ _ h => h) (Or.inl ⟨by kernel_rfl, ?_⟩) hS ?_
    rotate_left
    · intro W hSW
      have y0 := f0 _ hSW
      have y1 := f1 _ hSW
      have y2 := e0 _ hSW
      have y3 := e1 _ hSW
      have y4 := e2 _ hSW
      have y5 := e3 _ hSW
      have y6 := e4 _ hSW
      have y7 := e5 _ hSW
      have y8 := e6 _ hSW
      have y9 := e7 _ hSW
      have y10 := e8 _ hSW
      have y11 := e9 _ hSW
      have y12 := e10 _ hSW
      have y13 := e11 _ hSW
      have y14 := e12 _ hSW
      go_simp
      try with_reducible rfl
    dsimp only [Act.put]
    refine wpAnyH_take (i := 5) (v := ?_) rfl (by kernel_rfl) (by kernel_rfl) (by kernel_rfl) (fun _ _ _ h => h) (Or.inl ⟨by kernel_rfl, ?_⟩) hS ?_
    rotate_left
    · intro W hSW
      have y0 := f0 _ hSW
      have y1 := f1 _ hSW
      have y2 := e0 _ hSW
      have y3 := e1 _ hSW
      have y4 := e2 _ hSW
      have y5 := e3 _ hSW
      have y6 := e4 _ hSW
      have y7 := e5 _ hSW
      have y8 := e6 _ hSW
      have y9 := e7 _ hSW
      have y10 := e8 _ hSW
      have y11 := e9 _ hSW
      have y12 := e10 _ hSW
      have y13 := e11 _ hSW
      have y14 := e12 _ hSW
      go_simp
      try with_reducible rfl
    dsimp only [Act.put]
    refine wpAnyH_ready (rs := [0, 6]) (by kernel_rfl) (by simp) ?_
    refine AllReadyH.cons rfl (fun K hK => ?_) (AllReadyH.cons rfl (fun K hK => ?_) AllReadyH.nil)
    ·
      have c0 : wq.cell? ⟨gO, 0, none⟩ = some (.slice ao k co) := by first | exact I.O.cell (j := 0) rfl | exact I2.O.cell (j := 0) rfl
      go_simp
      refine hK.out _ _ hS (fun hS => ?_)
      clear hK K
      refine wpAnyH_ready (rs := [6]) (by kernel_rfl) (by simp) ?_
      refine AllReadyH.cons rfl (fun K hK => ?_) AllReadyH.nil
      go_simp
      obtain ⟨gV, hgV⟩ : ∃ g, wq.heap.size = g := ⟨_, rfl⟩
      have cV1 := cV wq
      rw [hgV] at cV1
      refine cV1.mono ?_
      rintro e w6 ⟨rfl, hV, hbn⟩
      rw [← hgV] at hbn
      replace I := I.step hbn
      refine hK.out _ _ (hS.step hbn) (fun hS => ?_)
      clear hbn cV1
      clear hK K
      refine wpAnyH_ready (rs := [7]) (by kernel_rfl) (by simp) ?_
      refine AllReadyH.cons rfl (fun K hK => ?_) AllReadyH.nil
      go_simp
      refine (cC gV _ hV).mono ?_
      rintro e w7 ⟨⟨u, rfl, hR⟩, hbn⟩
      have hle6 := I.le
      replace I := I.step hbn
      replace hR := RowI.low hR hle6
      obtain ⟨au, cu, rfl⟩ := RowI.form hR
      obtain ⟨nl, hnl⟩ : ∃ n, (plK 0 x.vs).length = n := ⟨_, rfl⟩
      rw [hnl] at hR ⊢
      refine hK.out _ _ (hS.step hbn) (fun hS => ?_)
      clear hbn hle6
      clear hK K
      refine wpAnyH_ready (rs := [8]) (by kernel_rfl) (by simp) ?_
      refine AllReadyH.cons rfl (fun K hK => ?_) AllReadyH.nil
      go_simp
      refine hK.out _ _ (hS) (fun hS => ?_)
      clear hK K
      refine wpAnyH_ready (rs := [9]) (by kernel_rfl) (by simp) ?_
      refine AllReadyH.cons rfl (fun K hK => ?_) AllReadyH.nil
      go_simp
      obtain ⟨v', w10, hrun, hH, hgrow, hwhere⟩ := I.row.app (H9.to x) hR (by rw [hMk]; omega) I.le 53
      obtain ⟨a2, c2, rfl, -⟩ := hH.form
      have hl1 : (M ++ [H9.to x]).length = k + 1 := by rw [List.length_append, hMk]; rfl
      rw [hl1] at hrun hwhere hH
      dsimp only [h7, H9.to, H9.vs] at hrun hgrow
      have hbn := (Below.refl w7.heap.size w7).alloc (Nat.le_refl _) (.cells #[.int .i64 x.r, .int .i64 x.p, .int .i64 x.k, .int .i64 x.m, .int .i64 x.n, .string x.s, .slice au nl cu] 81)
      have hsz9 : (w7.alloc (.cells #[.int .i64 x.r, .int .i64 x.p, .int .i64 x.k, .int .i64 x.m, .int .i64 x.n, .string x.s, .slice au nl cu] 81)).heap.size = w7.heap.size + 1 := Array.size_push ..
      have I2 := I.step hbn
      refine hK.out _ _ (hS.step hbn) (fun hS => ?_)
      have hle9 := I.le
      have hW9 := hS.size
      generalize w7.alloc (.cells #[.int .i64 x.r, .int .i64 x.p, .int .i64 x.k, .int .i64 x.m, .int .i64 x.n, .string x.s, .slice au nl cu] 81) = w9 at *
      have hk10 : Kx rows w9 w10 := by rw [← hrows]; exact kx_grown hgrow
      have hgr : gO ∉ rows := fun hm => (hdr gO hm).2.2 rfl
      have O10 := hk10.blk I2.O hgr
      have hb10 := I2.hb.kx hk10 (fun r hr => by have := (hge r (hrow1 r hr)).1; omega)
      have hw10 := hk10.size
      clear hV hR hbn hgrow
      clear hK K
      refine wpAnyH_ready (rs := [10]) (by kernel_rfl) (by simp) ?_
      refine AllReadyH.cons rfl (fun K hK => ?_) AllReadyH.nil
      refine step_append_run rfl (.tmp 14) (.tmp 23) 53 rfl rfl rfl hrun ?_
      refine hK.out _ _ (hS.trans (hk10.mono (by intro r hr; simp; exact .inr hr))) (fun hS => ?_)
      clear hK K
      have f10 := O10.frozen 0
      have c10 := O10.cell (j := 0) rfl
      refine wpAnyH_ready (rs := [11]) (by kernel_rfl) (by simp) ?_
      refine AllReadyH.cons rfl (fun K hK => ?_) AllReadyH.nil
      go_simp
      refine hK.out _ _ (hS.setCell (.inl (by simp)) _) (fun hS => ?_)
      clear hK K
      refine wpAnyH_done (by kernel_rfl) ?_ _
      have hkg : Kx [gO] w10 (w10.setCell ⟨gO, 0, none⟩ (.slice a2 (k + 1) c2)) := (Kx.refl [gO] w10).setCell (.inl (by simp)) _
      have O11 := O10.set 0 (.slice a2 (k + 1) c2)
      have hno : ∀ (j : Nat), j ≠ gO → j ∉ rows → j ∉ gO :: rows := fun j h1 h2 => by simp only [List.mem_cons, not_or]; exact ⟨h1, h2⟩
      have hKO : KbO gO (fun k => k = gO) W (w10.setCell ⟨gO, 0, none⟩ (.slice a2 (k + 1) c2)) := by
        refine ⟨fun j o hj hd hne hnb => ?_, fun r hr => ?_, hS.size⟩
        · exact (hS.block j (Array.getElem?_eq_some_iff.1 hj).1 (hno j hne (fun hm => hnb ⟨_, cW, hrow1 j hm⟩))).trans hj
        · obtain ⟨u, hu, hur⟩ := hr
          rw [O11.cell (j := 0) rfl] at hu
          cases hu
          rcases hwhere with e | e
          · exact .inl ⟨_, cW, by rw [← e]; exact hur⟩
          · rw [e] at hur; cases hur; exact .inr (by omega)
      have hKF : KeepsFrom w3.heap.size W (w10.setCell ⟨gO, 0, none⟩ (.slice a2 (k + 1) c2)) := ⟨hS.size, fun j o hB hj hc => by
        refine (hS.block j (Array.getElem?_eq_some_iff.1 hj).1 (hno j ?_ (fun hm => ?_))).trans hj
        · rintro rfl; rw [show W.heap[_]? = _ from OW] at hj; cases hj; cases hc
        · obtain ⟨cs, fz, h2⟩ := hrt j (hrow1 j hm)
          rw [hj] at h2; cases h2; cases hc⟩
      have hI9 : HrI w gO B (k + 1) ((ys.map H9.to).take (k + 1)) (.slice a2 (k + 1) c2) (w10.setCell ⟨gO, 0, none⟩ (.slice a2 (k + 1) c2)) := by
        rw [HST.out]
        exact ⟨O11, hH.kx hkg (fun r hr => by simp at hr; omega), hl1, hb10.kx hkg (by simp; omega), by have := hkg.size; omega⟩
      clear hS hH hwhere hrun
      (try simp only [Exit.then])
      gi_wp2
      exact ⟨hKF, fun _ => hKO, _, hI9⟩
    ·
      go_simp
      obtain ⟨gV, hgV⟩ : ∃ g, wq.heap.size = g := ⟨_, rfl⟩
      have cV1 := cV wq
      rw [hgV] at cV1
      refine cV1.mono ?_
      rintro e w6 ⟨rfl, hV, hbn⟩
      rw [← hgV] at hbn
      replace I := I.step hbn
      refine hK.out _ _ (hS.step hbn) (fun hS => ?_)
      clear hbn cV1
      clear hK K
      refine wpAnyH_ready (rs := [0, 7]) (by kernel_rfl) (by simp) ?_
      refine AllReadyH.cons rfl (fun K hK => ?_) (AllReadyH.cons rfl (fun K hK => ?_) AllReadyH.nil)
      ·
        have c0 : w6.cell? ⟨gO, 0, none⟩ = some (.slice ao k co) := by first | exact I.O.cell (j := 0) rfl | exact I2.O.cell (j := 0) rfl
        go_simp
        refine hK.out _ _ hS (fun hS => ?_)
        clear hK K
        refine wpAnyH_ready (rs := [7]) (by kernel_rfl) (by simp) ?_
        refine AllReadyH.cons rfl (fun K hK => ?_) AllReadyH.nil
        go_simp
        refine (cC gV _ hV).mono ?_
        rintro e w7 ⟨⟨u, rfl, hR⟩, hbn⟩
        have hle6 := I.le
        replace I := I.step hbn
        replace hR := RowI.low hR hle6
        obtain ⟨au, cu, rfl⟩ := RowI.form hR
        obtain ⟨nl, hnl⟩ : ∃ n, (plK 0 x.vs).length = n := ⟨_, rfl⟩
        rw [hnl] at hR ⊢
        refine hK.out _ _ (hS.step hbn) (fun hS => ?_)
        clear hbn hle6
        clear hK K
        refine wpAnyH_ready (rs := [8]) (by kernel_rfl) (by simp) ?_
        refine AllReadyH.cons rfl (fun K hK => ?_) AllReadyH.nil
        go_simp
        refine hK.out _ _ (hS) (fun hS => ?_)
        clear hK K
        refine wpAnyH_ready (rs := [9]) (by kernel_rfl) (by simp) ?_
        refine AllReadyH.cons rfl (fun K hK => ?_) AllReadyH.nil
        go_simp
        obtain ⟨v', w10, hrun, hH, hgrow, hwhere⟩ := I.row.app (H9.to x) hR (by rw [hMk]; omega) I.le 53
        obtain ⟨a2, c2, rfl, -⟩ := hH.form
        have hl1 : (M ++ [H9.to x]).length = k + 1 := by rw [List.length_append, hMk]; rfl
        rw [hl1] at hrun hwhere hH
        dsimp only [h7, H9.to, H9.vs] at hrun hgrow
        have hbn := (Below.refl w7.heap.size w7).alloc (Nat.le_refl _) (.cells #[.int .i64 x.r, .int .i64 x.p, .int .i64 x.k, .int .i64 x.m, .int .i64 x.n, .string x.s, .slice au nl cu] 81)
        have hsz9 : (w7.alloc (.cells #[.int .i64 x.r, .int .i64 x.p, .int .i64 x.k, .int .i64 x.m, .int .i64 x.n, .string x.s, .slice au nl cu] 81)).heap.size = w7.heap.size + 1 := Array.size_push ..
        have I2 := I.step hbn
        refine hK.out _ _ (hS.step hbn) (fun hS => ?_)
        have hle9 := I.le
        have hW9 := hS.size
        generalize w7.alloc (.cells #[.int .i64 x.r, .int .i64 x.p, .int .i64 x.k, .int .i64 x.m, .int .i64 x.n, .string x.s, .slice au nl cu] 81) = w9 at *
        have hk10 : Kx rows w9 w10 := by rw [← hrows]; exact kx_grown hgrow
        have hgr : gO ∉ rows := fun hm => (hdr gO hm).2.2 rfl
        have O10 := hk10.blk I2.O hgr
        have hb10 := I2.hb.kx hk10 (fun r hr => by have := (hge r (hrow1 r hr)).1; omega)
        have hw10 := hk10.size
        clear hV hR hbn hgrow
        clear hK K
        refine wpAnyH_ready (rs := [10]) (by kernel_rfl) (by simp) ?_
        refine AllReadyH.cons rfl (fun K hK => ?_) AllReadyH.nil
        refine step_append_run rfl (.tmp 14) (.tmp 23) 53 rfl rfl rfl hrun ?_
        refine hK.out _ _ (hS.trans (hk10.mono (by intro r hr; simp; exact .inr hr))) (fun hS => ?_)
        clear hK K
        have f10 := O10.frozen 0
        have c10 := O10.cell (j := 0) rfl
        refine wpAnyH_ready (rs := [11]) (by kernel_rfl) (by simp) ?_
        refine AllReadyH.cons rfl (fun K hK => ?_) AllReadyH.nil
        go_simp
        refine hK.out _ _ (hS.setCell (.inl (by simp)) _) (fun hS => ?_)
        clear hK K
        refine wpAnyH_done (by kernel_rfl) ?_ _
        have hkg : Kx [gO] w10 (w10.setCell ⟨gO, 0, none⟩ (.slice a2 (k + 1) c2)) := (Kx.refl [gO] w10).setCell (.inl (by simp)) _
        have O11 := O10.set 0 (.slice a2 (k + 1) c2)
        have hno : ∀ (j : Nat), j ≠ gO → j ∉ rows → j ∉ gO :: rows := fun j h1 h2 => by simp only [List.mem_cons, not_or]; exact ⟨h1, h2⟩
        have hKO : KbO gO (fun k => k = gO) W (w10.setCell ⟨gO, 0, none⟩ (.slice a2 (k + 1) c2)) := by
          refine ⟨fun j o hj hd hne hnb => ?_, fun r hr => ?_, hS.size⟩
          · exact (hS.block j (Array.getElem?_eq_some_iff.1 hj).1 (hno j hne (fun hm => hnb ⟨_, cW, hrow1 j hm⟩))).trans hj
          · obtain ⟨u, hu, hur⟩ := hr
            rw [O11.cell (j := 0) rfl] at hu
            cases hu
            rcases hwhere with e | e
            · exact .inl ⟨_, cW, by rw [← e]; exact hur⟩
            · rw [e] at hur; cases hur; exact .inr (by omega)
        have hKF : KeepsFrom w3.heap.size W (w10.setCell ⟨gO, 0, none⟩ (.slice a2 (k + 1) c2)) := ⟨hS.size, fun j o hB hj hc => by
          refine (hS.block j (Array.getElem?_eq_some_iff.1 hj).1 (hno j ?_ (fun hm => ?_))).trans hj
          · rintro rfl; rw [show W.heap[_]? = _ from OW] at hj; cases hj; cases hc
          · obtain ⟨cs, fz, h2⟩ := hrt j (hrow1 j hm)
            rw [hj] at h2; cases h2; cases hc⟩
        have hI9 : HrI w gO B (k + 1) ((ys.map H9.to).take (k + 1)) (.slice a2 (k + 1) c2) (w10.setCell ⟨gO, 0, none⟩ (.slice a2 (k + 1) c2)) := by
          rw [HST.out]
          exact ⟨O11, hH.kx hkg (fun r hr => by simp at hr; omega), hl1, hb10.kx hkg (by simp; omega), by have := hkg.size; omega⟩
        clear hS hH hwhere hrun
        (try simp only [Exit.then])
        gi_wp2
        exact ⟨hKF, fun _ => hKO, _, hI9⟩
      ·
        go_simp
        refine (cC gV _ hV).mono ?_
        rintro e w7 ⟨⟨u, rfl, hR⟩, hbn⟩
        have hle6 := I.le
        replace I := I.step hbn
        replace hR := RowI.low hR hle6
        obtain ⟨au, cu, rfl⟩ := RowI.form hR
        obtain ⟨nl, hnl⟩ : ∃ n, (plK 0 x.vs).length = n := ⟨_, rfl⟩
        rw [hnl] at hR ⊢
        refine hK.out _ _ (hS.step hbn) (fun hS => ?_)
        clear hbn hle6
        clear hK K
        refine wpAnyH_ready (rs := [0, 8]) (by kernel_rfl) (by simp) ?_
        refine AllReadyH.cons rfl (fun K hK => ?_) (AllReadyH.cons rfl (fun K hK => ?_) AllReadyH.nil)
        ·
          have c0 : w7.cell? ⟨gO, 0, none⟩ = some (.slice ao k co) := by first | exact I.O.cell (j := 0) rfl | exact I2.O.cell (j := 0) rfl
          go_simp
          refine hK.out _ _ hS (fun hS => ?_)
          clear hK K
          refine wpAnyH_ready (rs := [8]) (by kernel_rfl) (by simp) ?_
          refine AllReadyH.cons rfl (fun K hK => ?_) AllReadyH.nil
          go_simp
          refine hK.out _ _ (hS) (fun hS => ?_)
          clear hK K
          refine wpAnyH_ready (rs := [9]) (by kernel_rfl) (by simp) ?_
          refine AllReadyH.cons rfl (fun K hK => ?_) AllReadyH.nil
          go_simp
          obtain ⟨v', w10, hrun, hH, hgrow, hwhere⟩ := I.row.app (H9.to x) hR (by rw [hMk]; omega) I.le 53
          obtain ⟨a2, c2, rfl, -⟩ := hH.form
          have hl1 : (M ++ [H9.to x]).length = k + 1 := by rw [List.length_append, hMk]; rfl
          rw [hl1] at hrun hwhere hH
          dsimp only [h7, H9.to, H9.vs] at hrun hgrow
          have hbn := (Below.refl w7.heap.size w7).alloc (Nat.le_refl _) (.cells #[.int .i64 x.r, .int .i64 x.p, .int .i64 x.k, .int .i64 x.m, .int .i64 x.n, .string x.s, .slice au nl cu] 81)
          have hsz9 : (w7.alloc (.cells #[.int .i64 x.r, .int .i64 x.p, .int .i64 x.k, .int .i64 x.m, .int .i64 x.n, .string x.s, .slice au nl cu] 81)).heap.size = w7.heap.size + 1 := Array.size_push ..
          have I2 := I.step hbn
          refine hK.out _ _ (hS.step hbn) (fun hS => ?_)
          have hle9 := I.le
          have hW9 := hS.size
          generalize w7.alloc (.cells #[.int .i64 x.r, .int .i64 x.p, .int .i64 x.k, .int .i64 x.m, .int .i64 x.n, .string x.s, .slice au nl cu] 81) = w9 at *
          have hk10 : Kx rows w9 w10 := by rw [← hrows]; exact kx_grown hgrow
          have hgr : gO ∉ rows := fun hm => (hdr gO hm).2.2 rfl
          have O10 := hk10.blk I2.O hgr
          have hb10 := I2.hb.kx hk10 (fun r hr => by have := (hge r (hrow1 r hr)).1; omega)
          have hw10 := hk10.size
          clear hV hR hbn hgrow
          clear hK K
          refine wpAnyH_ready (rs := [10]) (by kernel_rfl) (by simp) ?_
          refine AllReadyH.cons rfl (fun K hK => ?_) AllReadyH.nil
          refine step_append_run rfl (.tmp 14) (.tmp 23) 53 rfl rfl rfl hrun ?_
          refine hK.out _ _ (hS.trans (hk10.mono (by intro r hr; simp; exact .inr hr))) (fun hS => ?_)
          clear hK K
          have f10 := O10.frozen 0
          have c10 := O10.cell (j := 0) rfl
          refine wpAnyH_ready (rs := [11]) (by kernel_rfl) (by simp) ?_
          refine AllReadyH.cons rfl (fun K hK => ?_) AllReadyH.nil
          go_simp
          refine hK.out _ _ (hS.setCell (.inl (by simp)) _) (fun hS => ?_)
          clear hK K
          refine wpAnyH_done (by kernel_rfl) ?_ _
          have hkg : Kx [gO] w10 (w10.setCell ⟨gO, 0, none⟩ (.slice a2 (k + 1) c2)) := (Kx.refl [gO] w10).setCell (.inl (by simp)) _
          have O11 := O10.set 0 (.slice a2 (k + 1) c2)
          have hno : ∀ (j : Nat), j ≠ gO → j ∉ rows → j ∉ gO :: rows := fun j h1 h2 => by simp only [List.mem_cons, not_or]; exact ⟨h1, h2⟩
          have hKO : KbO gO (fun k => k = gO) W (w10.setCell ⟨gO, 0, none⟩ (.slice a2 (k + 1) c2)) := by
            refine ⟨fun j o hj hd hne hnb => ?_, fun r hr => ?_, hS.size⟩
            · exact (hS.block j (Array.getElem?_eq_some_iff.1 hj).1 (hno j hne (fun hm => hnb ⟨_, cW, hrow1 j hm⟩))).trans hj
            · obtain ⟨u, hu, hur⟩ := hr
              rw [O11.cell (j := 0) rfl] at hu
              cases hu
              rcases hwhere with e | e
              · exact .inl ⟨_, cW, by rw [← e]; exact hur⟩
              · rw [e] at hur; cases hur; exact .inr (by omega)
          have hKF : KeepsFrom w3.heap.size W (w10.setCell ⟨gO, 0, none⟩ (.slice a2 (k + 1) c2)) := ⟨hS.size, fun j o hB hj hc => by
            refine (hS.block j (Array.getElem?_eq_some_iff.1 hj).1 (hno j ?_ (fun hm => ?_))).trans hj
            · rintro rfl; rw [show W.heap[_]? = _ from OW] at hj; cases hj; cases hc
            · obtain ⟨cs, fz, h2⟩ := hrt j (hrow1 j hm)
              rw [hj] at h2; cases h2; cases hc⟩
          have hI9 : HrI w gO B (k + 1) ((ys.map H9.to).take (k + 1)) (.slice a2 (k + 1) c2) (w10.setCell ⟨gO, 0, none⟩ (.slice a2 (k + 1) c2)) := by
            rw [HST.out]
            exact ⟨O11, hH.kx hkg (fun r hr => by simp at hr; omega), hl1, hb10.kx hkg (by simp; omega), by have := hkg.size; omega⟩
          clear hS hH hwhere hrun
          (try simp only [Exit.then])
          gi_wp2
          exact ⟨hKF, fun _ => hKO, _, hI9⟩
        ·
          go_simp
          refine hK.out _ _ (hS) (fun hS => ?_)
          clear hK K
          refine wpAnyH_ready (rs := [0, 9]) (by kernel_rfl) (by simp) ?_
          refine AllReadyH.cons rfl (fun K hK => ?_) (AllReadyH.cons rfl (fun K hK => ?_) AllReadyH.nil)
          ·
            have c0 : w7.cell? ⟨gO, 0, none⟩ = some (.slice ao k co) := by first | exact I.O.cell (j := 0) rfl | exact I2.O.cell (j := 0) rfl
            go_simp
            refine hK.out _ _ hS (fun hS => ?_)
            clear hK K
            refine wpAnyH_ready (rs := [9]) (by kernel_rfl) (by simp) ?_
            refine AllReadyH.cons rfl (fun K hK => ?_) AllReadyH.nil
            go_simp
            obtain ⟨v', w10, hrun, hH, hgrow, hwhere⟩ := I.row.app (H9.to x) hR (by rw [hMk]; omega) I.le 53
            obtain ⟨a2, c2, rfl, -⟩ := hH.form
            have hl1 : (M ++ [H9.to x]).length = k + 1 := by rw [List.length_append, hMk]; rfl
            rw [hl1] at hrun hwhere hH
            dsimp only [h7, H9.to, H9.vs] at hrun hgrow
            have hbn := (Below.refl w7.heap.size w7).alloc (Nat.le_refl _) (.cells #[.int .i64 x.r, .int .i64 x.p, .int .i64 x.k, .int .i64 x.m, .int .i64 x.n, .string x.s, .slice au nl cu] 81)
            have hsz9 : (w7.alloc (.cells #[.int .i64 x.r, .int .i64 x.p, .int .i64 x.k, .int .i64 x.m, .int .i64 x.n, .string x.s, .slice au nl cu] 81)).heap.size = w7.heap.size + 1 := Array.size_push ..
            have I2 := I.step hbn
            refine hK.out _ _ (hS.step hbn) (fun hS => ?_)
            have hle9 := I.le
            have hW9 := hS.size
            generalize w7.alloc (.cells #[.int .i64 x.r, .int .i64 x.p, .int .i64 x.k, .int .i64 x.m, .int .i64 x.n, .string x.s, .slice au nl cu] 81) = w9 at *
            have hk10 : Kx rows w9 w10 := by rw [← hrows]; exact kx_grown hgrow
            have hgr : gO ∉ rows := fun hm => (hdr gO hm).2.2 rfl
            have O10 := hk10.blk I2.O hgr
            have hb10 := I2.hb.kx hk10 (fun r hr => by have := (hge r (hrow1 r hr)).1; omega)
            have hw10 := hk10.size
            clear hV hR hbn hgrow
            clear hK K
            refine wpAnyH_ready (rs := [10]) (by kernel_rfl) (by simp) ?_
            refine AllReadyH.cons rfl (fun K hK => ?_) AllReadyH.nil
            refine step_append_run rfl (.tmp 14) (.tmp 23) 53 rfl rfl rfl hrun ?_
            refine hK.out _ _ (hS.trans (hk10.mono (by intro r hr; simp; exact .inr hr))) (fun hS => ?_)
            clear hK K
            have f10 := O10.frozen 0
            have c10 := O10.cell (j := 0) rfl
            refine wpAnyH_ready (rs := [11]) (by kernel_rfl) (by simp) ?_
            refine AllReadyH.cons rfl (fun K hK => ?_) AllReadyH.nil
            go_simp
            refine hK.out _ _ (hS.setCell (.inl (by simp)) _) (fun hS => ?_)
            clear hK K
            refine wpAnyH_done (by kernel_rfl) ?_ _
            have hkg : Kx [gO] w10 (w10.setCell ⟨gO, 0, none⟩ (.slice a2 (k + 1) c2)) := (Kx.refl [gO] w10).setCell (.inl (by simp)) _
            have O11 := O10.set 0 (.slice a2 (k + 1) c2)
            have hno : ∀ (j : Nat), j ≠ gO → j ∉ rows → j ∉ gO :: rows := fun j h1 h2 => by simp only [List.mem_cons, not_or]; exact ⟨h1, h2⟩
            have hKO : KbO gO (fun k => k = gO) W (w10.setCell ⟨gO, 0, none⟩ (.slice a2 (k + 1) c2)) := by
              refine ⟨fun j o hj hd hne hnb => ?_, fun r hr => ?_, hS.size⟩
              · exact (hS.block j (Array.getElem?_eq_some_iff.1 hj).1 (hno j hne (fun hm => hnb ⟨_, cW, hrow1 j hm⟩))).trans hj
              · obtain ⟨u, hu, hur⟩ := hr
                rw [O11.cell (j := 0) rfl] at hu
                cases hu
                rcases hwhere with e | e
                · exact .inl ⟨_, cW, by rw [← e]; exact hur⟩
                · rw [e] at hur; cases hur; exact .inr (by omega)
            have hKF : KeepsFrom w3.heap.size W (w10.setCell ⟨gO, 0, none⟩ (.slice a2 (k + 1) c2)) := ⟨hS.size, fun j o hB hj hc => by
              refine (hS.block j (Array.getElem?_eq_some_iff.1 hj).1 (hno j ?_ (fun hm => ?_))).trans hj
              · rintro rfl; rw [show W.heap[_]? = _ from OW] at hj; cases hj; cases hc
              · obtain ⟨cs, fz, h2⟩ := hrt j (hrow1 j hm)
                rw [hj] at h2; cases h2; cases hc⟩
            have hI9 : HrI w gO B (k + 1) ((ys.map H9.to).take (k + 1)) (.slice a2 (k + 1) c2) (w10.setCell ⟨gO, 0, none⟩ (.slice a2 (k + 1) c2)) := by
              rw [HST.out]
              exact ⟨O11, hH.kx hkg (fun r hr => by simp at hr; omega), hl1, hb10.kx hkg (by simp; omega), by have := hkg.size; omega⟩
            clear hS hH hwhere hrun
            (try simp only [Exit.then])
            gi_wp2
            exact ⟨hKF, fun _ => hKO, _, hI9⟩
          ·
            go_simp
            obtain ⟨v', w10, hrun, hH, hgrow, hwhere⟩ := I.row.app (H9.to x) hR (by rw [hMk]; omega) I.le 53
            obtain ⟨a2, c2, rfl, -⟩ := hH.form
            have hl1 : (M ++ [H9.to x]).length = k + 1 := by rw [List.length_append, hMk]; rfl
            rw [hl1] at hrun hwhere hH
            dsimp only [h7, H9.to, H9.vs] at hrun hgrow
            have hbn := (Below.refl w7.heap.size w7).alloc (Nat.le_refl _) (.cells #[.int .i64 x.r, .int .i64 x.p, .int .i64 x.k, .int .i64 x.m, .int .i64 x.n, .string x.s, .slice au nl cu] 81)
            have hsz9 : (w7.alloc (.cells #[.int .i64 x.r, .int .i64 x.p, .int .i64 x.k, .int .i64 x.m, .int .i64 x.n, .string x.s, .slice au nl cu] 81)).heap.size = w7.heap.size + 1 := Array.size_push ..
            have I2 := I.step hbn
            refine hK.out _ _ (hS.step hbn) (fun hS => ?_)
            have hle9 := I.le
            have hW9 := hS.size
            generalize w7.alloc (.cells #[.int .i64 x.r, .int .i64 x.p, .int .i64 x.k, .int .i64 x.m, .int .i64 x.n, .string x.s, .slice au nl cu] 81) = w9 at *
            have hk10 : Kx rows w9 w10 := by rw [← hrows]; exact kx_grown hgrow
            have hgr : gO ∉ rows := fun hm => (hdr gO hm).2.2 rfl
            have O10 := hk10.blk I2.O hgr
            have hb10 := I2.hb.kx hk10 (fun r hr => by have := (hge r (hrow1 r hr)).1; omega)
            have hw10 := hk10.size
            clear hV hR hbn hgrow
            clear hK K
            refine wpAnyH_ready (rs := [0]) (by kernel_rfl) (by simp) ?_
            refine AllReadyH.cons rfl (fun K hK => ?_) AllReadyH.nil
            have c0 : w9.cell? ⟨gO, 0, none⟩ = some (.slice ao k co) := by first | exact I.O.cell (j := 0) rfl | exact I2.O.cell (j := 0) rfl
            go_simp
            refine hK.out _ _ hS (fun hS => ?_)
            clear hK K
            refine wpAnyH_ready (rs := [10]) (by kernel_rfl) (by simp) ?_
            refine AllReadyH.cons rfl (fun K hK => ?_) AllReadyH.nil
            refine step_append_run rfl (.tmp 14) (.tmp 23) 53 rfl rfl rfl hrun ?_
            refine hK.out _ _ (hS.trans (hk10.mono (by intro r hr; simp; exact .inr hr))) (fun hS => ?_)
            clear hK K
            have f10 := O10.frozen 0
            have c10 := O10.cell (j := 0) rfl
            refine wpAnyH_ready (rs := [11]) (by kernel_rfl) (by simp) ?_
            refine AllReadyH.cons rfl (fun K hK => ?_) AllReadyH.nil
            go_simp
            refine hK.out _ _ (hS.setCell (.inl (by simp)) _) (fun hS => ?_)
            clear hK K
            refine wpAnyH_done (by kernel_rfl) ?_ _
            have hkg : Kx [gO] w10 (w10.setCell ⟨gO, 0, none⟩ (.slice a2 (k + 1) c2)) := (Kx.refl [gO] w10).setCell (.inl (by simp)) _
            have O11 := O10.set 0 (.slice a2 (k + 1) c2)
            have hno : ∀ (j : Nat), j ≠ gO → j ∉ rows → j ∉ gO :: rows := fun j h1 h2 => by simp only [List.mem_cons, not_or]; exact ⟨h1, h2⟩
            have hKO : KbO gO (fun k => k = gO) W (w10.setCell ⟨gO, 0, none⟩ (.slice a2 (k + 1) c2)) := by
              refine ⟨fun j o hj hd hne hnb => ?_, fun r hr => ?_, hS.size⟩
              · exact (hS.block j (Array.getElem?_eq_some_iff.1 hj).1 (hno j hne (fun hm => hnb ⟨_, cW, hrow1 j hm⟩))).trans hj
              · obtain ⟨u, hu, hur⟩ := hr
                rw [O11.cell (j := 0) rfl] at hu
                cases hu
                rcases hwhere with e | e
                · exact .inl ⟨_, cW, by rw [← e]; exact hur⟩
                · rw [e] at hur; cases hur; exact .inr (by omega)
            have hKF : KeepsFrom w3.heap.size W (w10.setCell ⟨gO, 0, none⟩ (.slice a2 (k + 1) c2)) := ⟨hS.size, fun j o hB hj hc => by
              refine (hS.block j (Array.getElem?_eq_some_iff.1 hj).1 (hno j ?_ (fun hm => ?_))).trans hj
              · rintro rfl; rw [show W.heap[_]? = _ from OW] at hj; cases hj; cases hc
              · obtain ⟨cs, fz, h2⟩ := hrt j (hrow1 j hm)
                rw [hj] at h2; cases h2; cases hc⟩
            have hI9 : HrI w gO B (k + 1) ((ys.map H9.to).take (k + 1)) (.slice a2 (k + 1) c2) (w10.setCell ⟨gO, 0, none⟩ (.slice a2 (k + 1) c2)) := by
              rw [HST.out]
              exact ⟨O11, hH.kx hkg (fun r hr => by simp at hr; omega), hl1, hb10.kx hkg (by simp; omega), by have := hkg.size; omega⟩
            clear hS hH hwhere hrun
            (try simp only [Exit.then])
            gi_wp2
            exact ⟨hKF, fun _ => hKO, _, hI9⟩
  case hdone =>
    rintro Df W hD ⟨v, I⟩ hDf
    clear hseq N0
    rw [List.take_of_length_le (by simp)] at I
    obtain ⟨O, row, hn, hb, le⟩ := I
    obtain ⟨ao, co, rfl, -⟩ := row.form
    obtain ⟨nx, hnx⟩ : ∃ n, (ys.map H9.to).length = n := ⟨_, rfl⟩
    rw [hnx] at O row
    have c0 := O.cell (j := 0) rfl
    have f0 := O.frozen 0
    have hgOD : gO ≠ Df := by omega
    have HDf := Lib.hid hDf
    clear hDf
    gi_wp2
    have hk1 : Kx [gO] W (W.setCell ⟨gO, 0, none⟩ (.slice ao nx co)) := (Kx.refl _ W).setCell (.inl (by simp)) _
    have O2 := O.set 0 (.slice ao nx co)
    have row2 := row.kx hk1 (fun r hr => by simp at hr; omega)
    have hb9 := hb.kx hk1 (by simp; omega)
    have hDf2 := hk1.obj HDf.out (by simp; omega)
    exact leaves_list B [Df] rfl (fun D' h => by simp at h; subst h; exact ⟨by omega, hDf2⟩) (by simp) (v := .slice ao nx co) (fun W' hbW' hcW => by
      have O3 : Blk W' gO 53 _ := hcW _ _ O2 rfl
      have r0 := O3.cell (j := 0) rfl
      exact ⟨by simp [results, Tryz.results19, go_sem, r0], ⟨_, rfl, (row2.cells hcW).low hwB⟩, Below.trans hb9.out (hbW'.mono (by omega))⟩)
  case hstop =>
    rintro Df c k W hD hk h hDf
    exact h.elim
end Go.Proofs.YthhpblchiodahaaGreatDoor
