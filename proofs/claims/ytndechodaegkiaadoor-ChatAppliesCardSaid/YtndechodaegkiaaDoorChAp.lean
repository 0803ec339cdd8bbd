
/- Walk of ChatApplies. -/
import Derived.Test.YtndechodaegkiaaDoorChNa
import Derived.Test.YtndechodaegkiaaDoorChW
namespace Go.Proofs.YtndechodaegkiaaDoor
open Go.RowKit
/-- A slice of numbers as it lies. -/
def SlN (w : World) (ao : Option Addr) (n : Nat) : Prop := ∀ k, k < n → ∃ b off v, ao = some ⟨b, off, none⟩ ∧ w.cell? ⟨b, off + k, none⟩ = some (.int .i64 v)
theorem SlN.step {w w' : World} {ao : Option Addr} {n : Nat} (h : SlN w ao n) (hb : Below w.heap.size w w') : SlN w' ao n := fun k hk => by
  obtain ⟨b, off, v, e, hc⟩ := h k hk
  exact ⟨b, off, v, e, cells_kept hb hc⟩
theorem one_ent {W : World} {b : Nat} {t : TypeId} {x : En} (h : Blk W b t (enL x)) : HasE W (some ⟨b, 0, none⟩) [x] := by
  intro k e he
  refine ⟨b, 0, rfl, ?_⟩
  match k, he with
  | 0, he =>
    obtain rfl : x = e := by simpa using he
    exact ⟨h.cell (j := 0) rfl, h.cell (j := 1) rfl, h.cell (j := 2) rfl, h.cell (j := 3) rfl⟩
theorem wp_nopanic {P : Program} {c : Code} {K : Act → World → Prop} {Q : Exit → Act → World → Prop} {a : Act} {w : World} (h : c.wp P (Exit.then K (fun _ _ _ => False)) a w) : c.wp P (Exit.then K Q) a w :=
  wp_mono h (fun e _ _ hq => by
    cases e with
    | normal => exact hq
    | exit id => exact hq.elim
    | goto l => exact hq.elim
    | ret => exact hq.elim
    | panic ch => exact hq.elim
    | outgrown => exact hq.elim)
theorem eql_seqN (fn : Fn) (x y : Array Value) (w : World) : (binOp .eql 55 (.func fn x y) .nilFunc).run Tryd.prog w = .ok (.bool false) w := by kernel_rfl
/-- What is to be done at the end stands in block D. -/
def Dfr (D : Nat) (W : World) : Prop := W.heap[D]? = some (.deferred (some []))
theorem Dfr.step {D : Nat} {W W' : World} (h : Dfr D W) (hb : Below W.heap.size W W') : Dfr D W' := (hb.block D (Array.getElem?_eq_some_iff.1 h).1).trans h
theorem Dfr.kx {D : Nat} {ws : List Nat} {W W' : World} (h : Dfr D W) (hk : Kx ws W W') (hw : D ∉ ws) : Dfr D W' := (hk.block D (Array.getElem?_eq_some_iff.1 h).1 hw).trans h
set_option maxRecDepth 100000 in
set_option maxHeartbeats 2000000 in
theorem applies_few (l : List En) (ao : Option Addr) (cap : Nat) (oo : Option Addr) (no co : Nat) (x : En) (w : World) (hT : Tabs w) (hE : HasE w ao l) (hl : l.length ≤ 9223372036854775807) (hx : x.s.size ≤ 9223372036854775807) (hf : fewB l 40 = false) :
    Calls Tryd.prog 9 #[.slice ao l.length cap, .slice oo no co, enV x] w fun e w' => e = .returned (.bool true) ∧ Below w.heap.size w w' := by
  refine callsIn_wide (n := 3).1 ?_
  have cF := fun W hE => few_any l ao cap 40 W hE hl
  rw [hf] at cF
  obtain ⟨xk, xm, xn, xs⟩ := x
  unfold enV enL
  simp only at hx ⊢
  obtain ⟨N, hN⟩ : ∃ N, l.length = N := ⟨_, rfl⟩
  have hNI : (N : Int) ≤ 9223372036854775807 := by omega
  rw [hN] at cF ⊢
  have HE := Lib.hid hE
  clear hE
  have hb := From.refl w
  refine callsIn_of_wp_marks Tryd.func9 rfl trivial ?_ rfl
  simp only [Tryd.ntmps9, List.size_toArray, List.length_cons, List.length_nil, Nat.reduceAdd, Nat.reduceSub, Array.replicate_succ, Array.replicate_zero, List.push_toArray, List.append_toArray, List.nil_append, List.cons_append]
  refine (wpIn_wide (n := 3)).2 ?_
  go_upto_region 1 with fail
  obtain ⟨gP, hgP⟩ : ∃ g, (w).heap.size = g := ⟨_, rfl⟩
  have P := Blk.newV hgP 26 #[.int .i64 xk, .int .i64 xm, .int .i64 xn, .string xs]
  have hbn := (Below.refl (w).heap.size w).alloc (Nat.le_refl _) (.cells #[.int .i64 xk, .int .i64 xm, .int .i64 xn, .string xs] 26)
  replace hb := hb.step hbn
  clear hbn
  rw [hgP]
  have szP := alloc_size hgP (.cells #[.int .i64 xk, .int .i64 xm, .int .i64 xn, .string xs] 26)
  generalize (w).alloc (.cells #[.int .i64 xk, .int .i64 xm, .int .i64 xn, .string xs] 26) = w1 at *
  obtain ⟨gQ, hgQ⟩ : ∃ g, (w1).heap.size = g := ⟨_, rfl⟩
  have lt_P_Q := P.lt
  rw [hgQ] at lt_P_Q
  have Q := Blk.newV hgQ 4 #[.bool false]
  have hbn := (Below.refl (w1).heap.size w1).alloc (Nat.le_refl _) (.cells #[.bool false] 4)
  replace hb := hb.step hbn
  replace P := P.step hbn
  clear hbn
  have egQ : gP + 1 = gQ := szP.symm.trans hgQ
  rw [egQ]
  clear szP
  generalize (w1).alloc (.cells #[.bool false] 4) = w2 at *
  go_wp2_with fail
  refine (cF _ (HE.out.step hb.out)).mono ?_
  rintro e w3 ⟨rfl, rfl⟩
  go_wp2_with fail
  refine (works_any _ (hT.step hb.out)).mono ?_
  rintro e w6 ⟨rfl, hbn⟩
  replace hb := hb.step hbn
  replace P := P.step hbn
  replace Q := Q.step hbn
  clear hbn
  have Q_0 := Q.cell (j := 0) rfl
  have Qf0 := Q.frozen 0
  go_wp2
  have r10 := (Q.set 0 (.bool true)).cell (j := 0) rfl
  exact leaves_nil (v := .bool true) rfl (by simp [results, Tryd.results9, go_sem, r10]) ⟨rfl, hb.out.setCell (p := ⟨gQ, 0, none⟩) (by show w.heap.size ≤ gQ; omega) _⟩
set_option maxRecDepth 100000 in
set_option maxHeartbeats 2000000 in
theorem applies_one (l : List En) (ao : Option Addr) (cap : Nat) (oo : Option Addr) (no co : Nat) (x : En) (w : World) (hT : Tabs w) (hE : HasE w ao l) (hl : l.length ≤ 9223372036854775807) (hx : x.s.size ≤ 9223372036854775807) (hf : fewB l 40 = true) (hf2 : fewB [x] 1 = false) :
    Calls Tryd.prog 9 #[.slice ao l.length cap, .slice oo no co, enV x] w fun e w' => e = .returned (.bool true) ∧ Below w.heap.size w w' := by
  refine callsIn_wide (n := 3).1 ?_
  have cF := fun W hE => few_any l ao cap 40 W hE hl
  rw [hf] at cF
  obtain ⟨xk, xm, xn, xs⟩ := x
  unfold enV enL
  simp only at hx ⊢
  obtain ⟨N, hN⟩ : ∃ N, l.length = N := ⟨_, rfl⟩
  have hNI : (N : Int) ≤ 9223372036854775807 := by omega
  rw [hN] at cF ⊢
  have HE := Lib.hid hE
  clear hE
  have hb := From.refl w
  refine callsIn_of_wp_marks Tryd.func9 rfl trivial ?_ rfl
  simp only [Tryd.ntmps9, List.size_toArray, List.length_cons, List.length_nil, Nat.reduceAdd, Nat.reduceSub, Array.replicate_succ, Array.replicate_zero, List.push_toArray, List.append_toArray, List.nil_append, List.cons_append]
  refine (wpIn_wide (n := 3)).2 ?_
  go_upto_region 1 with fail
  obtain ⟨gP, hgP⟩ : ∃ g, (w).heap.size = g := ⟨_, rfl⟩
  have P := Blk.newV hgP 26 #[.int .i64 xk, .int .i64 xm, .int .i64 xn, .string xs]
  have hbn := (Below.refl (w).heap.size w).alloc (Nat.le_refl _) (.cells #[.int .i64 xk, .int .i64 xm, .int .i64 xn, .string xs] 26)
  replace hb := hb.step hbn
  clear hbn
  rw [hgP]
  have szP := alloc_size hgP (.cells #[.int .i64 xk, .int .i64 xm, .int .i64 xn, .string xs] 26)
  generalize (w).alloc (.cells #[.int .i64 xk, .int .i64 xm, .int .i64 xn, .string xs] 26) = w1 at *
  obtain ⟨gQ, hgQ⟩ : ∃ g, (w1).heap.size = g := ⟨_, rfl⟩
  have lt_P_Q := P.lt
  rw [hgQ] at lt_P_Q
  have Q := Blk.newV hgQ 4 #[.bool false]
  have hbn := (Below.refl (w1).heap.size w1).alloc (Nat.le_refl _) (.cells #[.bool false] 4)
  replace hb := hb.step hbn
  replace P := P.step hbn
  clear hbn
  have egQ : gP + 1 = gQ := szP.symm.trans hgQ
  rw [egQ]
  clear szP
  generalize (w1).alloc (.cells #[.bool false] 4) = w2 at *
  go_wp2_with fail
  refine (cF _ (HE.out.step hb.out)).mono ?_
  rintro e w3 ⟨rfl, rfl⟩
  have P_0 := P.cell (j := 0) rfl
  have P_1 := P.cell (j := 1) rfl
  have P_2 := P.cell (j := 2) rfl
  have P_3 := P.cell (j := 3) rfl
  go_wp2_with fail
  obtain ⟨gS, hgS⟩ : ∃ g, (w2).heap.size = g := ⟨_, rfl⟩
  have lt_P_S := P.lt
  rw [hgS] at lt_P_S
  have lt_Q_S := Q.lt
  rw [hgS] at lt_Q_S
  have S := Blk.newV hgS 26 #[.int .i64 xk, .int .i64 xm, .int .i64 xn, .string xs]
  have hbn := (Below.refl (w2).heap.size w2).alloc (Nat.le_refl _) (.cells #[.int .i64 xk, .int .i64 xm, .int .i64 xn, .string xs] 26)
  replace hb := hb.step hbn
  replace P := P.step hbn
  replace P_0 := P.cell (j := 0) rfl
  replace P_1 := P.cell (j := 1) rfl
  replace P_2 := P.cell (j := 2) rfl
  replace P_3 := P.cell (j := 3) rfl
  replace Q := Q.step hbn
  clear hbn
  rw [hgS]
  generalize (w2).alloc (.cells #[.int .i64 xk, .int .i64 xm, .int .i64 xn, .string xs] 26) = w4 at *
  have c2 : ∀ W, HasE W (some ⟨gS, 0, none⟩) _ → Calls Tryd.prog 15 #[.slice (some ⟨gS, 0, none⟩) 1 1, .int .i64 1] W _ := fun W hE => few_any [⟨xk, xm, xn, xs⟩] (some ⟨gS, 0, none⟩) 1 1 W hE (by simp)
  rw [hf2] at c2
  go_wp2_with fail
  refine (c2 _ (one_ent S)).mono ?_
  rintro e w5 ⟨rfl, rfl⟩
  clear c2 S
  go_wp2_with fail
  refine (works_any _ (hT.step hb.out)).mono ?_
  rintro e w6 ⟨rfl, hbn⟩
  replace hb := hb.step hbn
  replace P := P.step hbn
  replace P_0 := P.cell (j := 0) rfl
  replace P_1 := P.cell (j := 1) rfl
  replace P_2 := P.cell (j := 2) rfl
  replace P_3 := P.cell (j := 3) rfl
  replace Q := Q.step hbn
  clear hbn
  have Q_0 := Q.cell (j := 0) rfl
  have Qf0 := Q.frozen 0
  go_wp2
  have r10 := (Q.set 0 (.bool true)).cell (j := 0) rfl
  exact leaves_nil (v := .bool true) rfl (by simp [results, Tryd.results9, go_sem, r10]) ⟨rfl, hb.out.setCell (p := ⟨gQ, 0, none⟩) (by show w.heap.size ≤ gQ; omega) _⟩
set_option maxRecDepth 100000 in
set_option maxHeartbeats 8000000 in
theorem applies_yes (l : List En) (ao : Option Addr) (cap : Nat) (oo : Option Addr) (no co : Nat) (x : En) (w : World) (hT : Tabs w) (hE : HasE w ao l) (hl : l.length ≤ 9223372036854775807) (hO : SlN w oo no) (hnI : no ≤ 9223372036854775807) (hs : ∀ e, e ∈ l → e.s.size ≤ 9223372036854775807) (hx : x.s.size ≤ 9223372036854775807) (hf : fewB l 40 = true) (hf2 : fewB [x] 1 = true) :
    Calls Tryd.prog 9 #[.slice ao l.length cap, .slice oo no co, enV x] w fun e w' => e = .returned (.bool true) ∧ Below w.heap.size w w' := by
  refine callsIn_wide (n := 3).1 ?_
  have cF := fun W hE => few_any l ao cap 40 W hE hl
  rw [hf] at cF
  have HS := Lib.hid hs
  clear hs
  have hnI2 : (no : Int) ≤ 9223372036854775807 := by omega
  obtain ⟨xk, xm, xn, xs⟩ := x
  unfold enV enL
  simp only at hx ⊢
  obtain ⟨N, hN⟩ : ∃ N, l.length = N := ⟨_, rfl⟩
  have hNI : (N : Int) ≤ 9223372036854775807 := by omega
  rw [hN] at cF ⊢
  have HE := Lib.hid hE
  clear hE
  have hb := From.refl w
  refine callsIn_of_wp_marks Tryd.func9 rfl trivial ?_ rfl
  simp only [Tryd.ntmps9, List.size_toArray, List.length_cons, List.length_nil, Nat.reduceAdd, Nat.reduceSub, Array.replicate_succ, Array.replicate_zero, List.push_toArray, List.append_toArray, List.nil_append, List.cons_append]
  refine (wpIn_wide (n := 3)).2 ?_
  go_upto_region 1 with fail
  obtain ⟨gP, hgP⟩ : ∃ g, (w).heap.size = g := ⟨_, rfl⟩
  have P := Blk.newV hgP 26 #[.int .i64 xk, .int .i64 xm, .int .i64 xn, .string xs]
  have hbn := (Below.refl (w).heap.size w).alloc (Nat.le_refl _) (.cells #[.int .i64 xk, .int .i64 xm, .int .i64 xn, .string xs] 26)
  replace hb := hb.step hbn
  clear hbn
  rw [hgP]
  have szP := alloc_size hgP (.cells #[.int .i64 xk, .int .i64 xm, .int .i64 xn, .string xs] 26)
  generalize (w).alloc (.cells #[.int .i64 xk, .int .i64 xm, .int .i64 xn, .string xs] 26) = w1 at *
  obtain ⟨gQ, hgQ⟩ : ∃ g, (w1).heap.size = g := ⟨_, rfl⟩
  have lt_P_Q := P.lt
  rw [hgQ] at lt_P_Q
  have Q := Blk.newV hgQ 4 #[.bool false]
  have hbn := (Below.refl (w1).heap.size w1).alloc (Nat.le_refl _) (.cells #[.bool false] 4)
  replace hb := hb.step hbn
  replace P := P.step hbn
  clear hbn
  have egQ : gP + 1 = gQ := szP.symm.trans hgQ
  rw [egQ]
  clear szP
  generalize (w1).alloc (.cells #[.bool false] 4) = w2 at *
  go_wp2_with fail
  refine (cF _ (HE.out.step hb.out)).mono ?_
  rintro e w3 ⟨rfl, rfl⟩
  have P_0 := P.cell (j := 0) rfl
  have P_1 := P.cell (j := 1) rfl
  have P_2 := P.cell (j := 2) rfl
  have P_3 := P.cell (j := 3) rfl
  go_wp2_with fail
  obtain ⟨gS, hgS⟩ : ∃ g, (w2).heap.size = g := ⟨_, rfl⟩
  have lt_P_S := P.lt
  rw [hgS] at lt_P_S
  have lt_Q_S := Q.lt
  rw [hgS] at lt_Q_S
  have S := Blk.newV hgS 26 #[.int .i64 xk, .int .i64 xm, .int .i64 xn, .string xs]
  have hbn := (Below.refl (w2).heap.size w2).alloc (Nat.le_refl _) (.cells #[.int .i64 xk, .int .i64 xm, .int .i64 xn, .string xs] 26)
  replace hb := hb.step hbn
  replace P := P.step hbn
  replace P_0 := P.cell (j := 0) rfl
  replace P_1 := P.cell (j := 1) rfl
  replace P_2 := P.cell (j := 2) rfl
  replace P_3 := P.cell (j := 3) rfl
  replace Q := Q.step hbn
  clear hbn
  rw [hgS]
  generalize (w2).alloc (.cells #[.int .i64 xk, .int .i64 xm, .int .i64 xn, .string xs] 26) = w4 at *
  have c2 : ∀ W, HasE W (some ⟨gS, 0, none⟩) _ → Calls Tryd.prog 15 #[.slice (some ⟨gS, 0, none⟩) 1 1, .int .i64 1] W _ := fun W hE => few_any [⟨xk, xm, xn, xs⟩] (some ⟨gS, 0, none⟩) 1 1 W hE (by simp)
  rw [hf2] at c2
  go_wp2_with fail
  refine (c2 _ (one_ent S)).mono ?_
  rintro e w5 ⟨rfl, rfl⟩
  clear c2 S
  have cN : ∀ W, Tabs W → Calls Tryd.prog 11 #[.slice none 0 0] W fun r w' => (∃ g v, r = .returned (.tuple #[.pointer (some ⟨g, 0, none⟩), .int .i64 0]) ∧ TkW w' W.heap.size g v tk0 ∧ W.heap.size ≤ g) ∧ Below W.heap.size W w' := fun W hT => (new_any [] none 0 W (fun k e he => by simp at he) hT (fun e he => by simp at he) (by simp)).mono (by
    intro r w' hr
    unfold newP at hr
    rw [if_pos (show (newF tk0 0 []).2 = 0 from rfl)] at hr
    exact hr)
  go_wp2_with fail
  refine (cN _ (hT.step hb.out)).mono ?_
  rintro e w6 ⟨⟨g, v, rfl, hW, hg⟩, hbn⟩
  obtain ⟨bT, hbT⟩ : ∃ b, w4.heap.size = b := ⟨_, rfl⟩
  have hwT : w.heap.size ≤ bT := hbT ▸ hb.size
  rw [hbT] at hW hg
  have hQT : gQ < bT := hbT ▸ Q.lt
  have hPT : gP < bT := hbT ▸ P.lt
  replace hb := hb.step hbn
  replace P := P.step hbn
  replace P_0 := P.cell (j := 0) rfl
  replace P_1 := P.cell (j := 1) rfl
  replace P_2 := P.cell (j := 2) rfl
  replace P_3 := P.cell (j := 3) rfl
  replace Q := Q.step hbn
  clear hbn cN hbT cF
  go_upto_region 5 with fail
  have hgl := hW.lt
  obtain ⟨gR, hgR⟩ : ∃ g, (w6).heap.size = g := ⟨_, rfl⟩
  have lt_P_R := P.lt
  rw [hgR] at lt_P_R
  have lt_Q_R := Q.lt
  rw [hgR] at lt_Q_R
  have R := Blk.newV hgR 49 #[.int .i64 0, .slice none 0 0]
  have hbn := (Below.refl (w6).heap.size w6).alloc (Nat.le_refl _) (.cells #[.int .i64 0, .slice none 0 0] 49)
  replace hb := hb.step hbn
  replace P := P.step hbn
  replace P_0 := P.cell (j := 0) rfl
  replace P_1 := P.cell (j := 1) rfl
  replace P_2 := P.cell (j := 2) rfl
  replace P_3 := P.cell (j := 3) rfl
  replace Q := Q.step hbn
  replace hW := hW.step hbn
  clear hbn
  rw [hgR]
  generalize (w6).alloc (.cells #[.int .i64 0, .slice none 0 0] 49) = w7 at *
  have hRg : gR ∉ g :: v.ownBlock.toList := fun h => by have := hgl gR h; omega
  have hRT : bT ≤ gR := by have := hgl g (by simp); omega
  have hD0 : DW w7 bT (.slice none 0 0) tk0.L := ⟨World.ownsRow_nil _ _ _ _, fun _ => rfl⟩
  clear hgl
  go_upto_region 6 with fail
  go_loopw [10] (fun i wr => ∃ (j : Nat) (t : Tk) (v : Value) (a : Option Addr) (c : Nat), i = .int .i64 j ∧ j ≤ N ∧ TkW wr bT g v t ∧ Good t ∧ DW wr bT (.slice a t.L.length c) t.L ∧ (∀ k, (Value.slice a t.L.length c).ownBlock = some k → k ∉ g :: v.ownBlock.toList) ∧ (∀ k, (Value.slice a t.L.length c).ownBlock = some k → k ≠ gR) ∧ gR ∉ g :: v.ownBlock.toList ∧ Blk wr gR 49 [.int .i64 t.sl, .slice a t.L.length c] ∧ Blk wr gP 26 [.int .i64 xk, .int .i64 xm, .int .i64 xn, .string xs] ∧ Blk wr gQ 4 [.bool false] ∧ From w wr) (fun i _ => N - (intOf i).toNat)
  case atStart => exact ⟨0, tk0, v, none, 0, rfl, by omega, hW, good0, hD0, (fun k hk => by cases hk), (fun k hk => by cases hk), hRg, R, P, Q, hb⟩
  case round =>
    clear P_0 P_1 P_2 P_3
    clear hD0 hRg R P Q hb hW
    obtain ⟨j, t, v, a, c, rfl, hj, hW, hG, hD, hDis, hDR, hRg, R, P, Q, hb⟩ := hrel
    by_cases hlt : j < N
    · obtain ⟨e, he⟩ : ∃ e, l[j]? = some e := ⟨l[j], by simp [hN, hlt]⟩
      have hj0 : (0 : Int) ≤ (j : Int) := by omega
      have hj1 : (j : Int) < (N : Int) := by omega
      have hse := HS.out e (List.mem_of_getElem? he)
      have hE8 := HE.out.step hb.out
      have R_0 := R.cell (j := 0) rfl
      have R_1 := R.cell (j := 1) rfl
      have HDis := Lib.hid hDis
      clear hDis
      have HDR := Lib.hid hDR
      clear hDR
      have HRg := Lib.hid hRg
      clear hRg
      go_upto_if 54 with fail
      go_cut [11] from 43 to 116 (fun v11 wx => ∃ s : Int, v11 = .int .i64 s ∧ Below wr.heap.size wr wx)
      case first =>
        by_cases hjo : j < no
        · obtain ⟨b, off, z, rfl, hz⟩ := (hO.step hb.out) j hjo
          have hjn : (j : Int) < (no : Int) := by omega
          have z0 := extA_cell hz
          have R_0 := extA_cell (R.cell (j := 0) rfl)
          have R_1 := extA_cell (R.cell (j := 1) rfl)
          go_upto_region 10 with fail
          refine wp_nopanic ?_
          refine wp_region_held (S := From wr) (by kernel_rfl) ?_
          have hst : Below (wr).heap.size wr { wr with drawn := (wr).drawn + 1 } := ⟨rfl, rfl, rfl, Nat.le_refl _, fun _ _ => rfl⟩
          have hS : (From wr) { wr with drawn := (wr).drawn + 1 } := by first | exact ⟨rfl, rfl, rfl, Nat.le_refl _, fun _ _ _ => rfl⟩ | exact ⟨rfl, rfl, rfl, Nat.le_refl _, fun _ _ => rfl⟩
          clear hst
          generalize ({ wr with drawn := (wr).drawn + 1 } : World) = wq at *
          refine wpAnyH_take (i := 0) (v := ?_) rfl (by kernel_rfl) (by kernel_rfl) (by kernel_rfl) (fun _ _ _ h => h) (Or.inl ⟨by kernel_rfl, ?_⟩) hS ?_
          rotate_left
          · intro W hSW
            have y0 := R_0 _ hSW
            have y1 := R_1 _ hSW
            have y2 := z0 _ hSW
            go_simp
            try with_reducible rfl
          dsimp only [Act.put]
          refine wpAnyH_take (i := 1) (v := ?_) rfl (by kernel_rfl) (by kernel_rfl) (by kernel_rfl) (fun _ _ _ h => h) (Or.inl ⟨by kernel_rfl, ?_⟩) hS ?_
          rotate_left
          · intro W hSW
            have y0 := R_0 _ hSW
            have y1 := R_1 _ hSW
            have y2 := z0 _ hSW
            go_simp
            try with_reducible rfl
          dsimp only [Act.put]
          refine wpAnyH_take (i := 2) (v := ?_) rfl (by kernel_rfl) (by kernel_rfl) (by kernel_rfl) (fun _ _ _ h => h) (Or.inl ⟨by kernel_rfl, ?_⟩) hS ?_
          rotate_left
          · intro W hSW
            have y0 := R_0 _ hSW
            have y1 := R_1 _ hSW
            have y2 := z0 _ hSW
            go_simp
            try with_reducible rfl
          dsimp only [Act.put]
          refine wpAnyH_take (i := 3) (v := ?_) rfl (by kernel_rfl) (by kernel_rfl) (by kernel_rfl) (fun _ _ _ h => h) (Or.inl ⟨by kernel_rfl, ?_⟩) hS ?_
          rotate_left
          · intro W hSW
            have y0 := R_0 _ hSW
            have y1 := R_1 _ hSW
            have y2 := z0 _ hSW
            go_simp
            try with_reducible rfl
          dsimp only [Act.put]
          refine wpAnyH_take (i := 4) (v := ?_) rfl (by kernel_rfl) (by kernel_rfl) (by kernel_rfl) (fun _ _ _ h => h) (Or.inl ⟨by kernel_rfl, ?_⟩) hS ?_
          rotate_left
          · intro W hSW
            have y0 := R_0 _ hSW
            have y1 := R_1 _ hSW
            have y2 := z0 _ hSW
            go_simp
            try with_reducible rfl
          dsimp only [Act.put]
          refine wpAnyH_take (i := 5) (v := ?_) rfl (by kernel_rfl) (by kernel_rfl) (by kernel_rfl) (fun _ _ _ h => h) (Or.inl ⟨by kernel_rfl, ?_⟩) hS ?_
          rotate_left
          · intro W hSW
            have y0 := R_0 _ hSW
            have y1 := R_1 _ hSW
            have y2 := z0 _ hSW
            go_simp
            try with_reducible rfl
          dsimp only [Act.put]
          refine wpAnyH_take (i := 6) (v := ?_) rfl (by kernel_rfl) (by kernel_rfl) (by kernel_rfl) (fun _ _ _ h => h) (Or.inl ⟨by kernel_rfl, ?_⟩) hS ?_
          rotate_left
          · intro W hSW
            have y0 := R_0 _ hSW
            have y1 := R_1 _ hSW
            have y2 := z0 _ hSW
            go_simp
            try with_reducible rfl
          dsimp only [Act.put]
          refine wpAnyH_take (i := 7) (v := ?_) rfl (by kernel_rfl) (by kernel_rfl) (by kernel_rfl) (fun _ _ _ h => h) (Or.inl ⟨by kernel_rfl, ?_⟩) hS ?_
          rotate_left
          · intro W hSW
            have y0 := R_0 _ hSW
            have y1 := R_1 _ hSW
            have y2 := z0 _ hSW
            go_simp
            try with_reducible rfl
          dsimp only [Act.put]
          refine wpAnyH_take (i := 8) (v := ?_) rfl (by kernel_rfl) (by kernel_rfl) (by kernel_rfl) (fun _ _ _ h => h) (Or.inl ⟨by kernel_rfl, ?_⟩) hS ?_
          rotate_left
          · intro W hSW
            have y0 := R_0 _ hSW
            have y1 := R_1 _ hSW
            have y2 := z0 _ hSW
            go_simp
            try with_reducible rfl
          dsimp only [Act.put]
          refine wpAnyH_ready (rs := [9]) (by kernel_rfl) (by simp) ?_
          refine AllReadyH.cons rfl (fun K hK => ?_) AllReadyH.nil
          go_simp
          refine hK.out _ _ (hS) (fun hS => ?_)
          clear hK K
          refine wpAnyH_done (by kernel_rfl) ?_ _
          go_wp2_with fail
          go_meet
          exact ⟨_, rfl, hS⟩
        · have hjn : ¬ (j : Int) < (no : Int) := by omega
          go_wp2_with fail
          go_meet
          exact ⟨_, rfl, Below.refl _ _⟩
      case rest =>
      obtain ⟨s, rfl, hbn⟩ := hcut
      replace hb := hb.step hbn
      replace P := P.step hbn
      replace Q := Q.step hbn
      replace R := R.step hbn
      replace R_0 := R.cell (j := 0) rfl
      replace R_1 := R.cell (j := 1) rfl
      replace hW := hW.step hbn
      replace hD := hD.step hbn
      replace hE8 := hE8.step hbn
      clear hbn
      generalize wc = w8 at *
      obtain ⟨h8, hh8⟩ : ∃ n, w8.heap.size = n := ⟨_, rfl⟩
      have hWlt : ∀ x, x ∈ g :: v.ownBlock.toList → x < h8 := hh8 ▸ hW.lt
      have hWge := hW.ge_base hg
      have hDlt : ∀ k, (Value.slice a t.L.length c).ownBlock = some k → k < h8 := fun k hk => hh8 ▸ (hD.row.lt k hk).2
      have hRlt : gR < h8 := hh8 ▸ R.lt
      have hgw : g < h8 := hWlt g (by simp)
      have cA := fun W (hx : From w8 W) => refApply_any bT t s e (.slice a t.L.length c) W (hD.step hx) (by have := hx.size; omega) hG.few hse (hG.would _)
      have cB := fun W (hW : TkW W bT g v t) (h1 : bT ≤ W.heap.size) (hT : Tabs W) => apply_any bT g v t s e W hW hT h1 hse
      have hGx := hG.next s e
      unfold daP at cA
      generalize apT t s e = tx at cA cB hGx
      generalize apX t s e = X1 at cA cB
      generalize apB t s e = B1 at cA cB
      generalize apE t s e = E1 at cA cB
      obtain ⟨b, off, rfl, q0, q1, q2, q3⟩ := hE8 j e he
      obtain ⟨x1, x2, ⟨x3, x4, x5, x6⟩⟩ := X1
      obtain ⟨k, m, q, es⟩ := e
      unfold enV lnV lnL enL at cA cB
      simp only at cA cB q0 q1 q2 q3
      clear R_0 R_1
      clear he
      have R_0 := extA_cell (R.cell (j := 0) rfl)
      have R_1 := extA_cell (R.cell (j := 1) rfl)
      have z0 := extA_cell q0
      have z1 := extA_cell q1
      have z2 := extA_cell q2
      have z3 := extA_cell q3
      go_upto_region 11 with fail
      go_cut [12, 13, 14, 15] from 43 to 116 (fun v12 v13 v14 v15 wx => ∃ (g12 g13 : Nat) (a2 : Option Addr) (c2 : Nat), v12 = .pointer (some ⟨g12, 0, none⟩) ∧ v13 = .pointer (some ⟨g13, 0, none⟩) ∧ v14 = .bool B1 ∧ v15 = .int .i64 E1 ∧ h8 ≤ g12 ∧ h8 ≤ g13 ∧ Blk wx g12 49 [.int .i64 tx.sl, .slice a2 tx.L.length c2] ∧ Blk wx g13 33 [.int .i64 x1, .int .i64 x2, .int .i64 x3, .int .i64 x4, .int .i64 x5, .string x6] ∧ DW wx bT (.slice a2 tx.L.length c2) tx.L ∧ (∀ k, (Value.slice a2 tx.L.length c2).ownBlock = some k → k ∉ g :: v.ownBlock.toList) ∧ (∀ k, (Value.slice a2 tx.L.length c2).ownBlock = some k → k ≠ gR) ∧ From w8 wx)
      case first =>
        refine wp_nopanic ?_
        refine wp_region_held (S := From w8) (by kernel_rfl) ?_
        have hst : Below (w8).heap.size w8 { w8 with drawn := (w8).drawn + 1 } := ⟨rfl, rfl, rfl, Nat.le_refl _, fun _ _ => rfl⟩
        have hS : (From w8) { w8 with drawn := (w8).drawn + 1 } := by first | exact ⟨rfl, rfl, rfl, Nat.le_refl _, fun _ _ _ => rfl⟩ | exact ⟨rfl, rfl, rfl, Nat.le_refl _, fun _ _ => rfl⟩
        clear hst
        generalize ({ w8 with drawn := (w8).drawn + 1 } : World) = wq at *
        refine wpAnyH_take (i := 0) (v := ?_) rfl (by kernel_rfl) (by kernel_rfl) (by kernel_rfl) (fun _ _ _ h => h) (Or.inl ⟨by kernel_rfl, ?_⟩) hS ?_
        rotate_left
        · intro W hSW
          have y0 := R_0 _ hSW
          have y1 := R_1 _ hSW
          have y2 := z0 _ hSW
          have y3 := z1 _ hSW
          have y4 := z2 _ hSW
          have y5 := z3 _ hSW
          go_simp
          try with_reducible rfl
        dsimp only [Act.put]
        refine wpAnyH_take (i := 1) (v := ?_) rfl (by kernel_rfl) (by kernel_rfl) (by kernel_rfl) (fun _ _ _ h => h) (Or.inl ⟨by kernel_rfl, ?_⟩) hS ?_
        rotate_left
        · intro W hSW
          have y0 := R_0 _ hSW
          have y1 := R_1 _ hSW
          have y2 := z0 _ hSW
          have y3 := z1 _ hSW
          have y4 := z2 _ hSW
          have y5 := z3 _ hSW
          go_simp
          try with_reducible rfl
        dsimp only [Act.put]
        refine wpAnyH_take (i := 2) (v := ?_) rfl (by kernel_rfl) (by kernel_rfl) (by kernel_rfl) (fun _ _ _ h => h) (Or.inl ⟨by kernel_rfl, ?_⟩) hS ?_
        rotate_left
        · intro W hSW
          have y0 := R_0 _ hSW
          have y1 := R_1 _ hSW
          have y2 := z0 _ hSW
          have y3 := z1 _ hSW
          have y4 := z2 _ hSW
          have y5 := z3 _ hSW
          go_simp
          try with_reducible rfl
        dsimp only [Act.put]
        refine wpAnyH_take (i := 3) (v := ?_) rfl (by kernel_rfl) (by kernel_rfl) (by kernel_rfl) (fun _ _ _ h => h) (Or.inl ⟨by kernel_rfl, ?_⟩) hS ?_
        rotate_left
        · intro W hSW
          have y0 := R_0 _ hSW
          have y1 := R_1 _ hSW
          have y2 := z0 _ hSW
          have y3 := z1 _ hSW
          have y4 := z2 _ hSW
          have y5 := z3 _ hSW
          go_simp
          try with_reducible rfl
        dsimp only [Act.put]
        refine wpAnyH_take (i := 4) (v := ?_) rfl (by kernel_rfl) (by kernel_rfl) (by kernel_rfl) (fun _ _ _ h => h) (Or.inl ⟨by kernel_rfl, ?_⟩) hS ?_
        rotate_left
        · intro W hSW
          have y0 := R_0 _ hSW
          have y1 := R_1 _ hSW
          have y2 := z0 _ hSW
          have y3 := z1 _ hSW
          have y4 := z2 _ hSW
          have y5 := z3 _ hSW
          go_simp
          try with_reducible rfl
        dsimp only [Act.put]
        refine wpAnyH_take (i := 5) (v := ?_) rfl (by kernel_rfl) (by kernel_rfl) (by kernel_rfl) (fun _ _ _ h => h) (Or.inl ⟨by kernel_rfl, ?_⟩) hS ?_
        rotate_left
        · intro W hSW
          have y0 := R_0 _ hSW
          have y1 := R_1 _ hSW
          have y2 := z0 _ hSW
          have y3 := z1 _ hSW
          have y4 := z2 _ hSW
          have y5 := z3 _ hSW
          go_simp
          try with_reducible rfl
        dsimp only [Act.put]
        refine wpAnyH_ready (rs := [6, 12, 13]) (by kernel_rfl) (by simp) ?_
        refine AllReadyH.cons rfl (fun K hK => ?_) (AllReadyH.cons rfl (fun K hK => ?_) (AllReadyH.cons rfl (fun K hK => ?_) AllReadyH.nil))
        ·
          go_simp
          refine (cA _ hS).mono ?_
          rintro e wz ⟨⟨sv', rfl, D', ho⟩, hbz⟩
          obtain ⟨a2, c2, rfl⟩ := D'.sl
          have hdis : ∀ k, (Value.slice a2 tx.L.length c2).ownBlock = some k → k ∉ g :: v.ownBlock.toList := fun k hk => by
            rcases ho with e | e
            · exact HDis.out k (e ▸ hk)
            · exact off_high hWlt (by have := e k hk; have := hS.size; omega)
          have hdr : ∀ k, (Value.slice a2 tx.L.length c2).ownBlock = some k → k ≠ gR := fun k hk => by
            rcases ho with e | e
            · exact HDR.out k (e ▸ hk)
            · have := e k hk; have := hS.size; omega
          clear ho
          refine hK.out _ _ (hS.step hbz) (fun hS => ?_)
          clear hK K
          refine wpAnyH_take (i := 7) (v := ?_) rfl (by kernel_rfl) (by kernel_rfl) (by kernel_rfl) (fun _ _ _ h => h) (Or.inl ⟨by kernel_rfl, ?_⟩) hS ?_
          rotate_left
          · intro W hSW
            go_simp
            try with_reducible rfl
          dsimp only [Act.put]
          refine wpAnyH_take (i := 8) (v := ?_) rfl (by kernel_rfl) (by kernel_rfl) (by kernel_rfl) (fun _ _ _ h => h) (Or.inl ⟨by kernel_rfl, ?_⟩) hS ?_
          rotate_left
          · intro W hSW
            go_simp
            try with_reducible rfl
          dsimp only [Act.put]
          refine wpAnyH_take (i := 9) (v := ?_) rfl (by kernel_rfl) (by kernel_rfl) (by kernel_rfl) (fun _ _ _ h => h) (Or.inl ⟨by kernel_rfl, ?_⟩) hS ?_
          rotate_left
          · intro W hSW
            go_simp
            try with_reducible rfl
          dsimp only [Act.put]
          refine wpAnyH_take (i := 10) (v := ?_) rfl (by kernel_rfl) (by kernel_rfl) (by kernel_rfl) (fun _ _ _ h => h) (Or.inl ⟨by kernel_rfl, ?_⟩) hS ?_
          rotate_left
          · intro W hSW
            go_simp
            try with_reducible rfl
          dsimp only [Act.put]
          refine wpAnyH_take (i := 11) (v := ?_) rfl (by kernel_rfl) (by kernel_rfl) (by kernel_rfl) (fun _ _ _ h => h) (Or.inl ⟨by kernel_rfl, ?_⟩) hS ?_
          rotate_left
          · intro W hSW
            go_simp
            try with_reducible rfl
          dsimp only [Act.put]
          refine wpAnyH_ready (rs := [12, 13]) (by kernel_rfl) (by simp) ?_
          refine AllReadyH.cons rfl (fun K hK => ?_) (AllReadyH.cons rfl (fun K hK => ?_) AllReadyH.nil)
          ·
            go_simp
            obtain ⟨g12, hg12⟩ : ∃ gg, wz.heap.size = gg := ⟨_, rfl⟩
            have X12 := Blk.newV hg12 49 #[.int .i64 0, .slice none 0 0]
            have h12 : h8 ≤ g12 := by have := hS.size; omega
            have hba := (Below.refl wz.heap.size wz).alloc (Nat.le_refl _) (.cells #[.int .i64 0, .slice none 0 0] 49)
            have o12 : ∀ k, (Value.slice a2 tx.L.length c2).ownBlock = some k → k ≠ g12 := fun k hk => by have := (D'.row.lt k hk).2; omega
            replace D' := D'.step hba
            refine hK.out _ _ (hS.step hba) (fun hS => ?_)
            rw [hg12]
            generalize wz.alloc (.cells #[.int .i64 0, .slice none 0 0] 49) = wa at *
            clear hg12 hba
            clear hK K
            refine wpAnyH_ready (rs := [13]) (by kernel_rfl) (by simp) ?_
            refine AllReadyH.cons rfl (fun K hK => ?_) AllReadyH.nil
            go_simp
            obtain ⟨g13, hg13⟩ : ∃ gg, wa.heap.size = gg := ⟨_, rfl⟩
            have X13 := Blk.newV hg13 33 #[.int .i64 0, .int .i64 0, .int .i64 0, .int .i64 0, .int .i64 0, .string ⟨#[]⟩]
            have h13 : h8 ≤ g13 := by have := hS.size; omega
            have hba := (Below.refl wa.heap.size wa).alloc (Nat.le_refl _) (.cells #[.int .i64 0, .int .i64 0, .int .i64 0, .int .i64 0, .int .i64 0, .string ⟨#[]⟩] 33)
            have o13 : ∀ k, (Value.slice a2 tx.L.length c2).ownBlock = some k → k ≠ g13 := fun k hk => by have := (D'.row.lt k hk).2; omega
            replace D' := D'.step hba
            have hne : g12 ≠ g13 := by have := X12.lt; omega
            replace X12 := X12.step hba
            refine hK.out _ _ (hS.step hba) (fun hS => ?_)
            rw [hg13]
            generalize wa.alloc (.cells #[.int .i64 0, .int .i64 0, .int .i64 0, .int .i64 0, .int .i64 0, .string ⟨#[]⟩] 33) = wb at *
            clear hg13 hba
            clear hK K
            clear R_0 R_1 z0 z1 z2 z3 cA
            have Z := X12
            have Z_0 := Z.cell (j := 0) rfl
            have Z_1 := Z.cell (j := 1) rfl
            have Zf0 := Z.frozen 0
            have Zf1 := Z.frozen 1
            refine wpAnyH_ready (rs := [14]) (by kernel_rfl) (by simp) ?_
            refine AllReadyH.cons rfl (fun K hK => ?_) AllReadyH.nil
            go_simp
            have hkn : Kx [g12] wb ((wb.setCell ⟨g12, 0, none⟩ (.int .i64 tx.sl)).setCell ⟨g12, 1, none⟩ (.slice a2 tx.L.length c2)) := Kx.setCells [.int .i64 tx.sl, .slice a2 tx.L.length c2] 0 _ (Kx.refl _ _) (.inl (by simp))
            replace X12 : Blk ((wb.setCell ⟨g12, 0, none⟩ (.int .i64 tx.sl)).setCell ⟨g12, 1, none⟩ (.slice a2 tx.L.length c2)) g12 49 [.int .i64 tx.sl, .slice a2 tx.L.length c2] := Blk.puts [.int .i64 tx.sl, .slice a2 tx.L.length c2] X12 rfl
            replace X13 := X13.kx hkn (by first | (simp; done) | (simp; omega))
            replace hS := hS.kx hkn (by first | (simp; done) | (simp; omega))
            generalize (wb.setCell ⟨g12, 0, none⟩ (.int .i64 tx.sl)).setCell ⟨g12, 1, none⟩ (.slice a2 tx.L.length c2) = ws at *
            replace D' := D'.kx hkn (fun k hk => by have := o12 k hk; simp; omega)
            clear hkn
            refine hK.out _ _ (hS) (fun hS => ?_)
            clear hK K
            have Y := X13
            have Y_0 := Y.cell (j := 0) rfl
            have Y_1 := Y.cell (j := 1) rfl
            have Y_2 := Y.cell (j := 2) rfl
            have Y_3 := Y.cell (j := 3) rfl
            have Y_4 := Y.cell (j := 4) rfl
            have Y_5 := Y.cell (j := 5) rfl
            have Yf0 := Y.frozen 0
            have Yf1 := Y.frozen 1
            have Yf2 := Y.frozen 2
            have Yf3 := Y.frozen 3
            have Yf4 := Y.frozen 4
            have Yf5 := Y.frozen 5
            refine wpAnyH_ready (rs := [15]) (by kernel_rfl) (by simp) ?_
            refine AllReadyH.cons rfl (fun K hK => ?_) AllReadyH.nil
            go_simp
            have hkn : Kx [g13] ws ((((((ws.setCell ⟨g13, 0, none⟩ (.int .i64 x1)).setCell ⟨g13, 1, none⟩ (.int .i64 x2)).setCell ⟨g13, 2, none⟩ (.int .i64 x3)).setCell ⟨g13, 3, none⟩ (.int .i64 x4)).setCell ⟨g13, 4, none⟩ (.int .i64 x5)).setCell ⟨g13, 5, none⟩ (.string x6)) := Kx.setCells [.int .i64 x1, .int .i64 x2, .int .i64 x3, .int .i64 x4, .int .i64 x5, .string x6] 0 _ (Kx.refl _ _) (.inl (by simp))
            replace X13 : Blk ((((((ws.setCell ⟨g13, 0, none⟩ (.int .i64 x1)).setCell ⟨g13, 1, none⟩ (.int .i64 x2)).setCell ⟨g13, 2, none⟩ (.int .i64 x3)).setCell ⟨g13, 3, none⟩ (.int .i64 x4)).setCell ⟨g13, 4, none⟩ (.int .i64 x5)).setCell ⟨g13, 5, none⟩ (.string x6)) g13 33 [.int .i64 x1, .int .i64 x2, .int .i64 x3, .int .i64 x4, .int .i64 x5, .string x6] := Blk.puts [.int .i64 x1, .int .i64 x2, .int .i64 x3, .int .i64 x4, .int .i64 x5, .string x6] X13 rfl
            replace X12 := X12.kx hkn (by first | (simp; done) | (simp; omega))
            replace hS := hS.kx hkn (by first | (simp; done) | (simp; omega))
            generalize (((((ws.setCell ⟨g13, 0, none⟩ (.int .i64 x1)).setCell ⟨g13, 1, none⟩ (.int .i64 x2)).setCell ⟨g13, 2, none⟩ (.int .i64 x3)).setCell ⟨g13, 3, none⟩ (.int .i64 x4)).setCell ⟨g13, 4, none⟩ (.int .i64 x5)).setCell ⟨g13, 5, none⟩ (.string x6) = wt at *
            replace D' := D'.kx hkn (fun k hk => by have := o13 k hk; simp; omega)
            clear hkn
            refine hK.out _ _ (hS) (fun hS => ?_)
            clear hK K
            refine wpAnyH_ready (rs := [16]) (by kernel_rfl) (by simp) ?_
            refine AllReadyH.cons rfl (fun K hK => ?_) AllReadyH.nil
            go_simp
            refine hK.out _ _ (hS) (fun hS => ?_)
            clear hK K
            refine wpAnyH_ready (rs := [17]) (by kernel_rfl) (by simp) ?_
            refine AllReadyH.cons rfl (fun K hK => ?_) AllReadyH.nil
            go_simp
            refine hK.out _ _ (hS) (fun hS => ?_)
            clear hK K
            refine wpAnyH_done (by kernel_rfl) ?_ _
            go_wp2_with fail
            go_meet
            exact ⟨g12, g13, a2, c2, rfl, rfl, rfl, rfl, h12, h13, X12, X13, D', hdis, hdr, hS⟩
          ·
            go_simp
            obtain ⟨g13, hg13⟩ : ∃ gg, wz.heap.size = gg := ⟨_, rfl⟩
            have X13 := Blk.newV hg13 33 #[.int .i64 0, .int .i64 0, .int .i64 0, .int .i64 0, .int .i64 0, .string ⟨#[]⟩]
            have h13 : h8 ≤ g13 := by have := hS.size; omega
            have hba := (Below.refl wz.heap.size wz).alloc (Nat.le_refl _) (.cells #[.int .i64 0, .int .i64 0, .int .i64 0, .int .i64 0, .int .i64 0, .string ⟨#[]⟩] 33)
            have o13 : ∀ k, (Value.slice a2 tx.L.length c2).ownBlock = some k → k ≠ g13 := fun k hk => by have := (D'.row.lt k hk).2; omega
            replace D' := D'.step hba
            refine hK.out _ _ (hS.step hba) (fun hS => ?_)
            rw [hg13]
            generalize wz.alloc (.cells #[.int .i64 0, .int .i64 0, .int .i64 0, .int .i64 0, .int .i64 0, .string ⟨#[]⟩] 33) = wb at *
            clear hg13 hba
            clear hK K
            refine wpAnyH_ready (rs := [12]) (by kernel_rfl) (by simp) ?_
            refine AllReadyH.cons rfl (fun K hK => ?_) AllReadyH.nil
            go_simp
            obtain ⟨g12, hg12⟩ : ∃ gg, wb.heap.size = gg := ⟨_, rfl⟩
            have X12 := Blk.newV hg12 49 #[.int .i64 0, .slice none 0 0]
            have h12 : h8 ≤ g12 := by have := hS.size; omega
            have hba := (Below.refl wb.heap.size wb).alloc (Nat.le_refl _) (.cells #[.int .i64 0, .slice none 0 0] 49)
            have o12 : ∀ k, (Value.slice a2 tx.L.length c2).ownBlock = some k → k ≠ g12 := fun k hk => by have := (D'.row.lt k hk).2; omega
            replace D' := D'.step hba
            have hne : g12 ≠ g13 := by have := X13.lt; omega
            replace X13 := X13.step hba
            refine hK.out _ _ (hS.step hba) (fun hS => ?_)
            rw [hg12]
            generalize wb.alloc (.cells #[.int .i64 0, .slice none 0 0] 49) = wa at *
            clear hg12 hba
            clear hK K
            clear R_0 R_1 z0 z1 z2 z3 cA
            have Z := X12
            have Z_0 := Z.cell (j := 0) rfl
            have Z_1 := Z.cell (j := 1) rfl
            have Zf0 := Z.frozen 0
            have Zf1 := Z.frozen 1
            refine wpAnyH_ready (rs := [14]) (by kernel_rfl) (by simp) ?_
            refine AllReadyH.cons rfl (fun K hK => ?_) AllReadyH.nil
            go_simp
            have hkn : Kx [g12] wa ((wa.setCell ⟨g12, 0, none⟩ (.int .i64 tx.sl)).setCell ⟨g12, 1, none⟩ (.slice a2 tx.L.length c2)) := Kx.setCells [.int .i64 tx.sl, .slice a2 tx.L.length c2] 0 _ (Kx.refl _ _) (.inl (by simp))
            replace X12 : Blk ((wa.setCell ⟨g12, 0, none⟩ (.int .i64 tx.sl)).setCell ⟨g12, 1, none⟩ (.slice a2 tx.L.length c2)) g12 49 [.int .i64 tx.sl, .slice a2 tx.L.length c2] := Blk.puts [.int .i64 tx.sl, .slice a2 tx.L.length c2] X12 rfl
            replace X13 := X13.kx hkn (by first | (simp; done) | (simp; omega))
            replace hS := hS.kx hkn (by first | (simp; done) | (simp; omega))
            generalize (wa.setCell ⟨g12, 0, none⟩ (.int .i64 tx.sl)).setCell ⟨g12, 1, none⟩ (.slice a2 tx.L.length c2) = ws at *
            replace D' := D'.kx hkn (fun k hk => by have := o12 k hk; simp; omega)
            clear hkn
            refine hK.out _ _ (hS) (fun hS => ?_)
            clear hK K
            have Y := X13
            have Y_0 := Y.cell (j := 0) rfl
            have Y_1 := Y.cell (j := 1) rfl
            have Y_2 := Y.cell (j := 2) rfl
            have Y_3 := Y.cell (j := 3) rfl
            have Y_4 := Y.cell (j := 4) rfl
            have Y_5 := Y.cell (j := 5) rfl
            have Yf0 := Y.frozen 0
            have Yf1 := Y.frozen 1
            have Yf2 := Y.frozen 2
            have Yf3 := Y.frozen 3
            have Yf4 := Y.frozen 4
            have Yf5 := Y.frozen 5
            refine wpAnyH_ready (rs := [15]) (by kernel_rfl) (by simp) ?_
            refine AllReadyH.cons rfl (fun K hK => ?_) AllReadyH.nil
            go_simp
            have hkn : Kx [g13] ws ((((((ws.setCell ⟨g13, 0, none⟩ (.int .i64 x1)).setCell ⟨g13, 1, none⟩ (.int .i64 x2)).setCell ⟨g13, 2, none⟩ (.int .i64 x3)).setCell ⟨g13, 3, none⟩ (.int .i64 x4)).setCell ⟨g13, 4, none⟩ (.int .i64 x5)).setCell ⟨g13, 5, none⟩ (.string x6)) := Kx.setCells [.int .i64 x1, .int .i64 x2, .int .i64 x3, .int .i64 x4, .int .i64 x5, .string x6] 0 _ (Kx.refl _ _) (.inl (by simp))
            replace X13 : Blk ((((((ws.setCell ⟨g13, 0, none⟩ (.int .i64 x1)).setCell ⟨g13, 1, none⟩ (.int .i64 x2)).setCell ⟨g13, 2, none⟩ (.int .i64 x3)).setCell ⟨g13, 3, none⟩ (.int .i64 x4)).setCell ⟨g13, 4, none⟩ (.int .i64 x5)).setCell ⟨g13, 5, none⟩ (.string x6)) g13 33 [.int .i64 x1, .int .i64 x2, .int .i64 x3, .int .i64 x4, .int .i64 x5, .string x6] := Blk.puts [.int .i64 x1, .int .i64 x2, .int .i64 x3, .int .i64 x4, .int .i64 x5, .string x6] X13 rfl
            replace X12 := X12.kx hkn (by first | (simp; done) | (simp; omega))
            replace hS := hS.kx hkn (by first | (simp; done) | (simp; omega))
            generalize (((((ws.setCell ⟨g13, 0, none⟩ (.int .i64 x1)).setCell ⟨g13, 1, none⟩ (.int .i64 x2)).setCell ⟨g13, 2, none⟩ (.int .i64 x3)).setCell ⟨g13, 3, none⟩ (.int .i64 x4)).setCell ⟨g13, 4, none⟩ (.int .i64 x5)).setCell ⟨g13, 5, none⟩ (.string x6) = wt at *
            replace D' := D'.kx hkn (fun k hk => by have := o13 k hk; simp; omega)
            clear hkn
            refine hK.out _ _ (hS) (fun hS => ?_)
            clear hK K
            refine wpAnyH_ready (rs := [16]) (by kernel_rfl) (by simp) ?_
            refine AllReadyH.cons rfl (fun K hK => ?_) AllReadyH.nil
            go_simp
            refine hK.out _ _ (hS) (fun hS => ?_)
            clear hK K
            refine wpAnyH_ready (rs := [17]) (by kernel_rfl) (by simp) ?_
            refine AllReadyH.cons rfl (fun K hK => ?_) AllReadyH.nil
            go_simp
            refine hK.out _ _ (hS) (fun hS => ?_)
            clear hK K
            refine wpAnyH_done (by kernel_rfl) ?_ _
            go_wp2_with fail
            go_meet
            exact ⟨g12, g13, a2, c2, rfl, rfl, rfl, rfl, h12, h13, X12, X13, D', hdis, hdr, hS⟩
        ·
          go_simp
          obtain ⟨g12, hg12⟩ : ∃ gg, wq.heap.size = gg := ⟨_, rfl⟩
          have X12 := Blk.newV hg12 49 #[.int .i64 0, .slice none 0 0]
          have h12 : h8 ≤ g12 := by have := hS.size; omega
          have hba := (Below.refl wq.heap.size wq).alloc (Nat.le_refl _) (.cells #[.int .i64 0, .slice none 0 0] 49)
          refine hK.out _ _ (hS.step hba) (fun hS => ?_)
          rw [hg12]
          generalize wq.alloc (.cells #[.int .i64 0, .slice none 0 0] 49) = wa at *
          clear hg12 hba
          clear hK K
          refine wpAnyH_ready (rs := [6, 13]) (by kernel_rfl) (by simp) ?_
          refine AllReadyH.cons rfl (fun K hK => ?_) (AllReadyH.cons rfl (fun K hK => ?_) AllReadyH.nil)
          ·
            go_simp
            refine (cA _ hS).mono ?_
            rintro e wz ⟨⟨sv', rfl, D', ho⟩, hbz⟩
            obtain ⟨a2, c2, rfl⟩ := D'.sl
            have hdis : ∀ k, (Value.slice a2 tx.L.length c2).ownBlock = some k → k ∉ g :: v.ownBlock.toList := fun k hk => by
              rcases ho with e | e
              · exact HDis.out k (e ▸ hk)
              · exact off_high hWlt (by have := e k hk; have := hS.size; omega)
            have hdr : ∀ k, (Value.slice a2 tx.L.length c2).ownBlock = some k → k ≠ gR := fun k hk => by
              rcases ho with e | e
              · exact HDR.out k (e ▸ hk)
              · have := e k hk; have := hS.size; omega
            have o12 : ∀ k, (Value.slice a2 tx.L.length c2).ownBlock = some k → k ≠ g12 := fun k hk => by
              rcases ho with e | e
              · have := hDlt k (e ▸ hk); omega
              · have := e k hk; have := X12.lt; omega
            clear ho
            replace X12 := X12.step hbz
            refine hK.out _ _ (hS.step hbz) (fun hS => ?_)
            clear hK K
            refine wpAnyH_take (i := 7) (v := ?_) rfl (by kernel_rfl) (by kernel_rfl) (by kernel_rfl) (fun _ _ _ h => h) (Or.inl ⟨by kernel_rfl, ?_⟩) hS ?_
            rotate_left
            · intro W hSW
              go_simp
              try with_reducible rfl
            dsimp only [Act.put]
            refine wpAnyH_take (i := 8) (v := ?_) rfl (by kernel_rfl) (by kernel_rfl) (by kernel_rfl) (fun _ _ _ h => h) (Or.inl ⟨by kernel_rfl, ?_⟩) hS ?_
            rotate_left
            · intro W hSW
              go_simp
              try with_reducible rfl
            dsimp only [Act.put]
            refine wpAnyH_take (i := 9) (v := ?_) rfl (by kernel_rfl) (by kernel_rfl) (by kernel_rfl) (fun _ _ _ h => h) (Or.inl ⟨by kernel_rfl, ?_⟩) hS ?_
            rotate_left
            · intro W hSW
              go_simp
              try with_reducible rfl
            dsimp only [Act.put]
            refine wpAnyH_take (i := 10) (v := ?_) rfl (by kernel_rfl) (by kernel_rfl) (by kernel_rfl) (fun _ _ _ h => h) (Or.inl ⟨by kernel_rfl, ?_⟩) hS ?_
            rotate_left
            · intro W hSW
              go_simp
              try with_reducible rfl
            dsimp only [Act.put]
            refine wpAnyH_take (i := 11) (v := ?_) rfl (by kernel_rfl) (by kernel_rfl) (by kernel_rfl) (fun _ _ _ h => h) (Or.inl ⟨by kernel_rfl, ?_⟩) hS ?_
            rotate_left
            · intro W hSW
              go_simp
              try with_reducible rfl
            dsimp only [Act.put]
            refine wpAnyH_ready (rs := [13]) (by kernel_rfl) (by simp) ?_
            refine AllReadyH.cons rfl (fun K hK => ?_) AllReadyH.nil
            go_simp
            obtain ⟨g13, hg13⟩ : ∃ gg, wz.heap.size = gg := ⟨_, rfl⟩
            have X13 := Blk.newV hg13 33 #[.int .i64 0, .int .i64 0, .int .i64 0, .int .i64 0, .int .i64 0, .string ⟨#[]⟩]
            have h13 : h8 ≤ g13 := by have := hS.size; omega
            have hba := (Below.refl wz.heap.size wz).alloc (Nat.le_refl _) (.cells #[.int .i64 0, .int .i64 0, .int .i64 0, .int .i64 0, .int .i64 0, .string ⟨#[]⟩] 33)
            have o13 : ∀ k, (Value.slice a2 tx.L.length c2).ownBlock = some k → k ≠ g13 := fun k hk => by have := (D'.row.lt k hk).2; omega
            replace D' := D'.step hba
            have hne : g12 ≠ g13 := by have := X12.lt; omega
            replace X12 := X12.step hba
            refine hK.out _ _ (hS.step hba) (fun hS => ?_)
            rw [hg13]
            generalize wz.alloc (.cells #[.int .i64 0, .int .i64 0, .int .i64 0, .int .i64 0, .int .i64 0, .string ⟨#[]⟩] 33) = wb at *
            clear hg13 hba
            clear hK K
            clear R_0 R_1 z0 z1 z2 z3 cA
            have Z := X12
            have Z_0 := Z.cell (j := 0) rfl
            have Z_1 := Z.cell (j := 1) rfl
            have Zf0 := Z.frozen 0
            have Zf1 := Z.frozen 1
            refine wpAnyH_ready (rs := [14]) (by kernel_rfl) (by simp) ?_
            refine AllReadyH.cons rfl (fun K hK => ?_) AllReadyH.nil
            go_simp
            have hkn : Kx [g12] wb ((wb.setCell ⟨g12, 0, none⟩ (.int .i64 tx.sl)).setCell ⟨g12, 1, none⟩ (.slice a2 tx.L.length c2)) := Kx.setCells [.int .i64 tx.sl, .slice a2 tx.L.length c2] 0 _ (Kx.refl _ _) (.inl (by simp))
            replace X12 : Blk ((wb.setCell ⟨g12, 0, none⟩ (.int .i64 tx.sl)).setCell ⟨g12, 1, none⟩ (.slice a2 tx.L.length c2)) g12 49 [.int .i64 tx.sl, .slice a2 tx.L.length c2] := Blk.puts [.int .i64 tx.sl, .slice a2 tx.L.length c2] X12 rfl
            replace X13 := X13.kx hkn (by first | (simp; done) | (simp; omega))
            replace hS := hS.kx hkn (by first | (simp; done) | (simp; omega))
            generalize (wb.setCell ⟨g12, 0, none⟩ (.int .i64 tx.sl)).setCell ⟨g12, 1, none⟩ (.slice a2 tx.L.length c2) = ws at *
            replace D' := D'.kx hkn (fun k hk => by have := o12 k hk; simp; omega)
            clear hkn
            refine hK.out _ _ (hS) (fun hS => ?_)
            clear hK K
            have Y := X13
            have Y_0 := Y.cell (j := 0) rfl
            have Y_1 := Y.cell (j := 1) rfl
            have Y_2 := Y.cell (j := 2) rfl
            have Y_3 := Y.cell (j := 3) rfl
            have Y_4 := Y.cell (j := 4) rfl
            have Y_5 := Y.cell (j := 5) rfl
            have Yf0 := Y.frozen 0
            have Yf1 := Y.frozen 1
            have Yf2 := Y.frozen 2
            have Yf3 := Y.frozen 3
            have Yf4 := Y.frozen 4
            have Yf5 := Y.frozen 5
            refine wpAnyH_ready (rs := [15]) (by kernel_rfl) (by simp) ?_
            refine AllReadyH.cons rfl (fun K hK => ?_) AllReadyH.nil
            go_simp
            have hkn : Kx [g13] ws ((((((ws.setCell ⟨g13, 0, none⟩ (.int .i64 x1)).setCell ⟨g13, 1, none⟩ (.int .i64 x2)).setCell ⟨g13, 2, none⟩ (.int .i64 x3)).setCell ⟨g13, 3, none⟩ (.int .i64 x4)).setCell ⟨g13, 4, none⟩ (.int .i64 x5)).setCell ⟨g13, 5, none⟩ (.string x6)) := Kx.setCells [.int .i64 x1, .int .i64 x2, .int .i64 x3, .int .i64 x4, .int .i64 x5, .string x6] 0 _ (Kx.refl _ _) (.inl (by simp))
            replace X13 : Blk ((((((ws.setCell ⟨g13, 0, none⟩ (.int .i64 x1)).setCell ⟨g13, 1, none⟩ (.int .i64 x2)).setCell ⟨g13, 2, none⟩ (.int .i64 x3)).setCell ⟨g13, 3, none⟩ (.int .i64 x4)).setCell ⟨g13, 4, none⟩ (.int .i64 x5)).setCell ⟨g13, 5, none⟩ (.string x6)) g13 33 [.int .i64 x1, .int .i64 x2, .int .i64 x3, .int .i64 x4, .int .i64 x5, .string x6] := Blk.puts [.int .i64 x1, .int .i64 x2, .int .i64 x3, .int .i64 x4, .int .i64 x5, .string x6] X13 rfl
            replace X12 := X12.kx hkn (by first | (simp; done) | (simp; omega))
            replace hS := hS.kx hkn (by first | (simp; done) | (simp; omega))
            generalize (((((ws.setCell ⟨g13, 0, none⟩ (.int .i64 x1)).setCell ⟨g13, 1, none⟩ (.int .i64 x2)).setCell ⟨g13, 2, none⟩ (.int .i64 x3)).setCell ⟨g13, 3, none⟩ (.int .i64 x4)).setCell ⟨g13, 4, none⟩ (.int .i64 x5)).setCell ⟨g13, 5, none⟩ (.string x6) = wt at *
            replace D' := D'.kx hkn (fun k hk => by have := o13 k hk; simp; omega)
            clear hkn
            refine hK.out _ _ (hS) (fun hS => ?_)
            clear hK K
            refine wpAnyH_ready (rs := [16]) (by kernel_rfl) (by simp) ?_
            refine AllReadyH.cons rfl (fun K hK => ?_) AllReadyH.nil
            go_simp
            refine hK.out _ _ (hS) (fun hS => ?_)
            clear hK K
            refine wpAnyH_ready (rs := [17]) (by kernel_rfl) (by simp) ?_
            refine AllReadyH.cons rfl (fun K hK => ?_) AllReadyH.nil
            go_simp
            refine hK.out _ _ (hS) (fun hS => ?_)
            clear hK K
            refine wpAnyH_done (by kernel_rfl) ?_ _
            go_wp2_with fail
            go_meet
            exact ⟨g12, g13, a2, c2, rfl, rfl, rfl, rfl, h12, h13, X12, X13, D', hdis, hdr, hS⟩
          ·
            go_simp
            obtain ⟨g13, hg13⟩ : ∃ gg, wa.heap.size = gg := ⟨_, rfl⟩
            have X13 := Blk.newV hg13 33 #[.int .i64 0, .int .i64 0, .int .i64 0, .int .i64 0, .int .i64 0, .string ⟨#[]⟩]
            have h13 : h8 ≤ g13 := by have := hS.size; omega
            have hba := (Below.refl wa.heap.size wa).alloc (Nat.le_refl _) (.cells #[.int .i64 0, .int .i64 0, .int .i64 0, .int .i64 0, .int .i64 0, .string ⟨#[]⟩] 33)
            have hne : g12 ≠ g13 := by have := X12.lt; omega
            replace X12 := X12.step hba
            refine hK.out _ _ (hS.step hba) (fun hS => ?_)
            rw [hg13]
            generalize wa.alloc (.cells #[.int .i64 0, .int .i64 0, .int .i64 0, .int .i64 0, .int .i64 0, .string ⟨#[]⟩] 33) = wb at *
            clear hg13 hba
            clear hK K
            refine wpAnyH_ready (rs := [6]) (by kernel_rfl) (by simp) ?_
            refine AllReadyH.cons rfl (fun K hK => ?_) AllReadyH.nil
            go_simp
            refine (cA _ hS).mono ?_
            rintro e wz ⟨⟨sv', rfl, D', ho⟩, hbz⟩
            obtain ⟨a2, c2, rfl⟩ := D'.sl
            have hdis : ∀ k, (Value.slice a2 tx.L.length c2).ownBlock = some k → k ∉ g :: v.ownBlock.toList := fun k hk => by
              rcases ho with e | e
              · exact HDis.out k (e ▸ hk)
              · exact off_high hWlt (by have := e k hk; have := hS.size; omega)
            have hdr : ∀ k, (Value.slice a2 tx.L.length c2).ownBlock = some k → k ≠ gR := fun k hk => by
              rcases ho with e | e
              · exact HDR.out k (e ▸ hk)
              · have := e k hk; have := hS.size; omega
            have o12 : ∀ k, (Value.slice a2 tx.L.length c2).ownBlock = some k → k ≠ g12 := fun k hk => by
              rcases ho with e | e
              · have := hDlt k (e ▸ hk); omega
              · have := e k hk; have := X12.lt; omega
            have o13 : ∀ k, (Value.slice a2 tx.L.length c2).ownBlock = some k → k ≠ g13 := fun k hk => by
              rcases ho with e | e
              · have := hDlt k (e ▸ hk); omega
              · have := e k hk; have := X13.lt; omega
            clear ho
            replace X12 := X12.step hbz
            replace X13 := X13.step hbz
            refine hK.out _ _ (hS.step hbz) (fun hS => ?_)
            clear hK K
            refine wpAnyH_take (i := 7) (v := ?_) rfl (by kernel_rfl) (by kernel_rfl) (by kernel_rfl) (fun _ _ _ h => h) (Or.inl ⟨by kernel_rfl, ?_⟩) hS ?_
            rotate_left
            · intro W hSW
              go_simp
              try with_reducible rfl
            dsimp only [Act.put]
            refine wpAnyH_take (i := 8) (v := ?_) rfl (by kernel_rfl) (by kernel_rfl) (by kernel_rfl) (fun _ _ _ h => h) (Or.inl ⟨by kernel_rfl, ?_⟩) hS ?_
            rotate_left
            · intro W hSW
              go_simp
              try with_reducible rfl
            dsimp only [Act.put]
            refine wpAnyH_take (i := 9) (v := ?_) rfl (by kernel_rfl) (by kernel_rfl) (by kernel_rfl) (fun _ _ _ h => h) (Or.inl ⟨by kernel_rfl, ?_⟩) hS ?_
            rotate_left
            · intro W hSW
              go_simp
              try with_reducible rfl
            dsimp only [Act.put]
            refine wpAnyH_take (i := 10) (v := ?_) rfl (by kernel_rfl) (by kernel_rfl) (by kernel_rfl) (fun _ _ _ h => h) (Or.inl ⟨by kernel_rfl, ?_⟩) hS ?_
            rotate_left
            · intro W hSW
              go_simp
              try with_reducible rfl
            dsimp only [Act.put]
            refine wpAnyH_take (i := 11) (v := ?_) rfl (by kernel_rfl) (by kernel_rfl) (by kernel_rfl) (fun _ _ _ h => h) (Or.inl ⟨by kernel_rfl, ?_⟩) hS ?_
            rotate_left
            · intro W hSW
              go_simp
              try with_reducible rfl
            dsimp only [Act.put]
            clear R_0 R_1 z0 z1 z2 z3 cA
            have Z := X12
            have Z_0 := Z.cell (j := 0) rfl
            have Z_1 := Z.cell (j := 1) rfl
            have Zf0 := Z.frozen 0
            have Zf1 := Z.frozen 1
            refine wpAnyH_ready (rs := [14]) (by kernel_rfl) (by simp) ?_
            refine AllReadyH.cons rfl (fun K hK => ?_) AllReadyH.nil
            go_simp
            have hkn : Kx [g12] wz ((wz.setCell ⟨g12, 0, none⟩ (.int .i64 tx.sl)).setCell ⟨g12, 1, none⟩ (.slice a2 tx.L.length c2)) := Kx.setCells [.int .i64 tx.sl, .slice a2 tx.L.length c2] 0 _ (Kx.refl _ _) (.inl (by simp))
            replace X12 : Blk ((wz.setCell ⟨g12, 0, none⟩ (.int .i64 tx.sl)).setCell ⟨g12, 1, none⟩ (.slice a2 tx.L.length c2)) g12 49 [.int .i64 tx.sl, .slice a2 tx.L.length c2] := Blk.puts [.int .i64 tx.sl, .slice a2 tx.L.length c2] X12 rfl
            replace X13 := X13.kx hkn (by first | (simp; done) | (simp; omega))
            replace hS := hS.kx hkn (by first | (simp; done) | (simp; omega))
            generalize (wz.setCell ⟨g12, 0, none⟩ (.int .i64 tx.sl)).setCell ⟨g12, 1, none⟩ (.slice a2 tx.L.length c2) = ws at *
            replace D' := D'.kx hkn (fun k hk => by have := o12 k hk; simp; omega)
            clear hkn
            refine hK.out _ _ (hS) (fun hS => ?_)
            clear hK K
            have Y := X13
            have Y_0 := Y.cell (j := 0) rfl
            have Y_1 := Y.cell (j := 1) rfl
            have Y_2 := Y.cell (j := 2) rfl
            have Y_3 := Y.cell (j := 3) rfl
            have Y_4 := Y.cell (j := 4) rfl
            have Y_5 := Y.cell (j := 5) rfl
            have Yf0 := Y.frozen 0
            have Yf1 := Y.frozen 1
            have Yf2 := Y.frozen 2
            have Yf3 := Y.frozen 3
            have Yf4 := Y.frozen 4
            have Yf5 := Y.frozen 5
            refine wpAnyH_ready (rs := [15]) (by kernel_rfl) (by simp) ?_
            refine AllReadyH.cons rfl (fun K hK => ?_) AllReadyH.nil
            go_simp
            have hkn : Kx [g13] ws ((((((ws.setCell ⟨g13, 0, none⟩ (.int .i64 x1)).setCell ⟨g13, 1, none⟩ (.int .i64 x2)).setCell ⟨g13, 2, none⟩ (.int .i64 x3)).setCell ⟨g13, 3, none⟩ (.int .i64 x4)).setCell ⟨g13, 4, none⟩ (.int .i64 x5)).setCell ⟨g13, 5, none⟩ (.string x6)) := Kx.setCells [.int .i64 x1, .int .i64 x2, .int .i64 x3, .int .i64 x4, .int .i64 x5, .string x6] 0 _ (Kx.refl _ _) (.inl (by simp))
            replace X13 : Blk ((((((ws.setCell ⟨g13, 0, none⟩ (.int .i64 x1)).setCell ⟨g13, 1, none⟩ (.int .i64 x2)).setCell ⟨g13, 2, none⟩ (.int .i64 x3)).setCell ⟨g13, 3, none⟩ (.int .i64 x4)).setCell ⟨g13, 4, none⟩ (.int .i64 x5)).setCell ⟨g13, 5, none⟩ (.string x6)) g13 33 [.int .i64 x1, .int .i64 x2, .int .i64 x3, .int .i64 x4, .int .i64 x5, .string x6] := Blk.puts [.int .i64 x1, .int .i64 x2, .int .i64 x3, .int .i64 x4, .int .i64 x5, .string x6] X13 rfl
            replace X12 := X12.kx hkn (by first | (simp; done) | (simp; omega))
            replace hS := hS.kx hkn (by first | (simp; done) | (simp; omega))
            generalize (((((ws.setCell ⟨g13, 0, none⟩ (.int .i64 x1)).setCell ⟨g13, 1, none⟩ (.int .i64 x2)).setCell ⟨g13, 2, none⟩ (.int .i64 x3)).setCell ⟨g13, 3, none⟩ (.int .i64 x4)).setCell ⟨g13, 4, none⟩ (.int .i64 x5)).setCell ⟨g13, 5, none⟩ (.string x6) = wt at *
            replace D' := D'.kx hkn (fun k hk => by have := o13 k hk; simp; omega)
            clear hkn
            refine hK.out _ _ (hS) (fun hS => ?_)
            clear hK K
            refine wpAnyH_ready (rs := [16]) (by kernel_rfl) (by simp) ?_
            refine AllReadyH.cons rfl (fun K hK => ?_) AllReadyH.nil
            go_simp
            refine hK.out _ _ (hS) (fun hS => ?_)
            clear hK K
            refine wpAnyH_ready (rs := [17]) (by kernel_rfl) (by simp) ?_
            refine AllReadyH.cons rfl (fun K hK => ?_) AllReadyH.nil
            go_simp
            refine hK.out _ _ (hS) (fun hS => ?_)
            clear hK K
            refine wpAnyH_done (by kernel_rfl) ?_ _
            go_wp2_with fail
            go_meet
            exact ⟨g12, g13, a2, c2, rfl, rfl, rfl, rfl, h12, h13, X12, X13, D', hdis, hdr, hS⟩
        ·
          go_simp
          obtain ⟨g13, hg13⟩ : ∃ gg, wq.heap.size = gg := ⟨_, rfl⟩
          have X13 := Blk.newV hg13 33 #[.int .i64 0, .int .i64 0, .int .i64 0, .int .i64 0, .int .i64 0, .string ⟨#[]⟩]
          have h13 : h8 ≤ g13 := by have := hS.size; omega
          have hba := (Below.refl wq.heap.size wq).alloc (Nat.le_refl _) (.cells #[.int .i64 0, .int .i64 0, .int .i64 0, .int .i64 0, .int .i64 0, .string ⟨#[]⟩] 33)
          refine hK.out _ _ (hS.step hba) (fun hS => ?_)
          rw [hg13]
          generalize wq.alloc (.cells #[.int .i64 0, .int .i64 0, .int .i64 0, .int .i64 0, .int .i64 0, .string ⟨#[]⟩] 33) = wb at *
          clear hg13 hba
          clear hK K
          refine wpAnyH_ready (rs := [6, 12]) (by kernel_rfl) (by simp) ?_
          refine AllReadyH.cons rfl (fun K hK => ?_) (AllReadyH.cons rfl (fun K hK => ?_) AllReadyH.nil)
          ·
            go_simp
            refine (cA _ hS).mono ?_
            rintro e wz ⟨⟨sv', rfl, D', ho⟩, hbz⟩
            obtain ⟨a2, c2, rfl⟩ := D'.sl
            have hdis : ∀ k, (Value.slice a2 tx.L.length c2).ownBlock = some k → k ∉ g :: v.ownBlock.toList := fun k hk => by
              rcases ho with e | e
              · exact HDis.out k (e ▸ hk)
              · exact off_high hWlt (by have := e k hk; have := hS.size; omega)
            have hdr : ∀ k, (Value.slice a2 tx.L.length c2).ownBlock = some k → k ≠ gR := fun k hk => by
              rcases ho with e | e
              · exact HDR.out k (e ▸ hk)
              · have := e k hk; have := hS.size; omega
            have o13 : ∀ k, (Value.slice a2 tx.L.length c2).ownBlock = some k → k ≠ g13 := fun k hk => by
              rcases ho with e | e
              · have := hDlt k (e ▸ hk); omega
              · have := e k hk; have := X13.lt; omega
            clear ho
            replace X13 := X13.step hbz
            refine hK.out _ _ (hS.step hbz) (fun hS => ?_)
            clear hK K
            refine wpAnyH_take (i := 7) (v := ?_) rfl (by kernel_rfl) (by kernel_rfl) (by kernel_rfl) (fun _ _ _ h => h) (Or.inl ⟨by kernel_rfl, ?_⟩) hS ?_
            rotate_left
            · intro W hSW
              go_simp
              try with_reducible rfl
            dsimp only [Act.put]
            refine wpAnyH_take (i := 8) (v := ?_) rfl (by kernel_rfl) (by kernel_rfl) (by kernel_rfl) (fun _ _ _ h => h) (Or.inl ⟨by kernel_rfl, ?_⟩) hS ?_
            rotate_left
            · intro W hSW
              go_simp
              try with_reducible rfl
            dsimp only [Act.put]
            refine wpAnyH_take (i := 9) (v := ?_) rfl (by kernel_rfl) (by kernel_rfl) (by kernel_rfl) (fun _ _ _ h => h) (Or.inl ⟨by kernel_rfl, ?_⟩) hS ?_
            rotate_left
            · intro W hSW
              go_simp
              try with_reducible rfl
            dsimp only [Act.put]
            refine wpAnyH_take (i := 10) (v := ?_) rfl (by kernel_rfl) (by kernel_rfl) (by kernel_rfl) (fun _ _ _ h => h) (Or.inl ⟨by kernel_rfl, ?_⟩) hS ?_
            rotate_left
            · intro W hSW
              go_simp
              try with_reducible rfl
            dsimp only [Act.put]
            refine wpAnyH_take (i := 11) (v := ?_) rfl (by kernel_rfl) (by kernel_rfl) (by kernel_rfl) (fun _ _ _ h => h) (Or.inl ⟨by kernel_rfl, ?_⟩) hS ?_
            rotate_left
            · intro W hSW
              go_simp
              try with_reducible rfl
            dsimp only [Act.put]
            refine wpAnyH_ready (rs := [12]) (by kernel_rfl) (by simp) ?_
            refine AllReadyH.cons rfl (fun K hK => ?_) AllReadyH.nil
            go_simp
            obtain ⟨g12, hg12⟩ : ∃ gg, wz.heap.size = gg := ⟨_, rfl⟩
            have X12 := Blk.newV hg12 49 #[.int .i64 0, .slice none 0 0]
            have h12 : h8 ≤ g12 := by have := hS.size; omega
            have hba := (Below.refl wz.heap.size wz).alloc (Nat.le_refl _) (.cells #[.int .i64 0, .slice none 0 0] 49)
            have o12 : ∀ k, (Value.slice a2 tx.L.length c2).ownBlock = some k → k ≠ g12 := fun k hk => by have := (D'.row.lt k hk).2; omega
            replace D' := D'.step hba
            have hne : g12 ≠ g13 := by have := X13.lt; omega
            replace X13 := X13.step hba
            refine hK.out _ _ (hS.step hba) (fun hS => ?_)
            rw [hg12]
            generalize wz.alloc (.cells #[.int .i64 0, .slice none 0 0] 49) = wa at *
            clear hg12 hba
            clear hK K
            clear R_0 R_1 z0 z1 z2 z3 cA
            have Z := X12
            have Z_0 := Z.cell (j := 0) rfl
            have Z_1 := Z.cell (j := 1) rfl
            have Zf0 := Z.frozen 0
            have Zf1 := Z.frozen 1
            refine wpAnyH_ready (rs := [14]) (by kernel_rfl) (by simp) ?_
            refine AllReadyH.cons rfl (fun K hK => ?_) AllReadyH.nil
            go_simp
            have hkn : Kx [g12] wa ((wa.setCell ⟨g12, 0, none⟩ (.int .i64 tx.sl)).setCell ⟨g12, 1, none⟩ (.slice a2 tx.L.length c2)) := Kx.setCells [.int .i64 tx.sl, .slice a2 tx.L.length c2] 0 _ (Kx.refl _ _) (.inl (by simp))
            replace X12 : Blk ((wa.setCell ⟨g12, 0, none⟩ (.int .i64 tx.sl)).setCell ⟨g12, 1, none⟩ (.slice a2 tx.L.length c2)) g12 49 [.int .i64 tx.sl, .slice a2 tx.L.length c2] := Blk.puts [.int .i64 tx.sl, .slice a2 tx.L.length c2] X12 rfl
            replace X13 := X13.kx hkn (by first | (simp; done) | (simp; omega))
            replace hS := hS.kx hkn (by first | (simp; done) | (simp; omega))
            generalize (wa.setCell ⟨g12, 0, none⟩ (.int .i64 tx.sl)).setCell ⟨g12, 1, none⟩ (.slice a2 tx.L.length c2) = ws at *
            replace D' := D'.kx hkn (fun k hk => by have := o12 k hk; simp; omega)
            clear hkn
            refine hK.out _ _ (hS) (fun hS => ?_)
            clear hK K
            have Y := X13
            have Y_0 := Y.cell (j := 0) rfl
            have Y_1 := Y.cell (j := 1) rfl
            have Y_2 := Y.cell (j := 2) rfl
            have Y_3 := Y.cell (j := 3) rfl
            have Y_4 := Y.cell (j := 4) rfl
            have Y_5 := Y.cell (j := 5) rfl
            have Yf0 := Y.frozen 0
            have Yf1 := Y.frozen 1
            have Yf2 := Y.frozen 2
            have Yf3 := Y.frozen 3
            have Yf4 := Y.frozen 4
            have Yf5 := Y.frozen 5
            refine wpAnyH_ready (rs := [15]) (by kernel_rfl) (by simp) ?_
            refine AllReadyH.cons rfl (fun K hK => ?_) AllReadyH.nil
            go_simp
            have hkn : Kx [g13] ws ((((((ws.setCell ⟨g13, 0, none⟩ (.int .i64 x1)).setCell ⟨g13, 1, none⟩ (.int .i64 x2)).setCell ⟨g13, 2, none⟩ (.int .i64 x3)).setCell ⟨g13, 3, none⟩ (.int .i64 x4)).setCell ⟨g13, 4, none⟩ (.int .i64 x5)).setCell ⟨g13, 5, none⟩ (.string x6)) := Kx.setCells [.int .i64 x1, .int .i64 x2, .int .i64 x3, .int .i64 x4, .int .i64 x5, .string x6] 0 _ (Kx.refl _ _) (.inl (by simp))
            replace X13 : Blk ((((((ws.setCell ⟨g13, 0, none⟩ (.int .i64 x1)).setCell ⟨g13, 1, none⟩ (.int .i64 x2)).setCell ⟨g13, 2, none⟩ (.int .i64 x3)).setCell ⟨g13, 3, none⟩ (.int .i64 x4)).setCell ⟨g13, 4, none⟩ (.int .i64 x5)).setCell ⟨g13, 5, none⟩ (.string x6)) g13 33 [.int .i64 x1, .int .i64 x2, .int .i64 x3, .int .i64 x4, .int .i64 x5, .string x6] := Blk.puts [.int .i64 x1, .int .i64 x2, .int .i64 x3, .int .i64 x4, .int .i64 x5, .string x6] X13 rfl
            replace X12 := X12.kx hkn (by first | (simp; done) | (simp; omega))
            replace hS := hS.kx hkn (by first | (simp; done) | (simp; omega))
            generalize (((((ws.setCell ⟨g13, 0, none⟩ (.int .i64 x1)).setCell ⟨g13, 1, none⟩ (.int .i64 x2)).setCell ⟨g13, 2, none⟩ (.int .i64 x3)).setCell ⟨g13, 3, none⟩ (.int .i64 x4)).setCell ⟨g13, 4, none⟩ (.int .i64 x5)).setCell ⟨g13, 5, none⟩ (.string x6) = wt at *
            replace D' := D'.kx hkn (fun k hk => by have := o13 k hk; simp; omega)
            clear hkn
            refine hK.out _ _ (hS) (fun hS => ?_)
            clear hK K
            refine wpAnyH_ready (rs := [16]) (by kernel_rfl) (by simp) ?_
            refine AllReadyH.cons rfl (fun K hK => ?_) AllReadyH.nil
            go_simp
            refine hK.out _ _ (hS) (fun hS => ?_)
            clear hK K
            refine wpAnyH_ready (rs := [17]) (by kernel_rfl) (by simp) ?_
            refine AllReadyH.cons rfl (fun K hK => ?_) AllReadyH.nil
            go_simp
            refine hK.out _ _ (hS) (fun hS => ?_)
            clear hK K
            refine wpAnyH_done (by kernel_rfl) ?_ _
            go_wp2_with fail
            go_meet
            exact ⟨g12, g13, a2, c2, rfl, rfl, rfl, rfl, h12, h13, X12, X13, D', hdis, hdr, hS⟩
          ·
            go_simp
            obtain ⟨g12, hg12⟩ : ∃ gg, wb.heap.size = gg := ⟨_, rfl⟩
            have X12 := Blk.newV hg12 49 #[.int .i64 0, .slice none 0 0]
            have h12 : h8 ≤ g12 := by have := hS.size; omega
            have hba := (Below.refl wb.heap.size wb).alloc (Nat.le_refl _) (.cells #[.int .i64 0, .slice none 0 0] 49)
            have hne : g12 ≠ g13 := by have := X13.lt; omega
            replace X13 := X13.step hba
            refine hK.out _ _ (hS.step hba) (fun hS => ?_)
            rw [hg12]
            generalize wb.alloc (.cells #[.int .i64 0, .slice none 0 0] 49) = wa at *
            clear hg12 hba
            clear hK K
            refine wpAnyH_ready (rs := [6]) (by kernel_rfl) (by simp) ?_
            refine AllReadyH.cons rfl (fun K hK => ?_) AllReadyH.nil
            go_simp
            refine (cA _ hS).mono ?_
            rintro e wz ⟨⟨sv', rfl, D', ho⟩, hbz⟩
            obtain ⟨a2, c2, rfl⟩ := D'.sl
            have hdis : ∀ k, (Value.slice a2 tx.L.length c2).ownBlock = some k → k ∉ g :: v.ownBlock.toList := fun k hk => by
              rcases ho with e | e
              · exact HDis.out k (e ▸ hk)
              · exact off_high hWlt (by have := e k hk; have := hS.size; omega)
            have hdr : ∀ k, (Value.slice a2 tx.L.length c2).ownBlock = some k → k ≠ gR := fun k hk => by
              rcases ho with e | e
              · exact HDR.out k (e ▸ hk)
              · have := e k hk; have := hS.size; omega
            have o12 : ∀ k, (Value.slice a2 tx.L.length c2).ownBlock = some k → k ≠ g12 := fun k hk => by
              rcases ho with e | e
              · have := hDlt k (e ▸ hk); omega
              · have := e k hk; have := X12.lt; omega
            have o13 : ∀ k, (Value.slice a2 tx.L.length c2).ownBlock = some k → k ≠ g13 := fun k hk => by
              rcases ho with e | e
              · have := hDlt k (e ▸ hk); omega
              · have := e k hk; have := X13.lt; omega
            clear ho
            replace X12 := X12.step hbz
            replace X13 := X13.step hbz
            refine hK.out _ _ (hS.step hbz) (fun hS => ?_)
            clear hK K
            refine wpAnyH_take (i := 7) (v := ?_) rfl (by kernel_rfl) (by kernel_rfl) (by kernel_rfl) (fun _ _ _ h => h) (Or.inl ⟨by kernel_rfl, ?_⟩) hS ?_
            rotate_left
            · intro W hSW
              go_simp
              try with_reducible rfl
            dsimp only [Act.put]
            refine wpAnyH_take (i := 8) (v := ?_) rfl (by kernel_rfl) (by kernel_rfl) (by kernel_rfl) (fun _ _ _ h => h) (Or.inl ⟨by kernel_rfl, ?_⟩) hS ?_
            rotate_left
            · intro W hSW
              go_simp
              try with_reducible rfl
            dsimp only [Act.put]
            refine wpAnyH_take (i := 9) (v := ?_) rfl (by kernel_rfl) (by kernel_rfl) (by kernel_rfl) (fun _ _ _ h => h) (Or.inl ⟨by kernel_rfl, ?_⟩) hS ?_
            rotate_left
            · intro W hSW
              go_simp
              try with_reducible rfl
            dsimp only [Act.put]
            refine wpAnyH_take (i := 10) (v := ?_) rfl (by kernel_rfl) (by kernel_rfl) (by kernel_rfl) (fun _ _ _ h => h) (Or.inl ⟨by kernel_rfl, ?_⟩) hS ?_
            rotate_left
            · intro W hSW
              go_simp
              try with_reducible rfl
            dsimp only [Act.put]
            refine wpAnyH_take (i := 11) (v := ?_) rfl (by kernel_rfl) (by kernel_rfl) (by kernel_rfl) (fun _ _ _ h => h) (Or.inl ⟨by kernel_rfl, ?_⟩) hS ?_
            rotate_left
            · intro W hSW
              go_simp
              try with_reducible rfl
            dsimp only [Act.put]
            clear R_0 R_1 z0 z1 z2 z3 cA
            have Z := X12
            have Z_0 := Z.cell (j := 0) rfl
            have Z_1 := Z.cell (j := 1) rfl
            have Zf0 := Z.frozen 0
            have Zf1 := Z.frozen 1
            refine wpAnyH_ready (rs := [14]) (by kernel_rfl) (by simp) ?_
            refine AllReadyH.cons rfl (fun K hK => ?_) AllReadyH.nil
            go_simp
            have hkn : Kx [g12] wz ((wz.setCell ⟨g12, 0, none⟩ (.int .i64 tx.sl)).setCell ⟨g12, 1, none⟩ (.slice a2 tx.L.length c2)) := Kx.setCells [.int .i64 tx.sl, .slice a2 tx.L.length c2] 0 _ (Kx.refl _ _) (.inl (by simp))
            replace X12 : Blk ((wz.setCell ⟨g12, 0, none⟩ (.int .i64 tx.sl)).setCell ⟨g12, 1, none⟩ (.slice a2 tx.L.length c2)) g12 49 [.int .i64 tx.sl, .slice a2 tx.L.length c2] := Blk.puts [.int .i64 tx.sl, .slice a2 tx.L.length c2] X12 rfl
            replace X13 := X13.kx hkn (by first | (simp; done) | (simp; omega))
            replace hS := hS.kx hkn (by first | (simp; done) | (simp; omega))
            generalize (wz.setCell ⟨g12, 0, none⟩ (.int .i64 tx.sl)).setCell ⟨g12, 1, none⟩ (.slice a2 tx.L.length c2) = ws at *
            replace D' := D'.kx hkn (fun k hk => by have := o12 k hk; simp; omega)
            clear hkn
            refine hK.out _ _ (hS) (fun hS => ?_)
            clear hK K
            have Y := X13
            have Y_0 := Y.cell (j := 0) rfl
            have Y_1 := Y.cell (j := 1) rfl
            have Y_2 := Y.cell (j := 2) rfl
            have Y_3 := Y.cell (j := 3) rfl
            have Y_4 := Y.cell (j := 4) rfl
            have Y_5 := Y.cell (j := 5) rfl
            have Yf0 := Y.frozen 0
            have Yf1 := Y.frozen 1
            have Yf2 := Y.frozen 2
            have Yf3 := Y.frozen 3
            have Yf4 := Y.frozen 4
            have Yf5 := Y.frozen 5
            refine wpAnyH_ready (rs := [15]) (by kernel_rfl) (by simp) ?_
            refine AllReadyH.cons rfl (fun K hK => ?_) AllReadyH.nil
            go_simp
            have hkn : Kx [g13] ws ((((((ws.setCell ⟨g13, 0, none⟩ (.int .i64 x1)).setCell ⟨g13, 1, none⟩ (.int .i64 x2)).setCell ⟨g13, 2, none⟩ (.int .i64 x3)).setCell ⟨g13, 3, none⟩ (.int .i64 x4)).setCell ⟨g13, 4, none⟩ (.int .i64 x5)).setCell ⟨g13, 5, none⟩ (.string x6)) := Kx.setCells [.int .i64 x1, .int .i64 x2, .int .i64 x3, .int .i64 x4, .int .i64 x5, .string x6] 0 _ (Kx.refl _ _) (.inl (by simp))
            replace X13 : Blk ((((((ws.setCell ⟨g13, 0, none⟩ (.int .i64 x1)).setCell ⟨g13, 1, none⟩ (.int .i64 x2)).setCell ⟨g13, 2, none⟩ (.int .i64 x3)).setCell ⟨g13, 3, none⟩ (.int .i64 x4)).setCell ⟨g13, 4, none⟩ (.int .i64 x5)).setCell ⟨g13, 5, none⟩ (.string x6)) g13 33 [.int .i64 x1, .int .i64 x2, .int .i64 x3, .int .i64 x4, .int .i64 x5, .string x6] := Blk.puts [.int .i64 x1, .int .i64 x2, .int .i64 x3, .int .i64 x4, .int .i64 x5, .string x6] X13 rfl
            replace X12 := X12.kx hkn (by first | (simp; done) | (simp; omega))
            replace hS := hS.kx hkn (by first | (simp; done) | (simp; omega))
            generalize (((((ws.setCell ⟨g13, 0, none⟩ (.int .i64 x1)).setCell ⟨g13, 1, none⟩ (.int .i64 x2)).setCell ⟨g13, 2, none⟩ (.int .i64 x3)).setCell ⟨g13, 3, none⟩ (.int .i64 x4)).setCell ⟨g13, 4, none⟩ (.int .i64 x5)).setCell ⟨g13, 5, none⟩ (.string x6) = wt at *
            replace D' := D'.kx hkn (fun k hk => by have := o13 k hk; simp; omega)
            clear hkn
            refine hK.out _ _ (hS) (fun hS => ?_)
            clear hK K
            refine wpAnyH_ready (rs := [16]) (by kernel_rfl) (by simp) ?_
            refine AllReadyH.cons rfl (fun K hK => ?_) AllReadyH.nil
            go_simp
            refine hK.out _ _ (hS) (fun hS => ?_)
            clear hK K
            refine wpAnyH_ready (rs := [17]) (by kernel_rfl) (by simp) ?_
            refine AllReadyH.cons rfl (fun K hK => ?_) AllReadyH.nil
            go_simp
            refine hK.out _ _ (hS) (fun hS => ?_)
            clear hK K
            refine wpAnyH_done (by kernel_rfl) ?_ _
            go_wp2_with fail
            go_meet
            exact ⟨g12, g13, a2, c2, rfl, rfl, rfl, rfl, h12, h13, X12, X13, D', hdis, hdr, hS⟩
      case rest =>
      obtain ⟨g12, g13, a2, c2, rfl, rfl, rfl, rfl, h12, h13, X12, X13, D', hdis, hdr, hbn⟩ := hcut
      replace hb := hb.step hbn
      replace P := P.step hbn
      replace Q := Q.step hbn
      replace R := R.step hbn
      replace hW := hW.step hbn
      clear z0 z1 z2 z3 R_0 R_1 cA
      generalize wc = w9 at *
      have q0' := cells_kept hbn q0
      have q1' := cells_kept hbn q1
      have q2' := cells_kept hbn q2
      have q3' := cells_kept hbn q3
      have h9 : h8 ≤ w9.heap.size := hh8 ▸ hbn.size
      have hDl : ∀ k, (Value.slice a2 tx.L.length c2).ownBlock = some k → k < w9.heap.size := fun k hk => (D'.row.lt k hk).2
      clear q0 q1 q2 q3 hbn hh8 hE8 hD
      go_wp2_with fail
      refine (cB _ hW (by have := hW.blk.lt; omega) (hT.step hb.out)).mono ?_
      rintro e w10 ⟨rfl, v', hWx, hK, hvx⟩
      have hDis2 : ∀ k, (Value.slice a2 tx.L.length c2).ownBlock = some k → k ∉ g :: v'.ownBlock.toList := fun k hk hm => by
        rcases hvx with e | ⟨k', e, hk'⟩
        · rw [e] at hm; exact hdis k hk hm
        · rw [e] at hm
          rcases List.mem_cons.1 hm with h | h
          · exact hdis k hk (by simp [h])
          · have := hDl k hk; simp at h; omega
      have hRg2 : gR ∉ g :: v'.ownBlock.toList := fun hm => by
        rcases hvx with e | ⟨k', e, hk'⟩
        · rw [e] at hm; exact HRg.out hm
        · rw [e] at hm
          rcases List.mem_cons.1 hm with h | h
          · exact HRg.out (by simp [h])
          · simp at h; omega
      clear cB hW q0' q1' q2' q3' hvx
      replace X12 := X12.kx hK (off_high hWlt h12)
      replace X13 := X13.kx hK (off_high hWlt h13)
      replace D' := D'.kx hK hdis
      replace R := R.kx hK HRg.out
      replace P := P.kx hK (off_low hWge hPT)
      replace Q := Q.kx hK (off_low hWge hQT)
      replace hb := hb.kx hK (fun x hx => Nat.le_trans hwT (hWge x hx))
      clear hK
      go_upto_region 13 with fail
      obtain ⟨gN16, hgN16⟩ : ∃ g, (w10).heap.size = g := ⟨_, rfl⟩
      have lt_P_N16 := P.lt
      rw [hgN16] at lt_P_N16
      have lt_Q_N16 := Q.lt
      rw [hgN16] at lt_Q_N16
      have lt_R_N16 := R.lt
      rw [hgN16] at lt_R_N16
      have lt_X12_N16 := X12.lt
      rw [hgN16] at lt_X12_N16
      have lt_X13_N16 := X13.lt
      rw [hgN16] at lt_X13_N16
      have N16 := Blk.newV hgN16 33 #[.int .i64 x1, .int .i64 x2, .int .i64 x3, .int .i64 x4, .int .i64 x5, .string x6]
      have hbn := (Below.refl (w10).heap.size w10).alloc (Nat.le_refl _) (.cells #[.int .i64 x1, .int .i64 x2, .int .i64 x3, .int .i64 x4, .int .i64 x5, .string x6] 33)
      replace hb := hb.step hbn
      replace P := P.step hbn
      replace Q := Q.step hbn
      replace R := R.step hbn
      replace X12 := X12.step hbn
      replace X13 := X13.step hbn
      replace hWx := hWx.step hbn
      replace D' := D'.step hbn
      clear hbn
      rw [hgN16]
      generalize (w10).alloc (.cells #[.int .i64 x1, .int .i64 x2, .int .i64 x3, .int .i64 x4, .int .i64 x5, .string x6] 33) = w11 at *
      have hN16 : h8 ≤ gN16 := by have := lt_X12_N16; omega
      have R_0 := R.cell (j := 0) rfl
      have R_1 := R.cell (j := 1) rfl
      have Rf0 := R.frozen 0
      have Rf1 := R.frozen 1
      have X12_0 := X12.cell (j := 0) rfl
      have X12_1 := X12.cell (j := 1) rfl
      go_upto_region 14 with fail
      clear R_0 R_1 Rf0 Rf1
      clear X12_0 X12_1
      have hkn : Kx [gR] w11 ((w11.setCell ⟨gR, 0, none⟩ (.int .i64 tx.sl)).setCell ⟨gR, 1, none⟩ (.slice a2 tx.L.length c2)) := Kx.setCells [.int .i64 tx.sl, .slice a2 tx.L.length c2] 0 _ (Kx.refl _ _) (.inl (by simp))
      replace R : Blk ((w11.setCell ⟨gR, 0, none⟩ (.int .i64 tx.sl)).setCell ⟨gR, 1, none⟩ (.slice a2 tx.L.length c2)) gR 49 [.int .i64 tx.sl, .slice a2 tx.L.length c2] := Blk.puts [.int .i64 tx.sl, .slice a2 tx.L.length c2] R rfl
      replace hb := hb.kx hkn (by first | (simp; done) | (simp; omega))
      replace P := P.kx hkn (by first | (simp; done) | (simp; omega))
      replace Q := Q.kx hkn (by first | (simp; done) | (simp; omega))
      replace X13 := X13.kx hkn (by first | (simp; done) | (simp; omega))
      replace N16 := N16.kx hkn (by first | (simp; done) | (simp; omega))
      generalize (w11.setCell ⟨gR, 0, none⟩ (.int .i64 tx.sl)).setCell ⟨gR, 1, none⟩ (.slice a2 tx.L.length c2) = w12 at *
      replace D' := D'.kx hkn (fun k hk => by have := hdr k hk; simp; omega)
      replace hWx := hWx.kxs hkn (by have := hRg2; simp at this ⊢; omega) (fun k hk => by
        have h3 := hRg2
        simp only [List.mem_cons, Option.mem_toList, not_or] at h3
        simp
        intro e
        subst e
        exact h3.2 hk)
      clear hkn X12
      have hfx : tx.L.length ≤ 5000 := by have := hGx.few; have := hGx.top; omega
      have cW1 := fun W h hT => would_any bT g v' tx ⟨xk, xm, xn, xs⟩ W h hT hx
      have cW2 := fun W h => refWould_any tx.L a2 c2 tx.sl ⟨xk, xm, xn, xs⟩ W h hfx hx
      rw [hGx.would] at cW2
      generalize wdB tx ⟨xk, xm, xn, xs⟩ = V at cW1 cW2
      unfold enV enL at cW1 cW2
      simp only at cW1 cW2
      have R_0 := extA_cell (R.cell (j := 0) rfl)
      have R_1 := extA_cell (R.cell (j := 1) rfl)
      have P_0 := extA_cell (P.cell (j := 0) rfl)
      have P_1 := extA_cell (P.cell (j := 1) rfl)
      have P_2 := extA_cell (P.cell (j := 2) rfl)
      have P_3 := extA_cell (P.cell (j := 3) rfl)
      have X13_0 := extA_cell (X13.cell (j := 0) rfl)
      have X13_1 := extA_cell (X13.cell (j := 1) rfl)
      have X13_2 := extA_cell (X13.cell (j := 2) rfl)
      have X13_3 := extA_cell (X13.cell (j := 3) rfl)
      have X13_4 := extA_cell (X13.cell (j := 4) rfl)
      have X13_5 := extA_cell (X13.cell (j := 5) rfl)
      have N16_0 := extA_cell (N16.cell (j := 0) rfl)
      have N16_1 := extA_cell (N16.cell (j := 1) rfl)
      have N16_2 := extA_cell (N16.cell (j := 2) rfl)
      have N16_3 := extA_cell (N16.cell (j := 3) rfl)
      have N16_4 := extA_cell (N16.cell (j := 4) rfl)
      have N16_5 := extA_cell (N16.cell (j := 5) rfl)
      refine wp_region_extB (by kernel_rfl) (by kernel_rfl) ?_
      repeat
        (first
          | go_big_quiet_skip
          | (go_big_quiet_want
             go_big_quiet_op
             first
               | go_big_quiet_on
               | (apply Exists.intro
                  refine ⟨fun w' hC => ?_, ?_⟩
                  · (first
                      | with_reducible rfl
                      | (go_at_call 12; refine (num_any _ _).mono ?_; rintro e w2 ⟨rfl, rfl⟩; exact ⟨rfl, hC⟩) | (go_at_call 31; refine (cW1 _ (hWx.step hC) (hT.step (hb.step hC).out)).mono ?_; rintro e w2 ⟨rfl, hb9⟩; exact ⟨rfl, extA_then hC hb9⟩) | (go_at_call 32; refine (cW2 _ (hasL_own (D'.step hC).row rfl)).mono ?_; rintro e w2 ⟨rfl, hb9⟩; exact ⟨rfl, extA_then hC hb9⟩) | (go_at_call 22; refine (is_any bT bT g v' _ tx _ (hWx.step hC) hGx (D'.step hC)).mono ?_; rintro e w2 ⟨rfl, hb9⟩; exact ⟨rfl, extA_then hC hb9⟩)
                      | (go_simp; done)
                      | (go_simp; with_reducible rfl))
                  go_big_quiet_on)))
      refine wpQuiet_nil ?_
      intro w13 hbn
      replace hb := hb.step hbn
      replace P := P.step hbn
      replace Q := Q.step hbn
      replace R := R.step hbn
      replace hWx := hWx.step hbn
      replace D' := D'.step hbn
      clear hbn cW1 cW2
      clear R_0 R_1
      clear P_0 P_1 P_2 P_3
      clear X13_0 X13_1 X13_2 X13_3 X13_4 X13_5
      clear N16_0 N16_1 N16_2 N16_3 N16_4 N16_5
      go_wp2_with fail
      go_roundw
      case rel => exact ⟨j + 1, tx, v', a2, c2, by go_num, by omega, hWx, hGx, D', hDis2, hdr, hRg2, R, P, Q, hb⟩
      case measure => simp [intOf]; omega
    · obtain rfl : j = N := by omega
      clear hDis hDR hRg hD R
      go_upto_if 120 with fail
      go_cut [19] from 117 to 122 (fun v19 wx => ∃ p, p = v19 ∧ NoT wr.heap.size p wx ∧ Below wr.heap.size wr wx)
      case first =>
        go_wp2_with fail
        · go_meet
          exact ⟨_, rfl, .inr ⟨wr.heap.size, rfl, Nat.le_refl _, (Blk.newV (W := wr) rfl 79 #[.slice none 0 0, .int .i64 0, .bool false, .int .i64 0, .int .i64 0, .bool false, .int .i64 0, .int .i64 0, .bool false, .int .i64 0, .int .i64 0, .bool false, .int .i64 0, .int .i64 0, .bool false, .int .i64 0, .int .i64 0, .bool false, .int .i64 0, .int .i64 0, .bool false, .int .i64 0, .int .i64 0, .bool false, .int .i64 0, .int .i64 0, .bool false, .int .i64 0, .int .i64 0, .bool false, .int .i64 0, .int .i64 0, .bool false, .int .i64 0, .int .i64 0, .bool false, .int .i64 0, .int .i64 0, .bool false, .int .i64 0, .int .i64 0, .bool false, .int .i64 0, .int .i64 0, .bool false, .int .i64 0, .int .i64 0, .bool false, .int .i64 0, .int .i64 0, .bool false]).cell (j := 50) rfl⟩, (Below.refl wr.heap.size wr).alloc (Nat.le_refl _) _⟩
        · go_meet
          exact ⟨_, rfl, .inl rfl, Below.refl _ _⟩
      case rest =>
      obtain ⟨p, rfl, hq, hbn⟩ := hcut
      replace hb := hb.step hbn
      replace P := P.step hbn
      replace Q := Q.step hbn
      replace hW := hW.step hbn
      clear hbn
      generalize wc = w8 at *
      have P_0 := P.cell (j := 0) rfl
      have P_1 := P.cell (j := 1) rfl
      have P_2 := P.cell (j := 2) rfl
      have P_3 := P.cell (j := 3) rfl
      go_wp2_with fail
      refine (apply_none _ 0 xk xm xn xs _ hq).mono ?_
      rintro e w9 ⟨rfl, hbn⟩
      replace hb := hb.step hbn
      replace P := P.step hbn
      replace P_0 := P.cell (j := 0) rfl
      replace P_1 := P.cell (j := 1) rfl
      replace P_2 := P.cell (j := 2) rfl
      replace P_3 := P.cell (j := 3) rfl
      replace Q := Q.step hbn
      replace hW := hW.step hbn
      replace hq := hq.step hbn
      clear hbn
      go_upto_region 20 with fail
      obtain ⟨gZ1, hgZ1⟩ : ∃ g, (w9).heap.size = g := ⟨_, rfl⟩
      have lt_P_Z1 := P.lt
      rw [hgZ1] at lt_P_Z1
      have lt_Q_Z1 := Q.lt
      rw [hgZ1] at lt_Q_Z1
      have Z1 := Blk.newV hgZ1 33 #[.int .i64 0, .int .i64 0, .int .i64 0, .int .i64 0, .int .i64 0, .string ⟨#[]⟩]
      have hbn := (Below.refl (w9).heap.size w9).alloc (Nat.le_refl _) (.cells #[.int .i64 0, .int .i64 0, .int .i64 0, .int .i64 0, .int .i64 0, .string ⟨#[]⟩] 33)
      replace hb := hb.step hbn
      replace P := P.step hbn
      replace P_0 := P.cell (j := 0) rfl
      replace P_1 := P.cell (j := 1) rfl
      replace P_2 := P.cell (j := 2) rfl
      replace P_3 := P.cell (j := 3) rfl
      replace Q := Q.step hbn
      replace hW := hW.step hbn
      replace hq := hq.step hbn
      clear hbn
      rw [hgZ1]
      generalize (w9).alloc (.cells #[.int .i64 0, .int .i64 0, .int .i64 0, .int .i64 0, .int .i64 0, .string ⟨#[]⟩] 33) = w10 at *
      clear Z1
      go_wp2_with fail
      refine (line_none _ 0 _ hq).mono ?_
      rintro e w11 ⟨rfl, hbn⟩
      replace hb := hb.step hbn
      replace P := P.step hbn
      replace P_0 := P.cell (j := 0) rfl
      replace P_1 := P.cell (j := 1) rfl
      replace P_2 := P.cell (j := 2) rfl
      replace P_3 := P.cell (j := 3) rfl
      replace Q := Q.step hbn
      replace hW := hW.step hbn
      replace hq := hq.step hbn
      clear hbn
      go_upto_region 21 with fail
      obtain ⟨gZ2, hgZ2⟩ : ∃ g, (w11).heap.size = g := ⟨_, rfl⟩
      have lt_P_Z2 := P.lt
      rw [hgZ2] at lt_P_Z2
      have lt_Q_Z2 := Q.lt
      rw [hgZ2] at lt_Q_Z2
      have Z2 := Blk.newV hgZ2 33 #[.int .i64 0, .int .i64 0, .int .i64 0, .int .i64 0, .int .i64 0, .string ⟨#[]⟩]
      have hbn := (Below.refl (w11).heap.size w11).alloc (Nat.le_refl _) (.cells #[.int .i64 0, .int .i64 0, .int .i64 0, .int .i64 0, .int .i64 0, .string ⟨#[]⟩] 33)
      replace hb := hb.step hbn
      replace P := P.step hbn
      replace P_0 := P.cell (j := 0) rfl
      replace P_1 := P.cell (j := 1) rfl
      replace P_2 := P.cell (j := 2) rfl
      replace P_3 := P.cell (j := 3) rfl
      replace Q := Q.step hbn
      replace hW := hW.step hbn
      replace hq := hq.step hbn
      clear hbn
      rw [hgZ2]
      generalize (w11).alloc (.cells #[.int .i64 0, .int .i64 0, .int .i64 0, .int .i64 0, .int .i64 0, .string ⟨#[]⟩] 33) = w12 at *
      clear Z2
      go_wp2_with fail
      refine (page_none _ 0 1 _ hq).mono ?_
      rintro e w13 ⟨rfl, hbn⟩
      replace hb := hb.step hbn
      replace P := P.step hbn
      replace P_0 := P.cell (j := 0) rfl
      replace P_1 := P.cell (j := 1) rfl
      replace P_2 := P.cell (j := 2) rfl
      replace P_3 := P.cell (j := 3) rfl
      replace Q := Q.step hbn
      replace hW := hW.step hbn
      replace hq := hq.step hbn
      clear hbn
      go_wp2_with fail
      refine (of_none _ 0 _ hq).mono ?_
      rintro e w14 ⟨rfl, hbn⟩
      replace hb := hb.step hbn
      replace P := P.step hbn
      replace P_0 := P.cell (j := 0) rfl
      replace P_1 := P.cell (j := 1) rfl
      replace P_2 := P.cell (j := 2) rfl
      replace P_3 := P.cell (j := 3) rfl
      replace Q := Q.step hbn
      replace hW := hW.step hbn
      replace hq := hq.step hbn
      clear hbn
      go_upto_region 23 with fail
      obtain ⟨gZ3, hgZ3⟩ : ∃ g, (w14).heap.size = g := ⟨_, rfl⟩
      have lt_P_Z3 := P.lt
      rw [hgZ3] at lt_P_Z3
      have lt_Q_Z3 := Q.lt
      rw [hgZ3] at lt_Q_Z3
      have Z3 := Blk.newV hgZ3 64 #[.bool false, .int .i64 0, .int .i64 0]
      have hbn := (Below.refl (w14).heap.size w14).alloc (Nat.le_refl _) (.cells #[.bool false, .int .i64 0, .int .i64 0] 64)
      replace hb := hb.step hbn
      replace P := P.step hbn
      replace P_0 := P.cell (j := 0) rfl
      replace P_1 := P.cell (j := 1) rfl
      replace P_2 := P.cell (j := 2) rfl
      replace P_3 := P.cell (j := 3) rfl
      replace Q := Q.step hbn
      replace hW := hW.step hbn
      replace hq := hq.step hbn
      clear hbn
      rw [hgZ3]
      generalize (w14).alloc (.cells #[.bool false, .int .i64 0, .int .i64 0] 64) = w15 at *
      clear Z3
      have heq := eql_seqN
      go_wp2_with fail
      refine (members_no _ _ hq).mono ?_
      rintro e w16 ⟨⟨b', rfl, -, -⟩, hbn⟩
      unfold MbF
      replace hb := hb.step hbn
      replace P := P.step hbn
      replace P_0 := P.cell (j := 0) rfl
      replace P_1 := P.cell (j := 1) rfl
      replace P_2 := P.cell (j := 2) rfl
      replace P_3 := P.cell (j := 3) rfl
      replace Q := Q.step hbn
      replace hW := hW.step hbn
      replace hq := hq.step hbn
      clear hbn
      go_wp2_with fail
      refine (members_no _ _ hq).mono ?_
      rintro e w17 ⟨⟨b, rfl, XB, -⟩, hbn⟩
      unfold MbF
      replace hb := hb.step hbn
      replace P := P.step hbn
      replace P_0 := P.cell (j := 0) rfl
      replace P_1 := P.cell (j := 1) rfl
      replace P_2 := P.cell (j := 2) rfl
      replace P_3 := P.cell (j := 3) rfl
      replace Q := Q.step hbn
      replace hW := hW.step hbn
      replace hq := hq.step hbn
      clear hbn
      have hseq := members_xs b (List.replicate 16 z0) w17 (by simp) XB
      rw [mems_z] at hseq
      go_wp2_with fail
      refine (wpIn_wide (n := 3)).1 ?_
      have hw17 := hb.size
      apply wpIn_range_xs 44 #[.pointer (some ⟨b, 0, none⟩)] rfl (enters_of Tryd.func44 (by kernel_rfl) rfl) (fun _ => False) hseq (fun k hk => hk.elim) (Below.refl _ _) (fun _ => rfl)
        (fun _ W => Kx [] w17 W)
        (fun _ _ _ => False)
        (ownFrom_kx _ _)
        (fun _ _ _ _ _ h _ _ => h)
        (Kx.refl _ _)
      case hassign =>
        intro l x W K hK
        dsimp only [mbEnc]
        gi_wp2
        exact hK
      case hbody =>
        rintro l k x W hx
        simp at hx
      case hstop =>
        rintro D c k W hD hk
        simp at hk
      case hdone =>
        rintro D W hD hK hDf0
        have hDf : Dfr D W := hDf0
        have hbn := hK.below (B := w17.heap.size) (Nat.le_refl _) (by simp)
        replace hb := hb.step hbn
        replace P := P.step hbn
        replace P_0 := P.cell (j := 0) rfl
        replace P_1 := P.cell (j := 1) rfl
        replace P_2 := P.cell (j := 2) rfl
        replace P_3 := P.cell (j := 3) rfl
        replace Q := Q.step hbn
        replace hW := hW.step hbn
        replace hq := hq.step hbn
        clear hbn hK hDf0 XB hseq
        have P_0 := P.cell (j := 0) rfl
        have P_1 := P.cell (j := 1) rfl
        have P_2 := P.cell (j := 2) rfl
        have P_3 := P.cell (j := 3) rfl
        have hDw : w.heap.size ≤ D := Nat.le_trans hw17 hD
        gi_wp2_with fail
        go_wp2_with fail
        refine (num_any 0 _).mono ?_
        rintro e wx ⟨rfl, rfl⟩
        go_wp2_with fail
        refine (num_any 1 _).mono ?_
        rintro e wx ⟨rfl, rfl⟩
        go_wp2_with fail
        refine (num_any 1 _).mono ?_
        rintro e wx ⟨rfl, rfl⟩
        go_wp2_with fail
        refine (num_any 1 _).mono ?_
        rintro e wx ⟨rfl, rfl⟩
        go_wp2_with fail
        refine (num_any 1 _).mono ?_
        rintro e wx ⟨rfl, rfl⟩
        go_wp2_with fail
        refine (slot_no _ _ hq).mono ?_
        rintro e wx ⟨rfl, rfl⟩
        go_wp2_with fail
        refine (len_no _ _ hq).mono ?_
        rintro e wx ⟨rfl, rfl⟩
        go_wp2_with fail
        refine (would_no _ xk xm xn xs _ hq).mono ?_
        rintro e w20 ⟨rfl, hbn⟩
        replace hb := hb.step hbn
        replace P := P.step hbn
        replace P_0 := P.cell (j := 0) rfl
        replace P_1 := P.cell (j := 1) rfl
        replace P_2 := P.cell (j := 2) rfl
        replace P_3 := P.cell (j := 3) rfl
        replace Q := Q.step hbn
        replace hW := hW.step hbn
        replace hq := hq.step hbn
        replace hDf := hDf.step hbn
        clear hbn
        go_wp2_with fail
        refine (copyC_no _ _ hq).mono ?_
        rintro e wx ⟨rfl, rfl⟩
        go_wp2_with fail
        refine (sameC_no1 _ (.pointer none) _ hq (show NoT 0 (.pointer none) _ from .inl rfl)).mono ?_
        rintro e wx ⟨rfl, rfl⟩
        go_wp2_with fail
        refine (sameC_no2 _ _ hW hq).mono ?_
        rintro e wx ⟨rfl, rfl⟩
        go_wp2_with fail
        refine (works_any _ (hT.step hb.out)).mono ?_
        rintro e w21 ⟨rfl, hbn⟩
        replace hb := hb.step hbn
        replace P := P.step hbn
        replace P_0 := P.cell (j := 0) rfl
        replace P_1 := P.cell (j := 1) rfl
        replace P_2 := P.cell (j := 2) rfl
        replace P_3 := P.cell (j := 3) rfl
        replace Q := Q.step hbn
        replace hW := hW.step hbn
        replace hq := hq.step hbn
        replace hDf := hDf.step hbn
        clear hbn
        have Q_0 := Q.cell (j := 0) rfl
        have Qf0 := Q.frozen 0
        go_wp2
        have G1 := Q.set 0 (.bool true)
        have hD10 := (KeepsOthers.setCell w21 ⟨gQ, 0, none⟩ (.bool true)).same D _ hDf rfl
        exact leaves_list w.heap.size [D] rfl (fun D' h => by simp at h; subst h; exact ⟨hDw, hD10⟩) (by simp) (v := .bool true) (fun W' hbW hcW => by
          have G1' : Blk W' gQ 4 [.bool true] := hcW _ _ G1 rfl
          have r10 := G1'.cell (j := 0) rfl
          exact ⟨by simp [results, Tryd.results9, go_sem, r10], rfl, (hb.out.setCell (p := ⟨gQ, 0, none⟩) (by show w.heap.size ≤ gQ; omega) _).trans hbW⟩)
theorem ChatApplies_walkx (q : Option Addr) (len cap : Nat) (oo : Option Addr) (no co : Nat) (x : En) (w : World) (hT : Tabs w) (h : ∃ l : List En, l.length = len ∧ HasE w q l ∧ (∀ e, e ∈ l → e.s.size ≤ maxLen) ∧ len ≤ maxLen) (hO : SlN w oo no ∧ no ≤ maxLen) (hx : x.s.size ≤ maxLen) :
    Calls Tryd.prog 9 #[.slice q len cap, .slice oo no co, enV x] w fun r w' => r = .returned (.bool true) ∧ Below w.heap.size w w' := by
  obtain ⟨l, rfl, hE, hs, hl⟩ := h
  have hl2 : l.length ≤ 9223372036854775807 := by unfold maxLen at hl; omega
  have hs2 : ∀ e, e ∈ l → e.s.size ≤ 9223372036854775807 := fun e he => by have := hs e he; unfold maxLen at this; omega
  have hx2 : x.s.size ≤ 9223372036854775807 := by unfold maxLen at hx; omega
  have hn2 : no ≤ 9223372036854775807 := by have := hO.2; unfold maxLen at this; omega
  cases hf : fewB l 40
  · exact applies_few l q cap oo no co x w hT hE hl2 hx2 hf
  · cases hf2 : fewB [x] 1
    · exact applies_one l q cap oo no co x w hT hE hl2 hx2 hf hf2
    · exact applies_yes l q cap oo no co x w hT hE hl2 hO.1 hn2 hs2 hx2 hf hf2
end Go.Proofs.YtndechodaegkiaaDoor
