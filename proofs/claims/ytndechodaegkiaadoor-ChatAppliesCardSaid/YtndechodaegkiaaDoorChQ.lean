
/- The document's talk: Apply takes. -/
import Derived.Test.YtndechodaegkiaaDoorChP
import Derived.Deep.RegionHeld
import Derived.Deep.AppendLies
import Derived.Deep.Upon
namespace Go.Proofs.YtndechodaegkiaaDoor
open Go.RowKit
theorem row_empty {w : World} {base b : Nat} {e : TypeId} {size : Nat} (hb : w.heap[b]? = some (.cells #[] e (0, 0))) (hB : base ≤ b) : w.ownsRow base e size (.slice (some ⟨b, 0, none⟩) 0 0) 0 [] :=
  ⟨by simp, .inr ⟨b, 0, #[], rfl, hB, hb, Nat.le_refl _, Nat.zero_le _, by simp, by simp⟩⟩
/-- append([]T{}, x...) at a step of a region that draws its order. -/
theorem step_clone {P : Program} {w : World} {ops : Array Oper} {o : Oper} {a : Act} {K : Act → World → Prop} {Q : Exit → Act → World → Prop} {E : Prop} (hgd : o.guard = none) (s x : Operand) (t : TypeId)
    (ho : o.op = .call { callee := .builtin .append, args := #[s, x], argTypes := #[t, t] })
    (base : Nat) (e : TypeId) (i : TypeInfo) (z : Value) (size bytes : Nat) (ht : P.underlying t = some (.slice e)) (hi : P.info? e = some i) (hz : i.zero = some z)
    (hsize : i.size = size) (hby : i.bytes = bytes) (hzs : z.cells.size = size) (hsz : 0 < size)
    (b : Nat) (hs : a.eval s = .slice (some ⟨b, 0, none⟩) 0 0) (hb : w.heap[b]? = some (.cells #[] e (0, 0))) (hB : base ≤ b)
    (sv : Value) (n low : Nat) (xs : List Value) (hx : a.eval x = sv) (hown : w.ownsRow low e size sv n xs) (hnil : n = 0 → sv = .slice none 0 0) (h1 : ∀ u ∈ xs, u.oneCell' = true)
    (h63 : n ≤ maxLen) (hbytes : n * bytes ≤ 140737488355328)
    (h : ∀ v1 w', w'.ownsRow base e size v1 n xs → w.grownBy w' (some b) → K (a.put o.dst v1) w') :
    if Region.wanted o (yielded ops a.tmps) = true then Oper.wp P o a w K Q else E := by
  have hw : Region.wanted o (yielded ops a.tmps) = true := by simp [Region.wanted, hgd]
  rw [if_pos hw]
  have hE : w.ownsRow base e size (.slice (some ⟨b, 0, none⟩) 0 0) 0 [] := row_empty hb hB
  have hblt : b < w.heap.size := (Array.getElem?_eq_some_iff.1 hb).1
  by_cases h0 : n = 0
  · subst h0
    obtain rfl := hnil rfl
    have hxs : xs = [] := List.eq_nil_of_length_eq_zero (by simpa using hown.1)
    subst hxs
    have hr := run_append_nothing (P := P) w t t o.type e i ht hi (some ⟨b, 0, none⟩) 0 0 (Nat.le_refl _) (.slice none 0 0) (Src.ofNil w ht 0)
    unfold Oper.wp execOp
    simp only [ho, resolve, invoke, builtin, Sem.run_bind, Sem.run_pure, Result.andThen_ok, List.map_toArray, List.map_cons, List.map_nil, hs, hx, hr]
    exact h _ w hE ⟨rfl, rfl, rfl, Nat.le_refl _, fun _ _ _ => rfl⟩
  · rcases hown.2 with ⟨_, e2⟩ | ⟨g, cap, cur, hv, hg, hh, hle, hcap, hsz2, htake⟩
    · exact absurd e2 h0
    · have hl : xs.length = n * size := hown.1
      have hnews : ∀ j u, xs[j]? = some u → w.cell? ((⟨g, 0, none⟩ : Addr).add j) = some u := by
        intro j u hu
        have hj : j < n * size := by rw [← hl]; exact (List.getElem?_eq_some_iff.1 hu).1
        have := (hv ▸ hown : w.ownsRow low e size (.slice (some ⟨g, 0, none⟩) n cap) n xs).cellAt j hj
        rw [Addr.add_lit, Nat.zero_add, this, hu]
      refine wp_append_lies w s x t ho base e i z size bytes ht hi hz hsize hby hzs hsz (.slice (some ⟨b, 0, none⟩) 0 0) 0 [] hs hE ⟨g, 0, none⟩ n cap xs (hx.trans hv) hl hnews h1 (by omega) (by omega) (by simpa using hbytes) (by omega) w.heap.size rfl ?_
      intro g1 cap1 w1 hr1 hgr _ _
      rw [Nat.zero_add, List.nil_append] at hr1
      rw [Nat.zero_add]
      exact h _ w1 hr1 hgr
theorem row_far {W : World} {base n : Nat} {e : TypeId} {size : Nat} {v : Value} {xs : List Value} (h : W.ownsRow base e size v n xs) {p : Addr} (hp : p.block < base) (u : Value) : (W.setCell p u).ownsRow base e size v n xs := by
  obtain ⟨h1, h2⟩ := h
  refine ⟨h1, ?_⟩
  rcases h2 with h2 | ⟨b, cap, cur, hv, hg, hh, r⟩
  · exact Or.inl h2
  · refine Or.inr ⟨b, cap, cur, hv, hg, ?_, r⟩
    rw [Below.heap_setCell _ _ _ _ (by omega)]
    exact hh
theorem row_low {W : World} {base base' n : Nat} {e : TypeId} {size : Nat} {v : Value} {xs : List Value} (h : W.ownsRow base e size v n xs) (hb : base' ≤ base) : W.ownsRow base' e size v n xs := by
  obtain ⟨h1, h2⟩ := h
  refine ⟨h1, ?_⟩
  rcases h2 with h2 | ⟨b, cap, cur, hv, hg, r⟩
  · exact Or.inl h2
  · exact Or.inr ⟨b, cap, cur, hv, Nat.le_trans hb hg, r⟩
theorem cellsN_one (L : List Ln) : ∀ u ∈ cellsN L, u.oneCell' = true := by
  intro u hu
  simp only [cellsN, List.mem_flatMap] at hu
  obtain ⟨x, _, hx⟩ := hu
  simp only [lnL, enL, List.mem_cons, List.mem_nil_iff, or_false] at hx
  rcases hx with rfl | rfl | rfl | rfl | rfl | rfl <;> rfl
theorem Kx.grownH {ws : List Nat} {A W W' : World} {row : Option Nat} {H : Nat} (h : Kx ws A W) (hg : W.grownBy W' row) (hH : A.heap.size = H) (hr : ∀ k, row = some k → H ≤ k) : Kx ws A W' := h.grown hg (fun k hk => .inr (by rw [hH]; exact hr k hk))
theorem row8 {B g h : Nat} {W : World} {e : TypeId} {size n : Nat} {v : Value} {xs : List Value} (hb : W.ownsRow B e size v n xs) (hg : g < B) (hh : h < B) (x y a b c d e' f : Value) : ((((((((W.setCell ⟨g, 0, none⟩ x).setCell ⟨g, 1, none⟩ y).setCell ⟨h, 0, none⟩ a).setCell ⟨h, 1, none⟩ b).setCell ⟨h, 2, none⟩ c).setCell ⟨h, 3, none⟩ d).setCell ⟨h, 4, none⟩ e').setCell ⟨h, 5, none⟩ f).ownsRow B e size v n xs :=
  row_far (row_far (row_far (row_far (row_far (row_far (row_far (row_far hb (p := ⟨g, 0, none⟩) hg x) (p := ⟨g, 1, none⟩) hg y) (p := ⟨h, 0, none⟩) hh a) (p := ⟨h, 1, none⟩) hh b) (p := ⟨h, 2, none⟩) hh c) (p := ⟨h, 3, none⟩) hh d) (p := ⟨h, 4, none⟩) hh e') (p := ⟨h, 5, none⟩) hh f
theorem own_drew {W : World} {B : Nat} {e : TypeId} {size n : Nat} {v : Value} {xs : List Value} (h : W.ownsRow B e size v n xs) : W.drew.ownsRow B e size v n xs := h
set_option maxRecDepth 100000 in
set_option maxHeartbeats 4000000 in
theorem refApply_take (base : Nat) (t : Tk) (slot : Int) (e : En) (sv : Value) (w : World) (hD : DW w base sv t.L) (hbase : base ≤ w.heap.size) (hfew : t.L.length ≤ t.sl) (hs : e.s.size ≤ 9223372036854775807) (hr : rightE e = true) (hg : goodB t slot = true) (hc : cntB t e = true) (hw : rwB t.L e = true) :
    Calls Tryd.prog 29 #[.agg #[.int .i64 t.sl, sv], .int .i64 slot, enV e] w (daP w base t slot e sv) := by
  obtain ⟨i0, hi, hz0, hz1, hz2⟩ := info_parts info_line
  obtain ⟨k, m, q, s⟩ := e
  obtain ⟨a, c, rfl⟩ := hD.sl
  unfold daP
  have hT : apT t slot ⟨k, m, q, s⟩ = ⟨t.sl + 1, t.L ++ [newL t ⟨k, m, q, s⟩], t.M.set m.toNat (cntS t ⟨k, m, q, s⟩)⟩ := by unfold apT; rw [hr, hg, hc]; rfl
  have hB : apB t slot ⟨k, m, q, s⟩ = true := by unfold apB; rw [hr, hg, hc]; rfl
  have hX : apX t slot ⟨k, m, q, s⟩ = newL t ⟨k, m, q, s⟩ := by unfold apX; rw [hB]; rfl
  have hE : apE t slot ⟨k, m, q, s⟩ = 0 := by unfold apE; rw [hr, hg]; rfl
  rw [hT, hB, hX, hE]
  obtain ⟨hs1, hs2⟩ : slot = t.sl ∧ t.sl < 4096 := by unfold goodB at hg; simp at hg; omega
  subst hs1
  have hn5 : t.L.length ≤ 5000 := by omega
  have cW := fun W (hW : HasL W a t.L) => refWould_any t.L a c t.sl ⟨k, m, q, s⟩ W hW hn5 hs
  rw [hw] at cW
  have cR := fun W => ref14_any k m q s W hs
  rw [show entB k m q s = true from hr] at cR
  have hdh : ∀ W, DW W base (.slice a t.L.length c) t.L → HasL W a t.L := fun W h => h.has
  have hnewL : newL t ⟨k, m, q, s⟩ = ⟨t.L.length, t.sl, ⟨k, m, q, s⟩⟩ := rfl
  rw [hnewL]
  obtain ⟨n, hnn⟩ : ∃ n, t.L.length = n := ⟨_, rfl⟩
  rw [hnn] at hD cW hdh hfew hn5 ⊢
  obtain ⟨sl, hsl⟩ : ∃ sl : Nat, t.sl = sl := ⟨_, rfl⟩
  rw [hsl] at cW hs2 hfew ⊢
  have hsI : (sl : Int) < 4096 := by omega
  change Calls Tryd.prog 29 #[.agg #[.int .i64 sl, .slice a n c], .int .i64 sl, .agg #[.int .i64 k, .int .i64 m, .int .i64 q, .string s]] w fun r w' => (∃ sv', r = .returned (.tuple #[.agg #[.int .i64 (sl + 1), sv'], .agg #[.int .i64 n, .int .i64 sl, .int .i64 k, .int .i64 m, .int .i64 q, .string s], .bool true, .int .i64 0]) ∧ DW w' base sv' (t.L ++ [⟨n, sl, ⟨k, m, q, s⟩⟩]) ∧ (sv' = .slice a n c ∨ ∀ k', sv'.ownBlock = some k' → w.heap.size ≤ k')) ∧ Below w.heap.size w w'
  change ∀ W, HasL W a t.L → Calls Tryd.prog 32 #[.agg #[.int .i64 sl, .slice a n c], .agg #[.int .i64 k, .int .i64 m, .int .i64 q, .string s]] W fun r w' => r = .returned (.bool true) ∧ Below W.heap.size W w' at cW
  clear hT hB hX hE hr hg hc hw hnewL
  go_enter Tryd.func29, Tryd.ntmps29
  go_upto_region 1 with fail
  obtain ⟨XT, XE, X6, X7, hb, hz⟩ := four w 49 26 49 33 #[.int .i64 sl, .slice a n c] #[.int .i64 k, .int .i64 m, .int .i64 q, .string s] #[.int .i64 0, .slice none 0 0] #[.int .i64 0, .int .i64 0, .int .i64 0, .int .i64 0, .int .i64 0, .string ⟨#[]⟩]
  have hD1 := hD.step hb
  generalize (((w.alloc (.cells #[.int .i64 sl, .slice a n c] 49)).alloc (.cells #[.int .i64 k, .int .i64 m, .int .i64 q, .string s] 26)).alloc (.cells #[.int .i64 0, .slice none 0 0] 49)).alloc (.cells #[.int .i64 0, .int .i64 0, .int .i64 0, .int .i64 0, .int .i64 0, .string ⟨#[]⟩] 33) = W at *
  obtain ⟨g0, hg0⟩ : ∃ g, w.heap.size = g := ⟨_, rfl⟩
  rw [hg0] at XT XE X6 X7 hb hz
  have e0 := XE.cell (j := 0) rfl
  have e1 := XE.cell (j := 1) rfl
  have e2 := XE.cell (j := 2) rfl
  have e3 := XE.cell (j := 3) rfl
  go_wp2_with fail
  refine (cR W).mono ?_
  rintro e w4 ⟨rfl, hb4⟩
  have hb5 := hb.trans (hb4.mono (by omega))
  have T4 := XT.step hb4
  have t0 := T4.cell (j := 0) rfl
  have t1 := T4.cell (j := 1) rfl
  have E4 := XE.step hb4
  have Y6 := X6.step hb4
  have Y7 := X7.step hb4
  have D4 := hD1.step hb4
  have s4 := hb4.size
  clear e0 e1 e2 e3 XT XE X6 X7 hb4 cR hD1
  have hbO := (Below.refl w4.heap.size w4).alloc (Nat.le_refl _) (.cells #[.int .i64 (sl + 1), .slice a n c] 49)
  have T5 := T4.step hbO
  have E5 := E4.step hbO
  have Z6 := Y6.step hbO
  have Z7 := Y7.step hbO
  have D5 := D4.step hbO
  have XO := Blk.newA' (W := w4) rfl 49 #[.int .i64 (sl + 1), .slice a n c]
  have hb6 := hb5.alloc (by omega) (.cells #[.int .i64 (sl + 1), .slice a n c] 49)
  clear Y6 Y7 hbO T4 E4 D4
  have t0' := T5.cell (j := 0) rfl
  have t1' := T5.cell (j := 1) rfl
  have e0 := E5.cell (j := 0) rfl
  have e1 := E5.cell (j := 1) rfl
  have e2 := E5.cell (j := 2) rfl
  have e3 := E5.cell (j := 3) rfl
  go_wp2_with fail
  refine (cW _ (hdh _ D5)).mono ?_
  rintro e w6 ⟨rfl, hb7⟩
  have hgO : g0 + 1 + 1 + 1 < w4.heap.size := by omega
  generalize w4.heap.size = gO at *
  have hb8 := hb6.trans (hb7.mono (by have := hb6.size; have := XO.lt; omega))
  have T6 := T5.step hb7
  have E6 := E5.step hb7
  have O6 := XO.step hb7
  have W6 := Z6.step hb7
  have W7 := Z7.step hb7
  have D6 := D5.step hb7
  clear t0' t1' e0 e1 e2 e3 t0 t1 cW XO Z6 Z7 hb6 hb7 T5 E5 D5 hdh hb5 hz s4 hb hD
  have t0 := T6.cell (j := 0) rfl
  have t1 := T6.cell (j := 1) rfl
  have e0 := E6.cell (j := 0) rfl
  have e1 := E6.cell (j := 1) rfl
  have e2 := E6.cell (j := 2) rfl
  have e3 := E6.cell (j := 3) rfl
  go_upto_region 9 with fail
  have hb9 := hb8.alloc (by have := O6.lt; omega) (.cells #[.int .i64 n, .int .i64 sl, .int .i64 k, .int .i64 m, .int .i64 q, .string s] 33)
  have hbL := (Below.refl w6.heap.size w6).alloc (Nat.le_refl _) (.cells #[.int .i64 n, .int .i64 sl, .int .i64 k, .int .i64 m, .int .i64 q, .string s] 33)
  have L7 := Blk.newA' (W := w6) rfl 33 #[.int .i64 n, .int .i64 sl, .int .i64 k, .int .i64 m, .int .i64 q, .string s]
  have T7 := T6.step hbL
  have O7 := O6.step hbL
  have Y6 := W6.step hbL
  have Y7 := W7.step hbL
  have D7 := D6.step hbL
  have hOL := O6.lt
  generalize w6.alloc (.cells #[.int .i64 n, .int .i64 sl, .int .i64 k, .int .i64 m, .int .i64 q, .string s] 33) = w7 at *
  generalize w6.heap.size = gL at *
  clear hbL T6 O6 W6 W7 D6 hb8 t0 t1 e0 e1 e2 e3 E6
  have h3O : g0 ∉ [gO] := by simp; omega
  have hLO : gL ∉ [gO] := by simp; omega
  have hlL := L7.lt
  obtain ⟨H, hH⟩ : ∃ H, w7.heap.size = H := ⟨_, rfl⟩
  go_cut [] (fun wx => ∃ sv', wx.ownsRow H 33 6 sv' (n + 1) (cellsN (t.L ++ [⟨n, sl, ⟨k, m, q, s⟩⟩])) ∧ Kx [gO] w7 wx ∧ Blk wx gO 49 [.int .i64 (sl + 1), sv'])
  case first =>
    refine wp_region_held (S := Kx [gO] w7) (by kernel_rfl) ?_
    have hS : Kx [gO] w7 { w7 with drawn := w7.drawn + 1 } := ⟨rfl, rfl, rfl, Nat.le_refl _, fun _ _ _ => rfl⟩
    have O8 : Blk { w7 with drawn := w7.drawn + 1 } gO 49 [.int .i64 (sl + 1), .slice a n c] := O7
    have hDR : { w7 with drawn := w7.drawn + 1 }.ownsRow base 33 6 (.slice a n c) n (cellsN t.L) := by have := D7.row; rw [hnn] at this; exact this
    have hnil : n = 0 → (Value.slice a n c) = .slice none 0 0 := fun h0 => D7.nil (List.eq_nil_of_length_eq_zero (by rw [hnn]; exact h0))
    have hH8 : ({ w7 with drawn := w7.drawn + 1 } : World).heap.size = H := hH
    generalize ({ w7 with drawn := w7.drawn + 1 } : World) = w8 at *
    refine wpAnyH_take (i := 1) (v := ?_) rfl (by kernel_rfl) (by kernel_rfl) (by kernel_rfl) (fun _ _ _ h => h) (Or.inl ⟨by rfl, ?_⟩) hS ?_
    rotate_left
    · intro W hSW
      have l1 := (hSW.blk T7 h3O).cell (j := 1) rfl
      have m0 := (hSW.blk L7 hLO).cell (j := 0) rfl
      have m1 := (hSW.blk L7 hLO).cell (j := 1) rfl
      have m2 := (hSW.blk L7 hLO).cell (j := 2) rfl
      have m3 := (hSW.blk L7 hLO).cell (j := 3) rfl
      have m4 := (hSW.blk L7 hLO).cell (j := 4) rfl
      have m5 := (hSW.blk L7 hLO).cell (j := 5) rfl
      go_simp
      try with_reducible rfl
    dsimp only [Act.put]
    refine wpAnyH_take (i := 2) (v := ?_) rfl (by kernel_rfl) (by kernel_rfl) (by kernel_rfl) (fun _ _ _ h => h) (Or.inl ⟨by rfl, ?_⟩) hS ?_
    rotate_left
    · intro W hSW
      have l1 := (hSW.blk T7 h3O).cell (j := 1) rfl
      have m0 := (hSW.blk L7 hLO).cell (j := 0) rfl
      have m1 := (hSW.blk L7 hLO).cell (j := 1) rfl
      have m2 := (hSW.blk L7 hLO).cell (j := 2) rfl
      have m3 := (hSW.blk L7 hLO).cell (j := 3) rfl
      have m4 := (hSW.blk L7 hLO).cell (j := 4) rfl
      have m5 := (hSW.blk L7 hLO).cell (j := 5) rfl
      go_simp
      try with_reducible rfl
    dsimp only [Act.put]
    refine wpAnyH_take (i := 4) (v := ?_) rfl (by kernel_rfl) (by kernel_rfl) (by kernel_rfl) (fun _ _ _ h => h) (Or.inl ⟨by rfl, ?_⟩) hS ?_
    rotate_left
    · intro W hSW
      have l1 := (hSW.blk T7 h3O).cell (j := 1) rfl
      have m0 := (hSW.blk L7 hLO).cell (j := 0) rfl
      have m1 := (hSW.blk L7 hLO).cell (j := 1) rfl
      have m2 := (hSW.blk L7 hLO).cell (j := 2) rfl
      have m3 := (hSW.blk L7 hLO).cell (j := 3) rfl
      have m4 := (hSW.blk L7 hLO).cell (j := 4) rfl
      have m5 := (hSW.blk L7 hLO).cell (j := 5) rfl
      go_simp
      try with_reducible rfl
    dsimp only [Act.put]
    refine wpAnyH_ready (rs := [0, 5]) (by kernel_rfl) (by simp) ?_
    refine AllReadyH.cons (o := { dst := some 45, op := .buildSlice 44 0 #[], type := _, pos := _, after := _, guard := _ }) rfl (fun K hK => ?_) (AllReadyH.cons (o := { dst := some 50, op := .buildSlice 44 1 #[(0, .tmp 49)], type := _, pos := _, after := _, guard := _ }) rfl (fun K hK => ?_) AllReadyH.nil)
    · go_simp
      have EB : (w8.alloc (.cells #[] 33)).heap[H]? = some (.cells #[] 33 (0, 0)) := by rw [← hH8]; exact World.alloc_heap_new _ _
      have OB := O8.alloc (.cells #[] 33)
      have DR := hDR.alloc (.cells #[] 33)
      have hz9 := alloc_size hH8 (.cells #[] 33)
      refine hK.out _ _ (hS.alloc _) (fun hS => ?_)
      clear hK K O8 hDR
      generalize w8.alloc (.cells #[] 33) = w9 at *
      refine wpAnyH_ready (rs := [3, 5]) (by kernel_rfl) (by simp) ?_
      refine AllReadyH.cons (o := { dst := some 48, op := .call { callee := .builtin .append, args := #[.tmp 45, .tmp 47], argTypes := #[44, 44] }, type := _, pos := _, after := _, guard := _ }) rfl (fun K hK => ?_) (AllReadyH.cons (o := { dst := some 50, op := .buildSlice 44 1 #[(0, .tmp 49)], type := _, pos := _, after := _, guard := _ }) rfl (fun K hK => ?_) AllReadyH.nil)
      ·
        refine step_clone rfl (.tmp 45) (.tmp 47) 44 rfl H 33 i0 (.agg #[.int .i64 0, .int .i64 0, .int .i64 0, .int .i64 0, .int .i64 0, .string ⟨#[]⟩]) 6 56 Tryd.underlying44 hi hz0 hz1 hz2 rfl (by decide) H (by rfl) EB (Nat.le_refl _) (.slice a n c) n base (cellsN t.L) (by rfl) DR hnil (cellsN_one _) (by unfold maxLen; omega) (by omega) ?_
        intro v1 wc hr1 hg1
        refine hK.out _ _ (hS.grownH hg1 hH (by intro j hj; cases hj; omega)) (fun hS => ?_)
        clear hK K
        dsimp only [Act.put]
        have OC : Blk wc gO 49 _ := (hg1.block gO (by omega) (fun e => by cases e; omega)).trans OB
        refine wpAnyH_ready (rs := [5]) (by kernel_rfl) (by simp) ?_
        refine AllReadyH.cons (o := { dst := some 50, op := .buildSlice 44 1 #[(0, .tmp 49)], type := _, pos := _, after := _, guard := _ }) rfl (fun K hK => ?_) AllReadyH.nil
        go_simp
        replace hr1 := hr1.alloc (.cells #[.int .i64 n, .int .i64 sl, .int .i64 k, .int .i64 m, .int .i64 q, .string s] 33)
        have XB : Blk (wc.alloc (.cells #[.int .i64 n, .int .i64 sl, .int .i64 k, .int .i64 m, .int .i64 q, .string s] 33)) wc.heap.size 33 [.int .i64 n, .int .i64 sl, .int .i64 k, .int .i64 m, .int .i64 q, .string s] := Blk.newA' rfl _ _
        replace OB := OC.alloc (.cells #[.int .i64 n, .int .i64 sl, .int .i64 k, .int .i64 m, .int .i64 q, .string s] 33)
        refine hK.out _ _ (hS.alloc _) (fun hS => ?_)
        clear hK K OC
        generalize wc.alloc (.cells #[.int .i64 n, .int .i64 sl, .int .i64 k, .int .i64 m, .int .i64 q, .string s] 33) = wd at *
        generalize wc.heap.size = bx at *
        refine wpAnyH_ready (rs := [6]) (by kernel_rfl) (by simp) ?_
        refine AllReadyH.cons (o := { dst := some 51, op := .call { callee := .builtin .append, args := #[.tmp 48, .tmp 50], argTypes := #[44, 44] }, type := _, pos := _, after := _, guard := _ }) rfl (fun K hK => ?_) AllReadyH.nil
        refine step_append_lies _ rfl (.tmp 48) (.tmp 50) 44 rfl H 33 i0 (.agg #[.int .i64 0, .int .i64 0, .int .i64 0, .int .i64 0, .int .i64 0, .string ⟨#[]⟩]) 6 56 Tryd.underlying44 hi hz0 hz1 hz2 rfl (by decide) v1 n (cellsN t.L) (by rfl) hr1 ⟨bx, 0, none⟩ 1 1 [.int .i64 n, .int .i64 sl, .int .i64 k, .int .i64 m, .int .i64 q, .string s] (by rfl) rfl XB.news lnL_one (by decide) (by unfold maxLen; omega) (by omega) (by have := hS.size; omega) _ rfl ?_
        intro g2 cap2 wl hr2 hg2 _ _
        have hvk : ∀ j, v1.ownBlock = some j → H ≤ j := fun j hj => (hr1.lt j hj).1
        refine hK.out _ _ (hS.grownH hg2 hH hvk) (fun hS => ?_)
        clear hK K
        dsimp only [Act.put]
        have Ol : Blk wl gO 49 _ := (hg2.block gO (by have := OB.lt; exact this) (fun e => by have := hvk _ e.symm; omega)).trans OB
        refine wpAnyH_take (i := 7) (v := ?_) rfl (by kernel_rfl) (by kernel_rfl) (by kernel_rfl) (fun _ _ _ h => h) (Or.inl ⟨by rfl, ?_⟩) hS ?_
        rotate_left
        · intro W hSW
          have l1 := (hSW.blk T7 h3O).cell (j := 1) rfl
          have m0 := (hSW.blk L7 hLO).cell (j := 0) rfl
          have m1 := (hSW.blk L7 hLO).cell (j := 1) rfl
          have m2 := (hSW.blk L7 hLO).cell (j := 2) rfl
          have m3 := (hSW.blk L7 hLO).cell (j := 3) rfl
          have m4 := (hSW.blk L7 hLO).cell (j := 4) rfl
          have m5 := (hSW.blk L7 hLO).cell (j := 5) rfl
          go_simp
          try with_reducible rfl
        dsimp only [Act.put]
        refine wpAnyH_ready (rs := [8]) (by kernel_rfl) (by simp) ?_
        refine AllReadyH.cons (o := { dst := none, op := .store 44 (.tmp 52) (.tmp 51), type := _, pos := _, after := _, guard := _ }) rfl (fun K hK => ?_) AllReadyH.nil
        have y1 := Ol.cell (j := 1) rfl
        have z1 := Ol.frozen 1
        go_simp
        refine hK.out _ _ (hS.setCell (p := ⟨gO, 1, none⟩) (.inl (by simp)) _) (fun hS => ?_)
        clear hK K
        refine wpAnyH_done (by kernel_rfl) ?_ _
        go_wp2_with fail
        go_meet
        have hc2 : cellsN t.L ++ [.int .i64 n, .int .i64 sl, .int .i64 k, .int .i64 m, .int .i64 q, .string s] = cellsN (t.L ++ [⟨n, sl, ⟨k, m, q, s⟩⟩]) := by simp [cellsN, lnL, enL]
        rw [hc2] at hr2
        exact ⟨_, row_far hr2 (by show gO < H; omega) _, hS, Ol.set 1 _⟩
      · go_simp
        have XB : Blk (w9.alloc (.cells #[.int .i64 n, .int .i64 sl, .int .i64 k, .int .i64 m, .int .i64 q, .string s] 33)) (H + 1) 33 [.int .i64 n, .int .i64 sl, .int .i64 k, .int .i64 m, .int .i64 q, .string s] := Blk.newA' hz9 _ _
        replace EB := (Below.heap_alloc w9 (.cells #[.int .i64 n, .int .i64 sl, .int .i64 k, .int .i64 m, .int .i64 q, .string s] 33) H (by omega)).trans EB
        replace OB := OB.alloc (.cells #[.int .i64 n, .int .i64 sl, .int .i64 k, .int .i64 m, .int .i64 q, .string s] 33)
        replace DR := DR.alloc (.cells #[.int .i64 n, .int .i64 sl, .int .i64 k, .int .i64 m, .int .i64 q, .string s] 33)
        refine hK.out _ _ (hS.alloc _) (fun hS => ?_)
        clear hK K
        generalize w9.alloc (.cells #[.int .i64 n, .int .i64 sl, .int .i64 k, .int .i64 m, .int .i64 q, .string s] 33) = wd at *
        refine wpAnyH_ready (rs := [3]) (by kernel_rfl) (by simp) ?_
        refine AllReadyH.cons (o := { dst := some 48, op := .call { callee := .builtin .append, args := #[.tmp 45, .tmp 47], argTypes := #[44, 44] }, type := _, pos := _, after := _, guard := _ }) rfl (fun K hK => ?_) AllReadyH.nil
        refine step_clone rfl (.tmp 45) (.tmp 47) 44 rfl H 33 i0 (.agg #[.int .i64 0, .int .i64 0, .int .i64 0, .int .i64 0, .int .i64 0, .string ⟨#[]⟩]) 6 56 Tryd.underlying44 hi hz0 hz1 hz2 rfl (by decide) H (by rfl) EB (Nat.le_refl _) (.slice a n c) n base (cellsN t.L) (by rfl) DR hnil (cellsN_one _) (by unfold maxLen; omega) (by omega) ?_
        intro v1 wc hr1 hg1
        refine hK.out _ _ (hS.grownH hg1 hH (by intro j hj; cases hj; omega)) (fun hS => ?_)
        clear hK K
        dsimp only [Act.put]
        replace OB : Blk wc gO 49 _ := (hg1.block gO OB.lt (fun e => by cases e; omega)).trans OB
        replace XB : Blk wc (H + 1) 33 _ := (hg1.block (H + 1) XB.lt (fun e => by cases e)).trans XB
        refine wpAnyH_ready (rs := [6]) (by kernel_rfl) (by simp) ?_
        refine AllReadyH.cons (o := { dst := some 51, op := .call { callee := .builtin .append, args := #[.tmp 48, .tmp 50], argTypes := #[44, 44] }, type := _, pos := _, after := _, guard := _ }) rfl (fun K hK => ?_) AllReadyH.nil
        refine step_append_lies _ rfl (.tmp 48) (.tmp 50) 44 rfl H 33 i0 (.agg #[.int .i64 0, .int .i64 0, .int .i64 0, .int .i64 0, .int .i64 0, .string ⟨#[]⟩]) 6 56 Tryd.underlying44 hi hz0 hz1 hz2 rfl (by decide) v1 n (cellsN t.L) (by rfl) hr1 ⟨H + 1, 0, none⟩ 1 1 [.int .i64 n, .int .i64 sl, .int .i64 k, .int .i64 m, .int .i64 q, .string s] (by rfl) rfl XB.news lnL_one (by decide) (by unfold maxLen; omega) (by omega) (by have := hS.size; omega) _ rfl ?_
        intro g2 cap2 wl hr2 hg2 _ _
        have hvk : ∀ j, v1.ownBlock = some j → H ≤ j := fun j hj => (hr1.lt j hj).1
        refine hK.out _ _ (hS.grownH hg2 hH hvk) (fun hS => ?_)
        clear hK K
        dsimp only [Act.put]
        have Ol : Blk wl gO 49 _ := (hg2.block gO (by have := OB.lt; exact this) (fun e => by have := hvk _ e.symm; omega)).trans OB
        refine wpAnyH_take (i := 7) (v := ?_) rfl (by kernel_rfl) (by kernel_rfl) (by kernel_rfl) (fun _ _ _ h => h) (Or.inl ⟨by rfl, ?_⟩) hS ?_
        rotate_left
        · intro W hSW
          have l1 := (hSW.blk T7 h3O).cell (j := 1) rfl
          have m0 := (hSW.blk L7 hLO).cell (j := 0) rfl
          have m1 := (hSW.blk L7 hLO).cell (j := 1) rfl
          have m2 := (hSW.blk L7 hLO).cell (j := 2) rfl
          have m3 := (hSW.blk L7 hLO).cell (j := 3) rfl
          have m4 := (hSW.blk L7 hLO).cell (j := 4) rfl
          have m5 := (hSW.blk L7 hLO).cell (j := 5) rfl
          go_simp
          try with_reducible rfl
        dsimp only [Act.put]
        refine wpAnyH_ready (rs := [8]) (by kernel_rfl) (by simp) ?_
        refine AllReadyH.cons (o := { dst := none, op := .store 44 (.tmp 52) (.tmp 51), type := _, pos := _, after := _, guard := _ }) rfl (fun K hK => ?_) AllReadyH.nil
        have y1 := Ol.cell (j := 1) rfl
        have z1 := Ol.frozen 1
        go_simp
        refine hK.out _ _ (hS.setCell (p := ⟨gO, 1, none⟩) (.inl (by simp)) _) (fun hS => ?_)
        clear hK K
        refine wpAnyH_done (by kernel_rfl) ?_ _
        go_wp2_with fail
        go_meet
        have hc2 : cellsN t.L ++ [.int .i64 n, .int .i64 sl, .int .i64 k, .int .i64 m, .int .i64 q, .string s] = cellsN (t.L ++ [⟨n, sl, ⟨k, m, q, s⟩⟩]) := by simp [cellsN, lnL, enL]
        rw [hc2] at hr2
        exact ⟨_, row_far hr2 (by show gO < H; omega) _, hS, Ol.set 1 _⟩
    · go_simp
      have XB : Blk (w8.alloc (.cells #[.int .i64 n, .int .i64 sl, .int .i64 k, .int .i64 m, .int .i64 q, .string s] 33)) H 33 [.int .i64 n, .int .i64 sl, .int .i64 k, .int .i64 m, .int .i64 q, .string s] := Blk.newA' hH8 _ _
      have OB := O8.alloc (.cells #[.int .i64 n, .int .i64 sl, .int .i64 k, .int .i64 m, .int .i64 q, .string s] 33)
      have DR := hDR.alloc (.cells #[.int .i64 n, .int .i64 sl, .int .i64 k, .int .i64 m, .int .i64 q, .string s] 33)
      have hz9 := alloc_size hH8 (.cells #[.int .i64 n, .int .i64 sl, .int .i64 k, .int .i64 m, .int .i64 q, .string s] 33)
      refine hK.out _ _ (hS.alloc _) (fun hS => ?_)
      clear hK K O8 hDR
      generalize w8.alloc (.cells #[.int .i64 n, .int .i64 sl, .int .i64 k, .int .i64 m, .int .i64 q, .string s] 33) = w9 at *
      refine wpAnyH_ready (rs := [0]) (by kernel_rfl) (by simp) ?_
      refine AllReadyH.cons (o := { dst := some 45, op := .buildSlice 44 0 #[], type := _, pos := _, after := _, guard := _ }) rfl (fun K hK => ?_) AllReadyH.nil
      go_simp
      have EB : (w9.alloc (.cells #[] 33)).heap[H + 1]? = some (.cells #[] 33 (0, 0)) := by rw [← hz9]; exact World.alloc_heap_new _ _
      replace OB := OB.alloc (.cells #[] 33)
      replace DR := DR.alloc (.cells #[] 33)
      replace XB := XB.alloc (.cells #[] 33)
      refine hK.out _ _ (hS.alloc _) (fun hS => ?_)
      clear hK K
      generalize w9.alloc (.cells #[] 33) = wd at *
      refine wpAnyH_ready (rs := [3]) (by kernel_rfl) (by simp) ?_
      refine AllReadyH.cons (o := { dst := some 48, op := .call { callee := .builtin .append, args := #[.tmp 45, .tmp 47], argTypes := #[44, 44] }, type := _, pos := _, after := _, guard := _ }) rfl (fun K hK => ?_) AllReadyH.nil
      refine step_clone rfl (.tmp 45) (.tmp 47) 44 rfl H 33 i0 (.agg #[.int .i64 0, .int .i64 0, .int .i64 0, .int .i64 0, .int .i64 0, .string ⟨#[]⟩]) 6 56 Tryd.underlying44 hi hz0 hz1 hz2 rfl (by decide) (H + 1) (by rfl) EB (Nat.le_succ _) (.slice a n c) n base (cellsN t.L) (by rfl) DR hnil (cellsN_one _) (by unfold maxLen; omega) (by omega) ?_
      intro v1 wc hr1 hg1
      refine hK.out _ _ (hS.grownH hg1 hH (by intro j hj; cases hj; omega)) (fun hS => ?_)
      clear hK K
      dsimp only [Act.put]
      replace OB : Blk wc gO 49 _ := (hg1.block gO OB.lt (fun e => by cases e; omega)).trans OB
      replace XB : Blk wc H 33 _ := (hg1.block H XB.lt (fun e => by cases e)).trans XB
      refine wpAnyH_ready (rs := [6]) (by kernel_rfl) (by simp) ?_
      refine AllReadyH.cons (o := { dst := some 51, op := .call { callee := .builtin .append, args := #[.tmp 48, .tmp 50], argTypes := #[44, 44] }, type := _, pos := _, after := _, guard := _ }) rfl (fun K hK => ?_) AllReadyH.nil
      refine step_append_lies _ rfl (.tmp 48) (.tmp 50) 44 rfl H 33 i0 (.agg #[.int .i64 0, .int .i64 0, .int .i64 0, .int .i64 0, .int .i64 0, .string ⟨#[]⟩]) 6 56 Tryd.underlying44 hi hz0 hz1 hz2 rfl (by decide) v1 n (cellsN t.L) (by rfl) hr1 ⟨H, 0, none⟩ 1 1 [.int .i64 n, .int .i64 sl, .int .i64 k, .int .i64 m, .int .i64 q, .string s] (by rfl) rfl XB.news lnL_one (by decide) (by unfold maxLen; omega) (by omega) (by have := hS.size; omega) _ rfl ?_
      intro g2 cap2 wl hr2 hg2 _ _
      have hvk : ∀ j, v1.ownBlock = some j → H ≤ j := fun j hj => (hr1.lt j hj).1
      refine hK.out _ _ (hS.grownH hg2 hH hvk) (fun hS => ?_)
      clear hK K
      dsimp only [Act.put]
      have Ol : Blk wl gO 49 _ := (hg2.block gO (by have := OB.lt; exact this) (fun e => by have := hvk _ e.symm; omega)).trans OB
      refine wpAnyH_take (i := 7) (v := ?_) rfl (by kernel_rfl) (by kernel_rfl) (by kernel_rfl) (fun _ _ _ h => h) (Or.inl ⟨by rfl, ?_⟩) hS ?_
      rotate_left
      · intro W hSW
        have l1 := (hSW.blk T7 h3O).cell (j := 1) rfl
        have m0 := (hSW.blk L7 hLO).cell (j := 0) rfl
        have m1 := (hSW.blk L7 hLO).cell (j := 1) rfl
        have m2 := (hSW.blk L7 hLO).cell (j := 2) rfl
        have m3 := (hSW.blk L7 hLO).cell (j := 3) rfl
        have m4 := (hSW.blk L7 hLO).cell (j := 4) rfl
        have m5 := (hSW.blk L7 hLO).cell (j := 5) rfl
        go_simp
        try with_reducible rfl
      dsimp only [Act.put]
      refine wpAnyH_ready (rs := [8]) (by kernel_rfl) (by simp) ?_
      refine AllReadyH.cons (o := { dst := none, op := .store 44 (.tmp 52) (.tmp 51), type := _, pos := _, after := _, guard := _ }) rfl (fun K hK => ?_) AllReadyH.nil
      have y1 := Ol.cell (j := 1) rfl
      have z1 := Ol.frozen 1
      go_simp
      refine hK.out _ _ (hS.setCell (p := ⟨gO, 1, none⟩) (.inl (by simp)) _) (fun hS => ?_)
      clear hK K
      refine wpAnyH_done (by kernel_rfl) ?_ _
      go_wp2_with fail
      go_meet
      have hc2 : cellsN t.L ++ [.int .i64 n, .int .i64 sl, .int .i64 k, .int .i64 m, .int .i64 q, .string s] = cellsN (t.L ++ [⟨n, sl, ⟨k, m, q, s⟩⟩]) := by simp [cellsN, lnL, enL]
      rw [hc2] at hr2
      exact ⟨_, row_far hr2 (by show gO < H; omega) _, hS, Ol.set 1 _⟩
  case rest =>
    obtain ⟨sv', hrow, hKc, OC⟩ := hcut
    obtain ⟨gs, cs, rfl⟩ := ownsRow_succ hrow
    have hbc : Below g0 w wc := hb9.trans (hKc.below (by omega) (by simp; omega))
    have LC := hKc.blk L7 hLO
    have Y6c := hKc.blk Y6 (by simp; omega)
    have Y7c := hKc.blk Y7 (by simp; omega)
    have hwc := hbc.size
    have hw7 : w.heap.size ≤ H := by omega
    clear hKc L7 Y6 Y7 T7 O7 D7 hb9
    have p0 := OC.cell (j := 0) rfl
    have p1 := OC.cell (j := 1) rfl
    have l0 := LC.cell (j := 0) rfl
    have l1 := LC.cell (j := 1) rfl
    have l2 := LC.cell (j := 2) rfl
    have l3 := LC.cell (j := 3) rfl
    have l4 := LC.cell (j := 4) rfl
    have l5 := LC.cell (j := 5) rfl
    have o0 := Y6c.cell (j := 0) rfl
    have o1 := Y6c.cell (j := 1) rfl
    have h0 := Y6c.frozen 0
    have h1 := Y6c.frozen 1
    have r0 := Y7c.cell (j := 0) rfl
    have r1 := Y7c.cell (j := 1) rfl
    have r2 := Y7c.cell (j := 2) rfl
    have r3 := Y7c.cell (j := 3) rfl
    have r4 := Y7c.cell (j := 4) rfl
    have r5 := Y7c.cell (j := 5) rfl
    have f0 := Y7c.frozen 0
    have f1 := Y7c.frozen 1
    have f2 := Y7c.frozen 2
    have f3 := Y7c.frozen 3
    have f4 := Y7c.frozen 4
    have f5 := Y7c.frozen 5
    clear OC LC Y6c Y7c
    go_wp2_with fail
    go_region
    have hb10 := (below8 hbc (g := g0 + 1 + 1) (h := g0 + 1 + 1 + 1) (by omega) (by omega) (.int .i64 (sl + 1)) (.slice (some ⟨gs, 0, none⟩) (n + 1) cs) (.int .i64 n) (.int .i64 sl) (.int .i64 k) (.int .i64 m) (.int .i64 q) (.string s)).drew
    have hrow2 := own_drew (row8 hrow (g := g0 + 1 + 1) (h := g0 + 1 + 1 + 1) (by omega) (by omega) (.int .i64 (sl + 1)) (.slice (some ⟨gs, 0, none⟩) (n + 1) cs) (.int .i64 n) (.int .i64 sl) (.int .i64 k) (.int .i64 m) (.int .i64 q) (.string s))
    go_wp2
    (try simp only [Exit.inBlock, Exit.then])
    refine bodyPost_ret (v := .tuple #[.agg #[.int .i64 (sl + 1), .slice (some ⟨gs, 0, none⟩) (n + 1) cs], .agg #[.int .i64 n, .int .i64 sl, .int .i64 k, .int .i64 m, .int .i64 q, .string s], .bool true, .int .i64 0]) ?_ rfl ⟨⟨_, rfl, ⟨?_, ?_⟩, .inr ?_⟩, ?_⟩
    · rw [results_c2t2 rfl]
      go_simp
    · have hlen : (t.L ++ [(⟨n, sl, ⟨k, m, q, s⟩⟩ : Ln)]).length = n + 1 := by simp [hnn]
      rw [hlen]
      exact row_low hrow2 (by omega)
    · intro e; simp at e
    · intro k' hk'; have := (hrow.lt k' hk').1; have h7 := hw7; omega
    · (try rw [hg0])
      exact hb10
/-- The document's Apply answers as the talk's own. -/
theorem refApply_any (base : Nat) (t : Tk) (slot : Int) (e : En) (sv : Value) (w : World) (hD : DW w base sv t.L) (hbase : base ≤ w.heap.size) (hfew : t.L.length ≤ t.sl) (hs : e.s.size ≤ 9223372036854775807) (hgood : rwB t.L e = wdB t e) :
    Calls Tryd.prog 29 #[.agg #[.int .i64 t.sl, sv], .int .i64 slot, enV e] w (daP w base t slot e sv) := by
  cases hr : rightE e && goodB t slot
  · exact refApply_not base t slot e sv w hD hs hr
  · obtain ⟨h1, h2⟩ : rightE e = true ∧ goodB t slot = true := by simpa using hr
    cases hc : cntB t e
    · exact refApply_skip base t slot e sv w hD hfew hs h1 h2 hc (by rw [hgood, wdB, hc, Bool.and_false])
    · exact refApply_take base t slot e sv w hD hbase hfew hs h1 h2 hc (by rw [hgood, wdB, h1, hc]; rfl)
end Go.Proofs.YtndechodaegkiaaDoor
