
/- The document's talk: New. -/
import Derived.Test.YtndechodaegkiaaDoorChR
namespace Go.Proofs.YtndechodaegkiaaDoor
open Go.RowKit
theorem extA_then {W W' W'' : World} (h : ExtA W W') (hb : Below W'.heap.size W' W'') : ExtA W W'' := Below.trans h (hb.mono h.size)
theorem dw_far {W : World} {base : Nat} {sv : Value} {L : List Ln} (h : DW W base sv L) {p : Addr} (hp : ∀ k, sv.ownBlock = some k → k ≠ p.block) (u : Value) : DW (W.setCell p u) base sv L := by
  refine ⟨?_, h.nil⟩
  obtain ⟨h1, h2⟩ := h.row
  refine ⟨h1, ?_⟩
  rcases h2 with h2 | ⟨b, cap, cur, hv, hg, hh, r⟩
  · exact Or.inl h2
  · refine Or.inr ⟨b, cap, cur, hv, hg, ?_, r⟩
    rw [Below.heap_setCell _ _ _ _ (hp b (by rw [hv]; rfl))]
    exact hh
theorem dw_type {W : World} {base g : Nat} {sv : Value} {L : List Ln} {cs : List Value} (h : DW W base sv L) (hX : Blk W g 49 cs) : ∀ k, sv.ownBlock = some k → k ≠ g := by
  intro k hk e
  subst e
  rcases h.row.2 with ⟨rfl, _⟩ | ⟨b, cap, cur, hv, hg, hh, r⟩
  · cases hk
  · rw [hv] at hk
    obtain rfl : b = k := Option.some.inj hk
    have := (show _ = _ from hX).symm.trans hh
    cases this
theorem Blk.six' {W : World} {g h : Nat} {t : TypeId} {cs : List Value} (hb : Blk W g t cs) (hne : g ≠ h) (a b c d e f : Value) : Blk ((((((W.setCell ⟨h, 0, none⟩ a).setCell ⟨h, 1, none⟩ b).setCell ⟨h, 2, none⟩ c).setCell ⟨h, 3, none⟩ d).setCell ⟨h, 4, none⟩ e).setCell ⟨h, 5, none⟩ f) g t cs :=
  (((((hb.other hne 0 a).other hne 1 b).other hne 2 c).other hne 3 d).other hne 4 e).other hne 5 f
theorem dw_six {W : World} {base h : Nat} {sv : Value} {L : List Ln} (hD : DW W base sv L) (hp : ∀ k, sv.ownBlock = some k → k ≠ h) (a b c d e f : Value) : DW ((((((W.setCell ⟨h, 0, none⟩ a).setCell ⟨h, 1, none⟩ b).setCell ⟨h, 2, none⟩ c).setCell ⟨h, 3, none⟩ d).setCell ⟨h, 4, none⟩ e).setCell ⟨h, 5, none⟩ f) base sv L :=
  dw_far (dw_far (dw_far (dw_far (dw_far (dw_far hD (p := ⟨h, 0, none⟩) hp a) (p := ⟨h, 1, none⟩) hp b) (p := ⟨h, 2, none⟩) hp c) (p := ⟨h, 3, none⟩) hp d) (p := ⟨h, 4, none⟩) hp e) (p := ⟨h, 5, none⟩) hp f
theorem Below.six' {B h : Nat} {w W : World} (hb : Below B w W) (hh : B ≤ h) (a b c d e f : Value) : Below B w ((((((W.setCell ⟨h, 0, none⟩ a).setCell ⟨h, 1, none⟩ b).setCell ⟨h, 2, none⟩ c).setCell ⟨h, 3, none⟩ d).setCell ⟨h, 4, none⟩ e).setCell ⟨h, 5, none⟩ f) :=
  (((((hb.setCell (p := ⟨h, 0, none⟩) hh a).setCell (p := ⟨h, 1, none⟩) hh b).setCell (p := ⟨h, 2, none⟩) hh c).setCell (p := ⟨h, 3, none⟩) hh d).setCell (p := ⟨h, 4, none⟩) hh e).setCell (p := ⟨h, 5, none⟩) hh f
def dnP (w : World) (l : List En) (r : Ending) (w' : World) : Prop :=
  (if (newF tk0 0 l).2 = 0 then ∃ sv, r = .returned (.tuple #[.agg #[.int .i64 (newF tk0 0 l).1.sl, sv], .int .i64 0]) ∧ DW w' w.heap.size sv (newF tk0 0 l).1.L
   else r = .returned (.tuple #[.agg #[.int .i64 0, .slice none 0 0], .int .i64 (newF tk0 0 l).2])) ∧ Below w.heap.size w w'
set_option maxRecDepth 100000 in
set_option maxHeartbeats 4000000 in
theorem refNew_any (l : List En) (ao : Option Addr) (c : Nat) (w : World) (hE : HasE w ao l) (hs : ∀ e, e ∈ l → e.s.size ≤ 9223372036854775807) (hl : l.length ≤ 9223372036854775807) :
    Calls Tryd.prog 19 #[.slice ao l.length c] w (dnP w l) := by
  obtain ⟨N, hN⟩ : ∃ N, l.length = N := ⟨_, rfl⟩
  have hNI : (N : Int) ≤ 9223372036854775807 := by omega
  rw [hN]
  obtain ⟨R, hR⟩ : ∃ R, newF tk0 0 l = R := ⟨_, rfl⟩
  unfold dnP
  rw [hR]
  go_enter Tryd.func19, Tryd.ntmps19
  go_upto_region 2 with fail
  obtain ⟨X2, X4, hb, hz⟩ := two w 49 49 #[.int .i64 0, .slice none 0 0] #[.int .i64 0, .slice none 0 0]
  generalize (w.alloc (.cells #[.int .i64 0, .slice none 0 0] 49)).alloc (.cells #[.int .i64 0, .slice none 0 0] 49) = W at *
  obtain ⟨B, hB⟩ : ∃ B, w.heap.size = B := ⟨_, rfl⟩
  rw [hB] at X2 X4 hb hz
  have hR0 := Lib.hid hR
  clear hR
  have hrow : ∀ wr, Below B w wr → HasE wr ao l := fun wr h => hE.step (by rw [hB]; exact h)
  clear hE
  go_wp2_with fail
  have D0 : DW W B (.slice none 0 0) tk0.L := ⟨World.ownsRow_nil _ _ _ _, fun _ => rfl⟩
  go_loopw [5] (fun i wr => ∃ (j : Nat) (t : Tk) (sv : Value), i = .int .i64 j ∧ Blk wr B 49 [.int .i64 0, .slice none 0 0] ∧ Blk wr (B + 1) 49 [.int .i64 t.sl, sv] ∧ DW wr B sv t.L ∧ Good t ∧ Below B w wr ∧ j ≤ N ∧ Hid (newF t j (l.drop j) = R)) (fun i _ => N - (intOf i).toNat)
  case atStart => exact ⟨0, tk0, _, rfl, X2, X4, D0, good0, hb, by omega, hR0⟩
  case round =>
    clear X2 X4 hb hz hR0 D0
    obtain ⟨j, t, sv, rfl, X2, X4, D, hG, hb, hj, HR⟩ := hrel
    by_cases hlt : j < N
    · obtain ⟨e, he⟩ : ∃ e, l[j]? = some e := ⟨l[j], by simp [hN, hlt]⟩
      obtain ⟨b, off, rfl, q0, q1, q2, q3⟩ := hrow wr hb j e he
      have hse := hs e (List.mem_of_getElem? he)
      have hj0 : (0 : Int) ≤ (j : Int) := by omega
      have hj1 : (j : Int) < (N : Int) := by omega
      have hgs : B + 1 < wr.heap.size := X4.lt
      obtain ⟨a, c2, rfl⟩ := D.sl
      have x0 := extA_cell (X4.cell (j := 0) rfl)
      have x1 := extA_cell (X4.cell (j := 1) rfl)
      have HR' := HR.out
      rw [List.drop_eq_getElem_cons (by omega : j < l.length), show l[j]'(by omega) = e from (List.getElem?_eq_some_iff.1 he).2] at HR'
      unfold newF at HR'
      have cA0 := fun W (hD : DW W B (.slice a t.L.length c2) t.L) (hw : B ≤ W.heap.size) => refApply_any B t j e (.slice a t.L.length c2) W hD hw hG.few hse (hG.would e)
      unfold daP at cA0
      have hG2 := hG.next j e
      obtain ⟨n, hn⟩ : ∃ n, t.L.length = n := ⟨_, rfl⟩
      obtain ⟨sl, hsl⟩ : ∃ sl : Nat, t.sl = sl := ⟨_, rfl⟩
      rw [hn] at X4 x1
      rw [hsl] at X4 x0
      rw [hn] at cA0
      rw [hsl] at cA0
      generalize apT t j e = t2 at cA0 HR' hG2
      generalize apX t j e = X at cA0
      generalize apB t j e = A at cA0
      generalize apE t j e = E at cA0 HR'
      obtain ⟨n3, hn3⟩ : ∃ n, t2.L.length = n := ⟨_, rfl⟩
      obtain ⟨sl2, hsl2⟩ : ∃ sl : Nat, t2.sl = sl := ⟨_, rfl⟩
      rw [hsl2] at cA0
      obtain ⟨x1', x2', x3', x4', x5', x6'⟩ := X
      obtain ⟨k, m, q, s⟩ := e
      simp only at q0 q1 q2 q3
      have y0 := extA_cell q0
      have y1 := extA_cell q1
      have y2 := extA_cell q2
      have y3 := extA_cell q3
      clear q0 q1 q2 q3
      have cA : ∀ W, ExtA wr W → Calls Tryd.prog 29 #[.agg #[.int .i64 sl, .slice a n c2], .int .i64 j, .agg #[.int .i64 k, .int .i64 m, .int .i64 q, .string s]] W (fun r w' => (∃ sv', r = .returned (.tuple #[.agg #[.int .i64 sl2, sv'], .agg #[.int .i64 x1', .int .i64 x2', .int .i64 x3', .int .i64 x4', .int .i64 x5', .string x6'], .bool A, .int .i64 E]) ∧ DW w' B sv' t2.L ∧ (sv' = .slice a n c2 ∨ ∀ k, sv'.ownBlock = some k → W.heap.size ≤ k)) ∧ Below W.heap.size W w') :=
        fun W hW => cA0 W (by have := D.step hW; rw [hn] at this; exact this) (by have := Below.size hW; omega)
      have hDo : ∀ k, (Value.slice a n c2).ownBlock = some k → k < wr.heap.size := fun k hk => by have := D.row; rw [hn] at this; exact (this.lt k hk).2
      clear cA0
      go_wp2_with fail
      go_cut [6, 7, 8, 9] from 10 to 32 (fun v6 v7 v8 v9 wx => ∃ g6 sv', v6 = .pointer (some ⟨g6, 0, none⟩) ∧ v9 = .int .i64 E ∧ wr.heap.size ≤ g6 ∧ Blk wx g6 49 [.int .i64 sl2, sv'] ∧ DW wx B sv' t2.L ∧ Below wr.heap.size wr wx)
      case first =>
        refine wp_region_held (S := ExtA wr) (by kernel_rfl) ?_
        have hS : ExtA wr { wr with drawn := wr.drawn + 1 } := ⟨rfl, rfl, rfl, Nat.le_refl _, fun _ _ => rfl⟩
        generalize ({ wr with drawn := wr.drawn + 1 } : World) = w8 at *
        refine wpAnyH_take (i := 0) (v := ?_) rfl (by kernel_rfl) (by kernel_rfl) (by kernel_rfl) (fun _ _ _ h => h) (Or.inl ⟨by rfl, ?_⟩) hS ?_
        rotate_left
        · intro W hSW
          have l0 := x0 _ hSW
          have l1 := x1 _ hSW
          have m0 := y0 _ hSW
          have m1 := y1 _ hSW
          have m2 := y2 _ hSW
          have m3 := y3 _ hSW
          go_simp
          try with_reducible rfl
        dsimp only [Act.put]
        refine wpAnyH_take (i := 1) (v := ?_) rfl (by kernel_rfl) (by kernel_rfl) (by kernel_rfl) (fun _ _ _ h => h) (Or.inl ⟨by rfl, ?_⟩) hS ?_
        rotate_left
        · intro W hSW
          have l0 := x0 _ hSW
          have l1 := x1 _ hSW
          have m0 := y0 _ hSW
          have m1 := y1 _ hSW
          have m2 := y2 _ hSW
          have m3 := y3 _ hSW
          go_simp
          try with_reducible rfl
        dsimp only [Act.put]
        refine wpAnyH_take (i := 2) (v := ?_) rfl (by kernel_rfl) (by kernel_rfl) (by kernel_rfl) (fun _ _ _ h => h) (Or.inl ⟨by rfl, ?_⟩) hS ?_
        rotate_left
        · intro W hSW
          have l0 := x0 _ hSW
          have l1 := x1 _ hSW
          have m0 := y0 _ hSW
          have m1 := y1 _ hSW
          have m2 := y2 _ hSW
          have m3 := y3 _ hSW
          go_simp
          try with_reducible rfl
        dsimp only [Act.put]
        refine wpAnyH_take (i := 3) (v := ?_) rfl (by kernel_rfl) (by kernel_rfl) (by kernel_rfl) (fun _ _ _ h => h) (Or.inl ⟨by rfl, ?_⟩) hS ?_
        rotate_left
        · intro W hSW
          have l0 := x0 _ hSW
          have l1 := x1 _ hSW
          have m0 := y0 _ hSW
          have m1 := y1 _ hSW
          have m2 := y2 _ hSW
          have m3 := y3 _ hSW
          go_simp
          try with_reducible rfl
        dsimp only [Act.put]
        refine wpAnyH_take (i := 4) (v := ?_) rfl (by kernel_rfl) (by kernel_rfl) (by kernel_rfl) (fun _ _ _ h => h) (Or.inl ⟨by rfl, ?_⟩) hS ?_
        rotate_left
        · intro W hSW
          have l0 := x0 _ hSW
          have l1 := x1 _ hSW
          have m0 := y0 _ hSW
          have m1 := y1 _ hSW
          have m2 := y2 _ hSW
          have m3 := y3 _ hSW
          go_simp
          try with_reducible rfl
        dsimp only [Act.put]
        refine wpAnyH_take (i := 5) (v := ?_) rfl (by kernel_rfl) (by kernel_rfl) (by kernel_rfl) (fun _ _ _ h => h) (Or.inl ⟨by rfl, ?_⟩) hS ?_
        rotate_left
        · intro W hSW
          have l0 := x0 _ hSW
          have l1 := x1 _ hSW
          have m0 := y0 _ hSW
          have m1 := y1 _ hSW
          have m2 := y2 _ hSW
          have m3 := y3 _ hSW
          go_simp
          try with_reducible rfl
        dsimp only [Act.put]
        refine wpAnyH_ready (rs := [6, 12, 13]) (by kernel_rfl) (by simp) ?_
        refine AllReadyH.cons (o := { dst := some 23, op := .call { callee := .value (.func 29), args := #[.tmp 17, .tmp 18, .tmp 22], argTypes := #[49, 3, 26] }, type := _, pos := _, after := _, guard := _ }) rfl (fun K hK => ?_) (AllReadyH.cons (o := { dst := some 6, op := .alloc 49, type := _, pos := _, after := _, guard := _ }) rfl (fun K hK => ?_) (AllReadyH.cons (o := { dst := some 7, op := .alloc 33, type := _, pos := _, after := _, guard := _ }) rfl (fun K hK => ?_) AllReadyH.nil))
        ·
          go_simp
          refine (cA _ hS).mono ?_
          rintro e wz ⟨⟨sv', rfl, D', ho⟩, hbz⟩
          refine hK.out _ _ (extA_then hS hbz) (fun hS => ?_)
          clear hK K
          obtain ⟨a3, c3, rfl⟩ := D'.sl
          rw [hn3] at D' ho ⊢
          clear ho
          refine wpAnyH_take (i := 7) (v := ?_) rfl (by kernel_rfl) (by kernel_rfl) (by kernel_rfl) (fun _ _ _ h => h) (Or.inl ⟨by rfl, ?_⟩) hS ?_
          rotate_left
          · intro W hSW
            go_simp
            try with_reducible rfl
          dsimp only [Act.put]
          refine wpAnyH_take (i := 8) (v := ?_) rfl (by kernel_rfl) (by kernel_rfl) (by kernel_rfl) (fun _ _ _ h => h) (Or.inl ⟨by rfl, ?_⟩) hS ?_
          rotate_left
          · intro W hSW
            go_simp
            try with_reducible rfl
          dsimp only [Act.put]
          refine wpAnyH_take (i := 9) (v := ?_) rfl (by kernel_rfl) (by kernel_rfl) (by kernel_rfl) (fun _ _ _ h => h) (Or.inl ⟨by rfl, ?_⟩) hS ?_
          rotate_left
          · intro W hSW
            go_simp
            try with_reducible rfl
          dsimp only [Act.put]
          refine wpAnyH_take (i := 10) (v := ?_) rfl (by kernel_rfl) (by kernel_rfl) (by kernel_rfl) (fun _ _ _ h => h) (Or.inl ⟨by rfl, ?_⟩) hS ?_
          rotate_left
          · intro W hSW
            go_simp
            try with_reducible rfl
          dsimp only [Act.put]
          refine wpAnyH_take (i := 11) (v := ?_) rfl (by kernel_rfl) (by kernel_rfl) (by kernel_rfl) (fun _ _ _ h => h) (Or.inl ⟨by rfl, ?_⟩) hS ?_
          rotate_left
          · intro W hSW
            go_simp
            try with_reducible rfl
          dsimp only [Act.put]
          refine wpAnyH_ready (rs := [12, 13]) (by kernel_rfl) (by simp) ?_
          refine AllReadyH.cons (o := { dst := some 6, op := .alloc 49, type := _, pos := _, after := _, guard := _ }) rfl (fun K hK => ?_) (AllReadyH.cons (o := { dst := some 7, op := .alloc 33, type := _, pos := _, after := _, guard := _ }) rfl (fun K hK => ?_) AllReadyH.nil)
          ·
            go_simp
            obtain ⟨g6, hg6⟩ : ∃ g, wz.heap.size = g := ⟨_, rfl⟩
            have X6 := Blk.newA' hg6 49 #[.int .i64 0, .slice none 0 0]
            have h6 : wr.heap.size ≤ g6 := by have := Below.size hS; omega
            have hba := (Below.refl wz.heap.size wz).alloc (Nat.le_refl _) (.cells #[.int .i64 0, .slice none 0 0] 49)
            have o6 : ∀ k, (Value.slice a3 n3 c3).ownBlock = some k → k ≠ g6 := fun k hk => by
              have h1 := D'.row; rw [hn3] at h1
              have h2 := (h1.lt k hk).2
              omega
            replace D' := D'.step hba
            refine hK.out _ _ (extA_then hS hba) (fun hS => ?_)
            clear hK K hba
            rw [hg6]
            generalize wz.alloc (.cells #[.int .i64 0, .slice none 0 0] 49) = wa at *
            clear hg6
            refine wpAnyH_ready (rs := [13]) (by kernel_rfl) (by simp) ?_
            refine AllReadyH.cons (o := { dst := some 7, op := .alloc 33, type := _, pos := _, after := _, guard := _ }) rfl (fun K hK => ?_) AllReadyH.nil
            go_simp
            obtain ⟨g7, hg7⟩ : ∃ g, wa.heap.size = g := ⟨_, rfl⟩
            have X7 := Blk.newA' hg7 33 #[.int .i64 0, .int .i64 0, .int .i64 0, .int .i64 0, .int .i64 0, .string ⟨#[]⟩]
            have h7 : wr.heap.size ≤ g7 := by have := Below.size hS; omega
            have hba := (Below.refl wa.heap.size wa).alloc (Nat.le_refl _) (.cells #[.int .i64 0, .int .i64 0, .int .i64 0, .int .i64 0, .int .i64 0, .string ⟨#[]⟩] 33)
            have o7 : ∀ k, (Value.slice a3 n3 c3).ownBlock = some k → k ≠ g7 := fun k hk => by
              have h1 := D'.row; rw [hn3] at h1
              have h2 := (h1.lt k hk).2
              omega
            replace D' := D'.step hba
            replace X6 := X6.step hba
            refine hK.out _ _ (extA_then hS hba) (fun hS => ?_)
            clear hK K hba
            rw [hg7]
            generalize wa.alloc (.cells #[.int .i64 0, .int .i64 0, .int .i64 0, .int .i64 0, .int .i64 0, .string ⟨#[]⟩] 33) = wb at *
            clear hg7
            clear x0 x1 y0 y1 y2 y3 cA
            have hne : g6 ≠ g7 := by
              intro e
              subst e
              have h1 := (show _ = _ from X6).symm.trans (show _ = _ from X7)
              cases h1
            have z0 := X6.cell (j := 0) rfl
            have z1 := X6.cell (j := 1) rfl
            have p0 := X6.frozen 0
            have p1 := X6.frozen 1
            refine wpAnyH_ready (rs := [14]) (by kernel_rfl) (by simp) ?_
            refine AllReadyH.cons (o := { dst := none, op := .store 49 (.tmp 6) (.tmp 24), type := _, pos := _, after := _, guard := _ }) rfl (fun K hK => ?_) AllReadyH.nil
            go_simp
            refine hK.out _ _ ((Below.setCell (p := ⟨g6, 0, none⟩) hS (by show wr.heap.size ≤ g6; exact h6) _).setCell (p := ⟨g6, 1, none⟩) (by show wr.heap.size ≤ g6; exact h6) _) (fun hS => ?_)
            clear hK K
            have Y6 := (X6.set 0 (.int .i64 sl2)).set 1 (.slice a3 n3 c3)
            have Y7 := (X7.other (Ne.symm hne) 0 (.int .i64 sl2)).other (Ne.symm hne) 1 (.slice a3 n3 c3)
            have D2 := dw_far (dw_far D' (p := ⟨g6, 0, none⟩) o6 (.int .i64 sl2)) (p := ⟨g6, 1, none⟩) o6 (.slice a3 n3 c3)
            clear X6 X7 D' z0 z1 p0 p1
            generalize (wb.setCell ⟨g6, 0, none⟩ (.int .i64 sl2)).setCell ⟨g6, 1, none⟩ (.slice a3 n3 c3) = ws at *
            have r0 := Y7.cell (j := 0) rfl
            have r1 := Y7.cell (j := 1) rfl
            have r2 := Y7.cell (j := 2) rfl
            have r3 := Y7.cell (j := 3) rfl
            have r4 := Y7.cell (j := 4) rfl
            have r5 := Y7.cell (j := 5) rfl
            have f0 := Y7.frozen 0
            have f1 := Y7.frozen 1
            have f2 := Y7.frozen 2
            have f3 := Y7.frozen 3
            have f4 := Y7.frozen 4
            have f5 := Y7.frozen 5
            refine wpAnyH_ready (rs := [15]) (by kernel_rfl) (by simp) ?_
            refine AllReadyH.cons (o := { dst := none, op := .store 33 (.tmp 7) (.tmp 25), type := _, pos := _, after := _, guard := _ }) rfl (fun K hK => ?_) AllReadyH.nil
            go_simp
            refine hK.out _ _ (Below.six' hS h7 _ _ _ _ _ _) (fun hS => ?_)
            clear hK K
            have Y6' := Blk.six' Y6 hne (.int .i64 x1') (.int .i64 x2') (.int .i64 x3') (.int .i64 x4') (.int .i64 x5') (.string x6')
            have D3 := dw_six D2 o7 (.int .i64 x1') (.int .i64 x2') (.int .i64 x3') (.int .i64 x4') (.int .i64 x5') (.string x6')
            generalize (((((ws.setCell ⟨g7, 0, none⟩ (.int .i64 x1')).setCell ⟨g7, 1, none⟩ (.int .i64 x2')).setCell ⟨g7, 2, none⟩ (.int .i64 x3')).setCell ⟨g7, 3, none⟩ (.int .i64 x4')).setCell ⟨g7, 4, none⟩ (.int .i64 x5')).setCell ⟨g7, 5, none⟩ (.string x6') = wt at *
            clear r0 r1 r2 r3 r4 r5 f0 f1 f2 f3 f4 f5 Y6 Y7 D2
            refine wpAnyH_ready (rs := [16]) (by kernel_rfl) (by simp) ?_
            refine AllReadyH.cons (o := { dst := some 8, op := .assign (.tmp 26), type := _, pos := _, after := _, guard := _ }) rfl (fun K hK => ?_) AllReadyH.nil
            go_simp
            refine hK.out _ _ hS (fun hS => ?_)
            clear hK K
            refine wpAnyH_ready (rs := [17]) (by kernel_rfl) (by simp) ?_
            refine AllReadyH.cons (o := { dst := some 9, op := .assign (.tmp 27), type := _, pos := _, after := _, guard := _ }) rfl (fun K hK => ?_) AllReadyH.nil
            go_simp
            refine hK.out _ _ hS (fun hS => ?_)
            clear hK K
            refine wpAnyH_done (by kernel_rfl) ?_ _
            go_wp2_with fail
            go_meet
            case rel => exact ⟨g6, _, rfl, rfl, h6, Y6', D3, hS⟩
          ·
            go_simp
            obtain ⟨g7, hg7⟩ : ∃ g, wz.heap.size = g := ⟨_, rfl⟩
            have X7 := Blk.newA' hg7 33 #[.int .i64 0, .int .i64 0, .int .i64 0, .int .i64 0, .int .i64 0, .string ⟨#[]⟩]
            have h7 : wr.heap.size ≤ g7 := by have := Below.size hS; omega
            have hba := (Below.refl wz.heap.size wz).alloc (Nat.le_refl _) (.cells #[.int .i64 0, .int .i64 0, .int .i64 0, .int .i64 0, .int .i64 0, .string ⟨#[]⟩] 33)
            have o7 : ∀ k, (Value.slice a3 n3 c3).ownBlock = some k → k ≠ g7 := fun k hk => by
              have h1 := D'.row; rw [hn3] at h1
              have h2 := (h1.lt k hk).2
              omega
            replace D' := D'.step hba
            refine hK.out _ _ (extA_then hS hba) (fun hS => ?_)
            clear hK K hba
            rw [hg7]
            generalize wz.alloc (.cells #[.int .i64 0, .int .i64 0, .int .i64 0, .int .i64 0, .int .i64 0, .string ⟨#[]⟩] 33) = wb at *
            clear hg7
            refine wpAnyH_ready (rs := [12]) (by kernel_rfl) (by simp) ?_
            refine AllReadyH.cons (o := { dst := some 6, op := .alloc 49, type := _, pos := _, after := _, guard := _ }) rfl (fun K hK => ?_) AllReadyH.nil
            go_simp
            obtain ⟨g6, hg6⟩ : ∃ g, wb.heap.size = g := ⟨_, rfl⟩
            have X6 := Blk.newA' hg6 49 #[.int .i64 0, .slice none 0 0]
            have h6 : wr.heap.size ≤ g6 := by have := Below.size hS; omega
            have hba := (Below.refl wb.heap.size wb).alloc (Nat.le_refl _) (.cells #[.int .i64 0, .slice none 0 0] 49)
            have o6 : ∀ k, (Value.slice a3 n3 c3).ownBlock = some k → k ≠ g6 := fun k hk => by
              have h1 := D'.row; rw [hn3] at h1
              have h2 := (h1.lt k hk).2
              omega
            replace D' := D'.step hba
            replace X7 := X7.step hba
            refine hK.out _ _ (extA_then hS hba) (fun hS => ?_)
            clear hK K hba
            rw [hg6]
            generalize wb.alloc (.cells #[.int .i64 0, .slice none 0 0] 49) = wa at *
            clear hg6
            clear x0 x1 y0 y1 y2 y3 cA
            have hne : g6 ≠ g7 := by
              intro e
              subst e
              have h1 := (show _ = _ from X6).symm.trans (show _ = _ from X7)
              cases h1
            have z0 := X6.cell (j := 0) rfl
            have z1 := X6.cell (j := 1) rfl
            have p0 := X6.frozen 0
            have p1 := X6.frozen 1
            refine wpAnyH_ready (rs := [14]) (by kernel_rfl) (by simp) ?_
            refine AllReadyH.cons (o := { dst := none, op := .store 49 (.tmp 6) (.tmp 24), type := _, pos := _, after := _, guard := _ }) rfl (fun K hK => ?_) AllReadyH.nil
            go_simp
            refine hK.out _ _ ((Below.setCell (p := ⟨g6, 0, none⟩) hS (by show wr.heap.size ≤ g6; exact h6) _).setCell (p := ⟨g6, 1, none⟩) (by show wr.heap.size ≤ g6; exact h6) _) (fun hS => ?_)
            clear hK K
            have Y6 := (X6.set 0 (.int .i64 sl2)).set 1 (.slice a3 n3 c3)
            have Y7 := (X7.other (Ne.symm hne) 0 (.int .i64 sl2)).other (Ne.symm hne) 1 (.slice a3 n3 c3)
            have D2 := dw_far (dw_far D' (p := ⟨g6, 0, none⟩) o6 (.int .i64 sl2)) (p := ⟨g6, 1, none⟩) o6 (.slice a3 n3 c3)
            clear X6 X7 D' z0 z1 p0 p1
            generalize (wa.setCell ⟨g6, 0, none⟩ (.int .i64 sl2)).setCell ⟨g6, 1, none⟩ (.slice a3 n3 c3) = ws at *
            have r0 := Y7.cell (j := 0) rfl
            have r1 := Y7.cell (j := 1) rfl
            have r2 := Y7.cell (j := 2) rfl
            have r3 := Y7.cell (j := 3) rfl
            have r4 := Y7.cell (j := 4) rfl
            have r5 := Y7.cell (j := 5) rfl
            have f0 := Y7.frozen 0
            have f1 := Y7.frozen 1
            have f2 := Y7.frozen 2
            have f3 := Y7.frozen 3
            have f4 := Y7.frozen 4
            have f5 := Y7.frozen 5
            refine wpAnyH_ready (rs := [15]) (by kernel_rfl) (by simp) ?_
            refine AllReadyH.cons (o := { dst := none, op := .store 33 (.tmp 7) (.tmp 25), type := _, pos := _, after := _, guard := _ }) rfl (fun K hK => ?_) AllReadyH.nil
            go_simp
            refine hK.out _ _ (Below.six' hS h7 _ _ _ _ _ _) (fun hS => ?_)
            clear hK K
            have Y6' := Blk.six' Y6 hne (.int .i64 x1') (.int .i64 x2') (.int .i64 x3') (.int .i64 x4') (.int .i64 x5') (.string x6')
            have D3 := dw_six D2 o7 (.int .i64 x1') (.int .i64 x2') (.int .i64 x3') (.int .i64 x4') (.int .i64 x5') (.string x6')
            generalize (((((ws.setCell ⟨g7, 0, none⟩ (.int .i64 x1')).setCell ⟨g7, 1, none⟩ (.int .i64 x2')).setCell ⟨g7, 2, none⟩ (.int .i64 x3')).setCell ⟨g7, 3, none⟩ (.int .i64 x4')).setCell ⟨g7, 4, none⟩ (.int .i64 x5')).setCell ⟨g7, 5, none⟩ (.string x6') = wt at *
            clear r0 r1 r2 r3 r4 r5 f0 f1 f2 f3 f4 f5 Y6 Y7 D2
            refine wpAnyH_ready (rs := [16]) (by kernel_rfl) (by simp) ?_
            refine AllReadyH.cons (o := { dst := some 8, op := .assign (.tmp 26), type := _, pos := _, after := _, guard := _ }) rfl (fun K hK => ?_) AllReadyH.nil
            go_simp
            refine hK.out _ _ hS (fun hS => ?_)
            clear hK K
            refine wpAnyH_ready (rs := [17]) (by kernel_rfl) (by simp) ?_
            refine AllReadyH.cons (o := { dst := some 9, op := .assign (.tmp 27), type := _, pos := _, after := _, guard := _ }) rfl (fun K hK => ?_) AllReadyH.nil
            go_simp
            refine hK.out _ _ hS (fun hS => ?_)
            clear hK K
            refine wpAnyH_done (by kernel_rfl) ?_ _
            go_wp2_with fail
            go_meet
            case rel => exact ⟨g6, _, rfl, rfl, h6, Y6', D3, hS⟩
        ·
          go_simp
          obtain ⟨g6, hg6⟩ : ∃ g, w8.heap.size = g := ⟨_, rfl⟩
          have X6 := Blk.newA' hg6 49 #[.int .i64 0, .slice none 0 0]
          have h6 : wr.heap.size ≤ g6 := by have := Below.size hS; omega
          have hba := (Below.refl w8.heap.size w8).alloc (Nat.le_refl _) (.cells #[.int .i64 0, .slice none 0 0] 49)
          refine hK.out _ _ (extA_then hS hba) (fun hS => ?_)
          clear hK K hba
          rw [hg6]
          generalize w8.alloc (.cells #[.int .i64 0, .slice none 0 0] 49) = wa at *
          clear hg6
          refine wpAnyH_ready (rs := [6, 13]) (by kernel_rfl) (by simp) ?_
          refine AllReadyH.cons (o := { dst := some 23, op := .call { callee := .value (.func 29), args := #[.tmp 17, .tmp 18, .tmp 22], argTypes := #[49, 3, 26] }, type := _, pos := _, after := _, guard := _ }) rfl (fun K hK => ?_) (AllReadyH.cons (o := { dst := some 7, op := .alloc 33, type := _, pos := _, after := _, guard := _ }) rfl (fun K hK => ?_) AllReadyH.nil)
          ·
            go_simp
            refine (cA _ hS).mono ?_
            rintro e wz ⟨⟨sv', rfl, D', ho⟩, hbz⟩
            refine hK.out _ _ (extA_then hS hbz) (fun hS => ?_)
            clear hK K
            obtain ⟨a3, c3, rfl⟩ := D'.sl
            rw [hn3] at D' ho ⊢
            have o6 : ∀ k, (Value.slice a3 n3 c3).ownBlock = some k → k ≠ g6 := fun k hk => by
              rcases ho with ho | ho
              · have h1 := hDo k (by rw [← ho]; exact hk)
                omega
              · have h1 := ho k hk
                have h2 := X6.lt
                omega
            clear ho
            replace X6 := X6.step hbz
            refine wpAnyH_take (i := 7) (v := ?_) rfl (by kernel_rfl) (by kernel_rfl) (by kernel_rfl) (fun _ _ _ h => h) (Or.inl ⟨by rfl, ?_⟩) hS ?_
            rotate_left
            · intro W hSW
              go_simp
              try with_reducible rfl
            dsimp only [Act.put]
            refine wpAnyH_take (i := 8) (v := ?_) rfl (by kernel_rfl) (by kernel_rfl) (by kernel_rfl) (fun _ _ _ h => h) (Or.inl ⟨by rfl, ?_⟩) hS ?_
            rotate_left
            · intro W hSW
              go_simp
              try with_reducible rfl
            dsimp only [Act.put]
            refine wpAnyH_take (i := 9) (v := ?_) rfl (by kernel_rfl) (by kernel_rfl) (by kernel_rfl) (fun _ _ _ h => h) (Or.inl ⟨by rfl, ?_⟩) hS ?_
            rotate_left
            · intro W hSW
              go_simp
              try with_reducible rfl
            dsimp only [Act.put]
            refine wpAnyH_take (i := 10) (v := ?_) rfl (by kernel_rfl) (by kernel_rfl) (by kernel_rfl) (fun _ _ _ h => h) (Or.inl ⟨by rfl, ?_⟩) hS ?_
            rotate_left
            · intro W hSW
              go_simp
              try with_reducible rfl
            dsimp only [Act.put]
            refine wpAnyH_take (i := 11) (v := ?_) rfl (by kernel_rfl) (by kernel_rfl) (by kernel_rfl) (fun _ _ _ h => h) (Or.inl ⟨by rfl, ?_⟩) hS ?_
            rotate_left
            · intro W hSW
              go_simp
              try with_reducible rfl
            dsimp only [Act.put]
            refine wpAnyH_ready (rs := [13]) (by kernel_rfl) (by simp) ?_
            refine AllReadyH.cons (o := { dst := some 7, op := .alloc 33, type := _, pos := _, after := _, guard := _ }) rfl (fun K hK => ?_) AllReadyH.nil
            go_simp
            obtain ⟨g7, hg7⟩ : ∃ g, wz.heap.size = g := ⟨_, rfl⟩
            have X7 := Blk.newA' hg7 33 #[.int .i64 0, .int .i64 0, .int .i64 0, .int .i64 0, .int .i64 0, .string ⟨#[]⟩]
            have h7 : wr.heap.size ≤ g7 := by have := Below.size hS; omega
            have hba := (Below.refl wz.heap.size wz).alloc (Nat.le_refl _) (.cells #[.int .i64 0, .int .i64 0, .int .i64 0, .int .i64 0, .int .i64 0, .string ⟨#[]⟩] 33)
            have o7 : ∀ k, (Value.slice a3 n3 c3).ownBlock = some k → k ≠ g7 := fun k hk => by
              have h1 := D'.row; rw [hn3] at h1
              have h2 := (h1.lt k hk).2
              omega
            replace D' := D'.step hba
            replace X6 := X6.step hba
            refine hK.out _ _ (extA_then hS hba) (fun hS => ?_)
            clear hK K hba
            rw [hg7]
            generalize wz.alloc (.cells #[.int .i64 0, .int .i64 0, .int .i64 0, .int .i64 0, .int .i64 0, .string ⟨#[]⟩] 33) = wb at *
            clear hg7
            clear x0 x1 y0 y1 y2 y3 cA
            have hne : g6 ≠ g7 := by
              intro e
              subst e
              have h1 := (show _ = _ from X6).symm.trans (show _ = _ from X7)
              cases h1
            have z0 := X6.cell (j := 0) rfl
            have z1 := X6.cell (j := 1) rfl
            have p0 := X6.frozen 0
            have p1 := X6.frozen 1
            refine wpAnyH_ready (rs := [14]) (by kernel_rfl) (by simp) ?_
            refine AllReadyH.cons (o := { dst := none, op := .store 49 (.tmp 6) (.tmp 24), type := _, pos := _, after := _, guard := _ }) rfl (fun K hK => ?_) AllReadyH.nil
            go_simp
            refine hK.out _ _ ((Below.setCell (p := ⟨g6, 0, none⟩) hS (by show wr.heap.size ≤ g6; exact h6) _).setCell (p := ⟨g6, 1, none⟩) (by show wr.heap.size ≤ g6; exact h6) _) (fun hS => ?_)
            clear hK K
            have Y6 := (X6.set 0 (.int .i64 sl2)).set 1 (.slice a3 n3 c3)
            have Y7 := (X7.other (Ne.symm hne) 0 (.int .i64 sl2)).other (Ne.symm hne) 1 (.slice a3 n3 c3)
            have D2 := dw_far (dw_far D' (p := ⟨g6, 0, none⟩) o6 (.int .i64 sl2)) (p := ⟨g6, 1, none⟩) o6 (.slice a3 n3 c3)
            clear X6 X7 D' z0 z1 p0 p1
            generalize (wb.setCell ⟨g6, 0, none⟩ (.int .i64 sl2)).setCell ⟨g6, 1, none⟩ (.slice a3 n3 c3) = ws at *
            have r0 := Y7.cell (j := 0) rfl
            have r1 := Y7.cell (j := 1) rfl
            have r2 := Y7.cell (j := 2) rfl
            have r3 := Y7.cell (j := 3) rfl
            have r4 := Y7.cell (j := 4) rfl
            have r5 := Y7.cell (j := 5) rfl
            have f0 := Y7.frozen 0
            have f1 := Y7.frozen 1
            have f2 := Y7.frozen 2
            have f3 := Y7.frozen 3
            have f4 := Y7.frozen 4
            have f5 := Y7.frozen 5
            refine wpAnyH_ready (rs := [15]) (by kernel_rfl) (by simp) ?_
            refine AllReadyH.cons (o := { dst := none, op := .store 33 (.tmp 7) (.tmp 25), type := _, pos := _, after := _, guard := _ }) rfl (fun K hK => ?_) AllReadyH.nil
            go_simp
            refine hK.out _ _ (Below.six' hS h7 _ _ _ _ _ _) (fun hS => ?_)
            clear hK K
            have Y6' := Blk.six' Y6 hne (.int .i64 x1') (.int .i64 x2') (.int .i64 x3') (.int .i64 x4') (.int .i64 x5') (.string x6')
            have D3 := dw_six D2 o7 (.int .i64 x1') (.int .i64 x2') (.int .i64 x3') (.int .i64 x4') (.int .i64 x5') (.string x6')
            generalize (((((ws.setCell ⟨g7, 0, none⟩ (.int .i64 x1')).setCell ⟨g7, 1, none⟩ (.int .i64 x2')).setCell ⟨g7, 2, none⟩ (.int .i64 x3')).setCell ⟨g7, 3, none⟩ (.int .i64 x4')).setCell ⟨g7, 4, none⟩ (.int .i64 x5')).setCell ⟨g7, 5, none⟩ (.string x6') = wt at *
            clear r0 r1 r2 r3 r4 r5 f0 f1 f2 f3 f4 f5 Y6 Y7 D2
            refine wpAnyH_ready (rs := [16]) (by kernel_rfl) (by simp) ?_
            refine AllReadyH.cons (o := { dst := some 8, op := .assign (.tmp 26), type := _, pos := _, after := _, guard := _ }) rfl (fun K hK => ?_) AllReadyH.nil
            go_simp
            refine hK.out _ _ hS (fun hS => ?_)
            clear hK K
            refine wpAnyH_ready (rs := [17]) (by kernel_rfl) (by simp) ?_
            refine AllReadyH.cons (o := { dst := some 9, op := .assign (.tmp 27), type := _, pos := _, after := _, guard := _ }) rfl (fun K hK => ?_) AllReadyH.nil
            go_simp
            refine hK.out _ _ hS (fun hS => ?_)
            clear hK K
            refine wpAnyH_done (by kernel_rfl) ?_ _
            go_wp2_with fail
            go_meet
            case rel => exact ⟨g6, _, rfl, rfl, h6, Y6', D3, hS⟩
          ·
            go_simp
            obtain ⟨g7, hg7⟩ : ∃ g, wa.heap.size = g := ⟨_, rfl⟩
            have X7 := Blk.newA' hg7 33 #[.int .i64 0, .int .i64 0, .int .i64 0, .int .i64 0, .int .i64 0, .string ⟨#[]⟩]
            have h7 : wr.heap.size ≤ g7 := by have := Below.size hS; omega
            have hba := (Below.refl wa.heap.size wa).alloc (Nat.le_refl _) (.cells #[.int .i64 0, .int .i64 0, .int .i64 0, .int .i64 0, .int .i64 0, .string ⟨#[]⟩] 33)
            replace X6 := X6.step hba
            refine hK.out _ _ (extA_then hS hba) (fun hS => ?_)
            clear hK K hba
            rw [hg7]
            generalize wa.alloc (.cells #[.int .i64 0, .int .i64 0, .int .i64 0, .int .i64 0, .int .i64 0, .string ⟨#[]⟩] 33) = wb at *
            clear hg7
            refine wpAnyH_ready (rs := [6]) (by kernel_rfl) (by simp) ?_
            refine AllReadyH.cons (o := { dst := some 23, op := .call { callee := .value (.func 29), args := #[.tmp 17, .tmp 18, .tmp 22], argTypes := #[49, 3, 26] }, type := _, pos := _, after := _, guard := _ }) rfl (fun K hK => ?_) AllReadyH.nil
            go_simp
            refine (cA _ hS).mono ?_
            rintro e wz ⟨⟨sv', rfl, D', ho⟩, hbz⟩
            refine hK.out _ _ (extA_then hS hbz) (fun hS => ?_)
            clear hK K
            obtain ⟨a3, c3, rfl⟩ := D'.sl
            rw [hn3] at D' ho ⊢
            have o6 : ∀ k, (Value.slice a3 n3 c3).ownBlock = some k → k ≠ g6 := fun k hk => by
              rcases ho with ho | ho
              · have h1 := hDo k (by rw [← ho]; exact hk)
                omega
              · have h1 := ho k hk
                have h2 := X6.lt
                omega
            have o7 : ∀ k, (Value.slice a3 n3 c3).ownBlock = some k → k ≠ g7 := fun k hk => by
              rcases ho with ho | ho
              · have h1 := hDo k (by rw [← ho]; exact hk)
                omega
              · have h1 := ho k hk
                have h2 := X7.lt
                omega
            clear ho
            replace X6 := X6.step hbz
            replace X7 := X7.step hbz
            refine wpAnyH_take (i := 7) (v := ?_) rfl (by kernel_rfl) (by kernel_rfl) (by kernel_rfl) (fun _ _ _ h => h) (Or.inl ⟨by rfl, ?_⟩) hS ?_
            rotate_left
            · intro W hSW
              go_simp
              try with_reducible rfl
            dsimp only [Act.put]
            refine wpAnyH_take (i := 8) (v := ?_) rfl (by kernel_rfl) (by kernel_rfl) (by kernel_rfl) (fun _ _ _ h => h) (Or.inl ⟨by rfl, ?_⟩) hS ?_
            rotate_left
            · intro W hSW
              go_simp
              try with_reducible rfl
            dsimp only [Act.put]
            refine wpAnyH_take (i := 9) (v := ?_) rfl (by kernel_rfl) (by kernel_rfl) (by kernel_rfl) (fun _ _ _ h => h) (Or.inl ⟨by rfl, ?_⟩) hS ?_
            rotate_left
            · intro W hSW
              go_simp
              try with_reducible rfl
            dsimp only [Act.put]
            refine wpAnyH_take (i := 10) (v := ?_) rfl (by kernel_rfl) (by kernel_rfl) (by kernel_rfl) (fun _ _ _ h => h) (Or.inl ⟨by rfl, ?_⟩) hS ?_
            rotate_left
            · intro W hSW
              go_simp
              try with_reducible rfl
            dsimp only [Act.put]
            refine wpAnyH_take (i := 11) (v := ?_) rfl (by kernel_rfl) (by kernel_rfl) (by kernel_rfl) (fun _ _ _ h => h) (Or.inl ⟨by rfl, ?_⟩) hS ?_
            rotate_left
            · intro W hSW
              go_simp
              try with_reducible rfl
            dsimp only [Act.put]
            clear x0 x1 y0 y1 y2 y3 cA
            have hne : g6 ≠ g7 := by
              intro e
              subst e
              have h1 := (show _ = _ from X6).symm.trans (show _ = _ from X7)
              cases h1
            have z0 := X6.cell (j := 0) rfl
            have z1 := X6.cell (j := 1) rfl
            have p0 := X6.frozen 0
            have p1 := X6.frozen 1
            refine wpAnyH_ready (rs := [14]) (by kernel_rfl) (by simp) ?_
            refine AllReadyH.cons (o := { dst := none, op := .store 49 (.tmp 6) (.tmp 24), type := _, pos := _, after := _, guard := _ }) rfl (fun K hK => ?_) AllReadyH.nil
            go_simp
            refine hK.out _ _ ((Below.setCell (p := ⟨g6, 0, none⟩) hS (by show wr.heap.size ≤ g6; exact h6) _).setCell (p := ⟨g6, 1, none⟩) (by show wr.heap.size ≤ g6; exact h6) _) (fun hS => ?_)
            clear hK K
            have Y6 := (X6.set 0 (.int .i64 sl2)).set 1 (.slice a3 n3 c3)
            have Y7 := (X7.other (Ne.symm hne) 0 (.int .i64 sl2)).other (Ne.symm hne) 1 (.slice a3 n3 c3)
            have D2 := dw_far (dw_far D' (p := ⟨g6, 0, none⟩) o6 (.int .i64 sl2)) (p := ⟨g6, 1, none⟩) o6 (.slice a3 n3 c3)
            clear X6 X7 D' z0 z1 p0 p1
            generalize (wz.setCell ⟨g6, 0, none⟩ (.int .i64 sl2)).setCell ⟨g6, 1, none⟩ (.slice a3 n3 c3) = ws at *
            have r0 := Y7.cell (j := 0) rfl
            have r1 := Y7.cell (j := 1) rfl
            have r2 := Y7.cell (j := 2) rfl
            have r3 := Y7.cell (j := 3) rfl
            have r4 := Y7.cell (j := 4) rfl
            have r5 := Y7.cell (j := 5) rfl
            have f0 := Y7.frozen 0
            have f1 := Y7.frozen 1
            have f2 := Y7.frozen 2
            have f3 := Y7.frozen 3
            have f4 := Y7.frozen 4
            have f5 := Y7.frozen 5
            refine wpAnyH_ready (rs := [15]) (by kernel_rfl) (by simp) ?_
            refine AllReadyH.cons (o := { dst := none, op := .store 33 (.tmp 7) (.tmp 25), type := _, pos := _, after := _, guard := _ }) rfl (fun K hK => ?_) AllReadyH.nil
            go_simp
            refine hK.out _ _ (Below.six' hS h7 _ _ _ _ _ _) (fun hS => ?_)
            clear hK K
            have Y6' := Blk.six' Y6 hne (.int .i64 x1') (.int .i64 x2') (.int .i64 x3') (.int .i64 x4') (.int .i64 x5') (.string x6')
            have D3 := dw_six D2 o7 (.int .i64 x1') (.int .i64 x2') (.int .i64 x3') (.int .i64 x4') (.int .i64 x5') (.string x6')
            generalize (((((ws.setCell ⟨g7, 0, none⟩ (.int .i64 x1')).setCell ⟨g7, 1, none⟩ (.int .i64 x2')).setCell ⟨g7, 2, none⟩ (.int .i64 x3')).setCell ⟨g7, 3, none⟩ (.int .i64 x4')).setCell ⟨g7, 4, none⟩ (.int .i64 x5')).setCell ⟨g7, 5, none⟩ (.string x6') = wt at *
            clear r0 r1 r2 r3 r4 r5 f0 f1 f2 f3 f4 f5 Y6 Y7 D2
            refine wpAnyH_ready (rs := [16]) (by kernel_rfl) (by simp) ?_
            refine AllReadyH.cons (o := { dst := some 8, op := .assign (.tmp 26), type := _, pos := _, after := _, guard := _ }) rfl (fun K hK => ?_) AllReadyH.nil
            go_simp
            refine hK.out _ _ hS (fun hS => ?_)
            clear hK K
            refine wpAnyH_ready (rs := [17]) (by kernel_rfl) (by simp) ?_
            refine AllReadyH.cons (o := { dst := some 9, op := .assign (.tmp 27), type := _, pos := _, after := _, guard := _ }) rfl (fun K hK => ?_) AllReadyH.nil
            go_simp
            refine hK.out _ _ hS (fun hS => ?_)
            clear hK K
            refine wpAnyH_done (by kernel_rfl) ?_ _
            go_wp2_with fail
            go_meet
            case rel => exact ⟨g6, _, rfl, rfl, h6, Y6', D3, hS⟩
        ·
          go_simp
          obtain ⟨g7, hg7⟩ : ∃ g, w8.heap.size = g := ⟨_, rfl⟩
          have X7 := Blk.newA' hg7 33 #[.int .i64 0, .int .i64 0, .int .i64 0, .int .i64 0, .int .i64 0, .string ⟨#[]⟩]
          have h7 : wr.heap.size ≤ g7 := by have := Below.size hS; omega
          have hba := (Below.refl w8.heap.size w8).alloc (Nat.le_refl _) (.cells #[.int .i64 0, .int .i64 0, .int .i64 0, .int .i64 0, .int .i64 0, .string ⟨#[]⟩] 33)
          refine hK.out _ _ (extA_then hS hba) (fun hS => ?_)
          clear hK K hba
          rw [hg7]
          generalize w8.alloc (.cells #[.int .i64 0, .int .i64 0, .int .i64 0, .int .i64 0, .int .i64 0, .string ⟨#[]⟩] 33) = wb at *
          clear hg7
          refine wpAnyH_ready (rs := [6, 12]) (by kernel_rfl) (by simp) ?_
          refine AllReadyH.cons (o := { dst := some 23, op := .call { callee := .value (.func 29), args := #[.tmp 17, .tmp 18, .tmp 22], argTypes := #[49, 3, 26] }, type := _, pos := _, after := _, guard := _ }) rfl (fun K hK => ?_) (AllReadyH.cons (o := { dst := some 6, op := .alloc 49, type := _, pos := _, after := _, guard := _ }) rfl (fun K hK => ?_) AllReadyH.nil)
          ·
            go_simp
            refine (cA _ hS).mono ?_
            rintro e wz ⟨⟨sv', rfl, D', ho⟩, hbz⟩
            refine hK.out _ _ (extA_then hS hbz) (fun hS => ?_)
            clear hK K
            obtain ⟨a3, c3, rfl⟩ := D'.sl
            rw [hn3] at D' ho ⊢
            have o7 : ∀ k, (Value.slice a3 n3 c3).ownBlock = some k → k ≠ g7 := fun k hk => by
              rcases ho with ho | ho
              · have h1 := hDo k (by rw [← ho]; exact hk)
                omega
              · have h1 := ho k hk
                have h2 := X7.lt
                omega
            clear ho
            replace X7 := X7.step hbz
            refine wpAnyH_take (i := 7) (v := ?_) rfl (by kernel_rfl) (by kernel_rfl) (by kernel_rfl) (fun _ _ _ h => h) (Or.inl ⟨by rfl, ?_⟩) hS ?_
            rotate_left
            · intro W hSW
              go_simp
              try with_reducible rfl
            dsimp only [Act.put]
            refine wpAnyH_take (i := 8) (v := ?_) rfl (by kernel_rfl) (by kernel_rfl) (by kernel_rfl) (fun _ _ _ h => h) (Or.inl ⟨by rfl, ?_⟩) hS ?_
            rotate_left
            · intro W hSW
              go_simp
              try with_reducible rfl
            dsimp only [Act.put]
            refine wpAnyH_take (i := 9) (v := ?_) rfl (by kernel_rfl) (by kernel_rfl) (by kernel_rfl) (fun _ _ _ h => h) (Or.inl ⟨by rfl, ?_⟩) hS ?_
            rotate_left
            · intro W hSW
              go_simp
              try with_reducible rfl
            dsimp only [Act.put]
            refine wpAnyH_take (i := 10) (v := ?_) rfl (by kernel_rfl) (by kernel_rfl) (by kernel_rfl) (fun _ _ _ h => h) (Or.inl ⟨by rfl, ?_⟩) hS ?_
            rotate_left
            · intro W hSW
              go_simp
              try with_reducible rfl
            dsimp only [Act.put]
            refine wpAnyH_take (i := 11) (v := ?_) rfl (by kernel_rfl) (by kernel_rfl) (by kernel_rfl) (fun _ _ _ h => h) (Or.inl ⟨by rfl, ?_⟩) hS ?_
            rotate_left
            · intro W hSW
              go_simp
              try with_reducible rfl
            dsimp only [Act.put]
            refine wpAnyH_ready (rs := [12]) (by kernel_rfl) (by simp) ?_
            refine AllReadyH.cons (o := { dst := some 6, op := .alloc 49, type := _, pos := _, after := _, guard := _ }) rfl (fun K hK => ?_) AllReadyH.nil
            go_simp
            obtain ⟨g6, hg6⟩ : ∃ g, wz.heap.size = g := ⟨_, rfl⟩
            have X6 := Blk.newA' hg6 49 #[.int .i64 0, .slice none 0 0]
            have h6 : wr.heap.size ≤ g6 := by have := Below.size hS; omega
            have hba := (Below.refl wz.heap.size wz).alloc (Nat.le_refl _) (.cells #[.int .i64 0, .slice none 0 0] 49)
            have o6 : ∀ k, (Value.slice a3 n3 c3).ownBlock = some k → k ≠ g6 := fun k hk => by
              have h1 := D'.row; rw [hn3] at h1
              have h2 := (h1.lt k hk).2
              omega
            replace D' := D'.step hba
            replace X7 := X7.step hba
            refine hK.out _ _ (extA_then hS hba) (fun hS => ?_)
            clear hK K hba
            rw [hg6]
            generalize wz.alloc (.cells #[.int .i64 0, .slice none 0 0] 49) = wa at *
            clear hg6
            clear x0 x1 y0 y1 y2 y3 cA
            have hne : g6 ≠ g7 := by
              intro e
              subst e
              have h1 := (show _ = _ from X6).symm.trans (show _ = _ from X7)
              cases h1
            have z0 := X6.cell (j := 0) rfl
            have z1 := X6.cell (j := 1) rfl
            have p0 := X6.frozen 0
            have p1 := X6.frozen 1
            refine wpAnyH_ready (rs := [14]) (by kernel_rfl) (by simp) ?_
            refine AllReadyH.cons (o := { dst := none, op := .store 49 (.tmp 6) (.tmp 24), type := _, pos := _, after := _, guard := _ }) rfl (fun K hK => ?_) AllReadyH.nil
            go_simp
            refine hK.out _ _ ((Below.setCell (p := ⟨g6, 0, none⟩) hS (by show wr.heap.size ≤ g6; exact h6) _).setCell (p := ⟨g6, 1, none⟩) (by show wr.heap.size ≤ g6; exact h6) _) (fun hS => ?_)
            clear hK K
            have Y6 := (X6.set 0 (.int .i64 sl2)).set 1 (.slice a3 n3 c3)
            have Y7 := (X7.other (Ne.symm hne) 0 (.int .i64 sl2)).other (Ne.symm hne) 1 (.slice a3 n3 c3)
            have D2 := dw_far (dw_far D' (p := ⟨g6, 0, none⟩) o6 (.int .i64 sl2)) (p := ⟨g6, 1, none⟩) o6 (.slice a3 n3 c3)
            clear X6 X7 D' z0 z1 p0 p1
            generalize (wa.setCell ⟨g6, 0, none⟩ (.int .i64 sl2)).setCell ⟨g6, 1, none⟩ (.slice a3 n3 c3) = ws at *
            have r0 := Y7.cell (j := 0) rfl
            have r1 := Y7.cell (j := 1) rfl
            have r2 := Y7.cell (j := 2) rfl
            have r3 := Y7.cell (j := 3) rfl
            have r4 := Y7.cell (j := 4) rfl
            have r5 := Y7.cell (j := 5) rfl
            have f0 := Y7.frozen 0
            have f1 := Y7.frozen 1
            have f2 := Y7.frozen 2
            have f3 := Y7.frozen 3
            have f4 := Y7.frozen 4
            have f5 := Y7.frozen 5
            refine wpAnyH_ready (rs := [15]) (by kernel_rfl) (by simp) ?_
            refine AllReadyH.cons (o := { dst := none, op := .store 33 (.tmp 7) (.tmp 25), type := _, pos := _, after := _, guard := _ }) rfl (fun K hK => ?_) AllReadyH.nil
            go_simp
            refine hK.out _ _ (Below.six' hS h7 _ _ _ _ _ _) (fun hS => ?_)
            clear hK K
            have Y6' := Blk.six' Y6 hne (.int .i64 x1') (.int .i64 x2') (.int .i64 x3') (.int .i64 x4') (.int .i64 x5') (.string x6')
            have D3 := dw_six D2 o7 (.int .i64 x1') (.int .i64 x2') (.int .i64 x3') (.int .i64 x4') (.int .i64 x5') (.string x6')
            generalize (((((ws.setCell ⟨g7, 0, none⟩ (.int .i64 x1')).setCell ⟨g7, 1, none⟩ (.int .i64 x2')).setCell ⟨g7, 2, none⟩ (.int .i64 x3')).setCell ⟨g7, 3, none⟩ (.int .i64 x4')).setCell ⟨g7, 4, none⟩ (.int .i64 x5')).setCell ⟨g7, 5, none⟩ (.string x6') = wt at *
            clear r0 r1 r2 r3 r4 r5 f0 f1 f2 f3 f4 f5 Y6 Y7 D2
            refine wpAnyH_ready (rs := [16]) (by kernel_rfl) (by simp) ?_
            refine AllReadyH.cons (o := { dst := some 8, op := .assign (.tmp 26), type := _, pos := _, after := _, guard := _ }) rfl (fun K hK => ?_) AllReadyH.nil
            go_simp
            refine hK.out _ _ hS (fun hS => ?_)
            clear hK K
            refine wpAnyH_ready (rs := [17]) (by kernel_rfl) (by simp) ?_
            refine AllReadyH.cons (o := { dst := some 9, op := .assign (.tmp 27), type := _, pos := _, after := _, guard := _ }) rfl (fun K hK => ?_) AllReadyH.nil
            go_simp
            refine hK.out _ _ hS (fun hS => ?_)
            clear hK K
            refine wpAnyH_done (by kernel_rfl) ?_ _
            go_wp2_with fail
            go_meet
            case rel => exact ⟨g6, _, rfl, rfl, h6, Y6', D3, hS⟩
          ·
            go_simp
            obtain ⟨g6, hg6⟩ : ∃ g, wb.heap.size = g := ⟨_, rfl⟩
            have X6 := Blk.newA' hg6 49 #[.int .i64 0, .slice none 0 0]
            have h6 : wr.heap.size ≤ g6 := by have := Below.size hS; omega
            have hba := (Below.refl wb.heap.size wb).alloc (Nat.le_refl _) (.cells #[.int .i64 0, .slice none 0 0] 49)
            replace X7 := X7.step hba
            refine hK.out _ _ (extA_then hS hba) (fun hS => ?_)
            clear hK K hba
            rw [hg6]
            generalize wb.alloc (.cells #[.int .i64 0, .slice none 0 0] 49) = wa at *
            clear hg6
            refine wpAnyH_ready (rs := [6]) (by kernel_rfl) (by simp) ?_
            refine AllReadyH.cons (o := { dst := some 23, op := .call { callee := .value (.func 29), args := #[.tmp 17, .tmp 18, .tmp 22], argTypes := #[49, 3, 26] }, type := _, pos := _, after := _, guard := _ }) rfl (fun K hK => ?_) AllReadyH.nil
            go_simp
            refine (cA _ hS).mono ?_
            rintro e wz ⟨⟨sv', rfl, D', ho⟩, hbz⟩
            refine hK.out _ _ (extA_then hS hbz) (fun hS => ?_)
            clear hK K
            obtain ⟨a3, c3, rfl⟩ := D'.sl
            rw [hn3] at D' ho ⊢
            have o6 : ∀ k, (Value.slice a3 n3 c3).ownBlock = some k → k ≠ g6 := fun k hk => by
              rcases ho with ho | ho
              · have h1 := hDo k (by rw [← ho]; exact hk)
                omega
              · have h1 := ho k hk
                have h2 := X6.lt
                omega
            have o7 : ∀ k, (Value.slice a3 n3 c3).ownBlock = some k → k ≠ g7 := fun k hk => by
              rcases ho with ho | ho
              · have h1 := hDo k (by rw [← ho]; exact hk)
                omega
              · have h1 := ho k hk
                have h2 := X7.lt
                omega
            clear ho
            replace X6 := X6.step hbz
            replace X7 := X7.step hbz
            refine wpAnyH_take (i := 7) (v := ?_) rfl (by kernel_rfl) (by kernel_rfl) (by kernel_rfl) (fun _ _ _ h => h) (Or.inl ⟨by rfl, ?_⟩) hS ?_
            rotate_left
            · intro W hSW
              go_simp
              try with_reducible rfl
            dsimp only [Act.put]
            refine wpAnyH_take (i := 8) (v := ?_) rfl (by kernel_rfl) (by kernel_rfl) (by kernel_rfl) (fun _ _ _ h => h) (Or.inl ⟨by rfl, ?_⟩) hS ?_
            rotate_left
            · intro W hSW
              go_simp
              try with_reducible rfl
            dsimp only [Act.put]
            refine wpAnyH_take (i := 9) (v := ?_) rfl (by kernel_rfl) (by kernel_rfl) (by kernel_rfl) (fun _ _ _ h => h) (Or.inl ⟨by rfl, ?_⟩) hS ?_
            rotate_left
            · intro W hSW
              go_simp
              try with_reducible rfl
            dsimp only [Act.put]
            refine wpAnyH_take (i := 10) (v := ?_) rfl (by kernel_rfl) (by kernel_rfl) (by kernel_rfl) (fun _ _ _ h => h) (Or.inl ⟨by rfl, ?_⟩) hS ?_
            rotate_left
            · intro W hSW
              go_simp
              try with_reducible rfl
            dsimp only [Act.put]
            refine wpAnyH_take (i := 11) (v := ?_) rfl (by kernel_rfl) (by kernel_rfl) (by kernel_rfl) (fun _ _ _ h => h) (Or.inl ⟨by rfl, ?_⟩) hS ?_
            rotate_left
            · intro W hSW
              go_simp
              try with_reducible rfl
            dsimp only [Act.put]
            clear x0 x1 y0 y1 y2 y3 cA
            have hne : g6 ≠ g7 := by
              intro e
              subst e
              have h1 := (show _ = _ from X6).symm.trans (show _ = _ from X7)
              cases h1
            have z0 := X6.cell (j := 0) rfl
            have z1 := X6.cell (j := 1) rfl
            have p0 := X6.frozen 0
            have p1 := X6.frozen 1
            refine wpAnyH_ready (rs := [14]) (by kernel_rfl) (by simp) ?_
            refine AllReadyH.cons (o := { dst := none, op := .store 49 (.tmp 6) (.tmp 24), type := _, pos := _, after := _, guard := _ }) rfl (fun K hK => ?_) AllReadyH.nil
            go_simp
            refine hK.out _ _ ((Below.setCell (p := ⟨g6, 0, none⟩) hS (by show wr.heap.size ≤ g6; exact h6) _).setCell (p := ⟨g6, 1, none⟩) (by show wr.heap.size ≤ g6; exact h6) _) (fun hS => ?_)
            clear hK K
            have Y6 := (X6.set 0 (.int .i64 sl2)).set 1 (.slice a3 n3 c3)
            have Y7 := (X7.other (Ne.symm hne) 0 (.int .i64 sl2)).other (Ne.symm hne) 1 (.slice a3 n3 c3)
            have D2 := dw_far (dw_far D' (p := ⟨g6, 0, none⟩) o6 (.int .i64 sl2)) (p := ⟨g6, 1, none⟩) o6 (.slice a3 n3 c3)
            clear X6 X7 D' z0 z1 p0 p1
            generalize (wz.setCell ⟨g6, 0, none⟩ (.int .i64 sl2)).setCell ⟨g6, 1, none⟩ (.slice a3 n3 c3) = ws at *
            have r0 := Y7.cell (j := 0) rfl
            have r1 := Y7.cell (j := 1) rfl
            have r2 := Y7.cell (j := 2) rfl
            have r3 := Y7.cell (j := 3) rfl
            have r4 := Y7.cell (j := 4) rfl
            have r5 := Y7.cell (j := 5) rfl
            have f0 := Y7.frozen 0
            have f1 := Y7.frozen 1
            have f2 := Y7.frozen 2
            have f3 := Y7.frozen 3
            have f4 := Y7.frozen 4
            have f5 := Y7.frozen 5
            refine wpAnyH_ready (rs := [15]) (by kernel_rfl) (by simp) ?_
            refine AllReadyH.cons (o := { dst := none, op := .store 33 (.tmp 7) (.tmp 25), type := _, pos := _, after := _, guard := _ }) rfl (fun K hK => ?_) AllReadyH.nil
            go_simp
            refine hK.out _ _ (Below.six' hS h7 _ _ _ _ _ _) (fun hS => ?_)
            clear hK K
            have Y6' := Blk.six' Y6 hne (.int .i64 x1') (.int .i64 x2') (.int .i64 x3') (.int .i64 x4') (.int .i64 x5') (.string x6')
            have D3 := dw_six D2 o7 (.int .i64 x1') (.int .i64 x2') (.int .i64 x3') (.int .i64 x4') (.int .i64 x5') (.string x6')
            generalize (((((ws.setCell ⟨g7, 0, none⟩ (.int .i64 x1')).setCell ⟨g7, 1, none⟩ (.int .i64 x2')).setCell ⟨g7, 2, none⟩ (.int .i64 x3')).setCell ⟨g7, 3, none⟩ (.int .i64 x4')).setCell ⟨g7, 4, none⟩ (.int .i64 x5')).setCell ⟨g7, 5, none⟩ (.string x6') = wt at *
            clear r0 r1 r2 r3 r4 r5 f0 f1 f2 f3 f4 f5 Y6 Y7 D2
            refine wpAnyH_ready (rs := [16]) (by kernel_rfl) (by simp) ?_
            refine AllReadyH.cons (o := { dst := some 8, op := .assign (.tmp 26), type := _, pos := _, after := _, guard := _ }) rfl (fun K hK => ?_) AllReadyH.nil
            go_simp
            refine hK.out _ _ hS (fun hS => ?_)
            clear hK K
            refine wpAnyH_ready (rs := [17]) (by kernel_rfl) (by simp) ?_
            refine AllReadyH.cons (o := { dst := some 9, op := .assign (.tmp 27), type := _, pos := _, after := _, guard := _ }) rfl (fun K hK => ?_) AllReadyH.nil
            go_simp
            refine hK.out _ _ hS (fun hS => ?_)
            clear hK K
            refine wpAnyH_done (by kernel_rfl) ?_ _
            go_wp2_with fail
            go_meet
            case rel => exact ⟨g6, _, rfl, rfl, h6, Y6', D3, hS⟩
      case rest =>
        obtain ⟨g6, sv', rfl, rfl, h6, X6, D', hS⟩ := hcut
        have hb2 : Below B w wc := hb.trans (Below.mono hS (by omega))
        have X2c := X2.step hS
        have X4c := X4.step hS
        obtain ⟨a3, c3, rfl⟩ := D'.sl
        rw [hn3] at X6 D'
        have z0 := X6.cell (j := 0) rfl
        have z1 := X6.cell (j := 1) rfl
        have p0 := X4c.cell (j := 0) rfl
        have p1 := X4c.cell (j := 1) rfl
        have f0 := X4c.frozen 0
        have f1 := X4c.frozen 1
        have s0 := X2c.cell (j := 0) rfl
        have s1 := X2c.cell (j := 1) rfl
        have t0 := X2c.frozen 0
        have t1 := X2c.frozen 1
        have o4 := dw_type D' X4c
        have h24 : B ≠ B + 1 := by omega
        clear x0 x1 y0 y1 y2 y3 cA X2 X4 D hDo HR
        by_cases hE0 : E = 0
        · subst hE0
          rw [if_pos rfl] at HR'
          replace HR' := Lib.hid HR'
          go_wp2
          go_roundw
          case rel => exact ⟨j + 1, t2, .slice a3 n3 c3, by go_num, (X2c.other h24 0 _).other h24 1 _, by rw [hsl2]; exact (X4c.set 0 _).set 1 _, dw_far (dw_far D' (p := ⟨B + 1, 0, none⟩) o4 _) (p := ⟨B + 1, 1, none⟩) o4 _, hG2, (hb2.setCell (p := ⟨B + 1, 0, none⟩) (by show B ≤ B + 1; omega) _).setCell (p := ⟨B + 1, 1, none⟩) (by show B ≤ B + 1; omega) _, by omega, HR'⟩
          case measure => simp [intOf]; omega
        · rw [if_neg hE0] at HR'
          obtain rfl := HR'
          go_wp2
          (try simp only [Exit.inBlock, Exit.then])
          refine bodyPost_ret (v := .tuple #[.agg #[.int .i64 0, .slice none 0 0], .int .i64 E]) ?_ rfl ⟨?_, ?_⟩
          · rw [results_cell_tmp rfl]
            go_simp
          · first | rfl | rw [if_neg (show ¬ (t, E).2 = 0 from hE0)]
          · (try rw [hB])
            exact (hb2.setCell (p := ⟨B, 0, none⟩) (Nat.le_refl _) _).setCell (p := ⟨B, 1, none⟩) (Nat.le_refl _) _
    · obtain rfl : j = N := by omega
      have HR' := HR.out
      rw [List.drop_eq_nil_of_le (by omega)] at HR'
      obtain rfl : (t, (0 : Int)) = R := HR'
      obtain ⟨a3, c3, rfl⟩ := D.sl
      obtain ⟨n3, hn3⟩ : ∃ n, t.L.length = n := ⟨_, rfl⟩
      rw [hn3] at X4 D
      have p0 := X4.cell (j := 0) rfl
      have p1 := X4.cell (j := 1) rfl
      have s0 := X2.cell (j := 0) rfl
      have s1 := X2.cell (j := 1) rfl
      have t0 := X2.frozen 0
      have t1 := X2.frozen 1
      have o2 := dw_type D X2
      go_wp2
      (try simp only [Exit.inBlock, Exit.then])
      refine bodyPost_ret (v := .tuple #[.agg #[.int .i64 t.sl, .slice a3 n3 c3], .int .i64 0]) ?_ rfl ⟨?_, ?_⟩
      · rw [results_cell_tmp rfl]
        go_simp
      · (try rw [if_pos rfl])
        (try rw [hB])
        exact ⟨_, rfl, dw_far (dw_far D (p := ⟨B, 0, none⟩) o2 _) (p := ⟨B, 1, none⟩) o2 _⟩
      · (try rw [hB])
        exact (hb.setCell (p := ⟨B, 0, none⟩) (Nat.le_refl _) _).setCell (p := ⟨B, 1, none⟩) (Nat.le_refl _) _
end Go.Proofs.YtndechodaegkiaaDoor
