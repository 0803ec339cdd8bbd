
/- Law 14: act. -/
import Derived.Test.YtcokbljlgbcpkaaDoorAdI
namespace Go.Proofs.YtcokbljlgbcpkaaDoor
open Go.RowKit
theorem AW.keep10 {W : World} {g b : Nat} {A : Acc} (h : AW W g A) (hne : g ≠ b) (x y z u v t x2 y2 z2 u2 : Value) : AW ((((((((((W.setCell ⟨b, 0, none⟩ x).setCell ⟨b, 1, none⟩ y).setCell ⟨b, 2, none⟩ z).setCell ⟨b, 3, none⟩ u).setCell ⟨b, 4, none⟩ v).setCell ⟨b, 5, none⟩ t).setCell ⟨b, 6, none⟩ x2).setCell ⟨b, 7, none⟩ y2).setCell ⟨b, 8, none⟩ z2).setCell ⟨b, 9, none⟩ u2) g A :=
  ((((h.keep6 hne x y z u v t).other hne 6 x2).other hne 7 y2).other hne 8 z2).other hne 9 u2
theorem Kx.keep10 {A W : World} {b : Nat} {ws : List Nat} (h : Kx ws A W) (hB : A.heap.size ≤ b) (x y z u v t x2 y2 z2 u2 : Value) : Kx ws A ((((((((((W.setCell ⟨b, 0, none⟩ x).setCell ⟨b, 1, none⟩ y).setCell ⟨b, 2, none⟩ z).setCell ⟨b, 3, none⟩ u).setCell ⟨b, 4, none⟩ v).setCell ⟨b, 5, none⟩ t).setCell ⟨b, 6, none⟩ x2).setCell ⟨b, 7, none⟩ y2).setCell ⟨b, 8, none⟩ z2).setCell ⟨b, 9, none⟩ u2) :=
  ((((h.keep6 hB x y z u v t).setCell (p := ⟨b, 6, none⟩) (.inr hB) x2).setCell (p := ⟨b, 7, none⟩) (.inr hB) y2).setCell (p := ⟨b, 8, none⟩) (.inr hB) z2).setCell (p := ⟨b, 9, none⟩) (.inr hB) u2
theorem kxc {ws : List Nat} {W0 : World} {b q : Nat} {v : Value} (h : W0.cell? ⟨b, q, none⟩ = some v) (hw : b ∉ ws) : ∀ W, Kx ws W0 W → W.cell? ⟨b, q, none⟩ = some v := fun _ hK => kx_cell hK h hw
theorem Kx.in10 {A W : World} {b : Nat} {ws : List Nat} (h : Kx ws A W) (hB : b ∈ ws) (x y z u v t x2 y2 z2 u2 : Value) : Kx ws A ((((((((((W.setCell ⟨b, 0, none⟩ x).setCell ⟨b, 1, none⟩ y).setCell ⟨b, 2, none⟩ z).setCell ⟨b, 3, none⟩ u).setCell ⟨b, 4, none⟩ v).setCell ⟨b, 5, none⟩ t).setCell ⟨b, 6, none⟩ x2).setCell ⟨b, 7, none⟩ y2).setCell ⟨b, 8, none⟩ z2).setCell ⟨b, 9, none⟩ u2) :=
  (((((((((h.setCell (p := ⟨b, 0, none⟩) (.inl hB) x).setCell (p := ⟨b, 1, none⟩) (.inl hB) y).setCell (p := ⟨b, 2, none⟩) (.inl hB) z).setCell (p := ⟨b, 3, none⟩) (.inl hB) u).setCell (p := ⟨b, 4, none⟩) (.inl hB) v).setCell (p := ⟨b, 5, none⟩) (.inl hB) t).setCell (p := ⟨b, 6, none⟩) (.inl hB) x2).setCell (p := ⟨b, 7, none⟩) (.inl hB) y2).setCell (p := ⟨b, 8, none⟩) (.inl hB) z2).setCell (p := ⟨b, 9, none⟩) (.inl hB) u2
def actA (A : Acc) (e : Ac) : Acc := if e.w = 0 then proA A e.x e.y else accA A e.x e.y e.k e.m e.n e.s
def actP (w : World) (g : Nat) (A : Acc) (e : Ac) (r : Ending) (w' : World) : Prop := r = .returned (.tuple #[refV (actA A e), .bool true]) ∧ AW w' g (actA A e) ∧ Kx [g] w w'
theorem proX_form (A : Acc) (x y : Int) : ∃ a b c d e s, proX A x y = .agg #[.int .i64 a, .int .i64 b, .int .i64 c, .int .i64 d, .int .i64 e, .string s] := by
  unfold proX acV
  split <;> exact ⟨_, _, _, _, _, _, rfl⟩
set_option maxRecDepth 100000 in
set_option maxHeartbeats 4000000 in
theorem act_pro (g : Nat) (r p ar ap k m n : Int) (s : ByteArray) (c sl x y k2 m2 n2 : Int) (s2 : ByteArray) (w : World) (h : AW w g ⟨r, p, ar, ap, k, m, n, s, c, sl⟩) (hc : c ≠ 0) (hT : Tabs w) :
    Calls Tryd.prog 23 #[.pointer (some ⟨g, 0, none⟩), .agg #[.int .i64 c, .int .i64 sl, .int .i64 r, .int .i64 p, .int .i64 ar, .int .i64 ap, .int .i64 k, .int .i64 m, .int .i64 n, .string s], .agg #[.int .i64 0, .int .i64 x, .int .i64 y, .int .i64 k2, .int .i64 m2, .int .i64 n2, .string s2]] w
      (actP w g ⟨r, p, ar, ap, k, m, n, s, c, sl⟩ ⟨0, x, y, k2, m2, n2, s2⟩) := by
  have hA2 : actA ⟨r, p, ar, ap, k, m, n, s, c, sl⟩ ⟨0, x, y, k2, m2, n2, s2⟩ = proA ⟨r, p, ar, ap, k, m, n, s, c, sl⟩ x y := by simp [actA]
  unfold actP
  rw [hA2]
  clear hA2
  have cR := fun W => refPromise_any ⟨r, p, ar, ap, k, m, n, s, c, sl⟩ x y W
  have cP := fun W hW => promise_any g ⟨r, p, ar, ap, k, m, n, s, c, sl⟩ x y W hW hc
  unfold proP at cP
  obtain ⟨a1, a2, a3, a4, a5, a6, hX⟩ := proX_form ⟨r, p, ar, ap, k, m, n, s, c, sl⟩ x y
  rw [hX] at cR cP
  clear hX
  generalize proA ⟨r, p, ar, ap, k, m, n, s, c, sl⟩ x y = A2 at *
  obtain ⟨B2, hB2⟩ : ∃ v, proB ⟨r, p, ar, ap, k, m, n, s, c, sl⟩ x y = v := ⟨_, rfl⟩
  simp only [hB2] at cR cP
  clear hB2
  obtain ⟨E2, hE2⟩ : ∃ v, proE ⟨r, p, ar, ap, k, m, n, s, c, sl⟩ x y = v := ⟨_, rfl⟩
  simp only [hE2] at cR cP
  clear hE2
  obtain ⟨r', p', ar', ap', k', m', n', s', c', sl'⟩ := A2
  unfold refV at cR ⊢
  simp only at cR ⊢
  go_enter Tryd.func23, Tryd.ntmps23
  go_upto_region 1 with fail
  obtain ⟨X4, X5, X6, hb, hz⟩ := tri w 51 43 51 #[.int .i64 c, .int .i64 sl, .int .i64 r, .int .i64 p, .int .i64 ar, .int .i64 ap, .int .i64 k, .int .i64 m, .int .i64 n, .string s] #[.int .i64 0, .int .i64 x, .int .i64 y, .int .i64 k2, .int .i64 m2, .int .i64 n2, .string s2] #[.int .i64 0, .int .i64 0, .int .i64 0, .int .i64 0, .int .i64 0, .int .i64 0, .int .i64 0, .int .i64 0, .int .i64 0, .string ⟨#[]⟩]
  have h1 := h.step hb
  have hT1 := hT.step hb
  generalize ((w.alloc (.cells #[.int .i64 c, .int .i64 sl, .int .i64 r, .int .i64 p, .int .i64 ar, .int .i64 ap, .int .i64 k, .int .i64 m, .int .i64 n, .string s] 51)).alloc (.cells #[.int .i64 0, .int .i64 x, .int .i64 y, .int .i64 k2, .int .i64 m2, .int .i64 n2, .string s2] 43)).alloc (.cells #[.int .i64 0, .int .i64 0, .int .i64 0, .int .i64 0, .int .i64 0, .int .i64 0, .int .i64 0, .int .i64 0, .int .i64 0, .string ⟨#[]⟩] 51) = W at *
  obtain ⟨B, hB⟩ : ∃ B, w.heap.size = B := ⟨_, rfl⟩
  rw [hB] at X4 X5 X6 hz
  have ac0 := X4.cell (j := 0) rfl
  have ac1 := X4.cell (j := 1) rfl
  have ac2 := X4.cell (j := 2) rfl
  have ac3 := X4.cell (j := 3) rfl
  have ac4 := X4.cell (j := 4) rfl
  have ac5 := X4.cell (j := 5) rfl
  have ac6 := X4.cell (j := 6) rfl
  have ac7 := X4.cell (j := 7) rfl
  have ac8 := X4.cell (j := 8) rfl
  have ac9 := X4.cell (j := 9) rfl
  have bc0 := X5.cell (j := 0) rfl
  have bc1 := X5.cell (j := 1) rfl
  have bc2 := X5.cell (j := 2) rfl
  have bc3 := X5.cell (j := 3) rfl
  have bc4 := X5.cell (j := 4) rfl
  have bc5 := X5.cell (j := 5) rfl
  have bc6 := X5.cell (j := 6) rfl
  have hlt : g < B := hB ▸ h.lt
  go_wp2_with fail
  refine (cR _).mono ?_
  rintro e w2 ⟨rfl, hb2⟩
  have Y5 := X5.step hb2
  have Y6 := X6.step hb2
  have h2 := h1.step hb2
  have hb3 := hb.trans (hb2.mono (by omega))
  have hs2 : B + 1 + 1 < w2.heap.size := by have := hb2.size; omega
  clear ac0 ac1 ac2 ac3 ac4 ac5 ac6 ac7 ac8 ac9 bc0 bc1 bc2 bc3 bc4 bc5 bc6 X4 X5 X6 hb hb2 h1 cR
  go_upto_region 3 with fail
  have Z8 := (Blk.newV (W := w2) rfl 51 #[.int .i64 c', .int .i64 sl', .int .i64 r', .int .i64 p', .int .i64 ar', .int .i64 ap', .int .i64 k', .int .i64 m', .int .i64 n', .string s']).alloc (.cells #[.int .i64 a1, .int .i64 a2, .int .i64 a3, .int .i64 a4, .int .i64 a5, .string a6] 39)
  have hz8 := alloc_size (W := w2) rfl (.cells #[.int .i64 c', .int .i64 sl', .int .i64 r', .int .i64 p', .int .i64 ar', .int .i64 ap', .int .i64 k', .int .i64 m', .int .i64 n', .string s'] 51)
  have Z9 := Blk.newV hz8 39 #[.int .i64 a1, .int .i64 a2, .int .i64 a3, .int .i64 a4, .int .i64 a5, .string a6]
  have hb8 := ((Below.refl w2.heap.size w2).alloc (Nat.le_refl _) (.cells #[.int .i64 c', .int .i64 sl', .int .i64 r', .int .i64 p', .int .i64 ar', .int .i64 ap', .int .i64 k', .int .i64 m', .int .i64 n', .string s'] 51)).alloc (by omega) (.cells #[.int .i64 a1, .int .i64 a2, .int .i64 a3, .int .i64 a4, .int .i64 a5, .string a6] 39)
  generalize (w2.alloc (.cells #[.int .i64 c', .int .i64 sl', .int .i64 r', .int .i64 p', .int .i64 ar', .int .i64 ap', .int .i64 k', .int .i64 m', .int .i64 n', .string s'] 51)).alloc (.cells #[.int .i64 a1, .int .i64 a2, .int .i64 a3, .int .i64 a4, .int .i64 a5, .string a6] 39) = W3 at *
  clear hz8
  obtain ⟨G, hG⟩ : ∃ G, w2.heap.size = G := ⟨_, rfl⟩
  rw [hG] at Z8 Z9 hs2
  have V5 := Y5.step hb8
  have V6 := Y6.step hb8
  have h3 := h2.step hb8
  have hb9 := hb3.trans (hb8.mono hb3.size)
  have hlt8 := Z8.lt
  clear Y5 Y6 h2 hb3 hb8
  have bc0 := V5.cell (j := 0) rfl
  have bc1 := V5.cell (j := 1) rfl
  have bc2 := V5.cell (j := 2) rfl
  go_wp2_with fail
  refine (cP _ h3).mono ?_
  rintro e w4 ⟨rfl, h4, hK4⟩
  have U6 := hK4.blk V6 (by simp; omega)
  have U8 := hK4.blk Z8 (by simp; omega)
  have U9 := hK4.blk Z9 (by simp; omega)
  have hK5 : Kx [g] w w4 := (Kx.of_below [g] hb9 (Nat.le_refl _)).trans hK4
  have hs4 := hK4.size
  clear bc0 bc1 bc2 V5 V6 Z8 Z9 h3 hK4 cP hb9
  go_upto_region 4 with fail
  have T12 := Blk.newV (W := w4) rfl 39 #[.int .i64 a1, .int .i64 a2, .int .i64 a3, .int .i64 a4, .int .i64 a5, .string a6]
  have hb5 := (Below.refl w4.heap.size w4).alloc (Nat.le_refl _) (.cells #[.int .i64 a1, .int .i64 a2, .int .i64 a3, .int .i64 a4, .int .i64 a5, .string a6] 39)
  generalize w4.alloc (.cells #[.int .i64 a1, .int .i64 a2, .int .i64 a3, .int .i64 a4, .int .i64 a5, .string a6] 39) = W5 at *
  have S6 := U6.step hb5
  have S8 := U8.step hb5
  have S9 := U9.step hb5
  have h5 := h4.step hb5
  have hK6 := hK5.step hb5
  obtain ⟨g12, hg12⟩ : ∃ g12, w4.heap.size = g12 := ⟨_, rfl⟩
  have hG12 := U9.lt
  rw [hg12] at T12 hG12 ⊢
  clear U6 U8 U9 h4 hK5 hb5
  have hn1 : G ∉ [B + 1 + 1] := by simp; omega
  have hn2 : G + 1 ∉ [B + 1 + 1] := by simp; omega
  have hn3 : g12 ∉ [B + 1 + 1] := by simp; omega
  have ac0 := kxc (S8.cell (j := 0) rfl) hn1
  have ac1 := kxc (S8.cell (j := 1) rfl) hn1
  have ac2 := kxc (S8.cell (j := 2) rfl) hn1
  have ac3 := kxc (S8.cell (j := 3) rfl) hn1
  have ac4 := kxc (S8.cell (j := 4) rfl) hn1
  have ac5 := kxc (S8.cell (j := 5) rfl) hn1
  have ac6 := kxc (S8.cell (j := 6) rfl) hn1
  have ac7 := kxc (S8.cell (j := 7) rfl) hn1
  have ac8 := kxc (S8.cell (j := 8) rfl) hn1
  have ac9 := kxc (S8.cell (j := 9) rfl) hn1
  have bc0 := kxc (S9.cell (j := 0) rfl) hn2
  have bc1 := kxc (S9.cell (j := 1) rfl) hn2
  have bc2 := kxc (S9.cell (j := 2) rfl) hn2
  have bc3 := kxc (S9.cell (j := 3) rfl) hn2
  have bc4 := kxc (S9.cell (j := 4) rfl) hn2
  have bc5 := kxc (S9.cell (j := 5) rfl) hn2
  have dc0 := kxc (T12.cell (j := 0) rfl) hn3
  have dc1 := kxc (T12.cell (j := 1) rfl) hn3
  have dc2 := kxc (T12.cell (j := 2) rfl) hn3
  have dc3 := kxc (T12.cell (j := 3) rfl) hn3
  have dc4 := kxc (T12.cell (j := 4) rfl) hn3
  have dc5 := kxc (T12.cell (j := 5) rfl) hn3
  clear S8 S9 T12
  refine wp_region_held (S := Kx [B + 1 + 1] W5) (by kernel_rfl) ?_
  have hst : Below (W5).heap.size W5 { W5 with drawn := (W5).drawn + 1 } := ⟨rfl, rfl, rfl, Nat.le_refl _, fun _ _ => rfl⟩
  have hS : Kx [B + 1 + 1] W5 { W5 with drawn := (W5).drawn + 1 } := ⟨rfl, rfl, rfl, Nat.le_refl _, fun _ _ _ => rfl⟩
  replace S6 := S6.step hst
  replace h5 := h5.step hst
  replace hK6 := hK6.step hst
  generalize ({ W5 with drawn := (W5).drawn + 1 } : World) = wq at *
  refine wpAnyH_take (i := 0) (v := ?_) rfl (by kernel_rfl) (by kernel_rfl) (by kernel_rfl) (fun _ _ _ h => h) (Or.inl ⟨by kernel_rfl, ?_⟩) hS ?_
  rotate_left
  · intro W hSW
    have qac0 := ac0 _ hSW
    have qac1 := ac1 _ hSW
    have qac2 := ac2 _ hSW
    have qac3 := ac3 _ hSW
    have qac4 := ac4 _ hSW
    have qac5 := ac5 _ hSW
    have qac6 := ac6 _ hSW
    have qac7 := ac7 _ hSW
    have qac8 := ac8 _ hSW
    have qac9 := ac9 _ hSW
    go_simp
    try with_reducible rfl
  dsimp only [Act.put]
  clear ac0 ac1 ac2 ac3 ac4 ac5 ac6 ac7 ac8 ac9
  refine wpAnyH_take (i := 1) (v := ?_) rfl (by kernel_rfl) (by kernel_rfl) (by kernel_rfl) (fun _ _ _ h => h) (Or.inl ⟨by kernel_rfl, ?_⟩) hS ?_
  rotate_left
  · intro W hSW
    have qbc0 := bc0 _ hSW
    have qbc1 := bc1 _ hSW
    have qbc2 := bc2 _ hSW
    have qbc3 := bc3 _ hSW
    have qbc4 := bc4 _ hSW
    have qbc5 := bc5 _ hSW
    go_simp
    try with_reducible rfl
  dsimp only [Act.put]
  clear bc0 bc1 bc2 bc3 bc4 bc5
  refine wpAnyH_take (i := 2) (v := ?_) rfl (by kernel_rfl) (by kernel_rfl) (by kernel_rfl) (fun _ _ _ h => h) (Or.inl ⟨by kernel_rfl, ?_⟩) hS ?_
  rotate_left
  · intro W hSW
    have qdc0 := dc0 _ hSW
    have qdc1 := dc1 _ hSW
    have qdc2 := dc2 _ hSW
    have qdc3 := dc3 _ hSW
    have qdc4 := dc4 _ hSW
    have qdc5 := dc5 _ hSW
    go_simp
    try with_reducible rfl
  dsimp only [Act.put]
  clear dc0 dc1 dc2 dc3 dc4 dc5
  refine wpAnyH_take (i := 3) (v := .bool true) rfl (by kernel_rfl) (by kernel_rfl) (by kernel_rfl) (fun _ _ _ h => h) (Or.inl ⟨by kernel_rfl, ?_⟩) hS ?_
  · intro W _
    go_simp
  dsimp only [Act.put]
  refine wpAnyH_take (i := 4) (v := .bool true) rfl (by kernel_rfl) (by kernel_rfl) (by kernel_rfl) (fun _ _ _ h => h) (Or.inl ⟨by kernel_rfl, ?_⟩) hS ?_
  · intro W _
    go_simp
  dsimp only [Act.put]
  refine wpAnyH_take (i := 5) (v := ?_) rfl (by kernel_rfl) (by kernel_rfl) (by kernel_rfl) (fun _ _ _ h => h) (Or.inl ⟨by kernel_rfl, ?_⟩) hS ?_
  rotate_left
  · intro W hSW
    go_simp
    try with_reducible rfl
  dsimp only [Act.put]
  refine wpAnyH_take (i := 6) (v := ?_) rfl (by kernel_rfl) (by kernel_rfl) (by kernel_rfl) (fun _ _ _ h => h) (Or.inl ⟨by kernel_rfl, ?_⟩) hS ?_
  rotate_left
  · intro W hSW
    go_simp
    try with_reducible rfl
  dsimp only [Act.put]
  refine wpAnyH_take (i := 7) (v := .bool true) rfl (by kernel_rfl) (by kernel_rfl) (by kernel_rfl) (fun _ _ _ h => h) (Or.inl ⟨by kernel_rfl, ?_⟩) hS ?_
  · intro W _
    go_simp
  dsimp only [Act.put]
  refine wpAnyH_take (i := 8) (v := .bool true) rfl (by kernel_rfl) (by kernel_rfl) (by kernel_rfl) (fun _ _ _ h => h) (Or.inl ⟨by kernel_rfl, ?_⟩) hS ?_
  · intro W _
    go_simp
  dsimp only [Act.put]
  refine wpAnyH_take (i := 9) (v := .bool true) rfl (by kernel_rfl) (by kernel_rfl) (by kernel_rfl) (fun _ _ _ h => h) (Or.inl ⟨by kernel_rfl, ?_⟩) hS ?_
  · intro W _
    go_simp
  dsimp only [Act.put]
  refine wpAnyH_take (i := 10) (v := ?_) rfl (by kernel_rfl) (by kernel_rfl) (by kernel_rfl) (fun _ _ _ h => h) (Or.inl ⟨by kernel_rfl, ?_⟩) hS ?_
  rotate_left
  · intro W hSW
    go_simp
    try with_reducible rfl
  dsimp only [Act.put]
  refine wpAnyH_take (i := 12) (v := ?_) rfl (by kernel_rfl) (by kernel_rfl) (by kernel_rfl) (fun _ _ _ h => h) (Or.inl ⟨by kernel_rfl, ?_⟩) hS ?_
  rotate_left
  · intro W hSW
    go_simp
    try with_reducible rfl
  dsimp only [Act.put]
  refine wpAnyH_ready (rs := [11]) (by kernel_rfl) (by simp) ?_
  refine AllReadyH.cons rfl (fun K hK => ?_) AllReadyH.nil
  go_simp
  refine (num14_any _ _).mono ?_
  rintro e wz ⟨rfl, rfl⟩
  refine hK.out _ _ hS (fun hS => ?_)
  clear hK K
  refine wpAnyH_take (i := 13) (v := ?_) rfl (by kernel_rfl) (by kernel_rfl) (by kernel_rfl) (fun _ _ _ h => h) (Or.inl ⟨by kernel_rfl, ?_⟩) hS ?_
  rotate_left
  · intro W hSW
    go_simp
    try with_reducible rfl
  dsimp only [Act.put]
  refine wpAnyH_take (i := 14) (v := ?_) rfl (by kernel_rfl) (by kernel_rfl) (by kernel_rfl) (fun _ _ _ h => h) (Or.inl ⟨by kernel_rfl, ?_⟩) hS ?_
  rotate_left
  · intro W hSW
    go_simp
    try with_reducible rfl
  dsimp only [Act.put]
  have rc0 := S6.cell (j := 0) rfl
  have rc1 := S6.cell (j := 1) rfl
  have rc2 := S6.cell (j := 2) rfl
  have rc3 := S6.cell (j := 3) rfl
  have rc4 := S6.cell (j := 4) rfl
  have rc5 := S6.cell (j := 5) rfl
  have rc6 := S6.cell (j := 6) rfl
  have rc7 := S6.cell (j := 7) rfl
  have rc8 := S6.cell (j := 8) rfl
  have rc9 := S6.cell (j := 9) rfl
  have rf0 := S6.frozen 0
  have rf1 := S6.frozen 1
  have rf2 := S6.frozen 2
  have rf3 := S6.frozen 3
  have rf4 := S6.frozen 4
  have rf5 := S6.frozen 5
  have rf6 := S6.frozen 6
  have rf7 := S6.frozen 7
  have rf8 := S6.frozen 8
  have rf9 := S6.frozen 9
  refine wpAnyH_ready (rs := [15]) (by kernel_rfl) (by simp) ?_
  refine AllReadyH.cons rfl (fun K hK => ?_) AllReadyH.nil
  go_simp
  refine hK.out _ _ (hS.in10 (by simp) _ _ _ _ _ _ _ _ _ _) (fun hS => ?_)
  clear hK K
  have Q6 := (((((((((S6.set 0 (.int .i64 c')).set 1 (.int .i64 sl')).set 2 (.int .i64 r')).set 3 (.int .i64 p')).set 4 (.int .i64 ar')).set 5 (.int .i64 ap')).set 6 (.int .i64 k')).set 7 (.int .i64 m')).set 8 (.int .i64 n')).set 9 (.string s')
  have h7 := h5.keep10 (show g ≠ B + 1 + 1 by omega) (.int .i64 c') (.int .i64 sl') (.int .i64 r') (.int .i64 p') (.int .i64 ar') (.int .i64 ap') (.int .i64 k') (.int .i64 m') (.int .i64 n') (.string s')
  have hK8 := hK6.keep10 (show w.heap.size ≤ B + 1 + 1 by omega) (.int .i64 c') (.int .i64 sl') (.int .i64 r') (.int .i64 p') (.int .i64 ar') (.int .i64 ap') (.int .i64 k') (.int .i64 m') (.int .i64 n') (.string s')
  generalize (((((((((wq.setCell ⟨B + 1 + 1, 0, none⟩ (.int .i64 c')).setCell ⟨B + 1 + 1, 1, none⟩ (.int .i64 sl')).setCell ⟨B + 1 + 1, 2, none⟩ (.int .i64 r')).setCell ⟨B + 1 + 1, 3, none⟩ (.int .i64 p')).setCell ⟨B + 1 + 1, 4, none⟩ (.int .i64 ar')).setCell ⟨B + 1 + 1, 5, none⟩ (.int .i64 ap')).setCell ⟨B + 1 + 1, 6, none⟩ (.int .i64 k')).setCell ⟨B + 1 + 1, 7, none⟩ (.int .i64 m')).setCell ⟨B + 1 + 1, 8, none⟩ (.int .i64 n')).setCell ⟨B + 1 + 1, 9, none⟩ (.string s') = w9 at *
  clear rc0 rc1 rc2 rc3 rc4 rc5 rc6 rc7 rc8 rc9 rf0 rf1 rf2 rf3 rf4 rf5 rf6 rf7 rf8 rf9
  simp only [List.set_cons_succ, List.set_cons_zero] at Q6
  refine wpAnyH_ready (rs := [16]) (by kernel_rfl) (by simp) ?_
  refine AllReadyH.cons rfl (fun K hK => ?_) AllReadyH.nil
  go_simp
  refine hK.out _ _ hS (fun hS => ?_)
  clear hK K
  refine wpAnyH_done (by kernel_rfl) ?_ _
  clear hS
  have rc0 := Q6.cell (j := 0) rfl
  have rc1 := Q6.cell (j := 1) rfl
  have rc2 := Q6.cell (j := 2) rfl
  have rc3 := Q6.cell (j := 3) rfl
  have rc4 := Q6.cell (j := 4) rfl
  have rc5 := Q6.cell (j := 5) rfl
  have rc6 := Q6.cell (j := 6) rfl
  have rc7 := Q6.cell (j := 7) rfl
  have rc8 := Q6.cell (j := 8) rfl
  have rc9 := Q6.cell (j := 9) rfl
  go_wp2
  (try simp only [Exit.inBlock, Exit.then])
  refine bodyPost_ret (v := .tuple #[.agg #[.int .i64 c', .int .i64 sl', .int .i64 r', .int .i64 p', .int .i64 ar', .int .i64 ap', .int .i64 k', .int .i64 m', .int .i64 n', .string s'], .bool true]) ?_ rfl ⟨rfl, ?_⟩
  · rw [r_cell1t rfl]
    go_simp
  · (try rw [hB])
    exact ⟨h7, hK8⟩
set_option maxRecDepth 100000 in
set_option maxHeartbeats 4000000 in
theorem act_acc (g : Nat) (r p ar ap k m n : Int) (s : ByteArray) (c sl w0 x y k2 m2 n2 : Int) (s2 : ByteArray) (w : World) (h : AW w g ⟨r, p, ar, ap, k, m, n, s, c, sl⟩) (hc : c ≠ 0) (hT : Tabs w) (hs : s2.size ≤ 9223372036854775807) (hw : ¬ w0 = 0) :
    Calls Tryd.prog 23 #[.pointer (some ⟨g, 0, none⟩), .agg #[.int .i64 c, .int .i64 sl, .int .i64 r, .int .i64 p, .int .i64 ar, .int .i64 ap, .int .i64 k, .int .i64 m, .int .i64 n, .string s], .agg #[.int .i64 w0, .int .i64 x, .int .i64 y, .int .i64 k2, .int .i64 m2, .int .i64 n2, .string s2]] w
      (actP w g ⟨r, p, ar, ap, k, m, n, s, c, sl⟩ ⟨w0, x, y, k2, m2, n2, s2⟩) := by
  have hA2 : actA ⟨r, p, ar, ap, k, m, n, s, c, sl⟩ ⟨w0, x, y, k2, m2, n2, s2⟩ = accA ⟨r, p, ar, ap, k, m, n, s, c, sl⟩ x y k2 m2 n2 s2 := by simp [actA, hw]
  unfold actP
  rw [hA2]
  clear hA2
  have cR := fun W => refAccept_any ⟨r, p, ar, ap, k, m, n, s, c, sl⟩ x y k2 m2 n2 s2 W hs
  have cP := fun W hW hT => accept_any g ⟨r, p, ar, ap, k, m, n, s, c, sl⟩ x y k2 m2 n2 s2 W hW hc hs hT
  unfold accP at cP
  generalize accA ⟨r, p, ar, ap, k, m, n, s, c, sl⟩ x y k2 m2 n2 s2 = A2 at *
  obtain ⟨B2, hB2⟩ : ∃ v, accB ⟨r, p, ar, ap, k, m, n, s, c, sl⟩ x y k2 m2 n2 s2 = v := ⟨_, rfl⟩
  simp only [hB2] at cR cP
  clear hB2
  obtain ⟨E2, hE2⟩ : ∃ v, accE ⟨r, p, ar, ap, k, m, n, s, c, sl⟩ x y k2 m2 n2 s2 = v := ⟨_, rfl⟩
  simp only [hE2] at cR cP
  clear hE2
  obtain ⟨r', p', ar', ap', k', m', n', s', c', sl'⟩ := A2
  unfold refV at cR ⊢
  simp only at cR ⊢
  go_enter Tryd.func23, Tryd.ntmps23
  go_upto_region 1 with fail
  obtain ⟨X4, X5, X6, hb, hz⟩ := tri w 51 43 51 #[.int .i64 c, .int .i64 sl, .int .i64 r, .int .i64 p, .int .i64 ar, .int .i64 ap, .int .i64 k, .int .i64 m, .int .i64 n, .string s] #[.int .i64 w0, .int .i64 x, .int .i64 y, .int .i64 k2, .int .i64 m2, .int .i64 n2, .string s2] #[.int .i64 0, .int .i64 0, .int .i64 0, .int .i64 0, .int .i64 0, .int .i64 0, .int .i64 0, .int .i64 0, .int .i64 0, .string ⟨#[]⟩]
  have h1 := h.step hb
  have hT1 := hT.step hb
  generalize ((w.alloc (.cells #[.int .i64 c, .int .i64 sl, .int .i64 r, .int .i64 p, .int .i64 ar, .int .i64 ap, .int .i64 k, .int .i64 m, .int .i64 n, .string s] 51)).alloc (.cells #[.int .i64 w0, .int .i64 x, .int .i64 y, .int .i64 k2, .int .i64 m2, .int .i64 n2, .string s2] 43)).alloc (.cells #[.int .i64 0, .int .i64 0, .int .i64 0, .int .i64 0, .int .i64 0, .int .i64 0, .int .i64 0, .int .i64 0, .int .i64 0, .string ⟨#[]⟩] 51) = W at *
  obtain ⟨B, hB⟩ : ∃ B, w.heap.size = B := ⟨_, rfl⟩
  rw [hB] at X4 X5 X6 hz
  have ac0 := X4.cell (j := 0) rfl
  have ac1 := X4.cell (j := 1) rfl
  have ac2 := X4.cell (j := 2) rfl
  have ac3 := X4.cell (j := 3) rfl
  have ac4 := X4.cell (j := 4) rfl
  have ac5 := X4.cell (j := 5) rfl
  have ac6 := X4.cell (j := 6) rfl
  have ac7 := X4.cell (j := 7) rfl
  have ac8 := X4.cell (j := 8) rfl
  have ac9 := X4.cell (j := 9) rfl
  have bc0 := X5.cell (j := 0) rfl
  have bc1 := X5.cell (j := 1) rfl
  have bc2 := X5.cell (j := 2) rfl
  have bc3 := X5.cell (j := 3) rfl
  have bc4 := X5.cell (j := 4) rfl
  have bc5 := X5.cell (j := 5) rfl
  have bc6 := X5.cell (j := 6) rfl
  have hlt : g < B := hB ▸ h.lt
  go_wp2_with fail
  refine (cR _).mono ?_
  rintro e w2 ⟨rfl, hb2⟩
  have Y5 := X5.step hb2
  have Y6 := X6.step hb2
  have h2 := h1.step hb2
  have hT2 := hT1.step hb2
  have hb3 := hb.trans (hb2.mono (by omega))
  have hs2 : B + 1 + 1 < w2.heap.size := by have := hb2.size; omega
  clear ac0 ac1 ac2 ac3 ac4 ac5 ac6 ac7 ac8 ac9 bc0 bc1 bc2 bc3 bc4 bc5 bc6 X4 X5 X6 hb hb2 h1 cR hT1
  go_upto_region 6 with fail
  obtain ⟨G, hG⟩ : ∃ G, w2.heap.size = G := ⟨_, rfl⟩
  have Z8 := Blk.newV hG 51 #[.int .i64 c', .int .i64 sl', .int .i64 r', .int .i64 p', .int .i64 ar', .int .i64 ap', .int .i64 k', .int .i64 m', .int .i64 n', .string s']
  have hb8 := (Below.refl w2.heap.size w2).alloc (Nat.le_refl _) (.cells #[.int .i64 c', .int .i64 sl', .int .i64 r', .int .i64 p', .int .i64 ar', .int .i64 ap', .int .i64 k', .int .i64 m', .int .i64 n', .string s'] 51)
  generalize w2.alloc (.cells #[.int .i64 c', .int .i64 sl', .int .i64 r', .int .i64 p', .int .i64 ar', .int .i64 ap', .int .i64 k', .int .i64 m', .int .i64 n', .string s'] 51) = W3 at *
  rw [hG] at hs2 ⊢
  have V5 := Y5.step hb8
  have V6 := Y6.step hb8
  have h3 := h2.step hb8
  have hT3 := hT2.step hb8
  have hb9 := hb3.trans (hb8.mono hb3.size)
  have hlt8 := Z8.lt
  clear Y5 Y6 h2 hb3 hb8 hT2
  have bc0 := V5.cell (j := 0) rfl
  have bc1 := V5.cell (j := 1) rfl
  have bc2 := V5.cell (j := 2) rfl
  have bc3 := V5.cell (j := 3) rfl
  have bc4 := V5.cell (j := 4) rfl
  have bc5 := V5.cell (j := 5) rfl
  have bc6 := V5.cell (j := 6) rfl
  go_wp2_with fail
  refine (cP _ h3 hT3).mono ?_
  rintro e w4 ⟨rfl, h4, hK4⟩
  have U6 := hK4.blk V6 (by simp; omega)
  have U8 := hK4.blk Z8 (by simp; omega)
  have hK5 : Kx [g] w w4 := (Kx.of_below [g] hb9 (Nat.le_refl _)).trans hK4
  clear bc0 bc1 bc2 bc3 bc4 bc5 bc6 V5 V6 Z8 h3 hK4 cP hb9 hT3
  go_upto_region 7 with fail
  have hn1 : G ∉ [B + 1 + 1] := by simp; omega
  have ac0 := kxc (U8.cell (j := 0) rfl) hn1
  have ac1 := kxc (U8.cell (j := 1) rfl) hn1
  have ac2 := kxc (U8.cell (j := 2) rfl) hn1
  have ac3 := kxc (U8.cell (j := 3) rfl) hn1
  have ac4 := kxc (U8.cell (j := 4) rfl) hn1
  have ac5 := kxc (U8.cell (j := 5) rfl) hn1
  have ac6 := kxc (U8.cell (j := 6) rfl) hn1
  have ac7 := kxc (U8.cell (j := 7) rfl) hn1
  have ac8 := kxc (U8.cell (j := 8) rfl) hn1
  have ac9 := kxc (U8.cell (j := 9) rfl) hn1
  clear U8
  refine wp_region_held (S := Kx [B + 1 + 1] w4) (by kernel_rfl) ?_
  have hst : Below (w4).heap.size w4 { w4 with drawn := (w4).drawn + 1 } := ⟨rfl, rfl, rfl, Nat.le_refl _, fun _ _ => rfl⟩
  have hS : Kx [B + 1 + 1] w4 { w4 with drawn := (w4).drawn + 1 } := ⟨rfl, rfl, rfl, Nat.le_refl _, fun _ _ _ => rfl⟩
  replace U6 := U6.step hst
  replace h4 := h4.step hst
  replace hK5 := hK5.step hst
  generalize ({ w4 with drawn := (w4).drawn + 1 } : World) = wq at *
  refine wpAnyH_take (i := 0) (v := ?_) rfl (by kernel_rfl) (by kernel_rfl) (by kernel_rfl) (fun _ _ _ h => h) (Or.inl ⟨by kernel_rfl, ?_⟩) hS ?_
  rotate_left
  · intro W hSW
    have qac0 := ac0 _ hSW
    have qac1 := ac1 _ hSW
    have qac2 := ac2 _ hSW
    have qac3 := ac3 _ hSW
    have qac4 := ac4 _ hSW
    have qac5 := ac5 _ hSW
    have qac6 := ac6 _ hSW
    have qac7 := ac7 _ hSW
    have qac8 := ac8 _ hSW
    have qac9 := ac9 _ hSW
    go_simp
    try with_reducible rfl
  dsimp only [Act.put]
  refine wpAnyH_take (i := 1) (v := ?_) rfl (by kernel_rfl) (by kernel_rfl) (by kernel_rfl) (fun _ _ _ h => h) (Or.inl ⟨by kernel_rfl, ?_⟩) hS ?_
  rotate_left
  · intro W hSW
    go_simp
    try with_reducible rfl
  dsimp only [Act.put]
  refine wpAnyH_take (i := 2) (v := ?_) rfl (by kernel_rfl) (by kernel_rfl) (by kernel_rfl) (fun _ _ _ h => h) (Or.inl ⟨by kernel_rfl, ?_⟩) hS ?_
  rotate_left
  · intro W hSW
    go_simp
    try with_reducible rfl
  dsimp only [Act.put]
  refine wpAnyH_take (i := 3) (v := ?_) rfl (by kernel_rfl) (by kernel_rfl) (by kernel_rfl) (fun _ _ _ h => h) (Or.inl ⟨by kernel_rfl, ?_⟩) hS ?_
  rotate_left
  · intro W hSW
    go_simp
    try with_reducible rfl
  dsimp only [Act.put]
  refine wpAnyH_take (i := 4) (v := ?_) rfl (by kernel_rfl) (by kernel_rfl) (by kernel_rfl) (fun _ _ _ h => h) (Or.inl ⟨by kernel_rfl, ?_⟩) hS ?_
  rotate_left
  · intro W hSW
    go_simp
    try with_reducible rfl
  dsimp only [Act.put]
  refine wpAnyH_take (i := 5) (v := ?_) rfl (by kernel_rfl) (by kernel_rfl) (by kernel_rfl) (fun _ _ _ h => h) (Or.inl ⟨by kernel_rfl, ?_⟩) hS ?_
  rotate_left
  · intro W hSW
    go_simp
    try with_reducible rfl
  dsimp only [Act.put]
  refine wpAnyH_take (i := 7) (v := ?_) rfl (by kernel_rfl) (by kernel_rfl) (by kernel_rfl) (fun _ _ _ h => h) (Or.inl ⟨by kernel_rfl, ?_⟩) hS ?_
  rotate_left
  · intro W hSW
    go_simp
    try with_reducible rfl
  dsimp only [Act.put]
  refine wpAnyH_ready (rs := [6]) (by kernel_rfl) (by simp) ?_
  refine AllReadyH.cons rfl (fun K hK => ?_) AllReadyH.nil
  go_simp
  refine (num14_any _ _).mono ?_
  rintro e wz ⟨rfl, rfl⟩
  refine hK.out _ _ hS (fun hS => ?_)
  clear hK K
  refine wpAnyH_take (i := 8) (v := ?_) rfl (by kernel_rfl) (by kernel_rfl) (by kernel_rfl) (fun _ _ _ h => h) (Or.inl ⟨by kernel_rfl, ?_⟩) hS ?_
  rotate_left
  · intro W hSW
    go_simp
    try with_reducible rfl
  dsimp only [Act.put]
  refine wpAnyH_take (i := 9) (v := ?_) rfl (by kernel_rfl) (by kernel_rfl) (by kernel_rfl) (fun _ _ _ h => h) (Or.inl ⟨by kernel_rfl, ?_⟩) hS ?_
  rotate_left
  · intro W hSW
    go_simp
    try with_reducible rfl
  dsimp only [Act.put]
  clear ac0 ac1 ac2 ac3 ac4 ac5 ac6 ac7 ac8 ac9
  have rc0 := U6.cell (j := 0) rfl
  have rc1 := U6.cell (j := 1) rfl
  have rc2 := U6.cell (j := 2) rfl
  have rc3 := U6.cell (j := 3) rfl
  have rc4 := U6.cell (j := 4) rfl
  have rc5 := U6.cell (j := 5) rfl
  have rc6 := U6.cell (j := 6) rfl
  have rc7 := U6.cell (j := 7) rfl
  have rc8 := U6.cell (j := 8) rfl
  have rc9 := U6.cell (j := 9) rfl
  have rf0 := U6.frozen 0
  have rf1 := U6.frozen 1
  have rf2 := U6.frozen 2
  have rf3 := U6.frozen 3
  have rf4 := U6.frozen 4
  have rf5 := U6.frozen 5
  have rf6 := U6.frozen 6
  have rf7 := U6.frozen 7
  have rf8 := U6.frozen 8
  have rf9 := U6.frozen 9
  refine wpAnyH_ready (rs := [10]) (by kernel_rfl) (by simp) ?_
  refine AllReadyH.cons rfl (fun K hK => ?_) AllReadyH.nil
  go_simp
  refine hK.out _ _ (hS.in10 (by simp) _ _ _ _ _ _ _ _ _ _) (fun hS => ?_)
  clear hK K
  have Q6 := (((((((((U6.set 0 (.int .i64 c')).set 1 (.int .i64 sl')).set 2 (.int .i64 r')).set 3 (.int .i64 p')).set 4 (.int .i64 ar')).set 5 (.int .i64 ap')).set 6 (.int .i64 k')).set 7 (.int .i64 m')).set 8 (.int .i64 n')).set 9 (.string s')
  have h7 := h4.keep10 (show g ≠ B + 1 + 1 by omega) (.int .i64 c') (.int .i64 sl') (.int .i64 r') (.int .i64 p') (.int .i64 ar') (.int .i64 ap') (.int .i64 k') (.int .i64 m') (.int .i64 n') (.string s')
  have hK8 := hK5.keep10 (show w.heap.size ≤ B + 1 + 1 by omega) (.int .i64 c') (.int .i64 sl') (.int .i64 r') (.int .i64 p') (.int .i64 ar') (.int .i64 ap') (.int .i64 k') (.int .i64 m') (.int .i64 n') (.string s')
  generalize (((((((((wq.setCell ⟨B + 1 + 1, 0, none⟩ (.int .i64 c')).setCell ⟨B + 1 + 1, 1, none⟩ (.int .i64 sl')).setCell ⟨B + 1 + 1, 2, none⟩ (.int .i64 r')).setCell ⟨B + 1 + 1, 3, none⟩ (.int .i64 p')).setCell ⟨B + 1 + 1, 4, none⟩ (.int .i64 ar')).setCell ⟨B + 1 + 1, 5, none⟩ (.int .i64 ap')).setCell ⟨B + 1 + 1, 6, none⟩ (.int .i64 k')).setCell ⟨B + 1 + 1, 7, none⟩ (.int .i64 m')).setCell ⟨B + 1 + 1, 8, none⟩ (.int .i64 n')).setCell ⟨B + 1 + 1, 9, none⟩ (.string s') = w9 at *
  clear rc0 rc1 rc2 rc3 rc4 rc5 rc6 rc7 rc8 rc9 rf0 rf1 rf2 rf3 rf4 rf5 rf6 rf7 rf8 rf9
  simp only [List.set_cons_succ, List.set_cons_zero] at Q6
  refine wpAnyH_ready (rs := [11]) (by kernel_rfl) (by simp) ?_
  refine AllReadyH.cons rfl (fun K hK => ?_) AllReadyH.nil
  go_simp
  refine hK.out _ _ hS (fun hS => ?_)
  clear hK K
  refine wpAnyH_done (by kernel_rfl) ?_ _
  clear hS
  have rc0 := Q6.cell (j := 0) rfl
  have rc1 := Q6.cell (j := 1) rfl
  have rc2 := Q6.cell (j := 2) rfl
  have rc3 := Q6.cell (j := 3) rfl
  have rc4 := Q6.cell (j := 4) rfl
  have rc5 := Q6.cell (j := 5) rfl
  have rc6 := Q6.cell (j := 6) rfl
  have rc7 := Q6.cell (j := 7) rfl
  have rc8 := Q6.cell (j := 8) rfl
  have rc9 := Q6.cell (j := 9) rfl
  go_wp2
  (try simp only [Exit.inBlock, Exit.then])
  refine bodyPost_ret (v := .tuple #[.agg #[.int .i64 c', .int .i64 sl', .int .i64 r', .int .i64 p', .int .i64 ar', .int .i64 ap', .int .i64 k', .int .i64 m', .int .i64 n', .string s'], .bool true]) ?_ rfl ⟨rfl, ?_⟩
  · rw [r_cell1t rfl]
    go_simp
  · (try rw [hB])
    exact ⟨h7, hK8⟩
theorem act14_any (g : Nat) (A : Acc) (e : Ac) (w : World) (h : AW w g A) (hc : A.c ≠ 0) (hT : Tabs w) (hs : e.s.size ≤ 9223372036854775807) :
    Calls Tryd.prog 23 #[.pointer (some ⟨g, 0, none⟩), refV A, acVal e] w (actP w g A e) := by
  obtain ⟨r, p, ar, ap, k, m, n, s, c, sl⟩ := A
  obtain ⟨w0, x, y, k2, m2, n2, s2⟩ := e
  by_cases hw : w0 = 0
  · subst hw
    exact act_pro g r p ar ap k m n s c sl x y k2 m2 n2 s2 w h hc hT
  · exact act_acc g r p ar ap k m n s c sl w0 x y k2 m2 n2 s2 w h hc hT hs hw
end Go.Proofs.YtcokbljlgbcpkaaDoor
