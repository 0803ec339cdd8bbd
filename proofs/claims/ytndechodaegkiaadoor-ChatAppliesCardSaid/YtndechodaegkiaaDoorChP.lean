
/- The document's talk: Apply skips. -/
import Derived.Test.YtndechodaegkiaaDoorChO
namespace Go.Proofs.YtndechodaegkiaaDoor
open Go.RowKit
set_option maxRecDepth 100000 in
set_option maxHeartbeats 4000000 in
theorem refApply_skip (base : Nat) (t : Tk) (slot : Int) (e : En) (sv : Value) (w : World) (hD : DW w base sv t.L) (hfew : t.L.length ≤ t.sl) (hs : e.s.size ≤ 9223372036854775807) (hr : rightE e = true) (hg : goodB t slot = true) (hc : cntB t e = false) (hw : rwB t.L e = false) :
    Calls Tryd.prog 29 #[.agg #[.int .i64 t.sl, sv], .int .i64 slot, enV e] w (daP w base t slot e sv) := by
  obtain ⟨k, m, q, s⟩ := e
  obtain ⟨a, c, rfl⟩ := hD.sl
  unfold daP
  have hT : apT t slot ⟨k, m, q, s⟩ = ⟨t.sl + 1, t.L, t.M⟩ := by unfold apT; rw [hr, hg, hc]; rfl
  have hB : apB t slot ⟨k, m, q, s⟩ = false := by unfold apB; rw [hr, hg, hc]; rfl
  have hX : apX t slot ⟨k, m, q, s⟩ = zL := by unfold apX; rw [hB]; rfl
  have hE : apE t slot ⟨k, m, q, s⟩ = 0 := by unfold apE; rw [hr, hg]; rfl
  rw [hT, hB, hX, hE]
  obtain ⟨hs1, hs2⟩ : slot = t.sl ∧ t.sl < 4096 := by unfold goodB at hg; simp at hg; omega
  subst hs1
  have hn5 : t.L.length ≤ 5000 := by omega
  have cW := fun W (hW : HasL W a t.L) => refWould_any t.L a c t.sl ⟨k, m, q, s⟩ W hW hn5 hs
  rw [hw] at cW
  have cR := fun W => ref14_any k m q s W hs
  rw [show entB k m q s = true from hr] at cR
  obtain ⟨n, hnn⟩ : ∃ n, t.L.length = n := ⟨_, rfl⟩
  have hdh : ∀ W, DW W base (.slice a t.L.length c) t.L → HasL W a t.L := fun W h => h.has
  rw [hnn] at hD cW hdh ⊢
  obtain ⟨sl, hsl⟩ : ∃ sl : Nat, t.sl = sl := ⟨_, rfl⟩
  rw [hsl] at cW hs2 ⊢
  have hsI : (sl : Int) < 4096 := by omega
  change Calls Tryd.prog 29 #[.agg #[.int .i64 sl, .slice a n c], .int .i64 sl, .agg #[.int .i64 k, .int .i64 m, .int .i64 q, .string s]] w fun r w' => (∃ sv', r = .returned (.tuple #[.agg #[.int .i64 (sl + 1), sv'], .agg #[.int .i64 0, .int .i64 0, .int .i64 0, .int .i64 0, .int .i64 0, .string ⟨#[]⟩], .bool false, .int .i64 0]) ∧ DW w' base sv' t.L ∧ (sv' = .slice a n c ∨ ∀ k, sv'.ownBlock = some k → w.heap.size ≤ k)) ∧ Below w.heap.size w w'
  change ∀ W, HasL W a t.L → Calls Tryd.prog 32 #[.agg #[.int .i64 sl, .slice a n c], .agg #[.int .i64 k, .int .i64 m, .int .i64 q, .string s]] W fun r w' => r = .returned (.bool false) ∧ Below W.heap.size W w' at cW
  clear hT hB hX hE hr hg hc hw hfew hn5
  go_enter Tryd.func29, Tryd.ntmps29
  go_upto_region 1 with fail
  obtain ⟨XT, XE, X6, X7, hb, hz⟩ := four w 49 26 49 33 #[.int .i64 sl, .slice a n c] #[.int .i64 k, .int .i64 m, .int .i64 q, .string s] #[.int .i64 0, .slice none 0 0] #[.int .i64 0, .int .i64 0, .int .i64 0, .int .i64 0, .int .i64 0, .string ⟨#[]⟩]
  have hD1 := hD.step hb
  generalize (((w.alloc (.cells #[.int .i64 sl, .slice a n c] 49)).alloc (.cells #[.int .i64 k, .int .i64 m, .int .i64 q, .string s] 26)).alloc (.cells #[.int .i64 0, .slice none 0 0] 49)).alloc (.cells #[.int .i64 0, .int .i64 0, .int .i64 0, .int .i64 0, .int .i64 0, .string ⟨#[]⟩] 33) = W at *
  obtain ⟨g0, hg0⟩ : ∃ g, w.heap.size = g := ⟨_, rfl⟩
  rw [hg0] at XT XE X6 X7 hb hz
  have e0 := XE.cell (j := 0) rfl
  have e1 := XE.cell (j := 1) rfl
  have e2 := XE.cell (j := 2) rfl
  have e3 := XE.cell (j := 3) rfl
  go_wp2_with fail
  refine (cR W).mono ?_
  rintro e w4 ⟨rfl, hb4⟩
  have hb5 := hb.trans (hb4.mono (by omega))
  have T4 := XT.step hb4
  have t0 := T4.cell (j := 0) rfl
  have t1 := T4.cell (j := 1) rfl
  have E4 := XE.step hb4
  have Y6 := X6.step hb4
  have Y7 := X7.step hb4
  have D4 := hD1.step hb4
  have s4 := hb4.size
  clear e0 e1 e2 e3 XT XE X6 X7 hb4 cR hD1
  have hbO := (Below.refl w4.heap.size w4).alloc (Nat.le_refl _) (.cells #[.int .i64 (sl + 1), .slice a n c] 49)
  have T5 := T4.step hbO
  have E5 := E4.step hbO
  have Z6 := Y6.step hbO
  have Z7 := Y7.step hbO
  have D5 := D4.step hbO
  have XO := Blk.newA' (W := w4) rfl 49 #[.int .i64 (sl + 1), .slice a n c]
  have hb6 := hb5.alloc (by omega) (.cells #[.int .i64 (sl + 1), .slice a n c] 49)
  clear Y6 Y7 hbO T4 E4 D4
  have t0' := T5.cell (j := 0) rfl
  have t1' := T5.cell (j := 1) rfl
  have e0 := E5.cell (j := 0) rfl
  have e1 := E5.cell (j := 1) rfl
  have e2 := E5.cell (j := 2) rfl
  have e3 := E5.cell (j := 3) rfl
  go_wp2_with fail
  refine (cW _ (hdh _ D5)).mono ?_
  rintro e w6 ⟨rfl, hb7⟩
  have XO2 := XO.step hb7
  have t0 := XO2.cell (j := 0) rfl
  have t1 := XO2.cell (j := 1) rfl
  have W6 := Z6.step hb7
  have W7 := Z7.step hb7
  have hb8 := hb6.trans (hb7.mono (by rw [World.size_alloc]; omega))
  have hlt6 := Z7.lt
  clear t0' t1' e0 e1 e2 e3 cW XO Z6 Z7 hb6 hb7 T5 E5 D5 hdh
  have o0 := W6.cell (j := 0) rfl
  have o1 := W6.cell (j := 1) rfl
  have h0 := W6.frozen 0
  have h1 := W6.frozen 1
  have r0 := W7.cell (j := 0) rfl
  have r1 := W7.cell (j := 1) rfl
  have r2 := W7.cell (j := 2) rfl
  have r3 := W7.cell (j := 3) rfl
  have r4 := W7.cell (j := 4) rfl
  have r5 := W7.cell (j := 5) rfl
  have f0 := W7.frozen 0
  have f1 := W7.frozen 1
  have f2 := W7.frozen 2
  have f3 := W7.frozen 3
  have f4 := W7.frozen 4
  have f5 := W7.frozen 5
  go_wp2
  (try simp only [Exit.inBlock, Exit.then])
  refine bodyPost_ret (v := .tuple #[.agg #[.int .i64 ((sl : Int) + 1), .slice a n c], .agg #[.int .i64 0, .int .i64 0, .int .i64 0, .int .i64 0, .int .i64 0, .string ⟨#[]⟩], .bool false, .int .i64 0]) ?_ rfl ⟨⟨_, rfl, ?_, .inl rfl⟩, ?_⟩
  · rw [results_c2t2 rfl]
    go_simp
  · exact hD.keep (below8 hb8 (by omega) (by omega) _ _ _ _ _ _ _ _) (by omega)
  · (try rw [hg0])
    exact below8 hb8 (by omega) (by omega) _ _ _ _ _ _ _ _
end Go.Proofs.YtndechodaegkiaaDoor
