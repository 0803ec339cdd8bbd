
/- The document's talk: Apply. -/
import Derived.Test.YtndechodaegkiaaDoorChN
namespace Go.Proofs.YtndechodaegkiaaDoor
open Go.RowKit
/-- A row of lines of the document: nil where there are none. -/
structure DW (W : World) (base : Nat) (sv : Value) (L : List Ln) : Prop where
  row : W.ownsRow base 33 6 sv L.length (cellsN L)
  nil : L = [] → sv = .slice none 0 0
theorem DW.step {W W' : World} {base : Nat} {sv : Value} {L : List Ln} (h : DW W base sv L) (hb : Below W.heap.size W W') : DW W' base sv L := ⟨own_step h.row hb, h.nil⟩
theorem DW.sl {W : World} {base : Nat} {sv : Value} {L : List Ln} (h : DW W base sv L) : Sl sv L.length := by
  rcases h.row.2 with ⟨rfl, h0⟩ | ⟨g, c, cur, hv, _⟩
  · exact ⟨none, 0, by rw [h0]⟩
  · exact ⟨_, _, hv⟩
theorem hasL_own {w : World} {base : Nat} {a : Option Addr} {n c : Nat} {L : List Ln} (h : w.ownsRow base 33 6 (.slice a n c) n (cellsN L)) (hn : L.length = n) : HasL w a L := by
  have h2 := hasL_row h hn 0 (Nat.zero_le _) (n + 1) (by omega)
  rw [if_neg (by omega), List.drop_zero] at h2
  rcases h.2 with ⟨e, -⟩ | ⟨g, c', cur, e, -⟩
  · cases e; exact h2
  · cases e
    simpa [Addr.add_lit] using h2
theorem DW.has {W : World} {base : Nat} {a : Option Addr} {c : Nat} {L : List Ln} (h : DW W base (.slice a L.length c) L) : HasL W a L := hasL_own h.row rfl
theorem results_c2t2 {fn : Func} {p p2 u u2 : Tmp} {ty ty2 : TypeId} (h : fn.results = #[.cell p ty, .cell p2 ty2, .tmp u, .tmp u2]) (tmps : Array Value) (P : Program) (w : World) :
    (results fn tmps).run P w =
      ((asAddr (tmps.getD p undef)).run P w).andThen fun a w₁ => ((loadVar ty a).run P w₁).andThen fun v w₂ => ((asAddr (tmps.getD p2 undef)).run P w₂).andThen fun a2 w₃ => ((loadVar ty2 a2).run P w₃).andThen fun v2 w₄ => .ok (.tuple #[v, v2, tmps.getD u undef, tmps.getD u2 undef]) w₄ := by
  simp only [results, h]
  simp [Sem.run_bind, Result.andThen]
theorem four (w : World) (t1 t2 t3 t4 : TypeId) (c1 c2 c3 c4 : Array Value) :
    Blk ((((w.alloc (.cells c1 t1)).alloc (.cells c2 t2)).alloc (.cells c3 t3)).alloc (.cells c4 t4)) w.heap.size t1 c1.toList ∧ Blk ((((w.alloc (.cells c1 t1)).alloc (.cells c2 t2)).alloc (.cells c3 t3)).alloc (.cells c4 t4)) (w.heap.size + 1) t2 c2.toList ∧
    Blk ((((w.alloc (.cells c1 t1)).alloc (.cells c2 t2)).alloc (.cells c3 t3)).alloc (.cells c4 t4)) (w.heap.size + 1 + 1) t3 c3.toList ∧ Blk ((((w.alloc (.cells c1 t1)).alloc (.cells c2 t2)).alloc (.cells c3 t3)).alloc (.cells c4 t4)) (w.heap.size + 1 + 1 + 1) t4 c4.toList ∧
    Below w.heap.size w ((((w.alloc (.cells c1 t1)).alloc (.cells c2 t2)).alloc (.cells c3 t3)).alloc (.cells c4 t4)) ∧
    ((((w.alloc (.cells c1 t1)).alloc (.cells c2 t2)).alloc (.cells c3 t3)).alloc (.cells c4 t4)).heap.size = w.heap.size + 1 + 1 + 1 + 1 :=
  have h := three w t1 t2 t3 c1 c2 c3
  ⟨h.1.alloc _, h.2.1.alloc _, h.2.2.1.alloc _, Blk.newA' h.2.2.2.2 t4 c4, h.2.2.2.1.alloc (by rw [h.2.2.2.2]; omega) _, alloc_size h.2.2.2.2 _⟩
def daP (w : World) (base : Nat) (t : Tk) (slot : Int) (e : En) (sv : Value) (r : Ending) (w' : World) : Prop :=
  (∃ sv', r = .returned (.tuple #[.agg #[.int .i64 (apT t slot e).sl, sv'], lnV (apX t slot e), .bool (apB t slot e), .int .i64 (apE t slot e)]) ∧ DW w' base sv' (apT t slot e).L ∧ (sv' = sv ∨ ∀ k, sv'.ownBlock = some k → w.heap.size ≤ k)) ∧ Below w.heap.size w w'
theorem below8 {B g h : Nat} {w W : World} (hb : Below B w W) (hg : B ≤ g) (hh : B ≤ h) (x y a b c d e f : Value) : Below B w ((((((((W.setCell ⟨g, 0, none⟩ x).setCell ⟨g, 1, none⟩ y).setCell ⟨h, 0, none⟩ a).setCell ⟨h, 1, none⟩ b).setCell ⟨h, 2, none⟩ c).setCell ⟨h, 3, none⟩ d).setCell ⟨h, 4, none⟩ e).setCell ⟨h, 5, none⟩ f) :=
  (((((((hb.setCell (p := ⟨g, 0, none⟩) hg x).setCell (p := ⟨g, 1, none⟩) hg y).setCell (p := ⟨h, 0, none⟩) hh a).setCell (p := ⟨h, 1, none⟩) hh b).setCell (p := ⟨h, 2, none⟩) hh c).setCell (p := ⟨h, 3, none⟩) hh d).setCell (p := ⟨h, 4, none⟩) hh e).setCell (p := ⟨h, 5, none⟩) hh f
/-- A row that lies below g lies as it lay behind stores from g on. -/
theorem DW.keep {B : Nat} {W W' : World} {base : Nat} {sv : Value} {L : List Ln} (h : DW W base sv L) (hb : Below B W W') (hB : W.heap.size ≤ B) : DW W' base sv L := h.step (hb.mono hB)
set_option maxRecDepth 100000 in
set_option maxHeartbeats 4000000 in
theorem refApply_not (base : Nat) (t : Tk) (slot : Int) (e : En) (sv : Value) (w : World) (hD : DW w base sv t.L) (hs : e.s.size ≤ 9223372036854775807) (hn : (rightE e && goodB t slot) = false) :
    Calls Tryd.prog 29 #[.agg #[.int .i64 t.sl, sv], .int .i64 slot, enV e] w (daP w base t slot e sv) := by
  obtain ⟨k, m, q, s⟩ := e
  obtain ⟨a, c, rfl⟩ := hD.sl
  unfold daP
  have hT : apT t slot ⟨k, m, q, s⟩ = t := by unfold apT; rw [hn]; rfl
  have hB : apB t slot ⟨k, m, q, s⟩ = false := by unfold apB; rw [← Bool.and_assoc, hn, Bool.false_and]
  have hX : apX t slot ⟨k, m, q, s⟩ = zL := by unfold apX; rw [hB]; rfl
  rw [hT, hB, hX]
  obtain ⟨E, hE⟩ : ∃ E, apE t slot ⟨k, m, q, s⟩ = E := ⟨_, rfl⟩
  rw [hE]
  obtain ⟨n, hnn⟩ : ∃ n, t.L.length = n := ⟨_, rfl⟩
  rw [hnn] at hD ⊢
  obtain ⟨sl, hsl⟩ : ∃ sl : Nat, t.sl = sl := ⟨_, rfl⟩
  rw [hsl]
  change Calls Tryd.prog 29 #[.agg #[.int .i64 sl, .slice a n c], .int .i64 slot, .agg #[.int .i64 k, .int .i64 m, .int .i64 q, .string s]] w fun r w' => (∃ sv', r = .returned (.tuple #[.agg #[.int .i64 sl, sv'], .agg #[.int .i64 0, .int .i64 0, .int .i64 0, .int .i64 0, .int .i64 0, .string ⟨#[]⟩], .bool false, .int .i64 E]) ∧ DW w' base sv' t.L ∧ (sv' = .slice a n c ∨ ∀ k', sv'.ownBlock = some k' → w.heap.size ≤ k')) ∧ Below w.heap.size w w'
  have cR := fun W => ref14_any k m q s W hs
  have HE := Lib.hid hE
  clear hE
  go_enter Tryd.func29, Tryd.ntmps29
  go_upto_region 1 with fail
  obtain ⟨XT, XE, X6, X7, hb, hz⟩ := four w 49 26 49 33 #[.int .i64 sl, .slice a n c] #[.int .i64 k, .int .i64 m, .int .i64 q, .string s] #[.int .i64 0, .slice none 0 0] #[.int .i64 0, .int .i64 0, .int .i64 0, .int .i64 0, .int .i64 0, .string ⟨#[]⟩]
  have hD1 := hD.step hb
  generalize (((w.alloc (.cells #[.int .i64 sl, .slice a n c] 49)).alloc (.cells #[.int .i64 k, .int .i64 m, .int .i64 q, .string s] 26)).alloc (.cells #[.int .i64 0, .slice none 0 0] 49)).alloc (.cells #[.int .i64 0, .int .i64 0, .int .i64 0, .int .i64 0, .int .i64 0, .string ⟨#[]⟩] 33) = W at *
  obtain ⟨g0, hg0⟩ : ∃ g, w.heap.size = g := ⟨_, rfl⟩
  rw [hg0] at XT XE X6 X7 hb hz
  have e0 := XE.cell (j := 0) rfl
  have e1 := XE.cell (j := 1) rfl
  have e2 := XE.cell (j := 2) rfl
  have e3 := XE.cell (j := 3) rfl
  cases hr : entB k m q s
  · have hE' : E = 2 := by rw [← HE.out]; simp [apE, rightE, hr]
    subst hE'
    rw [hr] at cR
    go_wp2_with fail
    refine (cR W).mono ?_
    rintro e w4 ⟨rfl, hb4⟩
    have hb5 := hb.trans (hb4.mono (by omega))
    have T4 := XT.step hb4
    have t0 := T4.cell (j := 0) rfl
    have t1 := T4.cell (j := 1) rfl
    have Y6 := X6.step hb4
    have Y7 := X7.step hb4
    have o0 := Y6.cell (j := 0) rfl
    have o1 := Y6.cell (j := 1) rfl
    have h0 := Y6.frozen 0
    have h1 := Y6.frozen 1
    have r0 := Y7.cell (j := 0) rfl
    have r1 := Y7.cell (j := 1) rfl
    have r2 := Y7.cell (j := 2) rfl
    have r3 := Y7.cell (j := 3) rfl
    have r4 := Y7.cell (j := 4) rfl
    have r5 := Y7.cell (j := 5) rfl
    have f0 := Y7.frozen 0
    have f1 := Y7.frozen 1
    have f2 := Y7.frozen 2
    have f3 := Y7.frozen 3
    have f4 := Y7.frozen 4
    have f5 := Y7.frozen 5
    clear hn hr
    go_wp2
    (try simp only [Exit.inBlock, Exit.then])
    refine bodyPost_ret (v := .tuple #[.agg #[.int .i64 (sl), .slice a n c], .agg #[.int .i64 0, .int .i64 0, .int .i64 0, .int .i64 0, .int .i64 0, .string ⟨#[]⟩], .bool false, .int .i64 2]) ?_ rfl ⟨⟨_, rfl, ?_, .inl rfl⟩, ?_⟩
    · rw [results_c2t2 rfl]
      go_simp
    · exact hD.keep (below8 hb5 (by omega) (by omega) _ _ _ _ _ _ _ _) (by omega)
    · (try rw [hg0])
      exact below8 hb5 (by omega) (by omega) _ _ _ _ _ _ _ _
  · rw [hr] at cR
    have hg : goodB t slot = false := by simpa [rightE, hr] using hn
    have hE' : E = 320 := by rw [← HE.out]; simp [apE, rightE, hr, hg]
    subst hE'
    clear hn hr
    unfold goodB at hg
    rw [hsl] at hg
    go_wp2_with fail
    refine (cR W).mono ?_
    rintro e w4 ⟨rfl, hb4⟩
    have hb5 := hb.trans (hb4.mono (by omega))
    have T4 := XT.step hb4
    have t0 := T4.cell (j := 0) rfl
    have t1 := T4.cell (j := 1) rfl
    have Y6 := X6.step hb4
    have Y7 := X7.step hb4
    have o0 := Y6.cell (j := 0) rfl
    have o1 := Y6.cell (j := 1) rfl
    have h0 := Y6.frozen 0
    have h1 := Y6.frozen 1
    have r0 := Y7.cell (j := 0) rfl
    have r1 := Y7.cell (j := 1) rfl
    have r2 := Y7.cell (j := 2) rfl
    have r3 := Y7.cell (j := 3) rfl
    have r4 := Y7.cell (j := 4) rfl
    have r5 := Y7.cell (j := 5) rfl
    have f0 := Y7.frozen 0
    have f1 := Y7.frozen 1
    have f2 := Y7.frozen 2
    have f3 := Y7.frozen 3
    have f4 := Y7.frozen 4
    have f5 := Y7.frozen 5
    by_cases h1 : slot = sl
    · subst h1
      have h2 : (4096 : Int) ≤ (sl : Int) := by simp at hg; omega
      clear hg
      go_wp2
      (try simp only [Exit.inBlock, Exit.then])
      refine bodyPost_ret (v := .tuple #[.agg #[.int .i64 (sl), .slice a n c], .agg #[.int .i64 0, .int .i64 0, .int .i64 0, .int .i64 0, .int .i64 0, .string ⟨#[]⟩], .bool false, .int .i64 320]) ?_ rfl ⟨⟨_, rfl, ?_, .inl rfl⟩, ?_⟩
      · rw [results_c2t2 rfl]
        go_simp
      · exact hD.keep (below8 hb5 (by omega) (by omega) _ _ _ _ _ _ _ _) (by omega)
      · (try rw [hg0])
        exact below8 hb5 (by omega) (by omega) _ _ _ _ _ _ _ _
    ·
      clear hg
      go_wp2
      (try simp only [Exit.inBlock, Exit.then])
      refine bodyPost_ret (v := .tuple #[.agg #[.int .i64 (sl), .slice a n c], .agg #[.int .i64 0, .int .i64 0, .int .i64 0, .int .i64 0, .int .i64 0, .string ⟨#[]⟩], .bool false, .int .i64 320]) ?_ rfl ⟨⟨_, rfl, ?_, .inl rfl⟩, ?_⟩
      · rw [results_c2t2 rfl]
        go_simp
      · exact hD.keep (below8 hb5 (by omega) (by omega) _ _ _ _ _ _ _ _) (by omega)
      · (try rw [hg0])
        exact below8 hb5 (by omega) (by omega) _ _ _ _ _ _ _ _
end Go.Proofs.YtndechodaegkiaaDoor
