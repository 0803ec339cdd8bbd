
/- Package chat: Apply. -/
import Derived.Test.YtndechodaegkiaaDoorChB
import Derived.Deep.AppendLies
import Derived.Deep.RegionHeldLaw
namespace Go.Proofs.YtndechodaegkiaaDoor
open Go.RowKit
def zE : En := ⟨0, 0, 0, ⟨#[]⟩⟩
def zL : Ln := ⟨0, 0, zE⟩
def rightE (e : En) : Bool := entB e.k e.m e.n e.s
def goodB (t : Tk) (slot : Int) : Bool := slot == t.sl && decide (slot < 4096)
def newL (t : Tk) (e : En) : Ln := ⟨t.L.length, t.sl, e⟩
def apT (t : Tk) (slot : Int) (e : En) : Tk :=
  if rightE e && goodB t slot then if cntB t e then ⟨t.sl + 1, t.L ++ [newL t e], t.M.set e.m.toNat (cntS t e)⟩ else ⟨t.sl + 1, t.L, t.M⟩ else t
def apB (t : Tk) (slot : Int) (e : En) : Bool := rightE e && (goodB t slot && cntB t e)
def apX (t : Tk) (slot : Int) (e : En) : Ln := if apB t slot e then newL t e else zL
def apE (t : Tk) (slot : Int) (e : En) : Int := if rightE e then if goodB t slot then 0 else 320 else 2
theorem results_cell_tmp2 {fn : Func} {p u u2 : Tmp} {ty : TypeId} (h : fn.results = #[.cell p ty, .tmp u, .tmp u2]) (tmps : Array Value) (P : Program) (w : World) :
    (results fn tmps).run P w =
      ((asAddr (tmps.getD p undef)).run P w).andThen fun a w₁ => ((loadVar ty a).run P w₁).andThen fun v w₂ => .ok (.tuple #[v, tmps.getD u undef, tmps.getD u2 undef]) w₂ := by
  simp only [results, h]
  simp [Sem.run_bind, Result.andThen]
theorem right_mem {e : En} (h : rightE e = true) : 0 ≤ e.m ∧ e.m < 16 := by
  unfold rightE entB at h
  split at h
  · simp at h; omega
  · split at h
    · simp [memB] at h; omega
    · split at h
      · simp [memB] at h; omega
      · cases h
set_option maxRecDepth 100000 in
set_option maxHeartbeats 2000000 in
theorem apply_not (base g : Nat) (v : Value) (t : Tk) (slot : Int) (e : En) (w : World) (h : TkW w base g v t) (hT : Tabs w) (hs : e.s.size ≤ 9223372036854775807) (hn : (rightE e && goodB t slot) = false) :
    Calls Tryd.prog 13 #[.pointer (some ⟨g, 0, none⟩), .int .i64 slot, enV e] w fun r w' => r = .returned (.tuple #[lnV zL, .bool false, .int .i64 (apE t slot e)]) ∧ Below w.heap.size w w' := by
  obtain ⟨k, m, q, s⟩ := e
  change Calls Tryd.prog 13 #[.pointer (some ⟨g, 0, none⟩), .int .i64 slot, .agg #[.int .i64 k, .int .i64 m, .int .i64 q, .string s]] w fun r w' => r = .returned (.tuple #[.agg #[.int .i64 0, .int .i64 0, .int .i64 0, .int .i64 0, .int .i64 0, .string ⟨#[]⟩], .bool false, .int .i64 (apE t slot ⟨k, m, q, s⟩)]) ∧ Below w.heap.size w w'
  obtain ⟨E, hE⟩ : ∃ E, apE t slot ⟨k, m, q, s⟩ = E := ⟨_, rfl⟩
  rw [hE]
  go_enter Tryd.func13, Tryd.ntmps13
  go_upto_region 1 with fail
  obtain ⟨XE, XR, hb, hz⟩ := two w 26 33 #[.int .i64 k, .int .i64 m, .int .i64 q, .string s] #[.int .i64 0, .int .i64 0, .int .i64 0, .int .i64 0, .int .i64 0, .string ⟨#[]⟩]
  have hW := h.step hb
  have hTW := hT.step hb
  generalize (w.alloc (.cells #[.int .i64 k, .int .i64 m, .int .i64 q, .string s] 26)).alloc (.cells #[.int .i64 0, .int .i64 0, .int .i64 0, .int .i64 0, .int .i64 0, .string ⟨#[]⟩] 33) = W at *
  obtain ⟨g0, hg0⟩ : ∃ g, w.heap.size = g := ⟨_, rfl⟩
  rw [hg0] at XE XR hb hz ⊢
  have cm := hW.made
  have cR := ent_any k m q s W hs hTW
  have e0 := XE.cell (j := 0) rfl
  have e1 := XE.cell (j := 1) rfl
  have e2 := XE.cell (j := 2) rfl
  have e3 := XE.cell (j := 3) rfl
  have HE := Lib.hid hE
  clear hE
  cases hr : entB k m q s
  · have hE' : E = 2 := by rw [← HE.out]; simp [apE, rightE, hr]
    subst hE'
    rw [hr] at cR
    go_wp2_with fail
    refine (none_any g true W cm).mono ?_
    rintro e w3 ⟨rfl, rfl⟩
    go_wp2_with fail
    refine (cR).mono ?_
    rintro e w4 ⟨rfl, hb4⟩
    have X4 := XR.step hb4
    have r0 := X4.cell (j := 0) rfl
    have r1 := X4.cell (j := 1) rfl
    have r2 := X4.cell (j := 2) rfl
    have r3 := X4.cell (j := 3) rfl
    have r4 := X4.cell (j := 4) rfl
    have r5 := X4.cell (j := 5) rfl
    have f0 := X4.frozen 0
    have f1 := X4.frozen 1
    have f2 := X4.frozen 2
    have f3 := X4.frozen 3
    have f4 := X4.frozen 4
    have f5 := X4.frozen 5
    go_wp2
    (try simp only [Exit.inBlock, Exit.then])
    refine bodyPost_ret (v := .tuple #[.agg #[.int .i64 0, .int .i64 0, .int .i64 0, .int .i64 0, .int .i64 0, .string ⟨#[]⟩], .bool false, .int .i64 2]) ?_ rfl ⟨rfl, ?_⟩
    · rw [results_cell_tmp2 rfl]
      go_simp
    ·
      have hb5 := ((((((hb.trans (hb4.mono (by omega))).setCell (p := ⟨g0 + 1, 0, none⟩) (by simp) (.int .i64 0)).setCell (p := ⟨g0 + 1, 1, none⟩) (by simp) (.int .i64 0)).setCell (p := ⟨g0 + 1, 2, none⟩) (by simp) (.int .i64 0)).setCell (p := ⟨g0 + 1, 3, none⟩) (by simp) (.int .i64 0)).setCell (p := ⟨g0 + 1, 4, none⟩) (by simp) (.int .i64 0)).setCell (p := ⟨g0 + 1, 5, none⟩) (by simp) (.string ⟨#[]⟩)
      first | exact hb5 | (rw [hg0]; exact hb5)
  · rw [hr] at cR
    have hg : goodB t slot = false := by simpa [rightE, hr] using hn
    have hE' : E = 320 := by rw [← HE.out]; simp [apE, rightE, hr, hg]
    subst hE'
    clear hn
    unfold goodB at hg
    go_wp2_with fail
    refine (none_any g true W cm).mono ?_
    rintro e w3 ⟨rfl, rfl⟩
    go_wp2_with fail
    refine (cR).mono ?_
    rintro e w4 ⟨rfl, hb4⟩
    have ts := (hW.step hb4).blk.cell (j := 1) rfl
    have X4 := XR.step hb4
    have r0 := X4.cell (j := 0) rfl
    have r1 := X4.cell (j := 1) rfl
    have r2 := X4.cell (j := 2) rfl
    have r3 := X4.cell (j := 3) rfl
    have r4 := X4.cell (j := 4) rfl
    have r5 := X4.cell (j := 5) rfl
    have f0 := X4.frozen 0
    have f1 := X4.frozen 1
    have f2 := X4.frozen 2
    have f3 := X4.frozen 3
    have f4 := X4.frozen 4
    have f5 := X4.frozen 5
    by_cases h1 : slot = t.sl
    · subst h1
      have h2 : (4096 : Int) ≤ (t.sl : Int) := by simp at hg; omega
      clear hg
      go_wp2
      (try simp only [Exit.inBlock, Exit.then])
      refine bodyPost_ret (v := .tuple #[.agg #[.int .i64 0, .int .i64 0, .int .i64 0, .int .i64 0, .int .i64 0, .string ⟨#[]⟩], .bool false, .int .i64 320]) ?_ rfl ⟨rfl, ?_⟩
      · rw [results_cell_tmp2 rfl]
        go_simp
      ·
        have hb5 := ((((((hb.trans (hb4.mono (by omega))).setCell (p := ⟨g0 + 1, 0, none⟩) (by simp) (.int .i64 0)).setCell (p := ⟨g0 + 1, 1, none⟩) (by simp) (.int .i64 0)).setCell (p := ⟨g0 + 1, 2, none⟩) (by simp) (.int .i64 0)).setCell (p := ⟨g0 + 1, 3, none⟩) (by simp) (.int .i64 0)).setCell (p := ⟨g0 + 1, 4, none⟩) (by simp) (.int .i64 0)).setCell (p := ⟨g0 + 1, 5, none⟩) (by simp) (.string ⟨#[]⟩)
        first | exact hb5 | (rw [hg0]; exact hb5)
    ·
      clear hg
      go_wp2
      (try simp only [Exit.inBlock, Exit.then])
      refine bodyPost_ret (v := .tuple #[.agg #[.int .i64 0, .int .i64 0, .int .i64 0, .int .i64 0, .int .i64 0, .string ⟨#[]⟩], .bool false, .int .i64 320]) ?_ rfl ⟨rfl, ?_⟩
      · rw [results_cell_tmp2 rfl]
        go_simp
      ·
        have hb5 := ((((((hb.trans (hb4.mono (by omega))).setCell (p := ⟨g0 + 1, 0, none⟩) (by simp) (.int .i64 0)).setCell (p := ⟨g0 + 1, 1, none⟩) (by simp) (.int .i64 0)).setCell (p := ⟨g0 + 1, 2, none⟩) (by simp) (.int .i64 0)).setCell (p := ⟨g0 + 1, 3, none⟩) (by simp) (.int .i64 0)).setCell (p := ⟨g0 + 1, 4, none⟩) (by simp) (.int .i64 0)).setCell (p := ⟨g0 + 1, 5, none⟩) (by simp) (.string ⟨#[]⟩)
        first | exact hb5 | (rw [hg0]; exact hb5)
theorem row_other {W : World} {base g n : Nat} {v : Value} {xs cs : List Value} (h : W.ownsRow base 33 6 v n xs) (hb : Blk W g 79 cs) (o : Nat) (u : Value) : (W.setCell ⟨g, o, none⟩ u).ownsRow base 33 6 v n xs := by
  obtain ⟨h1, h2⟩ := h
  refine ⟨h1, ?_⟩
  rcases h2 with h2 | ⟨b, cap, cur, hv, hg, hh, r⟩
  · exact Or.inl h2
  · refine Or.inr ⟨b, cap, cur, hv, hg, ?_, r⟩
    rw [Below.heap_setCell _ _ _ _ (by
      rintro e
      simp only at e
      subst e
      rw [show W.heap[b]? = _ from hb] at hh
      cases hh)]
    exact hh
theorem TkW.slot {W : World} {base g : Nat} {v : Value} {t : Tk} (h : TkW W base g v t) (ht : t.sl < 4096) : TkW (W.setCell ⟨g, 1, none⟩ (.int .i64 (t.sl + 1))) base g v ⟨t.sl + 1, t.L, t.M⟩ :=
  ⟨h.blk.set 1 (.int .i64 (t.sl + 1)), row_other h.row h.blk 1 _, h.len, Nat.le_succ_of_le h.few, ht⟩
theorem Kx.ge {ws : List Nat} {A W W' : World} {B : Nat} (h : Kx ws A W) (hb : Below B W W') (hB : A.heap.size ≤ B) : Kx ws A W' :=
  ⟨hb.os.trans h.os, hb.tape.trans h.tape, hb.output.trans h.output, Nat.le_trans h.size hb.size, fun k hk hw => (hb.block k (by omega)).trans (h.block k hk hw)⟩
theorem TkW.ge {W W' : World} {base g B : Nat} {v : Value} {t : Tk} (h : TkW W base g v t) (hb : Below B W W') (hg : g < B) (hr : ∀ k, v.ownBlock = some k → k < B) : TkW W' base g v t := by
  refine ⟨h.blk.below hb hg, ?_, h.len, h.few, h.top⟩
  obtain ⟨h1, h2⟩ := h.row
  refine ⟨h1, ?_⟩
  rcases h2 with h2 | ⟨b, cap, cur, hv, hg, hh, r⟩
  · exact Or.inl h2
  · exact Or.inr ⟨b, cap, cur, hv, hg, (hb.block b (hr b (by rw [hv]; rfl))).trans hh, r⟩
theorem Below.six {W : World} {b : Nat} (u0 u1 u2 u3 u4 u5 : Value) : Below b W ((((((W.setCell ⟨b, 0, none⟩ u0).setCell ⟨b, 1, none⟩ u1).setCell ⟨b, 2, none⟩ u2).setCell ⟨b, 3, none⟩ u3).setCell ⟨b, 4, none⟩ u4).setCell ⟨b, 5, none⟩ u5) :=
  ((((((Below.refl b W).setCell (p := ⟨b, 0, none⟩) (Nat.le_refl _) u0).setCell (p := ⟨b, 1, none⟩) (Nat.le_refl _) u1).setCell (p := ⟨b, 2, none⟩) (Nat.le_refl _) u2).setCell (p := ⟨b, 3, none⟩) (Nat.le_refl _) u3).setCell (p := ⟨b, 4, none⟩) (Nat.le_refl _) u4).setCell (p := ⟨b, 5, none⟩) (Nat.le_refl _) u5
set_option maxRecDepth 100000 in
set_option maxHeartbeats 2000000 in
theorem apply_skip (base g : Nat) (v : Value) (t : Tk) (slot : Int) (e : En) (w : World) (h : TkW w base g v t) (hT : Tabs w) (hs : e.s.size ≤ 9223372036854775807) (hr : rightE e = true) (hg : goodB t slot = true) (hn : cntB t e = false) :
    Calls Tryd.prog 13 #[.pointer (some ⟨g, 0, none⟩), .int .i64 slot, enV e] w fun r w' => r = .returned (.tuple #[lnV zL, .bool false, .int .i64 0]) ∧ TkW w' base g v ⟨t.sl + 1, t.L, t.M⟩ ∧ Kx [g] w w' := by
  have hm := right_mem hr
  obtain ⟨k, m, q, s⟩ := e
  obtain ⟨rfl, hsl⟩ : slot = t.sl ∧ (t.sl : Int) < 4096 := by unfold goodB at hg; simp at hg; exact ⟨hg.1, by omega⟩
  change Calls Tryd.prog 13 #[.pointer (some ⟨g, 0, none⟩), .int .i64 t.sl, .agg #[.int .i64 k, .int .i64 m, .int .i64 q, .string s]] w fun r w' => r = .returned (.tuple #[.agg #[.int .i64 0, .int .i64 0, .int .i64 0, .int .i64 0, .int .i64 0, .string ⟨#[]⟩], .bool false, .int .i64 0]) ∧ TkW w' base g v ⟨t.sl + 1, t.L, t.M⟩ ∧ Kx [g] w w'
  have hE : True := trivial
  have hgw : g < w.heap.size := h.blk.lt
  have hsl0 : (0 : Int) ≤ (t.sl : Int) := by omega
  go_enter Tryd.func13, Tryd.ntmps13
  go_upto_region 1 with fail
  obtain ⟨XE, XR, hb, hz⟩ := two w 26 33 #[.int .i64 k, .int .i64 m, .int .i64 q, .string s] #[.int .i64 0, .int .i64 0, .int .i64 0, .int .i64 0, .int .i64 0, .string ⟨#[]⟩]
  have hW := h.step hb
  have hTW := hT.step hb
  generalize (w.alloc (.cells #[.int .i64 k, .int .i64 m, .int .i64 q, .string s] 26)).alloc (.cells #[.int .i64 0, .int .i64 0, .int .i64 0, .int .i64 0, .int .i64 0, .string ⟨#[]⟩] 33) = W at *
  obtain ⟨g0, hg0⟩ : ∃ g, w.heap.size = g := ⟨_, rfl⟩
  rw [hg0] at XE XR hb hz ⊢
  have cm := hW.made
  have cR := ent_any k m q s W hs hTW
  have e0 := XE.cell (j := 0) rfl
  have e1 := XE.cell (j := 1) rfl
  have e2 := XE.cell (j := 2) rfl
  have e3 := XE.cell (j := 3) rfl
  have HE := Lib.hid hE
  clear hE
  rw [show entB k m q s = true from hr] at cR
  go_wp2_with fail
  refine (none_any g true W cm).mono ?_
  rintro e w3 ⟨rfl, rfl⟩
  go_wp2_with fail
  refine (cR).mono ?_
  rintro e w4 ⟨rfl, hb4⟩
  have ts := (hW.step hb4).blk.cell (j := 1) rfl
  have tz := (hW.step hb4).blk.frozen 1
  have X4 := XE.step hb4
  have e0 := X4.cell (j := 0) rfl
  have e1 := X4.cell (j := 1) rfl
  have e2 := X4.cell (j := 2) rfl
  have e3 := X4.cell (j := 3) rfl
  go_upto_region 8 with fail
  have hgne : g0 ≠ g := by omega
  have hgne1 : g0 + 1 ≠ g := by omega
  have hW5 : TkW (w4.setCell ⟨g, 1, none⟩ (.int .i64 (t.sl + 1))) base g v ⟨t.sl + 1, t.L, t.M⟩ := (hW.step hb4).slot (by omega)
  have hK5 := ((Kx.of_below [g] hb (by omega)).step hb4).setCell (p := ⟨g, 1, none⟩) (.inl (by simp)) (.int .i64 (t.sl + 1))
  have XR5 := (XR.step hb4).other hgne1 1 (.int .i64 (t.sl + 1))
  have XE5 := (XE.step hb4).other hgne 1 (.int .i64 (t.sl + 1))
  have cC := counts_any base g v ⟨t.sl + 1, t.L, t.M⟩ ⟨k, m, q, s⟩ (w4.setCell ⟨g, 1, none⟩ (.int .i64 (t.sl + 1))) hW5 hm.1 hm.2
  clear e0 e1 e2 e3 ts tz X4
  generalize w4.setCell ⟨g, 1, none⟩ (.int .i64 (t.sl + 1)) = w5 at *
  have e0 := XE5.cell (j := 0) rfl
  have e1 := XE5.cell (j := 1) rfl
  have e2 := XE5.cell (j := 2) rfl
  have e3 := XE5.cell (j := 3) rfl
  clear hb4 cR cm hTW hW XE XR hb
  rw [show cntB ⟨t.sl + 1, t.L, t.M⟩ ⟨k, m, q, s⟩ = false from hn] at cC
  generalize cntS ⟨t.sl + 1, t.L, t.M⟩ ⟨k, m, q, s⟩ = R at cC
  obtain ⟨x, j, l⟩ := R
  change Calls Tryd.prog 36 #[.pointer (some ⟨g, 0, none⟩), .agg #[.int .i64 k, .int .i64 m, .int .i64 q, .string s]] w5 fun r w' => r = .returned (.tuple #[.agg #[.bool x, .int .i64 j, .int .i64 l], .bool false]) ∧ Below w5.heap.size w5 w' at cC
  clear hn
  go_wp2_with fail
  refine (cC).mono ?_
  rintro e w6 ⟨rfl, hb6⟩
  have hW6 := hW5.step hb6
  have hK6 := hK5.step hb6
  have XR6 := XR5.step hb6
  have XE6 := XE5.step hb6
  clear hW5 hK5 XR5 XE5 e0 e1 e2 e3 hb6
  go_upto_region 9 with fail
  have hb7 := (Below.refl w6.heap.size w6).alloc (Nat.le_refl _) (.cells #[.bool x, .int .i64 j, .int .i64 l] 64)
  generalize w6.alloc (.cells #[.bool x, .int .i64 j, .int .i64 l] 64) = w7 at hb7 ⊢
  have hb4 := hb7
  have XR := XR6
  have X4 := XR.step hb4
  have r0 := X4.cell (j := 0) rfl
  have r1 := X4.cell (j := 1) rfl
  have r2 := X4.cell (j := 2) rfl
  have r3 := X4.cell (j := 3) rfl
  have r4 := X4.cell (j := 4) rfl
  have r5 := X4.cell (j := 5) rfl
  have f0 := X4.frozen 0
  have f1 := X4.frozen 1
  have f2 := X4.frozen 2
  have f3 := X4.frozen 3
  have f4 := X4.frozen 4
  have f5 := X4.frozen 5
  go_wp2
  (try simp only [Exit.inBlock, Exit.then])
  have hK7 := hK6.step hb4
  have hW7 := hW6.step hb4
  refine bodyPost_ret (v := .tuple #[.agg #[.int .i64 0, .int .i64 0, .int .i64 0, .int .i64 0, .int .i64 0, .string ⟨#[]⟩], .bool false, .int .i64 0]) ?_ rfl ⟨rfl, ?_⟩
  · rw [results_cell_tmp2 rfl]
    go_simp
  ·
    have hB := Below.six (W := w7) (b := g0 + 1) (.int .i64 0) (.int .i64 0) (.int .i64 0) (.int .i64 0) (.int .i64 0) (.string ⟨#[]⟩)
    exact ⟨hW7.ge hB (by omega) (fun k hk => by have := (h.row.lt k hk).2; omega), hK7.ge hB (by omega)⟩
end Go.Proofs.YtndechodaegkiaaDoor
