
/- Package chat: Apply takes an entry. -/
import Derived.Test.YtndechodaegkiaaDoorChC
import Derived.Deep.RegionLaw
namespace Go.Proofs.YtndechodaegkiaaDoor
open Go.RowKit
theorem TkW.apart {W : World} {base g : Nat} {v : Value} {t : Tk} (h : TkW W base g v t) : some g ≠ v.ownBlock := by
  rcases h.row.2 with ⟨rfl, _⟩ | ⟨b, cap, cur, hv, hg, hh, r⟩
  · intro e; cases e
  · rw [hv]
    intro e
    have e' : g = b := Option.some.inj e
    subst e'
    rw [show W.heap[g]? = _ from h.blk] at hh
    cases hh
theorem info_line : (Tryd.prog.info? 33).map (fun i => (i.zero, i.size, i.bytes)) = some (some (.agg #[.int .i64 0, .int .i64 0, .int .i64 0, .int .i64 0, .int .i64 0, .string ⟨#[]⟩]), 6, 56) := by kernel_rfl
theorem Blk.drew {W : World} {g : Nat} {t : TypeId} {cs : List Value} (h : Blk W g t cs) : Blk W.drew g t cs := h
theorem memL_set (M : List St) (s : St) (m : Nat) (hm : m < M.length) :
    (((M.flatMap stL).set (m * 3) (.bool s.inn)).set (m * 3 + 1) (.int .i64 s.j)).set (m * 3 + 2) (.int .i64 s.l) = (M.set m s).flatMap stL := by
  induction M generalizing m with
  | nil => simp at hm
  | cons a t ih =>
    cases m with
    | zero => simp [stL]
    | succ m =>
      have h := ih m (by simpa using hm)
      simp only [List.flatMap_cons, stL, List.set_cons_succ] at h ⊢
      rw [show (m + 1) * 3 = m * 3 + 1 + 1 + 1 by omega]
      simp only [List.cons_append, List.nil_append, List.set_cons_succ, show m * 3 + 1 + 1 + 1 + 1 = (m * 3 + 1) + 1 + 1 + 1 by omega, show m * 3 + 1 + 1 + 1 + 2 = (m * 3 + 2) + 1 + 1 + 1 by omega]
      rw [← h]
theorem talkL_set (v : Value) (t : Tk) (s : St) (m : Nat) (hm : m < t.M.length) :
    (((talkL v t).set (2 + m * 3) (.bool s.inn)).set (2 + m * 3 + 1) (.int .i64 s.j)).set (2 + m * 3 + 2) (.int .i64 s.l) = talkL v ⟨t.sl, t.L, t.M.set m s⟩ := by
  have hl := memL_len t.M
  unfold talkL
  simp only [show 2 + m * 3 = m * 3 + 1 + 1 by omega, show m * 3 + 1 + 1 + 2 = (m * 3 + 2) + 1 + 1 by omega, List.set_cons_succ]
  rw [List.set_append_left _ _ (by omega), List.set_append_left _ _ (by rw [List.length_set]; omega), List.set_append_left _ _ (by rw [List.length_set, List.length_set]; omega), memL_set _ _ _ hm]
theorem TkW.mem {W : World} {base g : Nat} {v : Value} {t : Tk} (h : TkW W base g v t) (m : Nat) (hm : m < 16) (s : St) :
    TkW (((W.setCell ⟨g, 2 + m * 3, none⟩ (.bool s.inn)).setCell ⟨g, 2 + m * 3 + 1, none⟩ (.int .i64 s.j)).setCell ⟨g, 2 + m * 3 + 2, none⟩ (.int .i64 s.l)) base g v ⟨t.sl, t.L, t.M.set m s⟩ := by
  have h1 := h.blk.set (2 + m * 3) (.bool s.inn)
  have h2 := h1.set (2 + m * 3 + 1) (.int .i64 s.j)
  have h3 := h2.set (2 + m * 3 + 2) (.int .i64 s.l)
  have r1 := row_other h.row h.blk (2 + m * 3) (.bool s.inn)
  have r2 := row_other r1 h1 (2 + m * 3 + 1) (.int .i64 s.j)
  have r3 := row_other r2 h2 (2 + m * 3 + 2) (.int .i64 s.l)
  rw [talkL_set v t s m (by rw [h.len]; exact hm)] at h3
  exact ⟨h3, r3, by simp [h.len], h.few, h.top⟩
theorem TkW.drew {W : World} {base g : Nat} {v : Value} {t : Tk} (h : TkW W base g v t) : TkW W.drew base g v t := ⟨h.blk, h.row, h.len, h.few, h.top⟩
theorem gcell {W W' : World} {o : Obj} {row : Option Nat} (hg : (W.alloc o).grownBy W' row) {p : Addr} {v : Value} (h : W.cell? p = some v) (hne : some p.block ≠ row) : W'.cell? p = some v := by
  have hlt := World.block_lt_of_cell? W _ h
  rw [hg.cell_far p (by rw [alloc_size rfl]; omega) hne]
  exact (World.cell?_of_block (Below.heap_alloc W o p.block hlt)).trans h
theorem gfroz {W W' : World} {o : Obj} {row : Option Nat} (hg : (W.alloc o).grownBy W' row) {p : Addr} {b : Bool} (h : W.frozen? p = b) (hlt : p.block < W.heap.size) (hne : some p.block ≠ row) : W'.frozen? p = b := by
  rw [hg.frozen_far p (by rw [alloc_size rfl]; omega) hne]
  exact (World.frozen?_of_block (Below.heap_alloc W o p.block hlt)).trans h
theorem TkW.off {W : World} {base g b : Nat} {v : Value} {t : Tk} (h : TkW W base g v t) (hne : b ≠ g) (hr : some b ≠ v.ownBlock) (o : Nat) (u : Value) : TkW (W.setCell ⟨b, o, none⟩ u) base g v t := by
  refine ⟨h.blk.other (Ne.symm hne) o u, ?_, h.len, h.few, h.top⟩
  obtain ⟨h1, h2⟩ := h.row
  refine ⟨h1, ?_⟩
  rcases h2 with h2 | ⟨d, cap, cur, hv, hg, hh, r⟩
  · exact Or.inl h2
  · refine Or.inr ⟨d, cap, cur, hv, hg, ?_, r⟩
    rw [Below.heap_setCell _ _ _ _ (by rintro e; simp only at e; subst e; exact hr (by rw [hv]; rfl))]
    exact hh
set_option maxRecDepth 100000 in
set_option maxHeartbeats 1000000 in
theorem apply_take (base g : Nat) (v : Value) (t : Tk) (slot : Int) (e : En) (w : World) (h : TkW w base g v t) (hT : Tabs w) (hbase : base ≤ w.heap.size) (hs : e.s.size ≤ 9223372036854775807) (hr : rightE e = true) (hg : goodB t slot = true) (hn : cntB t e = true) :
    Calls Tryd.prog 13 #[.pointer (some ⟨g, 0, none⟩), .int .i64 slot, enV e] w fun r w' => r = .returned (.tuple #[lnV (newL t e), .bool true, .int .i64 0]) ∧
      ∃ v', TkW w' base g v' ⟨t.sl + 1, t.L ++ [newL t e], t.M.set e.m.toNat (cntS t e)⟩ ∧ Kx (g :: v.ownBlock.toList) w w' ∧ (v'.ownBlock = v.ownBlock ∨ ∃ k, v'.ownBlock = some k ∧ w.heap.size ≤ k) := by
  have hm := right_mem hr
  obtain ⟨i0, hi, hz0, hz1, hz2⟩ := info_parts info_line
  obtain ⟨k, mi, q, s⟩ := e
  obtain ⟨m, rfl⟩ : ∃ m : Nat, mi = m := ⟨mi.toNat, by simp at hm; omega⟩
  obtain ⟨rfl, hsl⟩ : slot = t.sl ∧ (t.sl : Int) < 4096 := by unfold goodB at hg; simp at hg; exact ⟨hg.1, by omega⟩
  obtain ⟨n, hn0⟩ : ∃ n, t.L.length = n := ⟨_, rfl⟩
  change Calls Tryd.prog 13 #[.pointer (some ⟨g, 0, none⟩), .int .i64 t.sl, .agg #[.int .i64 k, .int .i64 m, .int .i64 q, .string s]] w fun r w' => r = .returned (.tuple #[.agg #[.int .i64 t.L.length, .int .i64 t.sl, .int .i64 k, .int .i64 m, .int .i64 q, .string s], .bool true, .int .i64 0]) ∧ 
      ∃ v', TkW w' base g v' ⟨t.sl + 1, t.L ++ [newL t ⟨k, m, q, s⟩], t.M.set m (cntS t ⟨k, m, q, s⟩)⟩ ∧ Kx (g :: v.ownBlock.toList) w w' ∧ (v'.ownBlock = v.ownBlock ∨ ∃ k, v'.ownBlock = some k ∧ w.heap.size ≤ k)
  rw [hn0]
  have hE : True := trivial
  have hgw : g < w.heap.size := h.blk.lt
  have hsl0 : (0 : Int) ≤ (t.sl : Int) := by omega
  go_enter Tryd.func13, Tryd.ntmps13
  go_upto_region 1 with fail
  obtain ⟨XE, XR, hb, hz⟩ := two w 26 33 #[.int .i64 k, .int .i64 m, .int .i64 q, .string s] #[.int .i64 0, .int .i64 0, .int .i64 0, .int .i64 0, .int .i64 0, .string ⟨#[]⟩]
  have hW := h.step hb
  have hTW := hT.step hb
  generalize (w.alloc (.cells #[.int .i64 k, .int .i64 m, .int .i64 q, .string s] 26)).alloc (.cells #[.int .i64 0, .int .i64 0, .int .i64 0, .int .i64 0, .int .i64 0, .string ⟨#[]⟩] 33) = W at *
  obtain ⟨g0, hg0⟩ : ∃ g, w.heap.size = g := ⟨_, rfl⟩
  rw [hg0] at XE XR hb hz ⊢
  have cm := hW.made
  have cR := ent_any k m q s W hs hTW
  have e0 := XE.cell (j := 0) rfl
  have e1 := XE.cell (j := 1) rfl
  have e2 := XE.cell (j := 2) rfl
  have e3 := XE.cell (j := 3) rfl
  have HE := Lib.hid hE
  clear hE
  rw [show entB k m q s = true from hr] at cR
  go_wp2_with fail
  refine (none_any g true W cm).mono ?_
  rintro e w3 ⟨rfl, rfl⟩
  go_wp2_with fail
  refine (cR).mono ?_
  rintro e w4 ⟨rfl, hb4⟩
  have ts := (hW.step hb4).blk.cell (j := 1) rfl
  have tz := (hW.step hb4).blk.frozen 1
  have X4 := XE.step hb4
  have e0 := X4.cell (j := 0) rfl
  have e1 := X4.cell (j := 1) rfl
  have e2 := X4.cell (j := 2) rfl
  have e3 := X4.cell (j := 3) rfl
  go_upto_region 8 with fail
  have hgne : g0 ≠ g := by omega
  have hgne1 : g0 + 1 ≠ g := by omega
  have hW5 : TkW (w4.setCell ⟨g, 1, none⟩ (.int .i64 (t.sl + 1))) base g v ⟨t.sl + 1, t.L, t.M⟩ := (hW.step hb4).slot (by omega)
  have hK5 := ((Kx.of_below [g] hb (by omega)).step hb4).setCell (p := ⟨g, 1, none⟩) (.inl (by simp)) (.int .i64 (t.sl + 1))
  have XR5 := (XR.step hb4).other hgne1 1 (.int .i64 (t.sl + 1))
  have XE5 := (XE.step hb4).other hgne 1 (.int .i64 (t.sl + 1))
  have cC := counts_any base g v ⟨t.sl + 1, t.L, t.M⟩ ⟨k, m, q, s⟩ (w4.setCell ⟨g, 1, none⟩ (.int .i64 (t.sl + 1))) hW5 hm.1 hm.2
  clear e0 e1 e2 e3 ts tz X4
  generalize w4.setCell ⟨g, 1, none⟩ (.int .i64 (t.sl + 1)) = w5 at *
  have e0 := XE5.cell (j := 0) rfl
  have e1 := XE5.cell (j := 1) rfl
  have e2 := XE5.cell (j := 2) rfl
  have e3 := XE5.cell (j := 3) rfl
  clear hb4 cR cm hTW hW XE XR hb
  rw [show cntB ⟨t.sl + 1, t.L, t.M⟩ ⟨k, m, q, s⟩ = true from hn, show cntS ⟨t.sl + 1, t.L, t.M⟩ ⟨k, m, q, s⟩ = cntS t ⟨k, m, q, s⟩ from rfl] at cC
  generalize hRR : cntS t ⟨k, m, q, s⟩ = R at cC
  have HRR := Lib.hid hRR
  clear hRR
  obtain ⟨x, j, l⟩ := R
  change Calls Tryd.prog 36 #[.pointer (some ⟨g, 0, none⟩), .agg #[.int .i64 k, .int .i64 m, .int .i64 q, .string s]] w5 fun r w' => r = .returned (.tuple #[.agg #[.bool x, .int .i64 j, .int .i64 l], .bool true]) ∧ Below w5.heap.size w5 w' at cC
  clear hn
  go_wp2_with fail
  refine (cC).mono ?_
  rintro e w6 ⟨rfl, hb6⟩
  have hW6 := hW5.step hb6
  have hK6 := hK5.step hb6
  have XR6 := XR5.step hb6
  have XE6 := XE5.step hb6
  clear hW5 hK5 XR5 XE5 e0 e1 e2 e3 hb6
  go_upto_region 11 with fail
  have b6 : g0 + 1 < w6.heap.size := XR6.lt
  have b60 : g0 < w6.heap.size := XE6.lt
  have XS7 := Blk.newA' (W := w6) rfl 64 #[.bool x, .int .i64 j, .int .i64 l]
  have hW7 := hW6.step ((Below.refl w6.heap.size w6).alloc (Nat.le_refl _) (.cells #[.bool x, .int .i64 j, .int .i64 l] 64))
  have hK7 := hK6.step ((Below.refl w6.heap.size w6).alloc (Nat.le_refl _) (.cells #[.bool x, .int .i64 j, .int .i64 l] 64))
  have XR7 := XR6.alloc (.cells #[.bool x, .int .i64 j, .int .i64 l] 64)
  have XE7 := XE6.alloc (.cells #[.bool x, .int .i64 j, .int .i64 l] 64)
  generalize w6.alloc (.cells #[.bool x, .int .i64 j, .int .i64 l] 64) = w7 at *
  obtain ⟨b7, hb7⟩ : ∃ b, w6.heap.size = b := ⟨_, rfl⟩
  rw [hb7] at XS7 b6 b60 ⊢
  clear XR6 XE6 hK6 hW6 cC e0 e1 e2 e3
  obtain ⟨a, c, hvs⟩ := hW7.sl
  have hvn : v = .slice a n c := by rw [hvs]; simp [hn0]
  have hnI : (n : Int) ≤ 4095 := by have := h.few; omega
  have l0 := hW7.blk.cell (j := 0) rfl
  clear hvs
  subst hvn
  have e0 := XE7.cell (j := 0) rfl
  have e1 := XE7.cell (j := 1) rfl
  have e2 := XE7.cell (j := 2) rfl
  have e3 := XE7.cell (j := 3) rfl
  have r0 := XR7.cell (j := 0) rfl
  have r1 := XR7.cell (j := 1) rfl
  have r2 := XR7.cell (j := 2) rfl
  have r3 := XR7.cell (j := 3) rfl
  have r4 := XR7.cell (j := 4) rfl
  have r5 := XR7.cell (j := 5) rfl
  have f0 := XR7.frozen 0
  have f1 := XR7.frozen 1
  have f2 := XR7.frozen 2
  have f3 := XR7.frozen 3
  have f4 := XR7.frozen 4
  have f5 := XR7.frozen 5
  go_region
  clear r0 r1 r2 r3 r4 r5 f0 f1 f2 f3 f4 f5 e0 e1 e2 e3 l0
  generalize hw8 : World.drew _ = w8
  have hB8 : Below (g0 + 1) w7 w8 := by rw [← hw8]; exact (Below.six (.int .i64 n) (.int .i64 t.sl) (.int .i64 k) (.int .i64 m) (.int .i64 q) (.string s)).drew
  have XR8 : Blk w8 (g0 + 1) 33 [.int .i64 n, .int .i64 t.sl, .int .i64 k, .int .i64 m, .int .i64 q, .string s] := by
    have Y := (((((XR7.set 0 (.int .i64 n)).set 1 (.int .i64 t.sl)).set 2 (.int .i64 k)).set 3 (.int .i64 m)).set 4 (.int .i64 q)).set 5 (.string s)
    simp only [List.set_cons_zero, List.set_cons_succ] at Y
    rw [← hw8]; exact Y.drew
  have hne : b7 ≠ g0 + 1 := by omega
  have XS8 : Blk w8 b7 64 [.bool x, .int .i64 j, .int .i64 l] := by
    have Y := (((((XS7.other hne 0 (.int .i64 n)).other hne 1 (.int .i64 t.sl)).other hne 2 (.int .i64 k)).other hne 3 (.int .i64 m)).other hne 4 (.int .i64 q)).other hne 5 (.string s)
    rw [← hw8]; exact Y.drew
  have XE8 := XE7.below hB8 (by omega)
  have hW8 := hW7.ge hB8 (by omega) (fun k hk => by have := (h.row.lt k hk).2; omega)
  have hK8 := hK7.ge hB8 (by omega)
  clear hw8 XR7 XS7 XE7 hW7 hK7 hB8
  have hM := talkL_mem (.slice a n c) ⟨t.sl + 1, t.L, t.M⟩ m (by have := h.len; simp at hm; simp only; omega) _ rfl
  have hm16 : (m : Int) < 16 := hm.2
  have hm00 : (0 : Int) ≤ (m : Int) := hm.1
  have m0 := hW8.blk.cell hM.1
  have m1 := hW8.blk.cell hM.2.1
  have m2 := hW8.blk.cell hM.2.2
  have mf0 := hW8.blk.frozen (2 + m * 3)
  have mf1 := hW8.blk.frozen (2 + m * 3 + 1)
  have mf2 := hW8.blk.frozen (2 + m * 3 + 2)
  generalize (Value.bool _) = u0 at m0
  generalize (Value.int .i64 (St.j _)) = u1 at m1
  generalize (Value.int .i64 (St.l _)) = u2 at m2
  have e1 := XE8.cell (j := 1) rfl
  have s0 := XS8.cell (j := 0) rfl
  have s1 := XS8.cell (j := 1) rfl
  have s2 := XS8.cell (j := 2) rfl
  clear hM
  go_upto_region 12 with fail
  go_region
  clear m0 m1 m2 mf0 mf1 mf2 e1 s0 s1 s2
  generalize hw9 : World.drew _ = w9
  have hW9 : TkW w9 base g (.slice a n c) ⟨t.sl + 1, t.L, t.M.set m ⟨x, j, l⟩⟩ := by rw [← hw9]; exact (hW8.mem m (by omega) ⟨x, j, l⟩).drew
  have XR9 : Blk w9 (g0 + 1) 33 [.int .i64 n, .int .i64 t.sl, .int .i64 k, .int .i64 m, .int .i64 q, .string s] := by
    have Y := ((XR8.other hgne1 (2 + m * 3) (.bool x)).other hgne1 (2 + m * 3 + 1) (.int .i64 j)).other hgne1 (2 + m * 3 + 2) (.int .i64 l)
    rw [← hw9]; exact Y.drew
  have hK9 : Kx [g] w w9 := by
    have Y := ((hK8.setCell (p := ⟨g, 2 + m * 3, none⟩) (.inl (by simp)) (.bool x)).setCell (p := ⟨g, 2 + m * 3 + 1, none⟩) (.inl (by simp)) (.int .i64 j)).setCell (p := ⟨g, 2 + m * 3 + 2, none⟩) (.inl (by simp)) (.int .i64 l)
    rw [← hw9]; exact Y.drew
  clear hw9 XR8 XS8 XE8 hW8 hK8
  have l0 : w9.cell? ⟨g, 0, none⟩ = some (.slice a n c) := hW9.blk.cell (j := 0) rfl
  have lf := hW9.blk.frozen 0
  have r0 := XR9.cell (j := 0) rfl
  have r1 := XR9.cell (j := 1) rfl
  have r2 := XR9.cell (j := 2) rfl
  have r3 := XR9.cell (j := 3) rfl
  have r4 := XR9.cell (j := 4) rfl
  have r5 := XR9.cell (j := 5) rfl
  have f0 := XR9.frozen 0
  have f1 := XR9.frozen 1
  have f2 := XR9.frozen 2
  have f3 := XR9.frozen 3
  have f4 := XR9.frozen 4
  have f5 := XR9.frozen 5
  go_upto_region 13 with fail
  obtain ⟨H, hH⟩ : ∃ H, w9.heap.size = H := ⟨_, rfl⟩
  have hown := Lib.hid hW9.row
  have hap : some g ≠ (Value.slice a n c).ownBlock := hW9.apart
  have hgH : g < H := by rw [← hH]; exact hW9.blk.lt
  have hg1H : g0 + 1 < H := by rw [← hH]; exact XR9.lt
  have hap1 : some (g0 + 1) ≠ (Value.slice a n c).ownBlock := fun e => by have := (h.row.lt _ e.symm).2; omega
  have hbH : base ≤ H := by have := hK9.size; omega
  have S0 : w9.cell? ⟨g, 0, none⟩ = some (.slice a n c) ∧ w9.frozen? ⟨g, 0, none⟩ = false ∧ w9.cell? ⟨g0 + 1, 0, none⟩ = some (.int .i64 n) ∧ w9.cell? ⟨g0 + 1, 1, none⟩ = some (.int .i64 t.sl) ∧ w9.cell? ⟨g0 + 1, 2, none⟩ = some (.int .i64 k) ∧ w9.cell? ⟨g0 + 1, 3, none⟩ = some (.int .i64 m) ∧ w9.cell? ⟨g0 + 1, 4, none⟩ = some (.int .i64 q) ∧ w9.cell? ⟨g0 + 1, 5, none⟩ = some (.string s) := ⟨l0, lf, r0, r1, r2, r3, r4, r5⟩
  have hW9' := hW9
  go_cut [] (fun wx => ∃ v', TkW wx base g v' ⟨t.sl + 1, t.L ++ [newL t ⟨k, m, q, s⟩], t.M.set m ⟨x, j, l⟩⟩ ∧ Kx (g :: (Value.slice a n c).ownBlock.toList) w wx ∧ (v'.ownBlock = (Value.slice a n c).ownBlock ∨ ∃ k, v'.ownBlock = some k ∧ w.heap.size ≤ k) ∧
      some (g0 + 1) ≠ v'.ownBlock ∧ Blk wx (g0 + 1) 33 [.int .i64 n, .int .i64 t.sl, .int .i64 k, .int .i64 m, .int .i64 q, .string s])
  case first =>
    go_region_law
      ((refine step_append_lies _ (by rfl) _ _ _ (by rfl) base 33 i0 (.agg #[.int .i64 0, .int .i64 0, .int .i64 0, .int .i64 0, .int .i64 0, .string ⟨#[]⟩]) 6 56 Tryd.underlying76 hi hz0 hz1 hz2 rfl (by decide) (.slice a n c) t.L.length (cellsN t.L) (by rfl) (hown.out.alloc _) ⟨H, 0, none⟩ 1 1 [.int .i64 n, .int .i64 t.sl, .int .i64 k, .int .i64 m, .int .i64 q, .string s] (by rw [← hH]; rfl) rfl (Blk.newA' hH 33 #[.int .i64 n, .int .i64 t.sl, .int .i64 k, .int .i64 m, .int .i64 q, .string s]).news (by simp [Value.oneCell']) (by omega) (by unfold maxLen; omega) (by omega) (by simp; omega) (H + 1) (by simp [hH]) ?_; intro gg cap w1 hown1 hgrow hat hlt; have hgw : (w9.alloc (.cells #[.int .i64 n, .int .i64 t.sl, .int .i64 k, .int .i64 m, .int .i64 q, .string s] 33)).grownBy w1 (Value.slice a n c).ownBlock := ⟨hgrow.os, hgrow.tape, hgrow.output, hgrow.size, hgrow.block⟩; have l1 := gcell hgw l0 hap; have lf1 := gfroz hgw lf (by rw [hH]; exact hgH) hap))
    all_goals
      go_wp2_with fail
      go_meet
      have hB9 := hW9'.blk.alloc (.cells #[.int .i64 n, .int .i64 t.sl, .int .i64 k, .int .i64 m, .int .i64 q, .string s] 33)
      have hB1 : Blk w1 g 79 _ := (hgw.block g (by have := hB9.lt; exact this) hap).trans hB9
      have hR1 : Blk w1 (g0 + 1) 33 [.int .i64 n, .int .i64 t.sl, .int .i64 k, .int .i64 m, .int .i64 q, .string s] := (hgw.block (g0 + 1) (by rw [alloc_size hH]; omega) hap1).trans (XR9.alloc _)
      refine ⟨.slice (some ⟨gg, 0, none⟩) (n + 1) cap, ⟨hB1.set 0 _, ?_, hW9'.len, ?_, hW9'.top⟩, ?_, ?_, ?_, hR1.other hgne1 0 _⟩
      · have Y := row_other hown1 hB1 0 (.slice (some ⟨gg, 0, none⟩) (n + 1) cap)
        rw [hn0] at Y
        simp only [List.length_append, List.length_cons, List.length_nil, hn0, cellsN, List.flatMap_append, List.flatMap_cons, List.flatMap_nil, List.append_nil, newL, lnL, enL] at Y ⊢
        exact Y
      · have := h.few
        simp; omega
      · have Y := ((hK9.alloc (.cells #[.int .i64 n, .int .i64 t.sl, .int .i64 k, .int .i64 m, .int .i64 q, .string s] 33)).mono (ws' := g :: (Value.slice a n c).ownBlock.toList) (by simp)).grown hgw (fun k hk => .inl (by simp [hk]))
        exact Y.setCell (p := ⟨g, 0, none⟩) (.inl (by simp)) _
      · rcases hat with hat | hat
        · exact .inl hat.symm
        · exact .inr ⟨gg, rfl, by omega⟩
      · rcases hat with hat | hat
        · rw [show (Value.slice (some ⟨gg, 0, none⟩) (n + 1) cap).ownBlock = some gg from rfl, ← hat]; exact hap1
        · intro e
          have e' : g0 + 1 = gg := Option.some.inj e
          omega
  case rest =>
  obtain ⟨v', hW10, hK10, hown', hap', XR10⟩ := hcut
  clear r0 r1 r2 r3 r4 r5 f0 f1 f2 f3 f4 f5 S0 l0 lf hW9 hW9' hK9 XR9 hown
  have r0 := XR10.cell (j := 0) rfl
  have r1 := XR10.cell (j := 1) rfl
  have r2 := XR10.cell (j := 2) rfl
  have r3 := XR10.cell (j := 3) rfl
  have r4 := XR10.cell (j := 4) rfl
  have r5 := XR10.cell (j := 5) rfl
  have f0 := XR10.frozen 0
  have f1 := XR10.frozen 1
  have f2 := XR10.frozen 2
  have f3 := XR10.frozen 3
  have f4 := XR10.frozen 4
  have f5 := XR10.frozen 5
  go_wp2
  (try simp only [Exit.inBlock, Exit.then])
  refine bodyPost_ret (v := .tuple #[.agg #[.int .i64 n, .int .i64 t.sl, .int .i64 k, .int .i64 m, .int .i64 q, .string s], .bool true, .int .i64 0]) ?_ rfl ⟨rfl, v', ?_, ?_, hown'⟩
  · rw [results_cell_tmp2 rfl]
    go_simp
  · rw [show cntS t ⟨k, m, q, s⟩ = ⟨x, j, l⟩ from HRR.out]
    exact (((((hW10.off hgne1 hap' 0 _).off hgne1 hap' 1 _).off hgne1 hap' 2 _).off hgne1 hap' 3 _).off hgne1 hap' 4 _).off hgne1 hap' 5 _
  · exact hK10.ge (Below.six _ _ _ _ _ _) (by omega)
end Go.Proofs.YtndechodaegkiaaDoor
