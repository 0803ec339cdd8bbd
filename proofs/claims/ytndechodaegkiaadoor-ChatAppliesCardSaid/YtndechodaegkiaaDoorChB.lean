
/- Package chat: none, counts. -/
import Derived.Test.YtndechodaegkiaaDoorChA
namespace Go.Proofs.YtndechodaegkiaaDoor
open Go.RowKit
attribute [local go_sem] run_makeMap_plain
theorem two (w : World) (t1 t2 : TypeId) (c1 c2 : Array Value) :
    Blk ((w.alloc (.cells c1 t1)).alloc (.cells c2 t2)) w.heap.size t1 c1.toList ∧ Blk ((w.alloc (.cells c1 t1)).alloc (.cells c2 t2)) (w.heap.size + 1) t2 c2.toList ∧
    Below w.heap.size w ((w.alloc (.cells c1 t1)).alloc (.cells c2 t2)) ∧ ((w.alloc (.cells c1 t1)).alloc (.cells c2 t2)).heap.size = w.heap.size + 1 + 1 :=
  have h1 := alloc_size rfl (.cells c1 t1)
  ⟨(Blk.newA' rfl t1 c1).alloc _, Blk.newA' h1 t2 c2, ((Below.refl _ w).alloc (Nat.le_refl _) _).alloc (by omega) _, alloc_size h1 _⟩
def sOf (t : Tk) (e : En) : St := t.M.getD e.m.toNat z0
def cntB (t : Tk) (e : En) : Bool := if e.k = 2 then !(sOf t e).inn else if e.k = 3 then (sOf t e).inn else if e.k = 4 then nextB (sOf t e) e else false
def cntS (t : Tk) (e : En) : St := if e.k = 2 then ⟨true, t.L.length, (sOf t e).l⟩ else if e.k = 3 then ⟨false, (sOf t e).j, (sOf t e).l⟩ else if e.k = 4 then ⟨(sOf t e).inn, (sOf t e).j, e.n⟩ else z0
def mtab : Array MapEntry := #[ent 2 (.func (.func 53) #[] #[]) 0, ent 3 (.func (.func 54) #[] #[]) 1, ent 4 (.func (.func 55) #[] #[]) 2]
theorem memL_get (M : List St) (k : Nat) : (M.flatMap stL)[3 * k]? = M[k]?.map (fun s => .bool s.inn) ∧ (M.flatMap stL)[3 * k + 1]? = M[k]?.map (fun s => .int .i64 s.j) ∧ (M.flatMap stL)[3 * k + 2]? = M[k]?.map (fun s => .int .i64 s.l) := by
  induction M generalizing k with
  | nil => simp
  | cons b t ih =>
    cases k with
    | zero => simp [stL]
    | succ k =>
      have h := ih k
      simp only [List.flatMap_cons, stL]
      rw [show 3 * (k + 1) = 3 * k + 3 by omega, show 3 * k + 3 + 1 = 3 * k + 1 + 3 by omega, show 3 * k + 3 + 2 = 3 * k + 2 + 3 by omega]
      simpa using h
theorem memL_len (M : List St) : (M.flatMap stL).length = 3 * M.length := by
  induction M with
  | nil => rfl
  | cons a t ih => simp [stL] at ih ⊢; omega
theorem talkL_mem (v : Value) (t : Tk) (k : Nat) (hk : k < t.M.length) (s : St) (hs : t.M.getD k z0 = s) :
    (talkL v t)[2 + k * 3]? = some (.bool s.inn) ∧ (talkL v t)[2 + k * 3 + 1]? = some (.int .i64 s.j) ∧ (talkL v t)[2 + k * 3 + 2]? = some (.int .i64 s.l) := by
  obtain ⟨h0, h1, h2⟩ := memL_get t.M k
  have hl := memL_len t.M
  have e : t.M[k]? = some s := by rw [← hs]; simp [hk]
  rw [e] at h0 h1 h2
  unfold talkL
  refine ⟨?_, ?_, ?_⟩
  · rw [show 2 + k * 3 = (3 * k + 1) + 1 by omega, List.getElem?_cons_succ, List.getElem?_cons_succ, List.getElem?_append_left (by omega), h0]; rfl
  · rw [show 2 + k * 3 + 1 = (3 * k + 1 + 1) + 1 by omega, List.getElem?_cons_succ, List.getElem?_cons_succ, List.getElem?_append_left (by omega), h1]; rfl
  · rw [show 2 + k * 3 + 2 = (3 * k + 2 + 1) + 1 by omega, List.getElem?_cons_succ, List.getElem?_cons_succ, List.getElem?_append_left (by omega), h2]; rfl
theorem none_any (g : Nat) (b : Bool) (w : World) (hc : w.cell? ⟨g, 50, none⟩ = some (.bool b)) : Calls Tryd.prog 34 #[.pointer (some ⟨g, 0, none⟩)] w fun e w' => e = .returned (.bool (!b)) ∧ w = w' := by
  go_enter Tryd.func34, Tryd.ntmps34
  go_wp2
  go_ret
  exact ⟨rfl, rfl⟩
theorem none_nil (w : World) : Calls Tryd.prog 34 #[.pointer none] w fun e w' => e = .returned (.bool true) ∧ w = w' := by
  go_enter Tryd.func34, Tryd.ntmps34
  go_wp2
  go_ret
  exact ⟨rfl, rfl⟩
theorem TkW.made {W : World} {base g : Nat} {v : Value} {t : Tk} (h : TkW W base g v t) : W.cell? ⟨g, 50, none⟩ = some (.bool true) := by
  refine h.blk.cell ?_
  have hl := memL_len t.M
  have := h.len
  unfold talkL
  rw [show (50 : Nat) = 48 + 1 + 1 from rfl, List.getElem?_cons_succ, List.getElem?_cons_succ, List.getElem?_append_right (by omega)]
  rw [hl, this]
  rfl
set_option maxRecDepth 100000 in
set_option maxHeartbeats 2000000 in
theorem counts_any (base g : Nat) (v : Value) (t : Tk) (e : En) (w : World) (h : TkW w base g v t) (h0 : 0 ≤ e.m) (h1 : e.m < 16) :
    Calls Tryd.prog 36 #[.pointer (some ⟨g, 0, none⟩), enV e] w fun r w' => r = .returned (.tuple #[stV (cntS t e), .bool (cntB t e)]) ∧ Below w.heap.size w w' := by
  obtain ⟨mm, hm⟩ : ∃ k : Nat, e.m = k := ⟨e.m.toNat, by omega⟩
  have hs : sOf t e = t.M.getD mm z0 := by unfold sOf; rw [hm]; rfl
  obtain ⟨k, m, q, s⟩ := e
  simp only at h0 h1 hm
  subst hm
  obtain ⟨R, hR⟩ : ∃ R, cntS t ⟨k, mm, q, s⟩ = R := ⟨_, rfl⟩
  obtain ⟨B, hB⟩ : ∃ B, cntB t ⟨k, mm, q, s⟩ = B := ⟨_, rfl⟩
  rw [hR, hB]
  obtain ⟨x, j, l⟩ := R
  change Calls Tryd.prog 36 #[.pointer (some ⟨g, 0, none⟩), .agg #[.int .i64 k, .int .i64 mm, .int .i64 q, .string s]] w fun r w' => r = .returned (.tuple #[.agg #[.bool x, .int .i64 j, .int .i64 l], .bool B]) ∧ Below w.heap.size w w'
  go_enter Tryd.func36, Tryd.ntmps36
  go_upto_region 1 with fail
  obtain ⟨XE, XR, hb, hz⟩ := two w 26 64 #[.int .i64 k, .int .i64 mm, .int .i64 q, .string s] #[.bool false, .int .i64 0, .int .i64 0]
  have h2 := h.step hb
  generalize (w.alloc (.cells #[.int .i64 k, .int .i64 mm, .int .i64 q, .string s] 26)).alloc (.cells #[.bool false, .int .i64 0, .int .i64 0] 64) = W2 at *
  obtain ⟨g0, hg0⟩ : ∃ g, w.heap.size = g := ⟨_, rfl⟩
  rw [hg0] at XE XR hb hz ⊢
  have mm1 : Tryd.prog.underlying 102 = some (.map 24 99) := rfl
  have mk : Tryd.prog.underlying 24 = some (.int .i64) := rfl
  have i1 : (Instr.mapUpdate 102 (.map (some W2.heap.size)) (.int .i64 2) (.func (.func 53) #[] #[])).run Tryd.prog (W2.alloc (.map #[] 0)) = .ok () (W2.alloc (.map #[ent 2 (.func (.func 53) #[] #[]) 0] 1)) := ins_at W2 rfl _ _ _ _ mm1 mk rfl
  have i2 : (Instr.mapUpdate 102 (.map (some W2.heap.size)) (.int .i64 3) (.func (.func 54) #[] #[])).run Tryd.prog (W2.alloc (.map #[ent 2 (.func (.func 53) #[] #[]) 0] 1)) = .ok () (W2.alloc (.map #[ent 2 (.func (.func 53) #[] #[]) 0, ent 3 (.func (.func 54) #[] #[]) 1] 2)) := ins_at W2 rfl _ _ _ _ mm1 mk (by simp [find_step, find_nil])
  have i3 : (Instr.mapUpdate 102 (.map (some W2.heap.size)) (.int .i64 4) (.func (.func 55) #[] #[])).run Tryd.prog (W2.alloc (.map #[ent 2 (.func (.func 53) #[] #[]) 0, ent 3 (.func (.func 54) #[] #[]) 1] 2)) = .ok () (W2.alloc (.map mtab 3)) := ins_at W2 rfl _ _ _ _ mm1 mk (by simp [find_step, find_nil])
  have e0 := (XE.alloc (.map mtab 3)).cell (j := 0) rfl
  have e1 := (XE.alloc (.map mtab 3)).cell (j := 1) rfl
  have e2 := (XE.alloc (.map mtab 3)).cell (j := 2) rfl
  have e3 := (XE.alloc (.map mtab 3)).cell (j := 3) rfl
  have XR3 := XR.alloc (.map mtab 3)
  have r0 := XR3.cell (j := 0) rfl
  have r1 := XR3.cell (j := 1) rfl
  have r2 := XR3.cell (j := 2) rfl
  have f0 := XR3.frozen 0
  have f1 := XR3.frozen 1
  have f2 := XR3.frozen 2
  have hb3 := hb.alloc (by omega) (.map mtab 3)
  have h3 := h2.step ((Below.refl _ _).alloc (Nat.le_refl _) (.map mtab 3))
  have lk : (if k = 2 then (Instr.lookup 102 (.map (some W2.heap.size)) (.int .i64 k) true).run Tryd.prog (W2.alloc (.map mtab 3)) = .ok (.tuple #[.func (.func 53) #[] #[], .bool true]) (W2.alloc (.map mtab 3))
      else if k = 3 then (Instr.lookup 102 (.map (some W2.heap.size)) (.int .i64 k) true).run Tryd.prog (W2.alloc (.map mtab 3)) = .ok (.tuple #[.func (.func 54) #[] #[], .bool true]) (W2.alloc (.map mtab 3))
      else if k = 4 then (Instr.lookup 102 (.map (some W2.heap.size)) (.int .i64 k) true).run Tryd.prog (W2.alloc (.map mtab 3)) = .ok (.tuple #[.func (.func 55) #[] #[], .bool true]) (W2.alloc (.map mtab 3))
      else (Instr.lookup 102 (.map (some W2.heap.size)) (.int .i64 k) true).run Tryd.prog (W2.alloc (.map mtab 3)) = .ok (.tuple #[.nilFunc, .bool false]) (W2.alloc (.map mtab 3))) := by
    by_cases k2 : k = 2
    · subst k2
      exact look_at W2 rfl _ _ _ 0 _ mm1 mk (by simp [mtab, find_step])
    · rw [if_neg k2]
      by_cases k3 : k = 3
      · subst k3
        exact look_at W2 rfl _ _ _ 1 _ mm1 mk (by simp [mtab, find_step])
      · rw [if_neg k3]
        by_cases k4 : k = 4
        · subst k4
          exact look_at W2 rfl _ _ _ 2 _ mm1 mk (by simp [mtab, find_step])
        · rw [if_neg k4]
          exact look_no W2 rfl _ _ _ _ mm1 mk (fun w => by go_simp) (by simp [mtab, find_step, find_nil, k2, k3, k4])
  have hz2 : g0 + 2 ≤ W2.heap.size := by omega
  have hz3 : g0 + 2 ≤ (W2.alloc (.map mtab 3)).heap.size := by have := alloc_size (W := W2) rfl (.map mtab 3); omega
  generalize W2.alloc (.map mtab 3) = W3 at *
  clear h h2 mm1 mk XE XR
  have hv := h3.sl
  have hl : W3.cell? ⟨g, 0, none⟩ = some v := h3.blk.cell rfl
  obtain ⟨S, hS⟩ : ∃ S, t.M.getD mm z0 = S := ⟨_, rfl⟩
  have hM := talkL_mem v t mm (by have := h3.len; omega) S hS
  have hm0 := extA_cell (h3.blk.cell hM.1)
  have hm1 := extA_cell (h3.blk.cell hM.2.1)
  have hm2 := extA_cell (h3.blk.cell hM.2.2)
  have p1 := extA_cell e1
  have p0 := extA_cell e0
  have p2 := extA_cell e2
  have p3 := extA_cell e3
  rw [hS] at hs
  clear h3 hM hS hz
  have HR := Lib.hid hR
  clear hR
  have HB := Lib.hid hB
  clear hB
  have HS := Lib.hid hs
  clear hs
  by_cases k2 : k = 2
  · subst k2
    rw [if_pos rfl] at lk
    have hR' : St.mk (true) (t.L.length) (S.l) = St.mk x j l := by rw [← HR.out]; simp [cntS, HS.out]
    cases hR'
    have hB' : (!S.inn) = B := by rw [← HB.out]; simp [cntB, HS.out]
    subst hB'
    go_wp2_with fail
    refine wp_region_head (C := ExtA W3) 10 (by kernel_rfl) (by decide) (by kernel_rfl) ⟨rfl, rfl, rfl, Nat.le_refl _, fun _ _ => rfl⟩ ?_
    simp only [List.take_succ_cons, List.take_zero]
    repeat
      (first
        | go_big_quiet_skip
        | (go_big_quiet_want
           go_big_quiet_op
           first
             | go_big_quiet_on
             | (apply Exists.intro
                refine ⟨fun w' hC => ?_, ?_⟩
                · (first
                    | with_reducible rfl
                    | fail
                    | (go_simp; done)
                    | (go_simp; with_reducible rfl))
                go_big_quiet_on)))
    refine wpQuiet_nil ?_
    intro wq hq
    have cJ : Calls Tryd.prog 53 #[.pointer (some ⟨g, 0, none⟩), .agg #[.bool S.inn, .int .i64 S.j, .int .i64 S.l], .agg #[.int .i64 2, .int .i64 mm, .int .i64 q, .string s]] wq fun r w' => r = .returned (.tuple #[.agg #[.bool (true), .int .i64 (t.L.length), .int .i64 (S.l)], .bool (!S.inn)]) ∧ Below wq.heap.size wq w' := joins_any (g := g) (n := t.L.length) (v := v) (hv := hv) (hc := cells_kept hq hl) (s := S) (e := ⟨2, mm, q, s⟩) (w := wq)
    clear hm0 hm1 hm2 p0 p1 p2 p3
    change wpAny _ _ _ _ (4 + 1) _ _ _
    refine wpAny_ready (rs := [10]) (by kernel_rfl) (by simp) ?_
    refine AllReady.cons (o := { dst := some 29, op := .call ⟨.value (.tmp 19), #[.tmp 20, .tmp 27, .tmp 28], #[27, 64, 26]⟩, type := _, pos := _, after := _, guard := _ }) rfl (fun K hK => ?_) AllReady.nil
    go_simp
    refine cJ.mono ?_
    rintro e w4 ⟨rfl, hb4⟩
    refine hK _ _ ?_
    clear hK K cJ
    have hb5 : Below g0 w w4 := (Below.trans hb3 (Below.mono hq (by omega))).trans (hb4.mono (by have := Below.size hq; omega))
    have X4 := (XR3.step hq).step hb4
    have r0 := X4.cell (j := 0) rfl
    have r1 := X4.cell (j := 1) rfl
    have r2 := X4.cell (j := 2) rfl
    have f0 := X4.frozen 0
    have f1 := X4.frozen 1
    have f2 := X4.frozen 2
    refine take_dst (i := 11) (d := 30) (v := ?_) rfl rfl (by kernel_rfl) (by kernel_rfl) (by kernel_rfl) (fun _ _ _ h => h) (Or.inl ⟨by rfl, ?_⟩) ?_
    rotate_left
    · intro w
      go_simp
      try with_reducible rfl
    simp only [Act.put, List.setIfInBounds_toArray, List.set_cons_zero, List.set_cons_succ]
    refine take_dst (i := 12) (d := 31) (v := ?_) rfl rfl (by kernel_rfl) (by kernel_rfl) (by kernel_rfl) (fun _ _ _ h => h) (Or.inl ⟨by rfl, ?_⟩) ?_
    rotate_left
    · intro w
      go_simp
      try with_reducible rfl
    simp only [Act.put, List.setIfInBounds_toArray, List.set_cons_zero, List.set_cons_succ]
    refine wpAny_ready (rs := [13]) (by kernel_rfl) (by simp) ?_
    refine AllReady.cons (o := { dst := none, op := .store 64 (.tmp 4) (.tmp 30), type := _, pos := _, after := _, guard := _ }) rfl (fun K hK => ?_) AllReady.nil
    go_simp
    refine hK _ _ ?_
    clear hK K
    refine wpAny_ready (rs := [14]) (by kernel_rfl) (by simp) ?_
    refine AllReady.cons (o := { dst := some 5, op := .assign (.tmp 31), type := _, pos := _, after := _, guard := _ }) rfl (fun K hK => ?_) AllReady.nil
    go_simp
    refine hK _ _ ?_
    clear hK K
    refine wpAny_done (by kernel_rfl) ?_ _
    replace hb4 := ((((hb5.setCell (p := ⟨g0 + 1, 0, none⟩) (by simp) (.bool (true))).setCell (p := ⟨g0 + 1, 1, none⟩) (by simp) (.int .i64 (t.L.length))).setCell (p := ⟨g0 + 1, 2, none⟩) (by simp) (.int .i64 (S.l))))
    go_wp2
    (try simp only [Exit.inBlock, Exit.then])
    refine bodyPost_ret (v := .tuple #[.agg #[.bool (true), .int .i64 (t.L.length), .int .i64 (S.l)], .bool (!S.inn)]) ?_ rfl ⟨rfl, by first | exact hb4 | (rw [hg0]; exact hb4)⟩
    rw [results_cell_tmp rfl]
    go_simp
  ·
    rw [if_neg k2] at lk
    by_cases k3 : k = 3
    · subst k3
      rw [if_pos rfl] at lk
      have hR' : St.mk (false) (S.j) (S.l) = St.mk x j l := by rw [← HR.out]; simp [cntS, HS.out]
      cases hR'
      have hB' : (S.inn) = B := by rw [← HB.out]; simp [cntB, HS.out]
      subst hB'
      go_wp2_with fail
      refine wp_region_head (C := ExtA W3) 10 (by kernel_rfl) (by decide) (by kernel_rfl) ⟨rfl, rfl, rfl, Nat.le_refl _, fun _ _ => rfl⟩ ?_
      simp only [List.take_succ_cons, List.take_zero]
      repeat
        (first
          | go_big_quiet_skip
          | (go_big_quiet_want
             go_big_quiet_op
             first
               | go_big_quiet_on
               | (apply Exists.intro
                  refine ⟨fun w' hC => ?_, ?_⟩
                  · (first
                      | with_reducible rfl
                      | fail
                      | (go_simp; done)
                      | (go_simp; with_reducible rfl))
                  go_big_quiet_on)))
      refine wpQuiet_nil ?_
      intro wq hq
      have cJ : Calls Tryd.prog 54 #[.pointer (some ⟨g, 0, none⟩), .agg #[.bool S.inn, .int .i64 S.j, .int .i64 S.l], .agg #[.int .i64 3, .int .i64 mm, .int .i64 q, .string s]] wq fun r w' => r = .returned (.tuple #[.agg #[.bool (false), .int .i64 (S.j), .int .i64 (S.l)], .bool (S.inn)]) ∧ Below wq.heap.size wq w' := leaves_any (g := g) (s := S) (e := ⟨3, mm, q, s⟩) (w := wq)
      clear hm0 hm1 hm2 p0 p1 p2 p3
      change wpAny _ _ _ _ (4 + 1) _ _ _
      refine wpAny_ready (rs := [10]) (by kernel_rfl) (by simp) ?_
      refine AllReady.cons (o := { dst := some 29, op := .call ⟨.value (.tmp 19), #[.tmp 20, .tmp 27, .tmp 28], #[27, 64, 26]⟩, type := _, pos := _, after := _, guard := _ }) rfl (fun K hK => ?_) AllReady.nil
      go_simp
      refine cJ.mono ?_
      rintro e w4 ⟨rfl, hb4⟩
      refine hK _ _ ?_
      clear hK K cJ
      have hb5 : Below g0 w w4 := (Below.trans hb3 (Below.mono hq (by omega))).trans (hb4.mono (by have := Below.size hq; omega))
      have X4 := (XR3.step hq).step hb4
      have r0 := X4.cell (j := 0) rfl
      have r1 := X4.cell (j := 1) rfl
      have r2 := X4.cell (j := 2) rfl
      have f0 := X4.frozen 0
      have f1 := X4.frozen 1
      have f2 := X4.frozen 2
      refine take_dst (i := 11) (d := 30) (v := ?_) rfl rfl (by kernel_rfl) (by kernel_rfl) (by kernel_rfl) (fun _ _ _ h => h) (Or.inl ⟨by rfl, ?_⟩) ?_
      rotate_left
      · intro w
        go_simp
        try with_reducible rfl
      simp only [Act.put, List.setIfInBounds_toArray, List.set_cons_zero, List.set_cons_succ]
      refine take_dst (i := 12) (d := 31) (v := ?_) rfl rfl (by kernel_rfl) (by kernel_rfl) (by kernel_rfl) (fun _ _ _ h => h) (Or.inl ⟨by rfl, ?_⟩) ?_
      rotate_left
      · intro w
        go_simp
        try with_reducible rfl
      simp only [Act.put, List.setIfInBounds_toArray, List.set_cons_zero, List.set_cons_succ]
      refine wpAny_ready (rs := [13]) (by kernel_rfl) (by simp) ?_
      refine AllReady.cons (o := { dst := none, op := .store 64 (.tmp 4) (.tmp 30), type := _, pos := _, after := _, guard := _ }) rfl (fun K hK => ?_) AllReady.nil
      go_simp
      refine hK _ _ ?_
      clear hK K
      refine wpAny_ready (rs := [14]) (by kernel_rfl) (by simp) ?_
      refine AllReady.cons (o := { dst := some 5, op := .assign (.tmp 31), type := _, pos := _, after := _, guard := _ }) rfl (fun K hK => ?_) AllReady.nil
      go_simp
      refine hK _ _ ?_
      clear hK K
      refine wpAny_done (by kernel_rfl) ?_ _
      replace hb4 := ((((hb5.setCell (p := ⟨g0 + 1, 0, none⟩) (by simp) (.bool (false))).setCell (p := ⟨g0 + 1, 1, none⟩) (by simp) (.int .i64 (S.j))).setCell (p := ⟨g0 + 1, 2, none⟩) (by simp) (.int .i64 (S.l))))
      go_wp2
      (try simp only [Exit.inBlock, Exit.then])
      refine bodyPost_ret (v := .tuple #[.agg #[.bool (false), .int .i64 (S.j), .int .i64 (S.l)], .bool (S.inn)]) ?_ rfl ⟨rfl, by first | exact hb4 | (rw [hg0]; exact hb4)⟩
      rw [results_cell_tmp rfl]
      go_simp
    ·
      rw [if_neg k3] at lk
      by_cases k4 : k = 4
      · subst k4
        rw [if_pos rfl] at lk
        have hR' : St.mk (S.inn) (S.j) (q) = St.mk x j l := by rw [← HR.out]; simp [cntS, HS.out]
        cases hR'
        have hB' : (nextB S ⟨4, mm, q, s⟩) = B := by rw [← HB.out]; simp [cntB, HS.out]
        subst hB'
        go_wp2_with fail
        refine wp_region_head (C := ExtA W3) 10 (by kernel_rfl) (by decide) (by kernel_rfl) ⟨rfl, rfl, rfl, Nat.le_refl _, fun _ _ => rfl⟩ ?_
        simp only [List.take_succ_cons, List.take_zero]
        repeat
          (first
            | go_big_quiet_skip
            | (go_big_quiet_want
               go_big_quiet_op
               first
                 | go_big_quiet_on
                 | (apply Exists.intro
                    refine ⟨fun w' hC => ?_, ?_⟩
                    · (first
                        | with_reducible rfl
                        | fail
                        | (go_simp; done)
                        | (go_simp; with_reducible rfl))
                    go_big_quiet_on)))
        refine wpQuiet_nil ?_
        intro wq hq
        have cJ : Calls Tryd.prog 55 #[.pointer (some ⟨g, 0, none⟩), .agg #[.bool S.inn, .int .i64 S.j, .int .i64 S.l], .agg #[.int .i64 4, .int .i64 mm, .int .i64 q, .string s]] wq fun r w' => r = .returned (.tuple #[.agg #[.bool (S.inn), .int .i64 (S.j), .int .i64 (q)], .bool (nextB S ⟨4, mm, q, s⟩)]) ∧ Below wq.heap.size wq w' := says_any (g := g) (s := S) (e := ⟨4, mm, q, s⟩) (w := wq)
        clear hm0 hm1 hm2 p0 p1 p2 p3
        change wpAny _ _ _ _ (4 + 1) _ _ _
        refine wpAny_ready (rs := [10]) (by kernel_rfl) (by simp) ?_
        refine AllReady.cons (o := { dst := some 29, op := .call ⟨.value (.tmp 19), #[.tmp 20, .tmp 27, .tmp 28], #[27, 64, 26]⟩, type := _, pos := _, after := _, guard := _ }) rfl (fun K hK => ?_) AllReady.nil
        go_simp
        refine cJ.mono ?_
        rintro e w4 ⟨rfl, hb4⟩
        refine hK _ _ ?_
        clear hK K cJ
        have hb5 : Below g0 w w4 := (Below.trans hb3 (Below.mono hq (by omega))).trans (hb4.mono (by have := Below.size hq; omega))
        have X4 := (XR3.step hq).step hb4
        have r0 := X4.cell (j := 0) rfl
        have r1 := X4.cell (j := 1) rfl
        have r2 := X4.cell (j := 2) rfl
        have f0 := X4.frozen 0
        have f1 := X4.frozen 1
        have f2 := X4.frozen 2
        refine take_dst (i := 11) (d := 30) (v := ?_) rfl rfl (by kernel_rfl) (by kernel_rfl) (by kernel_rfl) (fun _ _ _ h => h) (Or.inl ⟨by rfl, ?_⟩) ?_
        rotate_left
        · intro w
          go_simp
          try with_reducible rfl
        simp only [Act.put, List.setIfInBounds_toArray, List.set_cons_zero, List.set_cons_succ]
        refine take_dst (i := 12) (d := 31) (v := ?_) rfl rfl (by kernel_rfl) (by kernel_rfl) (by kernel_rfl) (fun _ _ _ h => h) (Or.inl ⟨by rfl, ?_⟩) ?_
        rotate_left
        · intro w
          go_simp
          try with_reducible rfl
        simp only [Act.put, List.setIfInBounds_toArray, List.set_cons_zero, List.set_cons_succ]
        refine wpAny_ready (rs := [13]) (by kernel_rfl) (by simp) ?_
        refine AllReady.cons (o := { dst := none, op := .store 64 (.tmp 4) (.tmp 30), type := _, pos := _, after := _, guard := _ }) rfl (fun K hK => ?_) AllReady.nil
        go_simp
        refine hK _ _ ?_
        clear hK K
        refine wpAny_ready (rs := [14]) (by kernel_rfl) (by simp) ?_
        refine AllReady.cons (o := { dst := some 5, op := .assign (.tmp 31), type := _, pos := _, after := _, guard := _ }) rfl (fun K hK => ?_) AllReady.nil
        go_simp
        refine hK _ _ ?_
        clear hK K
        refine wpAny_done (by kernel_rfl) ?_ _
        replace hb4 := ((((hb5.setCell (p := ⟨g0 + 1, 0, none⟩) (by simp) (.bool (S.inn))).setCell (p := ⟨g0 + 1, 1, none⟩) (by simp) (.int .i64 (S.j))).setCell (p := ⟨g0 + 1, 2, none⟩) (by simp) (.int .i64 (q))))
        go_wp2
        (try simp only [Exit.inBlock, Exit.then])
        refine bodyPost_ret (v := .tuple #[.agg #[.bool (S.inn), .int .i64 (S.j), .int .i64 (q)], .bool (nextB S ⟨4, mm, q, s⟩)]) ?_ rfl ⟨rfl, by first | exact hb4 | (rw [hg0]; exact hb4)⟩
        rw [results_cell_tmp rfl]
        go_simp
      ·
        rw [if_neg k4] at lk
        have hR' : z0 = St.mk x j l := by rw [← HR.out]; simp [cntS, k2, k3, k4]
        cases hR'
        have hB' : false = B := by rw [← HB.out]; simp [cntB, k2, k3, k4]
        subst hB'
        clear hm0 hm1 hm2 p0 p1 p2 p3
        have hb4 := ((((hb3.setCell (p := ⟨g0 + 1, 0, none⟩) (by simp) (.bool false)).setCell (p := ⟨g0 + 1, 1, none⟩) (by simp) (.int .i64 0)).setCell (p := ⟨g0 + 1, 2, none⟩) (by simp) (.int .i64 0)))
        go_wp2
        (try simp only [Exit.inBlock, Exit.then])
        refine bodyPost_ret (v := .tuple #[.agg #[.bool false, .int .i64 0, .int .i64 0], .bool (false)]) ?_ rfl ⟨rfl, by first | exact hb4 | (rw [hg0]; exact hb4)⟩
        rw [results_cell_tmp rfl]
        go_simp
end Go.Proofs.YtndechodaegkiaaDoor
