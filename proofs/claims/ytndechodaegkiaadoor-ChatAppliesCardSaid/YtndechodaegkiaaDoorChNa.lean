
/- Package chat: each function on no talk. -/
import Derived.Test.YtndechodaegkiaaDoorChCe
import Derived.Test.YtndechodaegkiaaDoorChMc
namespace Go.Proofs.YtndechodaegkiaaDoor
open Go.RowKit
/-- A pointer at no talk, in memory from n on. -/
def NoT (n : Nat) (p : Value) (W : World) : Prop := p = .pointer none ∨ ∃ g, p = .pointer (some ⟨g, 0, none⟩) ∧ n ≤ g ∧ W.cell? ⟨g, 50, none⟩ = some (.bool false)
theorem NoT.step {n : Nat} {p : Value} {W W' : World} (h : NoT n p W) (hb : Below W.heap.size W W') : NoT n p W' := by
  rcases h with h | ⟨g, h, hn, hc⟩
  · exact .inl h
  · exact .inr ⟨g, h, hn, (hb.cell (World.block_lt_of_cell? W _ hc)).trans hc⟩
theorem none_no {n : Nat} (p : Value) (w : World) (h : NoT n p w) : Calls Tryd.prog 34 #[p] w fun e w' => e = .returned (.bool true) ∧ w = w' := by
  rcases h with rfl | ⟨g, rfl, _, hc⟩
  · exact none_nil w
  · exact none_any g false w hc
theorem rr_cell_tt {fn : Func} {p u u2 : Tmp} {ty : TypeId} (h : fn.results = #[.cell p ty, .tmp u, .tmp u2]) (tmps : Array Value) (P : Program) (w : World) :
    (results fn tmps).run P w =
      ((asAddr (tmps.getD p undef)).run P w).andThen fun a w₁ => ((loadVar ty a).run P w₁).andThen fun v w₂ => .ok (.tuple #[v, tmps.getD u undef, tmps.getD u2 undef]) w₂ := by
  simp only [results, h]
  simp [Sem.run_bind, Result.andThen]
theorem rr_cell_t {fn : Func} {p u : Tmp} {ty : TypeId} (h : fn.results = #[.cell p ty, .tmp u]) (tmps : Array Value) (P : Program) (w : World) :
    (results fn tmps).run P w = ((asAddr (tmps.getD p undef)).run P w).andThen fun a w₁ => ((loadVar ty a).run P w₁).andThen fun v w₂ => .ok (.tuple #[v, tmps.getD u undef]) w₂ := by
  simp only [results, h]
  simp [Sem.run_bind, Result.andThen]
set_option maxRecDepth 100000 in
set_option maxHeartbeats 400000 in
theorem slot_no {n : Nat} (p : Value) (w : World) (h : NoT n p w) : Calls Tryd.prog 14 #[p] w fun e w' => e = .returned (.int .i64 0) ∧ w = w' := by
  have hT : Calls Tryd.prog 37 #[p, .func (.func 38) #[] #[]] w fun e w' => e = .returned (.int .i64 0) ∧ w = w' := by
    go_enter Tryd.func37, Tryd.ntmps37
    go_wp2_with fail
    refine (none_no p _ h).mono ?_
    rintro e w1 ⟨rfl, rfl⟩
    go_wp2
    go_ret
    exact ⟨rfl, rfl⟩
  go_enter Tryd.func14, Tryd.ntmps14
  go_wp2_with fail
  refine (hT).mono ?_
  rintro e w1 ⟨rfl, rfl⟩
  go_wp2
  go_ret
  exact ⟨rfl, rfl⟩
set_option maxRecDepth 100000 in
set_option maxHeartbeats 400000 in
theorem len_no {n : Nat} (p : Value) (w : World) (h : NoT n p w) : Calls Tryd.prog 16 #[p] w fun e w' => e = .returned (.int .i64 0) ∧ w = w' := by
  have hT : Calls Tryd.prog 39 #[p, .func (.func 40) #[] #[]] w fun e w' => e = .returned (.int .i64 0) ∧ w = w' := by
    go_enter Tryd.func39, Tryd.ntmps39
    go_wp2_with fail
    refine (none_no p _ h).mono ?_
    rintro e w1 ⟨rfl, rfl⟩
    go_wp2
    go_ret
    exact ⟨rfl, rfl⟩
  go_enter Tryd.func16, Tryd.ntmps16
  go_wp2_with fail
  refine (hT).mono ?_
  rintro e w1 ⟨rfl, rfl⟩
  go_wp2
  go_ret
  exact ⟨rfl, rfl⟩
set_option maxRecDepth 100000 in
set_option maxHeartbeats 400000 in
theorem copyC_no {n : Nat} (p : Value) (w : World) (h : NoT n p w) : Calls Tryd.prog 27 #[p] w fun e w' => e = .returned (.pointer none) ∧ w = w' := by
  go_enter Tryd.func27, Tryd.ntmps27
  go_wp2_with fail
  refine (none_no p _ h).mono ?_
  rintro e w1 ⟨rfl, rfl⟩
  go_wp2
  go_ret
  exact ⟨rfl, rfl⟩
set_option maxRecDepth 100000 in
set_option maxHeartbeats 400000 in
theorem sameC_no1 {n m : Nat} (p q : Value) (w : World) (h : NoT n p w) (h2 : NoT m q w) : Calls Tryd.prog 28 #[p, q] w fun e w' => e = .returned (.bool true) ∧ w = w' := by
  go_enter Tryd.func28, Tryd.ntmps28
  go_wp2_with fail
  refine (none_no p _ h).mono ?_
  rintro e w1 ⟨rfl, rfl⟩
  go_wp2_with fail
  refine (none_no p _ h).mono ?_
  rintro e w1 ⟨rfl, rfl⟩
  go_wp2_with fail
  refine (none_no q _ h2).mono ?_
  rintro e w1 ⟨rfl, rfl⟩
  go_wp2
  go_ret
  exact ⟨rfl, rfl⟩
set_option maxRecDepth 100000 in
set_option maxHeartbeats 400000 in
theorem sameC_no2 {n base g : Nat} {v : Value} {t : Tk} (q : Value) (w : World) (h : TkW w base g v t) (h2 : NoT n q w) : Calls Tryd.prog 28 #[.pointer (some ⟨g, 0, none⟩), q] w fun e w' => e = .returned (.bool false) ∧ w = w' := by
  go_enter Tryd.func28, Tryd.ntmps28
  go_wp2_with fail
  refine (none_any g true _ h.made).mono ?_
  rintro e w1 ⟨rfl, rfl⟩
  go_wp2_with fail
  refine (none_no q _ h2).mono ?_
  rintro e w1 ⟨rfl, rfl⟩
  go_wp2_with fail
  refine (none_any g true _ h.made).mono ?_
  rintro e w1 ⟨rfl, rfl⟩
  go_wp2
  go_ret
  exact ⟨rfl, rfl⟩
set_option maxRecDepth 100000 in
set_option maxHeartbeats 400000 in
theorem would_no {n : Nat} (p : Value) (k m q : Int) (s : ByteArray) (w : World) (h : NoT n p w) : Calls Tryd.prog 31 #[p, .agg #[.int .i64 k, .int .i64 m, .int .i64 q, .string s]] w fun e w' => e = .returned (.bool false) ∧ Below w.heap.size w w' := by
  have hb := From.refl w
  go_enter Tryd.func31, Tryd.ntmps31
  go_upto_region 1 with fail
  obtain ⟨gP, hgP⟩ : ∃ g, (w).heap.size = g := ⟨_, rfl⟩
  have P := Blk.newV hgP 26 #[.int .i64 k, .int .i64 m, .int .i64 q, .string s]
  have hbn := (Below.refl (w).heap.size w).alloc (Nat.le_refl _) (.cells #[.int .i64 k, .int .i64 m, .int .i64 q, .string s] 26)
  replace hb := hb.step hbn
  replace h := h.step hbn
  clear hbn
  rw [hgP]
  generalize (w).alloc (.cells #[.int .i64 k, .int .i64 m, .int .i64 q, .string s] 26) = w1 at *
  go_wp2_with fail
  refine (none_no p _ h).mono ?_
  rintro e w2 ⟨rfl, rfl⟩
  go_wp2
  go_ret
  exact ⟨rfl, hb⟩
set_option maxRecDepth 100000 in
set_option maxHeartbeats 400000 in
theorem page_none {n : Nat} (p : Value) (f m : Int) (w : World) (h : NoT n p w) : Calls Tryd.prog 18 #[p, .int .i64 f, .int .i64 m] w fun e w' => e = .returned (.tuple #[.slice none 0 0, .int .i64 1]) ∧ Below w.heap.size w w' := by
  have hb := From.refl w
  go_enter Tryd.func18, Tryd.ntmps18
  go_wp2_with fail
  refine wp_scope_straight ?_
  obtain ⟨gP, hgP⟩ : ∃ g, (w).heap.size = g := ⟨_, rfl⟩
  have P := Blk.newV hgP 3 #[.int .i64 m]
  have hbn := (Below.refl (w).heap.size w).alloc (Nat.le_refl _) (.cells #[.int .i64 m] 3)
  replace hb := hb.step hbn
  replace h := h.step hbn
  clear hbn
  rw [hgP]
  generalize (w).alloc (.cells #[.int .i64 m] 3) = w1 at *
  go_wp2_with fail
  refine (none_no p _ h).mono ?_
  rintro e w2 ⟨rfl, rfl⟩
  go_wp2
  (try simp only [Exit.noGoto])
  go_returns
  exact ⟨rfl, hb⟩
set_option maxRecDepth 100000 in
set_option maxHeartbeats 400000 in
theorem line_none {n : Nat} (p : Value) (i : Int) (w : World) (h : NoT n p w) : Calls Tryd.prog 17 #[p, .int .i64 i] w fun e w' => e = .returned (.tuple #[.agg #[.int .i64 0, .int .i64 0, .int .i64 0, .int .i64 0, .int .i64 0, .string ⟨#[]⟩], .int .i64 1]) ∧ Below w.heap.size w w' := by
  have hb := From.refl w
  go_enter Tryd.func17, Tryd.ntmps17
  go_upto_region 1 with fail
  obtain ⟨gR, hgR⟩ : ∃ g, (w).heap.size = g := ⟨_, rfl⟩
  have R := Blk.newV hgR 33 #[.int .i64 0, .int .i64 0, .int .i64 0, .int .i64 0, .int .i64 0, .string ⟨#[]⟩]
  have hbn := (Below.refl (w).heap.size w).alloc (Nat.le_refl _) (.cells #[.int .i64 0, .int .i64 0, .int .i64 0, .int .i64 0, .int .i64 0, .string ⟨#[]⟩] 33)
  replace hb := hb.step hbn
  replace h := h.step hbn
  clear hbn
  rw [hgR]
  generalize (w).alloc (.cells #[.int .i64 0, .int .i64 0, .int .i64 0, .int .i64 0, .int .i64 0, .string ⟨#[]⟩] 33) = w1 at *
  have R_0 := R.cell (j := 0) rfl
  have R_1 := R.cell (j := 1) rfl
  have R_2 := R.cell (j := 2) rfl
  have R_3 := R.cell (j := 3) rfl
  have R_4 := R.cell (j := 4) rfl
  have R_5 := R.cell (j := 5) rfl
  have Rf0 := R.frozen 0
  have Rf1 := R.frozen 1
  have Rf2 := R.frozen 2
  have Rf3 := R.frozen 3
  have Rf4 := R.frozen 4
  have Rf5 := R.frozen 5
  go_wp2_with fail
  refine (none_no p _ h).mono ?_
  rintro e w2 ⟨rfl, rfl⟩
  go_wp2
  (try simp only [Exit.inBlock, Exit.then])
  refine bodyPost_ret (v := .tuple #[.agg #[.int .i64 0, .int .i64 0, .int .i64 0, .int .i64 0, .int .i64 0, .string ⟨#[]⟩], .int .i64 1]) ?_ rfl ⟨rfl, ?_⟩
  · rw [rr_cell_t rfl]
    go_simp
  · exact Below.setCells [.int .i64 0, .int .i64 0, .int .i64 0, .int .i64 0, .int .i64 0, .string ⟨#[]⟩] 0 _ hb.out (by omega)
set_option maxRecDepth 100000 in
set_option maxHeartbeats 400000 in
theorem of_none {n : Nat} (p : Value) (i : Int) (w : World) (h : NoT n p w) : Calls Tryd.prog 25 #[p, .int .i64 i] w fun e w' => e = .returned (.tuple #[.agg #[.bool false, .int .i64 0, .int .i64 0], .int .i64 1]) ∧ Below w.heap.size w w' := by
  have hb := From.refl w
  go_enter Tryd.func25, Tryd.ntmps25
  go_upto_region 1 with fail
  obtain ⟨gR, hgR⟩ : ∃ g, (w).heap.size = g := ⟨_, rfl⟩
  have R := Blk.newV hgR 64 #[.bool false, .int .i64 0, .int .i64 0]
  have hbn := (Below.refl (w).heap.size w).alloc (Nat.le_refl _) (.cells #[.bool false, .int .i64 0, .int .i64 0] 64)
  replace hb := hb.step hbn
  replace h := h.step hbn
  clear hbn
  rw [hgR]
  generalize (w).alloc (.cells #[.bool false, .int .i64 0, .int .i64 0] 64) = w1 at *
  have R_0 := R.cell (j := 0) rfl
  have R_1 := R.cell (j := 1) rfl
  have R_2 := R.cell (j := 2) rfl
  have Rf0 := R.frozen 0
  have Rf1 := R.frozen 1
  have Rf2 := R.frozen 2
  go_wp2_with fail
  refine (none_no p _ h).mono ?_
  rintro e w2 ⟨rfl, rfl⟩
  go_wp2
  (try simp only [Exit.inBlock, Exit.then])
  refine bodyPost_ret (v := .tuple #[.agg #[.bool false, .int .i64 0, .int .i64 0], .int .i64 1]) ?_ rfl ⟨rfl, ?_⟩
  · rw [rr_cell_t rfl]
    go_simp
  · exact Below.setCells [.bool false, .int .i64 0, .int .i64 0] 0 _ hb.out (by omega)
set_option maxRecDepth 100000 in
set_option maxHeartbeats 400000 in
theorem apply_none {n : Nat} (p : Value) (slot k m q : Int) (s : ByteArray) (w : World) (h : NoT n p w) : Calls Tryd.prog 13 #[p, .int .i64 slot, .agg #[.int .i64 k, .int .i64 m, .int .i64 q, .string s]] w fun e w' => e = .returned (.tuple #[.agg #[.int .i64 0, .int .i64 0, .int .i64 0, .int .i64 0, .int .i64 0, .string ⟨#[]⟩], .bool false, .int .i64 1]) ∧ Below w.heap.size w w' := by
  have hb := From.refl w
  go_enter Tryd.func13, Tryd.ntmps13
  go_upto_region 1 with fail
  obtain ⟨gP, hgP⟩ : ∃ g, (w).heap.size = g := ⟨_, rfl⟩
  have P := Blk.newV hgP 26 #[.int .i64 k, .int .i64 m, .int .i64 q, .string s]
  have hbn := (Below.refl (w).heap.size w).alloc (Nat.le_refl _) (.cells #[.int .i64 k, .int .i64 m, .int .i64 q, .string s] 26)
  replace hb := hb.step hbn
  replace h := h.step hbn
  clear hbn
  rw [hgP]
  have szP := alloc_size hgP (.cells #[.int .i64 k, .int .i64 m, .int .i64 q, .string s] 26)
  generalize (w).alloc (.cells #[.int .i64 k, .int .i64 m, .int .i64 q, .string s] 26) = w1 at *
  obtain ⟨gR, hgR⟩ : ∃ g, (w1).heap.size = g := ⟨_, rfl⟩
  have lt_P_R := P.lt
  rw [hgR] at lt_P_R
  have R := Blk.newV hgR 33 #[.int .i64 0, .int .i64 0, .int .i64 0, .int .i64 0, .int .i64 0, .string ⟨#[]⟩]
  have hbn := (Below.refl (w1).heap.size w1).alloc (Nat.le_refl _) (.cells #[.int .i64 0, .int .i64 0, .int .i64 0, .int .i64 0, .int .i64 0, .string ⟨#[]⟩] 33)
  replace hb := hb.step hbn
  replace h := h.step hbn
  replace P := P.step hbn
  clear hbn
  have egR : gP + 1 = gR := szP.symm.trans hgR
  rw [egR]
  clear szP
  generalize (w1).alloc (.cells #[.int .i64 0, .int .i64 0, .int .i64 0, .int .i64 0, .int .i64 0, .string ⟨#[]⟩] 33) = w2 at *
  have R_0 := R.cell (j := 0) rfl
  have R_1 := R.cell (j := 1) rfl
  have R_2 := R.cell (j := 2) rfl
  have R_3 := R.cell (j := 3) rfl
  have R_4 := R.cell (j := 4) rfl
  have R_5 := R.cell (j := 5) rfl
  have Rf0 := R.frozen 0
  have Rf1 := R.frozen 1
  have Rf2 := R.frozen 2
  have Rf3 := R.frozen 3
  have Rf4 := R.frozen 4
  have Rf5 := R.frozen 5
  go_wp2_with fail
  refine (none_no p _ h).mono ?_
  rintro e w3 ⟨rfl, rfl⟩
  go_wp2
  (try simp only [Exit.inBlock, Exit.then])
  refine bodyPost_ret (v := .tuple #[.agg #[.int .i64 0, .int .i64 0, .int .i64 0, .int .i64 0, .int .i64 0, .string ⟨#[]⟩], .bool false, .int .i64 1]) ?_ rfl ⟨rfl, ?_⟩
  · rw [rr_cell_tt rfl]
    go_simp
  · exact Below.setCells [.int .i64 0, .int .i64 0, .int .i64 0, .int .i64 0, .int .i64 0, .string ⟨#[]⟩] 0 _ hb.out (by omega)
theorem off_low {ws : List Nat} {b k : Nat} (h : ∀ x, x ∈ ws → b ≤ x) (hk : k < b) : k ∉ ws := fun e => by have := h k e; omega
theorem off_high {ws : List Nat} {b k : Nat} (h : ∀ x, x ∈ ws → x < b) (hk : b ≤ k) : k ∉ ws := fun e => by have := h k e; omega
theorem TkW.kxs {ws : List Nat} {W W' : World} {base g : Nat} {v : Value} {t : Tk} (h : TkW W base g v t) (hK : Kx ws W W') (hg : g ∉ ws) (hv : ∀ k, v.ownBlock = some k → k ∉ ws) : TkW W' base g v t :=
  h.kx hK (fun x hx => by
    rcases List.mem_cons.1 hx with rfl | hx
    · exact hg
    · exact hv x (by simpa using hx))
theorem z48_eq : stsL (List.replicate 16 z0) = z48 := rfl
theorem mems_z : mems 0 (List.replicate 16 z0) = [] := by kernel_rfl
set_option maxRecDepth 100000 in
set_option maxHeartbeats 1000000 in
theorem toldM_no {n : Nat} (p : Value) (w : World) (h : NoT n p w) :
    Calls Tryd.prog 42 #[p, .func (.func 43) #[] #[]] w fun r w' => r = .returned (.agg z48.toArray) ∧ Below w.heap.size w w' := by
  go_enter Tryd.func42, Tryd.ntmps42
  go_upto_region 1 with fail
  obtain ⟨B, hB⟩ : ∃ B, w.heap.size = B := ⟨_, rfl⟩
  generalize hWe : World.alloc w _ = W
  have hb1 : Below w.heap.size w W := by rw [← hWe]; exact (Below.refl _ w).alloc (Nat.le_refl _) _
  have XR : Blk W B 77 z48 := by rw [← hWe]; exact Blk.newA' hB 77 z48.toArray
  have h1 := h.step hb1
  clear hWe
  rw [hB]
  have hi1 : (Tryd.prog.info? 77).map (·.size) = some z48.length := info_sts
  have hTh : W.there B 0 z48.length := XR.there 48 (by decide)
  have hst := run_st W B z48 hTh (stsL_one (List.replicate 16 z0))
  have hR := XR.range
  have XR2 : Blk (W.setCells B 0 z48) B 77 z48 := by
    have X := Blk.setCells z48 0 W z48 XR (by decide)
    rw [List.take_zero, List.nil_append, Nat.zero_add, List.drop_eq_nil_of_le (by decide), List.append_nil] at X
    exact X
  have hb2 := Below.setCells z48 0 W hb1 (by omega : w.heap.size ≤ B)
  clear hTh XR
  have hlen : z48.length = 48 := by decide
  generalize hZ : z48 = Z at *
  go_wp2_with fail
  refine (none_no p _ h1).mono ?_
  rintro e w1 ⟨rfl, rfl⟩
  go_wp2_with (first
    | (refine wpList_load_mid rfl 77 (.tmp 4) rfl B 0 (by rfl) Z _ hR Tryd.underlying77 rfl hi1 ?_))
  (try simp only [Exit.inBlock, Exit.then])
  refine bodyPost_ret (v := .agg Z.toArray) ?_ rfl ⟨by rw [hZ], hB ▸ hb2⟩
  rw [results_cell1 rfl]
  simp only [asAddr, Array.getD]
  exact run_loadVar_mid _ B 0 77 Z _ XR2.range Tryd.underlying77 rfl hi1
set_option maxRecDepth 100000 in
set_option maxHeartbeats 1000000 in
theorem members_no {n : Nat} (p : Value) (w : World) (h : NoT n p w) :
    Calls Tryd.prog 21 #[p] w fun r w' => (∃ b, r = .returned (MbF b) ∧ Blk w' b 77 (stsL (List.replicate 16 z0)) ∧ w.heap.size ≤ b) ∧ Below w.heap.size w w' := by
  unfold MbF
  rw [z48_eq]
  have cT := toldM_no p w h
  go_enter Tryd.func21, Tryd.ntmps21
  go_wp2_with fail
  refine (cT).mono ?_
  rintro e w1 ⟨rfl, hb0⟩
  obtain ⟨B, hB⟩ : ∃ B, w1.heap.size = B := ⟨_, rfl⟩
  have XR : Blk (w1.alloc (.cells #[.bool false, .int .i64 0, .int .i64 0, .bool false, .int .i64 0, .int .i64 0, .bool false, .int .i64 0, .int .i64 0, .bool false, .int .i64 0, .int .i64 0, .bool false, .int .i64 0, .int .i64 0, .bool false, .int .i64 0, .int .i64 0, .bool false, .int .i64 0, .int .i64 0, .bool false, .int .i64 0, .int .i64 0, .bool false, .int .i64 0, .int .i64 0, .bool false, .int .i64 0, .int .i64 0, .bool false, .int .i64 0, .int .i64 0, .bool false, .int .i64 0, .int .i64 0, .bool false, .int .i64 0, .int .i64 0, .bool false, .int .i64 0, .int .i64 0, .bool false, .int .i64 0, .int .i64 0, .bool false, .int .i64 0, .int .i64 0] 77)) B 77 z48 := Blk.newA' hB 77 #[.bool false, .int .i64 0, .int .i64 0, .bool false, .int .i64 0, .int .i64 0, .bool false, .int .i64 0, .int .i64 0, .bool false, .int .i64 0, .int .i64 0, .bool false, .int .i64 0, .int .i64 0, .bool false, .int .i64 0, .int .i64 0, .bool false, .int .i64 0, .int .i64 0, .bool false, .int .i64 0, .int .i64 0, .bool false, .int .i64 0, .int .i64 0, .bool false, .int .i64 0, .int .i64 0, .bool false, .int .i64 0, .int .i64 0, .bool false, .int .i64 0, .int .i64 0, .bool false, .int .i64 0, .int .i64 0, .bool false, .int .i64 0, .int .i64 0, .bool false, .int .i64 0, .int .i64 0, .bool false, .int .i64 0, .int .i64 0]
  have hb1 := hb0.alloc hb0.size (.cells #[.bool false, .int .i64 0, .int .i64 0, .bool false, .int .i64 0, .int .i64 0, .bool false, .int .i64 0, .int .i64 0, .bool false, .int .i64 0, .int .i64 0, .bool false, .int .i64 0, .int .i64 0, .bool false, .int .i64 0, .int .i64 0, .bool false, .int .i64 0, .int .i64 0, .bool false, .int .i64 0, .int .i64 0, .bool false, .int .i64 0, .int .i64 0, .bool false, .int .i64 0, .int .i64 0, .bool false, .int .i64 0, .int .i64 0, .bool false, .int .i64 0, .int .i64 0, .bool false, .int .i64 0, .int .i64 0, .bool false, .int .i64 0, .int .i64 0, .bool false, .int .i64 0, .int .i64 0, .bool false, .int .i64 0, .int .i64 0] 77)
  have hBw : w.heap.size ≤ B := by have := hb0.size; omega
  have hTh : (w1.alloc (.cells #[.bool false, .int .i64 0, .int .i64 0, .bool false, .int .i64 0, .int .i64 0, .bool false, .int .i64 0, .int .i64 0, .bool false, .int .i64 0, .int .i64 0, .bool false, .int .i64 0, .int .i64 0, .bool false, .int .i64 0, .int .i64 0, .bool false, .int .i64 0, .int .i64 0, .bool false, .int .i64 0, .int .i64 0, .bool false, .int .i64 0, .int .i64 0, .bool false, .int .i64 0, .int .i64 0, .bool false, .int .i64 0, .int .i64 0, .bool false, .int .i64 0, .int .i64 0, .bool false, .int .i64 0, .int .i64 0, .bool false, .int .i64 0, .int .i64 0, .bool false, .int .i64 0, .int .i64 0, .bool false, .int .i64 0, .int .i64 0] 77)).there B 0 z48.length := XR.there 48 (by decide)
  have hst := run_st _ B z48 hTh (stsL_one (List.replicate 16 z0))
  have XR2 : Blk ((w1.alloc (.cells #[.bool false, .int .i64 0, .int .i64 0, .bool false, .int .i64 0, .int .i64 0, .bool false, .int .i64 0, .int .i64 0, .bool false, .int .i64 0, .int .i64 0, .bool false, .int .i64 0, .int .i64 0, .bool false, .int .i64 0, .int .i64 0, .bool false, .int .i64 0, .int .i64 0, .bool false, .int .i64 0, .int .i64 0, .bool false, .int .i64 0, .int .i64 0, .bool false, .int .i64 0, .int .i64 0, .bool false, .int .i64 0, .int .i64 0, .bool false, .int .i64 0, .int .i64 0, .bool false, .int .i64 0, .int .i64 0, .bool false, .int .i64 0, .int .i64 0, .bool false, .int .i64 0, .int .i64 0, .bool false, .int .i64 0, .int .i64 0] 77)).setCells B 0 z48) B 77 z48 := by
    have X := Blk.setCells z48 0 _ z48 XR (by decide)
    rw [List.take_zero, List.nil_append, Nat.zero_add, List.drop_eq_nil_of_le (by decide), List.append_nil] at X
    exact X
  have hb2 := Below.setCells z48 0 _ hb1 hBw
  clear XR hb1 hTh
  have hlen : z48.length = 48 := by decide
  generalize hZ : z48 = Z at *
  go_wp2
  go_ret
  rw [hZ]
  exact ⟨⟨B, rfl, XR2, hBw⟩, hb2⟩
end Go.Proofs.YtndechodaegkiaaDoor
