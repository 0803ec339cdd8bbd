
/- Package chat: Line, Of; law's num, say. -/
import Derived.Test.YtndechodaegkiaaDoorChG
namespace Go.Proofs.YtndechodaegkiaaDoor
open Go.RowKit
def liB (t : Tk) (i : Int) : Bool := decide (0 ≤ i) && decide (i < t.L.length)
def liX (t : Tk) (i : Int) : Ln := if liB t i then t.L.getD i.toNat zL else zL
def liE (t : Tk) (i : Int) : Int := if liB t i then 0 else 4
theorem ln_at {W : World} {base g : Nat} {v : Value} {t : Tk} (h : TkW W base g v t) (k : Nat) (x : Ln) (hx : t.L[k]? = some x) : ∃ b c, v = .slice (some ⟨b, 0, none⟩) t.L.length c ∧ W.cell? ⟨b, k * 6, none⟩ = some (.int .i64 x.i) ∧ W.cell? ⟨b, k * 6 + 1, none⟩ = some (.int .i64 x.sl) ∧
    W.cell? ⟨b, k * 6 + 2, none⟩ = some (.int .i64 x.e.k) ∧ W.cell? ⟨b, k * 6 + 3, none⟩ = some (.int .i64 x.e.m) ∧ W.cell? ⟨b, k * 6 + 4, none⟩ = some (.int .i64 x.e.n) ∧ W.cell? ⟨b, k * 6 + 5, none⟩ = some (.string x.e.s) := by
  have hk : k < t.L.length := (List.getElem?_eq_some_iff.1 hx).1
  have hr := h.row
  rcases hr.2 with ⟨e, e2⟩ | ⟨b, c, cur, e, -⟩
  · omega
  · subst e
    have key : ∀ j, j < 6 → W.cell? ⟨b, k * 6 + j, none⟩ = (lnL x)[j]? := fun j hj => by
      have h3 := hr.cellAt (k * 6 + j) (by omega)
      rw [h3, cells_get _ _ _ hj, hx]; rfl
    exact ⟨b, c, rfl, key 0 (by omega), key 1 (by omega), key 2 (by omega), key 3 (by omega), key 4 (by omega), key 5 (by omega)⟩
theorem below3 {B : Nat} {w W : World} (h : Below B w W) (a b c : Value) : Below B w (((W.setCell ⟨B, 0, none⟩ a).setCell ⟨B, 1, none⟩ b).setCell ⟨B, 2, none⟩ c) :=
  ((h.setCell (p := ⟨B, 0, none⟩) (Nat.le_refl _) a).setCell (p := ⟨B, 1, none⟩) (Nat.le_refl _) b).setCell (p := ⟨B, 2, none⟩) (Nat.le_refl _) c
theorem below4 {B : Nat} {w W : World} (h : Below B w W) (a b c d : Value) : Below B w ((((W.setCell ⟨B, 0, none⟩ a).setCell ⟨B, 1, none⟩ b).setCell ⟨B, 2, none⟩ c).setCell ⟨B, 3, none⟩ d) :=
  (below3 h a b c).setCell (p := ⟨B, 3, none⟩) (Nat.le_refl _) d
theorem below6 {B : Nat} {w W : World} (h : Below B w W) (a b c d e f : Value) : Below B w ((((((W.setCell ⟨B, 0, none⟩ a).setCell ⟨B, 1, none⟩ b).setCell ⟨B, 2, none⟩ c).setCell ⟨B, 3, none⟩ d).setCell ⟨B, 4, none⟩ e).setCell ⟨B, 5, none⟩ f) :=
  ((below4 h a b c d).setCell (p := ⟨B, 4, none⟩) (Nat.le_refl _) e).setCell (p := ⟨B, 5, none⟩) (Nat.le_refl _) f
set_option maxRecDepth 100000 in
set_option maxHeartbeats 1000000 in
theorem line_any (base g : Nat) (v : Value) (t : Tk) (i : Int) (w : World) (h : TkW w base g v t) :
    Calls Tryd.prog 17 #[.pointer (some ⟨g, 0, none⟩), .int .i64 i] w fun r w' => r = .returned (.tuple #[lnV (liX t i), .int .i64 (liE t i)]) ∧ Below w.heap.size w w' := by
  have hfew := h.few
  have htop := h.top
  cases hl : liB t i
  · have eX : liX t i = zL := by unfold liX; rw [hl]; rfl
    have eE : liE t i = 4 := by unfold liE; rw [hl]; rfl
    rw [eX, eE]
    obtain ⟨a, c, rfl⟩ := h.sl
    change Calls Tryd.prog 17 #[.pointer (some ⟨g, 0, none⟩), .int .i64 i] w fun r w' => r = .returned (.tuple #[.agg #[.int .i64 0, .int .i64 0, .int .i64 0, .int .i64 0, .int .i64 0, .string ⟨#[]⟩], .int .i64 4]) ∧ Below w.heap.size w w'
    unfold liB at hl
    have hb1 := (Below.refl w.heap.size w).alloc (Nat.le_refl _) (.cells #[.int .i64 0, .int .i64 0, .int .i64 0, .int .i64 0, .int .i64 0, .string ⟨#[]⟩] 33)
    have h1 := h.step hb1
    obtain ⟨B, hB⟩ : ∃ B, w.heap.size = B := ⟨_, rfl⟩
    have XR := Blk.newA' hB 33 #[.int .i64 0, .int .i64 0, .int .i64 0, .int .i64 0, .int .i64 0, .string ⟨#[]⟩]
    go_enter Tryd.func17, Tryd.ntmps17
    go_upto_region 1 with fail
    rw [hB] at hb1
    generalize w.alloc (.cells #[.int .i64 0, .int .i64 0, .int .i64 0, .int .i64 0, .int .i64 0, .string ⟨#[]⟩] 33) = W at *
    have f0 := XR.frozen 0
    have f1 := XR.frozen 1
    have f2 := XR.frozen 2
    have f3 := XR.frozen 3
    have f4 := XR.frozen 4
    have f5 := XR.frozen 5
    have r0 := XR.cell (j := 0) rfl
    have r1 := XR.cell (j := 1) rfl
    have r2 := XR.cell (j := 2) rfl
    have r3 := XR.cell (j := 3) rfl
    have r4 := XR.cell (j := 4) rfl
    have r5 := XR.cell (j := 5) rfl
    have hm := h1.made
    have cv := h1.blk.cell (j := 0) rfl
    go_wp2_with fail
    refine (none_any g true W hm).mono ?_
    rintro e w1 ⟨rfl, rfl⟩
    by_cases h0 : i < 0
    · clear hl
      go_wp2
      (try simp only [Exit.inBlock, Exit.then])
      refine bodyPost_ret (v := .tuple #[.agg #[.int .i64 0, .int .i64 0, .int .i64 0, .int .i64 0, .int .i64 0, .string ⟨#[]⟩], .int .i64 4]) ?_ rfl ⟨rfl, ?_⟩
      · rw [results_cell_tmp rfl]
        go_simp
      ·
        (try rw [hB])
        exact below6 hb1 _ _ _ _ _ _
    · have h2 : (t.L.length : Int) ≤ i := by simp at hl; omega
      clear hl
      go_wp2
      (try simp only [Exit.inBlock, Exit.then])
      refine bodyPost_ret (v := .tuple #[.agg #[.int .i64 0, .int .i64 0, .int .i64 0, .int .i64 0, .int .i64 0, .string ⟨#[]⟩], .int .i64 4]) ?_ rfl ⟨rfl, ?_⟩
      · rw [results_cell_tmp rfl]
        go_simp
      ·
        (try rw [hB])
        exact below6 hb1 _ _ _ _ _ _
  · unfold liX liE
    rw [hl]
    obtain ⟨h0, h2⟩ : 0 ≤ i ∧ i < t.L.length := by simpa [liB] using hl
    clear hl
    obtain ⟨k, rfl⟩ := Int.eq_ofNat_of_zero_le h0
    obtain ⟨x, hx⟩ : ∃ x, t.L[k]? = some x := ⟨t.L[k], by rw [List.getElem?_eq_getElem (by omega)]⟩
    have e : t.L.getD (k : Int).toNat zL = x := by simp [hx]
    rw [if_pos rfl, if_pos rfl, e]
    clear e
    obtain ⟨x1, x2, x3, x4, x5, x6⟩ := x
    change Calls Tryd.prog 17 #[.pointer (some ⟨g, 0, none⟩), .int .i64 k] w fun r w' => r = .returned (.tuple #[.agg #[.int .i64 x1, .int .i64 x2, .int .i64 x3, .int .i64 x4, .int .i64 x5, .string x6], .int .i64 0]) ∧ Below w.heap.size w w'
    have hb1 := (Below.refl w.heap.size w).alloc (Nat.le_refl _) (.cells #[.int .i64 0, .int .i64 0, .int .i64 0, .int .i64 0, .int .i64 0, .string ⟨#[]⟩] 33)
    have h1 := h.step hb1
    obtain ⟨B, hB⟩ : ∃ B, w.heap.size = B := ⟨_, rfl⟩
    have XR := Blk.newA' hB 33 #[.int .i64 0, .int .i64 0, .int .i64 0, .int .i64 0, .int .i64 0, .string ⟨#[]⟩]
    go_enter Tryd.func17, Tryd.ntmps17
    go_upto_region 1 with fail
    rw [hB] at hb1
    generalize w.alloc (.cells #[.int .i64 0, .int .i64 0, .int .i64 0, .int .i64 0, .int .i64 0, .string ⟨#[]⟩] 33) = W at *
    have f0 := XR.frozen 0
    have f1 := XR.frozen 1
    have f2 := XR.frozen 2
    have f3 := XR.frozen 3
    have f4 := XR.frozen 4
    have f5 := XR.frozen 5
    have r0 := XR.cell (j := 0) rfl
    have r1 := XR.cell (j := 1) rfl
    have r2 := XR.cell (j := 2) rfl
    have r3 := XR.cell (j := 3) rfl
    have r4 := XR.cell (j := 4) rfl
    have r5 := XR.cell (j := 5) rfl
    have hm := h1.made
    have cv := h1.blk.cell (j := 0) rfl
    obtain ⟨b, c, rfl, q0, q1, q2, q3, q4, q5⟩ := ln_at h1 k _ hx
    simp only at q0 q1 q2 q3 q4 q5
    go_wp2_with fail
    refine (none_any g true W hm).mono ?_
    rintro e w1 ⟨rfl, rfl⟩
    generalize t.L.length = n at *
    clear hx
    go_wp2
    (try simp only [Exit.inBlock, Exit.then])
    refine bodyPost_ret (v := .tuple #[.agg #[.int .i64 x1, .int .i64 x2, .int .i64 x3, .int .i64 x4, .int .i64 x5, .string x6], .int .i64 0]) ?_ rfl ⟨rfl, ?_⟩
    · rw [results_cell_tmp rfl]
      go_simp
    ·
      (try rw [hB])
      exact below6 hb1 _ _ _ _ _ _
def ofB (m : Int) : Bool := decide (0 ≤ m) && decide (m < 16)
def ofX (t : Tk) (m : Int) : St := if ofB m then t.M.getD m.toNat z0 else z0
def ofE (m : Int) : Int := if ofB m then 0 else 2
set_option maxRecDepth 100000 in
set_option maxHeartbeats 1000000 in
theorem of_any (base g : Nat) (v : Value) (t : Tk) (m : Int) (w : World) (h : TkW w base g v t) :
    Calls Tryd.prog 25 #[.pointer (some ⟨g, 0, none⟩), .int .i64 m] w fun r w' => r = .returned (.tuple #[stV (ofX t m), .int .i64 (ofE m)]) ∧ Below w.heap.size w w' := by
  cases hl : ofB m
  · have eX : ofX t m = z0 := by unfold ofX; rw [hl]; rfl
    have eE : ofE m = 2 := by unfold ofE; rw [hl]; rfl
    rw [eX, eE]
    change Calls Tryd.prog 25 #[.pointer (some ⟨g, 0, none⟩), .int .i64 m] w fun r w' => r = .returned (.tuple #[.agg #[.bool false, .int .i64 0, .int .i64 0], .int .i64 2]) ∧ Below w.heap.size w w'
    unfold ofB at hl
    have hb1 := (Below.refl w.heap.size w).alloc (Nat.le_refl _) (.cells #[.bool false, .int .i64 0, .int .i64 0] 64)
    have h1 := h.step hb1
    obtain ⟨B, hB⟩ : ∃ B, w.heap.size = B := ⟨_, rfl⟩
    have XR := Blk.newA' hB 64 #[.bool false, .int .i64 0, .int .i64 0]
    go_enter Tryd.func25, Tryd.ntmps25
    go_upto_region 1 with fail
    rw [hB] at hb1
    generalize w.alloc (.cells #[.bool false, .int .i64 0, .int .i64 0] 64) = W at *
    have f0 := XR.frozen 0
    have f1 := XR.frozen 1
    have f2 := XR.frozen 2
    have r0 := XR.cell (j := 0) rfl
    have r1 := XR.cell (j := 1) rfl
    have r2 := XR.cell (j := 2) rfl
    have hm := h1.made
    go_wp2_with fail
    refine (none_any g true W hm).mono ?_
    rintro e w1 ⟨rfl, rfl⟩
    by_cases h0 : m < 0
    · clear hl
      go_wp2
      (try simp only [Exit.inBlock, Exit.then])
      refine bodyPost_ret (v := .tuple #[.agg #[.bool false, .int .i64 0, .int .i64 0], .int .i64 2]) ?_ rfl ⟨rfl, ?_⟩
      · rw [results_cell_tmp rfl]
        go_simp
      ·
        (try rw [hB])
        exact below3 hb1 _ _ _
    · have h2 : (16 : Int) ≤ m := by simp at hl; omega
      clear hl
      go_wp2
      (try simp only [Exit.inBlock, Exit.then])
      refine bodyPost_ret (v := .tuple #[.agg #[.bool false, .int .i64 0, .int .i64 0], .int .i64 2]) ?_ rfl ⟨rfl, ?_⟩
      · rw [results_cell_tmp rfl]
        go_simp
      ·
        (try rw [hB])
        exact below3 hb1 _ _ _
  · unfold ofX ofE
    rw [hl]
    obtain ⟨h0, h2⟩ : 0 ≤ m ∧ m < 16 := by simpa [ofB] using hl
    clear hl
    obtain ⟨k, rfl⟩ := Int.eq_ofNat_of_zero_le h0
    obtain ⟨x, hx⟩ : ∃ x, t.M.getD k z0 = x := ⟨_, rfl⟩
    rw [if_pos rfl, if_pos rfl, Int.toNat_natCast, hx]
    have hlen := h.len
    obtain ⟨i0, i1, i2⟩ := talkL_mem v t k (by omega) x hx
    obtain ⟨x1, x2, x3⟩ := x
    change Calls Tryd.prog 25 #[.pointer (some ⟨g, 0, none⟩), .int .i64 k] w fun r w' => r = .returned (.tuple #[.agg #[.bool x1, .int .i64 x2, .int .i64 x3], .int .i64 0]) ∧ Below w.heap.size w w'
    have hb1 := (Below.refl w.heap.size w).alloc (Nat.le_refl _) (.cells #[.bool false, .int .i64 0, .int .i64 0] 64)
    have h1 := h.step hb1
    obtain ⟨B, hB⟩ : ∃ B, w.heap.size = B := ⟨_, rfl⟩
    have XR := Blk.newA' hB 64 #[.bool false, .int .i64 0, .int .i64 0]
    go_enter Tryd.func25, Tryd.ntmps25
    go_upto_region 1 with fail
    rw [hB] at hb1
    generalize w.alloc (.cells #[.bool false, .int .i64 0, .int .i64 0] 64) = W at *
    have f0 := XR.frozen 0
    have f1 := XR.frozen 1
    have f2 := XR.frozen 2
    have r0 := XR.cell (j := 0) rfl
    have r1 := XR.cell (j := 1) rfl
    have r2 := XR.cell (j := 2) rfl
    have hm := h1.made
    have q0 := h1.blk.cell i0
    have q1 := h1.blk.cell i1
    have q2 := h1.blk.cell i2
    simp only at q0 q1 q2
    go_wp2_with fail
    refine (none_any g true W hm).mono ?_
    rintro e w1 ⟨rfl, rfl⟩
    clear hx
    go_wp2
    (try simp only [Exit.inBlock, Exit.then])
    refine bodyPost_ret (v := .tuple #[.agg #[.bool x1, .int .i64 x2, .int .i64 x3], .int .i64 0]) ?_ rfl ⟨rfl, ?_⟩
    · rw [results_cell_tmp rfl]
      go_simp
    ·
      (try rw [hB])
      exact below3 hb1 _ _ _
theorem results_cell1 {fn : Func} {p : Tmp} {ty : TypeId} (h : fn.results = #[.cell p ty]) (tmps : Array Value) (P : Program) (w : World) :
    (results fn tmps).run P w = ((asAddr (tmps.getD p undef)).run P w).andThen fun a w₁ => (loadVar ty a).run P w₁ := by
  simp only [results, h]
  simp [Sem.run_bind, Result.andThen]
theorem num_any (e : Int) (w : World) : Calls Tryd.prog 12 #[.int .i64 e] w fun r w' => r = .returned (.int .i64 e) ∧ w = w' := by
  go_enter Tryd.func12, Tryd.ntmps12
  go_wp2
  go_ret
  exact ⟨rfl, rfl⟩
set_option maxRecDepth 100000 in
set_option maxHeartbeats 400000 in
theorem say_any (m n : Int) (s : ByteArray) (w : World) : Calls Tryd.prog 33 #[.int .i64 m, .int .i64 n, .string s] w fun r w' => r = .returned (.agg #[.int .i64 4, .int .i64 m, .int .i64 n, .string s]) ∧ Below w.heap.size w w' := by
  have hb1 := (Below.refl w.heap.size w).alloc (Nat.le_refl _) (.cells #[.int .i64 0, .int .i64 0, .int .i64 0, .string ⟨#[]⟩] 26)
  obtain ⟨B, hB⟩ : ∃ B, w.heap.size = B := ⟨_, rfl⟩
  have XR := Blk.newA' hB 26 #[.int .i64 0, .int .i64 0, .int .i64 0, .string ⟨#[]⟩]
  go_enter Tryd.func33, Tryd.ntmps33
  go_upto_region 1 with fail
  rw [hB] at hb1
  generalize w.alloc (.cells #[.int .i64 0, .int .i64 0, .int .i64 0, .string ⟨#[]⟩] 26) = W at *
  have f0 := XR.frozen 0
  have f1 := XR.frozen 1
  have f2 := XR.frozen 2
  have f3 := XR.frozen 3
  have r0 := XR.cell (j := 0) rfl
  have r1 := XR.cell (j := 1) rfl
  have r2 := XR.cell (j := 2) rfl
  have r3 := XR.cell (j := 3) rfl
  go_wp2
  (try simp only [Exit.inBlock, Exit.then])
  refine bodyPost_ret (v := .agg #[.int .i64 4, .int .i64 m, .int .i64 n, .string s]) ?_ rfl ⟨rfl, ?_⟩
  · rw [results_cell1 rfl]
    go_simp
  ·
    (try rw [hB])
    exact below4 hb1 _ _ _ _
end Go.Proofs.YtndechodaegkiaaDoor
