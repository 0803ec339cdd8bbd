
/- Package disk: does (dead, dying), file. -/
import Derived.Test.YtceoehjjebkgpaaDkE
namespace Go.Proofs.Ytceoehjjebkgpaa
set_option linter.unusedSimpArgs false
set_option linter.unusedVariables false
open Go.RowKit Go.Maps
/-- A step's answer by the disk's own state. -/
def dieD (D : Ds) : Ds := { D with stop := false, dead := true }
def goD (D : Ds) : Ds := if D.stop then { D with after := D.after - 1 } else D
set_option maxRecDepth 100000 in
set_option maxHeartbeats 1000000 in
theorem ddoes_dead (F : Value) (d mb : Nat) (D : Ds) (L : FMap) (w : World) (h : DkW w d mb D L) (hd : D.dead = true) :
    Calls Try.prog 26 #[.pointer (some ⟨d, 0, none⟩), F] w fun e w' => e = .returned (.int .i64 172) ∧ w = w' := by
  obtain ⟨room, stop, after, dead⟩ := D
  obtain rfl : dead = true := hd
  have hB := h.blk
  unfold dsL at hB
  simp only at hB
  have x0 := hB.cell (j := 0) rfl
  have x1 := hB.cell (j := 1) rfl
  have x2 := hB.cell (j := 2) rfl
  have x3 := hB.cell (j := 3) rfl
  have x4 := hB.cell (j := 4) rfl
  have f2 := hB.frozen 2
  have f3 := hB.frozen 3
  have f4 := hB.frozen 4
  go_enter Try.func26, Try.ntmps26
  go_wp2_with fail
  go_ret
  exact ⟨rfl, rfl⟩
set_option maxRecDepth 100000 in
set_option maxHeartbeats 1000000 in
theorem ddoes_die (F : Value) (d mb : Nat) (D : Ds) (L : FMap) (w : World) (h : DkW w d mb D L) (hd : D.dead = false) (hs : D.stop = true) (ha : D.after = 0) :
    Calls Try.prog 26 #[.pointer (some ⟨d, 0, none⟩), F] w fun e w' => e = .returned (.int .i64 172) ∧ DkW w' d mb (dieD D) L ∧ Kx [d] w w' := by
  obtain ⟨room, stop, after, dead⟩ := D
  obtain rfl : dead = false := hd
  obtain rfl : stop = true := hs
  obtain rfl : after = 0 := ha
  have hB := h.blk
  unfold dsL at hB
  simp only at hB
  have x0 := hB.cell (j := 0) rfl
  have x1 := hB.cell (j := 1) rfl
  have x2 := hB.cell (j := 2) rfl
  have x3 := hB.cell (j := 3) rfl
  have x4 := hB.cell (j := 4) rfl
  have f2 := hB.frozen 2
  have f3 := hB.frozen 3
  have f4 := hB.frozen 4
  have hk : Kx [d] w ((w.setCell ⟨d, 2, none⟩ (.bool false)).setCell ⟨d, 4, none⟩ (.bool true)) := ((Kx.refl [d] w).setCell (.inl (by simp)) _).setCell (.inl (by simp)) _
  have hD := h.own (D' := ⟨room, false, 0, true⟩) hk ((hB.set 2 (.bool false)).set 4 (.bool true))
  go_enter Try.func26, Try.ntmps26
  go_wp2_with fail
  go_ret
  exact ⟨rfl, hD, hk⟩
/-! The step is done: 'does' with each closure. -/
set_option maxRecDepth 100000 in
set_option maxHeartbeats 1000000 in
theorem ddoes_app (q1 q2 q3 : Value) (d mb : Nat) (D : Ds) (L : FMap) (w : World) (R : World → Prop) (h : DkW w d mb D L) (hd : D.dead = false) (hs : D.stop = false ∨ D.after ≠ 0) (ha : 0 ≤ D.after ∧ D.after ≤ 9223372036854775807)
    (cF : ∀ W, DkW W d mb (goD D) L → Kx [d] w W → Calls Try.prog 27 #[q1, q2, q3] W fun e w' => e = .returned (.tuple #[]) ∧ R w') :
    Calls Try.prog 26 #[.pointer (some ⟨d, 0, none⟩), .func (.func 27) #[] #[q1, q2, q3]] w fun e w' => e = .returned (.int .i64 0) ∧ R w' := by
  obtain ⟨room, stop, after, dead⟩ := D
  obtain rfl : dead = false := hd
  have hB := h.blk
  unfold dsL at hB
  simp only at hB hs ha
  have x0 := hB.cell (j := 0) rfl
  have x1 := hB.cell (j := 1) rfl
  have x2 := hB.cell (j := 2) rfl
  have x3 := hB.cell (j := 3) rfl
  have x4 := hB.cell (j := 4) rfl
  have f2 := hB.frozen 2
  have f3 := hB.frozen 3
  have f4 := hB.frozen 4
  cases stop
  · have cG := cF w h (Kx.refl _ _)
    clear x0 x1 x3 f2 f3 f4 cF
    go_enter Try.func26, Try.ntmps26
    go_wp2_with fail
    refine cG.mono ?_
    rintro e w2 ⟨rfl, hR⟩
    go_wp2_with fail
    go_ret
    exact ⟨rfl, hR⟩
  · have ha0 : after ≠ 0 := by rcases hs with h | h; cases h; exact h
    have haf : (after == 0) = false := by simpa using ha0
    have hwr : IntKind.wrap .i64 (after - 1) = after - 1 := by rw [IntKind.wrap_i64]; omega
    have hk : Kx [d] w (w.setCell ⟨d, 3, none⟩ (.int .i64 (after - 1))) := (Kx.refl [d] w).setCell (.inl (by simp)) _
    have hD := h.own (D' := ⟨room, true, after - 1, false⟩) hk (hB.set 3 (.int .i64 (after - 1)))
    have cG := cF _ hD hk
    clear cF
    go_enter Try.func26, Try.ntmps26
    go_wp2_with fail
    refine cG.mono ?_
    rintro e w2 ⟨rfl, hR⟩
    go_wp2_with fail
    go_ret
    exact ⟨rfl, hR⟩
set_option maxRecDepth 100000 in
set_option maxHeartbeats 1000000 in
theorem ddoes_of (q1 q2 : Value) (d mb : Nat) (D : Ds) (L : FMap) (w : World) (R : World → Prop) (h : DkW w d mb D L) (hd : D.dead = false) (hs : D.stop = false ∨ D.after ≠ 0) (ha : 0 ≤ D.after ∧ D.after ≤ 9223372036854775807)
    (cF : ∀ W, DkW W d mb (goD D) L → Kx [d] w W → Calls Try.prog 47 #[q1, q2] W fun e w' => e = .returned (.tuple #[]) ∧ R w') :
    Calls Try.prog 26 #[.pointer (some ⟨d, 0, none⟩), .func (.func 47) #[] #[q1, q2]] w fun e w' => e = .returned (.int .i64 0) ∧ R w' := by
  obtain ⟨room, stop, after, dead⟩ := D
  obtain rfl : dead = false := hd
  have hB := h.blk
  unfold dsL at hB
  simp only at hB hs ha
  have x0 := hB.cell (j := 0) rfl
  have x1 := hB.cell (j := 1) rfl
  have x2 := hB.cell (j := 2) rfl
  have x3 := hB.cell (j := 3) rfl
  have x4 := hB.cell (j := 4) rfl
  have f2 := hB.frozen 2
  have f3 := hB.frozen 3
  have f4 := hB.frozen 4
  cases stop
  · have cG := cF w h (Kx.refl _ _)
    clear x0 x1 x3 f2 f3 f4 cF
    go_enter Try.func26, Try.ntmps26
    go_wp2_with fail
    refine cG.mono ?_
    rintro e w2 ⟨rfl, hR⟩
    go_wp2_with fail
    go_ret
    exact ⟨rfl, hR⟩
  · have ha0 : after ≠ 0 := by rcases hs with h | h; cases h; exact h
    have haf : (after == 0) = false := by simpa using ha0
    have hwr : IntKind.wrap .i64 (after - 1) = after - 1 := by rw [IntKind.wrap_i64]; omega
    have hk : Kx [d] w (w.setCell ⟨d, 3, none⟩ (.int .i64 (after - 1))) := (Kx.refl [d] w).setCell (.inl (by simp)) _
    have hD := h.own (D' := ⟨room, true, after - 1, false⟩) hk (hB.set 3 (.int .i64 (after - 1)))
    have cG := cF _ hD hk
    clear cF
    go_enter Try.func26, Try.ntmps26
    go_wp2_with fail
    refine cG.mono ?_
    rintro e w2 ⟨rfl, hR⟩
    go_wp2_with fail
    go_ret
    exact ⟨rfl, hR⟩
/-! file. -/
theorem r_cell1t {fn : Func} {p u : Tmp} {ty : TypeId} (h : fn.results = #[.cell p ty, .tmp u]) (tmps : Array Value) (P : Program) (w : World) :
    (results fn tmps).run P w = ((asAddr (tmps.getD p undef)).run P w).andThen fun a w₁ => ((loadVar ty a).run P w₁).andThen fun v w₂ => .ok (.tuple #[v, tmps.getD u undef]) w₂ := by
  simp only [results, h]
  simp [Sem.run_bind, Result.andThen]
def fileE (L : FMap) (s : ByteArray) : Int := if nmB s then (if (getG L s).isSome then 0 else 5) else 170
def fileM (L : FMap) (s : ByteArray) : Fm := if nmB s then (getG L s).getD ⟨none, 0, [], 0⟩ else ⟨none, 0, [], 0⟩
theorem nm_ok {s : ByteArray} (h : nmB s = true) : okS s := by
  unfold nmB at h
  simp only [Bool.and_eq_true, decide_eq_true_eq] at h
  unfold okS maxLen
  omega
theorem has_one {W : World} {g : Nat} {s : ByteArray} (h : Blk W g 9 [.string s]) : HasSt W g [s] := by
  intro k t hk
  match k, hk with
  | 0, hk => obtain rfl : s = t := by simpa using hk
             exact h.cell (j := 0) rfl
  | k + 1, hk => simp at hk
theorem named1_any (g : Nat) (s : ByteArray) (w : World) (h : Blk w g 9 [.string s]) (hs : s.size ≤ 9223372036854775807) :
    Calls Try.prog 24 #[.slice (some ⟨g, 0, none⟩) 1 1] w fun e w' => e = .returned (.bool (nmB s)) ∧ Below w.heap.size w w' := by
  have := dnamed_any g 1 [s] w (by simp) (has_one h) (fun t ht => by simp at ht; subst ht; exact hs)
  simpa using this
set_option maxRecDepth 100000 in
set_option maxHeartbeats 2000000 in
theorem dfile_any (d mb : Nat) (D : Ds) (L : FMap) (s : ByteArray) (w : World) (h : DkW w d mb D L) (hs : okS s) :
    Calls Try.prog 30 #[.pointer (some ⟨d, 0, none⟩), .string s] w fun e w' => e = .returned (.tuple #[fmV (fileM L s), .int .i64 (fileE L s)]) ∧ Below w.heap.size w w' := by
  have hs2 : s.size ≤ 9223372036854775807 := by unfold okS maxLen at hs; omega
  have hlk := fun W (hM : MapD W mb L) => MapG.look hM keyS Try.underlying53 (zero_file W) s hs
  obtain ⟨M, is, hlk2, hE, hF⟩ : ∃ (M : Fm) (is : Bool), (∀ W, MapD W mb L → (Instr.lookup 53 (.map (some mb)) (.string s) true).run Try.prog W = .ok (.tuple #[fmV M, .bool is]) W) ∧ fileE L s = (if nmB s then (if is then 0 else 5) else 170) ∧ fileM L s = (if nmB s then (if is then M else ⟨none, 0, [], 0⟩) else ⟨none, 0, [], 0⟩) := by
    cases hg : getG L s with
    | none =>
      simp only [hg] at hlk
      exact ⟨⟨none, 0, [], 0⟩, false, fun W hM => hlk W hM, by simp [fileE, hg], by simp [fileM, hg]⟩
    | some m =>
      simp only [hg] at hlk
      exact ⟨m, true, fun W hM => hlk W hM, by simp [fileE, hg], by simp [fileM, hg]⟩
  rw [hE, hF]
  clear hlk hE hF
  obtain ⟨ao, cap, b, sr⟩ := M
  obtain ⟨N, hN⟩ : ∃ N, nmB s = N := ⟨_, rfl⟩
  unfold fmV at hlk2 ⊢
  simp only [hN]
  have hb := From.refl w
  go_enter Try.func30, Try.ntmps30
  go_upto_region 1 with fail
  obtain ⟨gR, hgR⟩ : ∃ g, (w).heap.size = g := ⟨_, rfl⟩
  have R := Blk.newV hgR 61 #[.slice none 0 0, .int .i64 0]
  have hbn := (Below.refl (w).heap.size w).alloc (Nat.le_refl _) (.cells #[.slice none 0 0, .int .i64 0] 61)
  replace hb := hb.step hbn
  replace h := h.step hbn
  clear hbn
  rw [hgR]
  generalize (w).alloc (.cells #[.slice none 0 0, .int .i64 0] 61) = w1 at *
  have hc1 := h.c1
  go_wp2_with fail
  refine (dnone_at d mb _ hc1).mono ?_
  rintro e wx ⟨rfl, rfl⟩
  have hlk := hlk2 _ h.map
  go_upto_region 4 with fail
  obtain ⟨gX, hgX⟩ : ∃ g, (w1).heap.size = g := ⟨_, rfl⟩
  have lt_R_X := R.lt
  rw [hgX] at lt_R_X
  have X := Blk.newV hgX 61 #[.slice ao b.length cap, .int .i64 sr]
  have hbn := (Below.refl (w1).heap.size w1).alloc (Nat.le_refl _) (.cells #[.slice ao b.length cap, .int .i64 sr] 61)
  replace hb := hb.step hbn
  replace h := h.step hbn
  replace R := R.step hbn
  clear hbn
  rw [hgX]
  generalize (w1).alloc (.cells #[.slice ao b.length cap, .int .i64 sr] 61) = w2 at *
  clear hlk hc1
  cases N
  · go_wp2_with fail
    obtain ⟨gS, hgS⟩ : ∃ g, (w2).heap.size = g := ⟨_, rfl⟩
    have lt_R_S := R.lt
    rw [hgS] at lt_R_S
    have lt_X_S := X.lt
    rw [hgS] at lt_X_S
    have S := Blk.newV hgS 9 #[.string s]
    have hbn := (Below.refl (w2).heap.size w2).alloc (Nat.le_refl _) (.cells #[.string s] 9)
    replace hb := hb.step hbn
    replace h := h.step hbn
    replace R := R.step hbn
    replace X := X.step hbn
    clear hbn
    rw [hgS]
    generalize (w2).alloc (.cells #[.string s] 9) = w3 at *
    refine (named1_any _ s _ S hs2).mono ?_
    rintro e w4 ⟨rfl, hbn⟩
    rw [hN]
    replace hb := hb.step hbn
    replace h := h.step hbn
    replace R := R.step hbn
    replace X := X.step hbn
    replace S := S.step hbn
    clear hbn
    have R_0 := R.cell (j := 0) rfl
    have R_1 := R.cell (j := 1) rfl
    have Rf0 := R.frozen 0
    have Rf1 := R.frozen 1
    go_wp2_with fail
    (try simp only [Exit.inBlock, Exit.then])
    refine bodyPost_ret (v := .tuple #[.agg #[.slice none 0 0, .int .i64 0], .int .i64 170]) ?_ rfl ⟨rfl, ?_⟩
    · rw [r_cell1t rfl]
      go_simp
    · have hkn : Kx [gR] w4 ((w4.setCell ⟨gR, 0, none⟩ (.slice none 0 0)).setCell ⟨gR, 1, none⟩ (.int .i64 0)) := ((Kx.refl _ w4).setCell (.inl (by simp)) _).setCell (.inl (by simp)) _
      exact (hb.kx hkn (by simp; omega)).out.mono (by omega)
  · go_wp2_with fail
    obtain ⟨gS, hgS⟩ : ∃ g, (w2).heap.size = g := ⟨_, rfl⟩
    have lt_R_S := R.lt
    rw [hgS] at lt_R_S
    have lt_X_S := X.lt
    rw [hgS] at lt_X_S
    have S := Blk.newV hgS 9 #[.string s]
    have hbn := (Below.refl (w2).heap.size w2).alloc (Nat.le_refl _) (.cells #[.string s] 9)
    replace hb := hb.step hbn
    replace h := h.step hbn
    replace R := R.step hbn
    replace X := X.step hbn
    clear hbn
    rw [hgS]
    generalize (w2).alloc (.cells #[.string s] 9) = w3 at *
    refine (named1_any _ s _ S hs2).mono ?_
    rintro e w4 ⟨rfl, hbn⟩
    rw [hN]
    replace hb := hb.step hbn
    replace h := h.step hbn
    replace R := R.step hbn
    replace X := X.step hbn
    replace S := S.step hbn
    clear hbn
    cases is
    · skip
      have R_0 := R.cell (j := 0) rfl
      have R_1 := R.cell (j := 1) rfl
      have Rf0 := R.frozen 0
      have Rf1 := R.frozen 1
      go_wp2_with fail
      (try simp only [Exit.inBlock, Exit.then])
      refine bodyPost_ret (v := .tuple #[.agg #[.slice none 0 0, .int .i64 0], .int .i64 5]) ?_ rfl ⟨rfl, ?_⟩
      · rw [r_cell1t rfl]
        go_simp
      · have hkn : Kx [gR] w4 ((w4.setCell ⟨gR, 0, none⟩ (.slice none 0 0)).setCell ⟨gR, 1, none⟩ (.int .i64 0)) := ((Kx.refl _ w4).setCell (.inl (by simp)) _).setCell (.inl (by simp)) _
        exact (hb.kx hkn (by simp; omega)).out.mono (by omega)
    · skip
      have R_0 := R.cell (j := 0) rfl
      have R_1 := R.cell (j := 1) rfl
      have Rf0 := R.frozen 0
      have Rf1 := R.frozen 1
      have X_0 := X.cell (j := 0) rfl
      have X_1 := X.cell (j := 1) rfl
      go_wp2_with fail
      (try simp only [Exit.inBlock, Exit.then])
      refine bodyPost_ret (v := .tuple #[.agg #[.slice ao b.length cap, .int .i64 sr], .int .i64 0]) ?_ rfl ⟨rfl, ?_⟩
      · rw [r_cell1t rfl]
        go_simp
      · have hkn : Kx [gR] w4 ((w4.setCell ⟨gR, 0, none⟩ (.slice ao b.length cap)).setCell ⟨gR, 1, none⟩ (.int .i64 sr)) := ((Kx.refl _ w4).setCell (.inl (by simp)) _).setCell (.inl (by simp)) _
        exact (hb.kx hkn (by simp; omega)).out.mono (by omega)
end Go.Proofs.Ytceoehjjebkgpaa
