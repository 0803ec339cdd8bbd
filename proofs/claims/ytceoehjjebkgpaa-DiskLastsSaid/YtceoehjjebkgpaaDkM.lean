
/- Package disk: Sync; Stop, Dead, Read; Cut (what is refused). -/
import Derived.Test.YtceoehjjebkgpaaDkL
namespace Go.Proofs.Ytceoehjjebkgpaa
set_option linter.unusedSimpArgs false
set_option linter.unusedVariables false
open Go.RowKit Go.Maps
set_option maxRecDepth 100000 in
set_option maxHeartbeats 2000000 in
theorem dsync_err (d mb : Nat) (D : Ds) (L : FMap) (s : ByteArray) (w : World) (h : DkW w d mb D L) (hs : okS s) (he : fileE L s ≠ 0) :
    Calls Try.prog 20 #[.pointer (some ⟨d, 0, none⟩), .string s] w fun e w' => e = .returned (.int .i64 (fileE L s)) ∧ Below w.heap.size w w' := by
  have cO := fun q1 q2 W (hW : DkW W d mb D L) => dof_err_sync q1 q2 d mb D L s W hW hs he
  generalize fileE L s = E at *
  have hb := From.refl w
  go_enter Try.func20, Try.ntmps20
  go_upto_region 1 with fail
  obtain ⟨gP, hgP⟩ : ∃ g, (w).heap.size = g := ⟨_, rfl⟩
  have P := Blk.newV hgP 25 #[.pointer (some ⟨d, 0, none⟩)]
  have hbn := (Below.refl (w).heap.size w).alloc (Nat.le_refl _) (.cells #[.pointer (some ⟨d, 0, none⟩)] 25)
  replace hb := hb.step hbn
  replace h := h.step hbn
  clear hbn
  rw [hgP]
  have szP := alloc_size hgP (.cells #[.pointer (some ⟨d, 0, none⟩)] 25)
  generalize (w).alloc (.cells #[.pointer (some ⟨d, 0, none⟩)] 25) = w1 at *
  obtain ⟨gN, hgN⟩ : ∃ g, (w1).heap.size = g := ⟨_, rfl⟩
  have lt_P_N := P.lt
  rw [hgN] at lt_P_N
  have N := Blk.newV hgN 9 #[.string s]
  have hbn := (Below.refl (w1).heap.size w1).alloc (Nat.le_refl _) (.cells #[.string s] 9)
  replace hb := hb.step hbn
  replace h := h.step hbn
  replace P := P.step hbn
  clear hbn
  have egN : gP + 1 = gN := szP.symm.trans hgN
  rw [egN]
  clear szP
  generalize (w1).alloc (.cells #[.string s] 9) = w2 at *
  have hPw : w.heap.size ≤ gP := by omega
  have hNw : w.heap.size ≤ gN := by omega
  clear hgP hgN egN
  have P_0 := P.cell (j := 0) rfl
  have N_0 := N.cell (j := 0) rfl
  go_wp2_with fail
  refine (cO _ _ _ h).mono ?_
  rintro e w7 ⟨rfl, hbn⟩
  replace hb := hb.step hbn
  replace h := h.step hbn
  replace P := P.step hbn
  replace N := N.step hbn
  go_wp2_with fail
  go_ret
  exact ⟨rfl, hb.out⟩
set_option maxRecDepth 100000 in
set_option maxHeartbeats 2000000 in
theorem dsync_dead (d mb : Nat) (D : Ds) (L : FMap) (s : ByteArray) (w : World) (h : DkW w d mb D L) (hs : okS s) (he : fileE L s = 0) (hd : D.dead = true) :
    Calls Try.prog 20 #[.pointer (some ⟨d, 0, none⟩), .string s] w fun e w' => e = .returned (.int .i64 172) ∧ Below w.heap.size w w' := by
  have hb := From.refl w
  go_enter Try.func20, Try.ntmps20
  go_upto_region 1 with fail
  obtain ⟨gP, hgP⟩ : ∃ g, (w).heap.size = g := ⟨_, rfl⟩
  have P := Blk.newV hgP 25 #[.pointer (some ⟨d, 0, none⟩)]
  have hbn := (Below.refl (w).heap.size w).alloc (Nat.le_refl _) (.cells #[.pointer (some ⟨d, 0, none⟩)] 25)
  replace hb := hb.step hbn
  replace h := h.step hbn
  clear hbn
  rw [hgP]
  have szP := alloc_size hgP (.cells #[.pointer (some ⟨d, 0, none⟩)] 25)
  generalize (w).alloc (.cells #[.pointer (some ⟨d, 0, none⟩)] 25) = w1 at *
  obtain ⟨gN, hgN⟩ : ∃ g, (w1).heap.size = g := ⟨_, rfl⟩
  have lt_P_N := P.lt
  rw [hgN] at lt_P_N
  have N := Blk.newV hgN 9 #[.string s]
  have hbn := (Below.refl (w1).heap.size w1).alloc (Nat.le_refl _) (.cells #[.string s] 9)
  replace hb := hb.step hbn
  replace h := h.step hbn
  replace P := P.step hbn
  clear hbn
  have egN : gP + 1 = gN := szP.symm.trans hgN
  rw [egN]
  clear szP
  generalize (w1).alloc (.cells #[.string s] 9) = w2 at *
  have hPw : w.heap.size ≤ gP := by omega
  have hNw : w.heap.size ≤ gN := by omega
  clear hgP hgN egN
  have P_0 := P.cell (j := 0) rfl
  have N_0 := N.cell (j := 0) rfl
  go_wp2_with fail
  refine (dof_dead_sync _ _ d mb D L s _ h hs he hd).mono ?_
  rintro e w7 ⟨rfl, hbn⟩
  replace hb := hb.step hbn
  replace h := h.step hbn
  replace P := P.step hbn
  replace N := N.step hbn
  go_wp2_with fail
  go_ret
  exact ⟨rfl, hb.out⟩
set_option maxRecDepth 100000 in
set_option maxHeartbeats 2000000 in
theorem dsync_die (d mb : Nat) (D : Ds) (L : FMap) (s : ByteArray) (w : World) (h : DkW w d mb D L) (hs : okS s) (he : fileE L s = 0) (hd : D.dead = false) (hst : D.stop = true) (ha : D.after = 0) :
    Calls Try.prog 20 #[.pointer (some ⟨d, 0, none⟩), .string s] w fun e w' => e = .returned (.int .i64 172) ∧ DkW w' d mb (dieD D) L ∧ Kx [d] w w' := by
  have hb := From.refl w
  go_enter Try.func20, Try.ntmps20
  go_upto_region 1 with fail
  obtain ⟨gP, hgP⟩ : ∃ g, (w).heap.size = g := ⟨_, rfl⟩
  have P := Blk.newV hgP 25 #[.pointer (some ⟨d, 0, none⟩)]
  have hbn := (Below.refl (w).heap.size w).alloc (Nat.le_refl _) (.cells #[.pointer (some ⟨d, 0, none⟩)] 25)
  replace hb := hb.step hbn
  replace h := h.step hbn
  clear hbn
  rw [hgP]
  have szP := alloc_size hgP (.cells #[.pointer (some ⟨d, 0, none⟩)] 25)
  generalize (w).alloc (.cells #[.pointer (some ⟨d, 0, none⟩)] 25) = w1 at *
  obtain ⟨gN, hgN⟩ : ∃ g, (w1).heap.size = g := ⟨_, rfl⟩
  have lt_P_N := P.lt
  rw [hgN] at lt_P_N
  have N := Blk.newV hgN 9 #[.string s]
  have hbn := (Below.refl (w1).heap.size w1).alloc (Nat.le_refl _) (.cells #[.string s] 9)
  replace hb := hb.step hbn
  replace h := h.step hbn
  replace P := P.step hbn
  clear hbn
  have egN : gP + 1 = gN := szP.symm.trans hgN
  rw [egN]
  clear szP
  generalize (w1).alloc (.cells #[.string s] 9) = w2 at *
  have hPw : w.heap.size ≤ gP := by omega
  have hNw : w.heap.size ≤ gN := by omega
  clear hgP hgN egN
  have P_0 := P.cell (j := 0) rfl
  have N_0 := N.cell (j := 0) rfl
  go_wp2_with fail
  refine (dof_die_sync _ _ d mb D L s _ h hs he hd hst ha).mono ?_
  rintro e w7 ⟨rfl, hD7, hk7⟩
  go_wp2_with fail
  go_ret
  exact ⟨rfl, hD7, (Kx.of_below [d] hb.out (Nat.le_refl _)).trans hk7⟩
theorem file_con {W : World} {d mb : Nat} {D : Ds} {L : FMap} (h : DkW W d mb D L) (s : ByteArray) : BySl W (fileM L s).ao (fileM L s).b ∧ (fileM L s).b.length ≤ (fileM L s).cap := by
  have := getM_con h s
  unfold fileM
  split
  · exact this
  · exact ⟨.inl ⟨rfl, rfl⟩, Nat.le_refl _⟩
set_option maxRecDepth 100000 in
set_option maxHeartbeats 4000000 in
theorem dsync_do (d mb : Nat) (D : Ds) (L : FMap) (s : ByteArray) (w : World) (h : DkW w d mb D L) (hG : GoodD D L) (hs : okS s) (he : fileE L s = 0) (hd : D.dead = false) (hst : D.stop = false ∨ D.after ≠ 0) :
    Calls Try.prog 20 #[.pointer (some ⟨d, 0, none⟩), .string s] w fun e w' => e = .returned (.int .i64 0) ∧ (DkW w' d mb (goD D) (putG L s ⟨(fileM L s).ao, (fileM L s).cap, (fileM L s).b, ((fileM L s).b.length : Nat)⟩) ∧ Kx [d, mb] w w') := by
  have hdl := h.lt
  have h0 := h
  have hb := From.refl w
  go_enter Try.func20, Try.ntmps20
  go_upto_region 1 with fail
  obtain ⟨gP, hgP⟩ : ∃ g, (w).heap.size = g := ⟨_, rfl⟩
  have P := Blk.newV hgP 25 #[.pointer (some ⟨d, 0, none⟩)]
  have hbn := (Below.refl (w).heap.size w).alloc (Nat.le_refl _) (.cells #[.pointer (some ⟨d, 0, none⟩)] 25)
  replace hb := hb.step hbn
  replace h := h.step hbn
  clear hbn
  rw [hgP]
  have szP := alloc_size hgP (.cells #[.pointer (some ⟨d, 0, none⟩)] 25)
  generalize (w).alloc (.cells #[.pointer (some ⟨d, 0, none⟩)] 25) = w1 at *
  obtain ⟨gN, hgN⟩ : ∃ g, (w1).heap.size = g := ⟨_, rfl⟩
  have lt_P_N := P.lt
  rw [hgN] at lt_P_N
  have N := Blk.newV hgN 9 #[.string s]
  have hbn := (Below.refl (w1).heap.size w1).alloc (Nat.le_refl _) (.cells #[.string s] 9)
  replace hb := hb.step hbn
  replace h := h.step hbn
  replace P := P.step hbn
  clear hbn
  have egN : gP + 1 = gN := szP.symm.trans hgN
  rw [egN]
  clear szP
  generalize (w1).alloc (.cells #[.string s] 9) = w2 at *
  have hPw : w.heap.size ≤ gP := by omega
  have hNw : w.heap.size ≤ gN := by omega
  clear hgP hgN egN
  have P_0 := P.cell (j := 0) rfl
  have N_0 := N.cell (j := 0) rfl
  go_wp2_with fail
  refine (dof_do_sync _ _ d mb D L s _ (fun w' => DkW w' d mb (goD D) (putG L s ⟨(fileM L s).ao, (fileM L s).cap, (fileM L s).b, ((fileM L s).b.length : Nat)⟩) ∧ Kx [d, mb] w w') h hs he hd hst ⟨hG.a1, hG.a2⟩ ?_).mono ?_
  · intro W hD7 hk7
    have hbW : Kx [d] w W := (Kx.of_below [d] hb.out (Nat.le_refl _)).trans hk7
    have hfc := file_con hD7 s
    refine (dsync1 gP gN d mb (goD D) L s (fileM L s) W (hk7.blk P (by simp; omega)) (hk7.blk N (by simp; omega)) hD7 hs (by have := hG.n; omega) hfc.1 hfc.2).mono ?_
    rintro e w8 ⟨rfl, hR, hk8⟩
    exact ⟨rfl, hR, (hbW.mono (by simp)).trans (hk8.mono (by simp))⟩
  · rintro e w8 ⟨rfl, hR⟩
    go_wp2_with fail
    go_ret
    exact ⟨rfl, hR⟩
/-! Stop, Dead. -/
def stopD (D : Ds) (n : Int) : Ds := { D with stop := true, after := n }
set_option maxRecDepth 100000 in
set_option maxHeartbeats 2000000 in
theorem dstop_ok (d mb : Nat) (D : Ds) (L : FMap) (n : Int) (w : World) (h : DkW w d mb D L) (hn : 0 ≤ n) (hd : D.dead = false) :
    Calls Try.prog 13 #[.pointer (some ⟨d, 0, none⟩), .int .i64 n] w fun e w' => e = .returned (.int .i64 0) ∧ DkW w' d mb (stopD D n) L ∧ Kx [d] w w' := by
  obtain ⟨room, stop, after, dead⟩ := D
  obtain rfl : dead = false := hd
  have hB := h.blk
  unfold dsL at hB
  simp only at hB
  have hc1 := h.c1
  have x2 := hB.cell (j := 2) rfl
  have x3 := hB.cell (j := 3) rfl
  have x4 := hB.cell (j := 4) rfl
  have f2 := hB.frozen 2
  have f3 := hB.frozen 3
  have hk : Kx [d] w ((w.setCell ⟨d, 2, none⟩ (.bool true)).setCell ⟨d, 3, none⟩ (.int .i64 n)) := ((Kx.refl [d] w).setCell (.inl (by simp)) _).setCell (.inl (by simp)) _
  have hD := h.own (D' := ⟨room, true, n, false⟩) hk ((hB.set 2 (.bool true)).set 3 (.int .i64 n))
  have hn2 : ¬ n < 0 := by omega
  go_enter Try.func13, Try.ntmps13
  go_wp2_with fail
  refine (dnone_at d mb _ hc1).mono ?_
  rintro e wx ⟨rfl, rfl⟩
  go_wp2_with fail
  go_ret
  exact ⟨rfl, hD, hk⟩
set_option maxRecDepth 100000 in
set_option maxHeartbeats 1000000 in
theorem ddead_any (d mb : Nat) (D : Ds) (L : FMap) (w : World) (h : DkW w d mb D L) : Calls Try.prog 15 #[.pointer (some ⟨d, 0, none⟩)] w fun e w' => e = .returned (.bool D.dead) ∧ w = w' := by
  have hc1 := h.c1
  have x4 := h.blk.cell (j := 4) rfl
  go_enter Try.func15, Try.ntmps15
  go_wp2_with fail
  refine (dnone_at d mb _ hc1).mono ?_
  rintro e wx ⟨rfl, rfl⟩
  go_wp2_with fail
  go_ret
  exact ⟨rfl, rfl⟩
/-! Cut: what is refused. -/
set_option maxRecDepth 100000 in
set_option maxHeartbeats 2000000 in
theorem dcut_range (d mb : Nat) (D : Ds) (L : FMap) (s : ByteArray) (n : Int) (w : World) (h : DkW w d mb D L) (hs : okS s) (he : fileE L s = 0) (hr : n < 0 ∨ ((fileM L s).b.length : Int) < n) :
    Calls Try.prog 21 #[.pointer (some ⟨d, 0, none⟩), .string s, .int .i64 n] w fun e w' => e = .returned (.int .i64 4) ∧ Below w.heap.size w w' := by
  have hb := From.refl w
  have cF := fun W (hW : DkW W d mb D L) => dfile_any d mb D L s W hW hs
  obtain ⟨m, hm⟩ : ∃ m, fileM L s = m := ⟨_, rfl⟩
  obtain ⟨ao, cap, x, sr⟩ := m
  obtain ⟨E, hE⟩ : ∃ E, fileE L s = E := ⟨_, rfl⟩
  simp only [hm, hE] at cF
  unfold fmV at cF
  simp only at cF
  go_enter Try.func21, Try.ntmps21
  go_upto_region 1 with fail
  obtain ⟨gP, hgP⟩ : ∃ g, (w).heap.size = g := ⟨_, rfl⟩
  have P := Blk.newV hgP 25 #[.pointer (some ⟨d, 0, none⟩)]
  have hbn := (Below.refl (w).heap.size w).alloc (Nat.le_refl _) (.cells #[.pointer (some ⟨d, 0, none⟩)] 25)
  replace hb := hb.step hbn
  replace h := h.step hbn
  clear hbn
  rw [hgP]
  have szP := alloc_size hgP (.cells #[.pointer (some ⟨d, 0, none⟩)] 25)
  generalize (w).alloc (.cells #[.pointer (some ⟨d, 0, none⟩)] 25) = w1 at *
  obtain ⟨gN, hgN⟩ : ∃ g, (w1).heap.size = g := ⟨_, rfl⟩
  have lt_P_N := P.lt
  rw [hgN] at lt_P_N
  have N := Blk.newV hgN 9 #[.string s]
  have hbn := (Below.refl (w1).heap.size w1).alloc (Nat.le_refl _) (.cells #[.string s] 9)
  replace hb := hb.step hbn
  replace h := h.step hbn
  replace P := P.step hbn
  clear hbn
  have egN : gP + 1 = gN := szP.symm.trans hgN
  rw [egN]
  clear szP
  have szN := alloc_size hgN (.cells #[.string s] 9)
  generalize (w1).alloc (.cells #[.string s] 9) = w2 at *
  obtain ⟨gI, hgI⟩ : ∃ g, (w2).heap.size = g := ⟨_, rfl⟩
  have lt_P_I := P.lt
  rw [hgI] at lt_P_I
  have lt_N_I := N.lt
  rw [hgI] at lt_N_I
  have I := Blk.newV hgI 3 #[.int .i64 n]
  have hbn := (Below.refl (w2).heap.size w2).alloc (Nat.le_refl _) (.cells #[.int .i64 n] 3)
  replace hb := hb.step hbn
  replace h := h.step hbn
  replace P := P.step hbn
  replace N := N.step hbn
  clear hbn
  have egI : gN + 1 = gI := szN.symm.trans hgI
  rw [egI]
  clear szN
  generalize (w2).alloc (.cells #[.int .i64 n] 3) = w3 at *
  have P_0 := P.cell (j := 0) rfl
  have N_0 := N.cell (j := 0) rfl
  go_wp2_with fail
  refine (cF _ h).mono ?_
  rintro e w4 ⟨rfl, hbn⟩
  replace hb := hb.step hbn
  replace h := h.step hbn
  replace P := P.step hbn
  replace N := N.step hbn
  replace I := I.step hbn
  clear hbn cF P_0 N_0
  go_upto_region 2 with fail
  obtain ⟨gX, hgX⟩ : ∃ g, (w4).heap.size = g := ⟨_, rfl⟩
  have lt_P_X := P.lt
  rw [hgX] at lt_P_X
  have lt_N_X := N.lt
  rw [hgX] at lt_N_X
  have lt_I_X := I.lt
  rw [hgX] at lt_I_X
  have X := Blk.newV hgX 61 #[.slice ao x.length cap, .int .i64 sr]
  have hbn := (Below.refl (w4).heap.size w4).alloc (Nat.le_refl _) (.cells #[.slice ao x.length cap, .int .i64 sr] 61)
  replace hb := hb.step hbn
  replace h := h.step hbn
  replace P := P.step hbn
  replace N := N.step hbn
  replace I := I.step hbn
  clear hbn
  rw [hgX]
  generalize (w4).alloc (.cells #[.slice ao x.length cap, .int .i64 sr] 61) = w5 at *
  obtain rfl : E = 0 := by rw [← hE, he]
  rw [hm] at hr
  simp only at hr
  clear he
  have I_0 := I.cell (j := 0) rfl
  have x0 := X.cell (j := 0) rfl
  by_cases h0 : n < 0
  · go_wp2_with fail
    go_ret
    exact ⟨rfl, hb.out.mono (by omega)⟩
  · have h1 : (x.length : Int) < n := by rcases hr with hr | hr; exact absurd hr h0; exact hr
    go_wp2_with fail
    go_ret
    exact ⟨rfl, hb.out.mono (by omega)⟩
set_option maxRecDepth 100000 in
set_option maxHeartbeats 2000000 in
theorem dcut_dead (d mb : Nat) (D : Ds) (L : FMap) (s : ByteArray) (n : Int) (w : World) (h : DkW w d mb D L) (hs : okS s) (he : fileE L s = 0) (hr1 : 0 ≤ n) (hr2 : n ≤ ((fileM L s).b.length : Int)) (hd : D.dead = true) :
    Calls Try.prog 21 #[.pointer (some ⟨d, 0, none⟩), .string s, .int .i64 n] w fun e w' => e = .returned (.int .i64 172) ∧ Below w.heap.size w w' := by
  have hb := From.refl w
  have cF := fun W (hW : DkW W d mb D L) => dfile_any d mb D L s W hW hs
  obtain ⟨m, hm⟩ : ∃ m, fileM L s = m := ⟨_, rfl⟩
  obtain ⟨ao, cap, x, sr⟩ := m
  obtain ⟨E, hE⟩ : ∃ E, fileE L s = E := ⟨_, rfl⟩
  simp only [hm, hE] at cF
  unfold fmV at cF
  simp only at cF
  go_enter Try.func21, Try.ntmps21
  go_upto_region 1 with fail
  obtain ⟨gP, hgP⟩ : ∃ g, (w).heap.size = g := ⟨_, rfl⟩
  have P := Blk.newV hgP 25 #[.pointer (some ⟨d, 0, none⟩)]
  have hbn := (Below.refl (w).heap.size w).alloc (Nat.le_refl _) (.cells #[.pointer (some ⟨d, 0, none⟩)] 25)
  replace hb := hb.step hbn
  replace h := h.step hbn
  clear hbn
  rw [hgP]
  have szP := alloc_size hgP (.cells #[.pointer (some ⟨d, 0, none⟩)] 25)
  generalize (w).alloc (.cells #[.pointer (some ⟨d, 0, none⟩)] 25) = w1 at *
  obtain ⟨gN, hgN⟩ : ∃ g, (w1).heap.size = g := ⟨_, rfl⟩
  have lt_P_N := P.lt
  rw [hgN] at lt_P_N
  have N := Blk.newV hgN 9 #[.string s]
  have hbn := (Below.refl (w1).heap.size w1).alloc (Nat.le_refl _) (.cells #[.string s] 9)
  replace hb := hb.step hbn
  replace h := h.step hbn
  replace P := P.step hbn
  clear hbn
  have egN : gP + 1 = gN := szP.symm.trans hgN
  rw [egN]
  clear szP
  have szN := alloc_size hgN (.cells #[.string s] 9)
  generalize (w1).alloc (.cells #[.string s] 9) = w2 at *
  obtain ⟨gI, hgI⟩ : ∃ g, (w2).heap.size = g := ⟨_, rfl⟩
  have lt_P_I := P.lt
  rw [hgI] at lt_P_I
  have lt_N_I := N.lt
  rw [hgI] at lt_N_I
  have I := Blk.newV hgI 3 #[.int .i64 n]
  have hbn := (Below.refl (w2).heap.size w2).alloc (Nat.le_refl _) (.cells #[.int .i64 n] 3)
  replace hb := hb.step hbn
  replace h := h.step hbn
  replace P := P.step hbn
  replace N := N.step hbn
  clear hbn
  have egI : gN + 1 = gI := szN.symm.trans hgI
  rw [egI]
  clear szN
  generalize (w2).alloc (.cells #[.int .i64 n] 3) = w3 at *
  have P_0 := P.cell (j := 0) rfl
  have N_0 := N.cell (j := 0) rfl
  go_wp2_with fail
  refine (cF _ h).mono ?_
  rintro e w4 ⟨rfl, hbn⟩
  replace hb := hb.step hbn
  replace h := h.step hbn
  replace P := P.step hbn
  replace N := N.step hbn
  replace I := I.step hbn
  clear hbn cF P_0 N_0
  go_upto_region 2 with fail
  obtain ⟨gX, hgX⟩ : ∃ g, (w4).heap.size = g := ⟨_, rfl⟩
  have lt_P_X := P.lt
  rw [hgX] at lt_P_X
  have lt_N_X := N.lt
  rw [hgX] at lt_N_X
  have lt_I_X := I.lt
  rw [hgX] at lt_I_X
  have X := Blk.newV hgX 61 #[.slice ao x.length cap, .int .i64 sr]
  have hbn := (Below.refl (w4).heap.size w4).alloc (Nat.le_refl _) (.cells #[.slice ao x.length cap, .int .i64 sr] 61)
  replace hb := hb.step hbn
  replace h := h.step hbn
  replace P := P.step hbn
  replace N := N.step hbn
  replace I := I.step hbn
  clear hbn
  rw [hgX]
  generalize (w4).alloc (.cells #[.slice ao x.length cap, .int .i64 sr] 61) = w5 at *
  obtain rfl : E = 0 := by rw [← hE, he]
  rw [hm] at hr2
  simp only at hr2
  clear he
  have I_0 := I.cell (j := 0) rfl
  have P_0 := P.cell (j := 0) rfl
  have x0 := X.cell (j := 0) rfl
  have h0 : ¬ n < 0 := by omega
  have h1 : ¬ (x.length : Int) < n := by omega
  go_wp2_with fail
  refine (ddoes_dead _ d mb D L _ h hd).mono ?_
  rintro e w7 ⟨rfl, rfl⟩
  go_wp2_with fail
  go_ret
  exact ⟨rfl, hb.out.mono (by omega)⟩
end Go.Proofs.Ytceoehjjebkgpaa
