
/- Package disk: Crash. -/
import Derived.Test.YtceoehjjebkgpaaDkJ
namespace Go.Proofs.Ytceoehjjebkgpaa
set_option linter.unusedSimpArgs false
set_option linter.unusedVariables false
open Go.RowKit Go.Maps
attribute [local go_sem] Oper.semAt_some
theorem keeps_below {W W' : World} (h : Below W.heap.size W W') : KeepsOthers W W' := ⟨h.size, fun k o hk _ => (h.block k (Array.getElem?_eq_some_iff.1 hk).1).trans hk⟩
theorem keepsFrom_kx {B : Nat} {ws : List Nat} {W W' : World} (h : Kx ws W W') (hw : ∀ x ∈ ws, x < B) : KeepsFrom B W W' :=
  ⟨h.size, fun k o hB hk _ => (h.block k (Array.getElem?_eq_some_iff.1 hk).1 (fun hm => by have := hw k hm; omega)).trans hk⟩
theorem dk_ownFrom {β : Type} (B d mb : Nat) (D : Ds) (f : β → FMap) (hm : mb < B) : OwnFrom B (fun s W => DkW W d mb D (f s)) := by
  intro s W W' row h hg hr
  have hne : ∀ k cs t fz, W.heap[k]? = some (Obj.cells cs t fz) → W'.heap[k]? = some (Obj.cells cs t fz) := fun k cs t fz hk =>
    (hg.block k (Array.getElem?_eq_some_iff.1 hk).1 (fun e => by
      obtain ⟨-, o, ho, hc⟩ := hr k e.symm
      rw [hk] at ho; cases ho; cases hc)).trans hk
  refine ⟨hne _ _ _ _ h.blk, ?_, ?_, h.room⟩
  · obtain ⟨es, clock, h1, h2⟩ := h.map
    exact ⟨es, clock, (hg.block mb (Array.getElem?_eq_some_iff.1 h1).1 (fun e => by have := (hr mb e.symm).1; omega)).trans h1, h2⟩
  · intro p hp
    rcases h.con p hp with h1 | ⟨g, h1, pd, fz, h2, h3⟩
    · exact .inl h1
    · exact .inr ⟨g, h1, pd, fz, hne _ _ _ _ h2, h3⟩
theorem DkW.same {W W' : World} {d mb : Nat} {D : Ds} {L : FMap} (h : DkW W d mb D L) (hm : W'.heap[mb]? = W.heap[mb]?) (hc : ∀ (k : Nat) (o : Obj), W.heap[k]? = some o → o.isCells = true → W'.heap[k]? = some o) : DkW W' d mb D L := by
  refine ⟨hc _ _ h.blk rfl, MapG.heap h.map hm, fun p hp => ?_, h.room⟩
  rcases h.con p hp with h1 | ⟨g, h1, pd, fz, h2, h3⟩
  · exact .inl h1
  · exact .inr ⟨g, h1, pd, fz, hc _ _ h2 rfl, h3⟩
/-- Numbers as they lie. -/
def HasInt (W : World) (po : Option Addr) (l : List Int) : Prop := ∀ (k : Nat) x, l[k]? = some x → ∃ b off, po = some ⟨b, off, none⟩ ∧ W.cell? ⟨b, off + k, none⟩ = some (.int .i64 x)
theorem HasInt.step {W W' : World} {po : Option Addr} {l : List Int} (h : HasInt W po l) (hb : Below W.heap.size W W') : HasInt W' po l := fun k x hk => by
  obtain ⟨b, off, h1, h2⟩ := h k x hk
  exact ⟨b, off, h1, (hb.cell (World.block_lt_of_cell? W _ h2)).trans h2⟩
/-- What a crash leaves of the file number k. -/
def crN (picks : List Int) (k : Nat) (x : ByteArray × Fm) : Int := if k < picks.length then x.2.s + pickI (picks.getD k 0) (x.2.b.length - x.2.s) else x.2.s
def crF (picks : List Int) (k : Nat) (x : ByteArray × Fm) : Fm := ⟨x.2.ao, (crN picks k x).toNat, x.2.b.take (crN picks k x).toNat, crN picks k x⟩
def crM (picks : List Int) (xs : FMap) : Nat → FMap
  | 0 => []
  | k + 1 => match xs[k]? with | some x => putG (crM picks xs k) x.1 (crF picks k x) | none => crM picks xs k
theorem putG_len (L : FMap) (s : ByteArray) (m : Fm) : (putG L s m).length ≤ L.length + 1 := by
  unfold putG delG
  simp only [List.length_cons]
  have := List.length_filter_le (fun p => decide (p.1 ≠ s)) L
  omega
theorem crM_len (picks : List Int) (xs : FMap) (k : Nat) : (crM picks xs k).length ≤ k := by
  induction k with
  | zero => simp [crM]
  | succ k ih =>
    unfold crM
    split
    next x hx => have := putG_len (crM picks xs k) x.1 (crF picks k x); omega
    · omega
/-- Each file's sure bytes are among its bytes. -/
def Sured (L : FMap) : Prop := ∀ p ∈ L, 0 ≤ p.2.s ∧ p.2.s ≤ p.2.b.length
theorem crN_bd {picks : List Int} {k : Nat} {x : ByteArray × Fm} (h : 0 ≤ x.2.s ∧ x.2.s ≤ x.2.b.length) : x.2.s ≤ crN picks k x ∧ crN picks k x ≤ x.2.b.length := by
  unfold crN
  split
  · have := pick_bd (picks.getD k 0) (x.2.b.length - x.2.s) (by omega)
    omega
  · omega
set_option maxRecDepth 100000 in
set_option maxHeartbeats 8000000 in
theorem dcrash_any (d mb : Nat) (D : Ds) (L : FMap) (po : Option Addr) (picks : List Int) (cp : Nat) (w : World) (h : DkW w d mb D L) (hG : GoodD D L) (hr1 : 1 ≤ D.room) (hS : Sured L) (hp : HasInt w po picks) (hpl : picks.length ≤ 1000000) :
    Calls Try.prog 9 #[.pointer (some ⟨d, 0, none⟩), .slice po picks.length cp] w fun e w' => (∃ c, e = .returned (.tuple #[.pointer (some ⟨c, 0, none⟩), .int .i64 0]) ∧ w.heap.size ≤ c ∧ ∃ mb2, w.heap.size ≤ mb2 ∧ DkW w' c mb2 ⟨D.room, false, 0, false⟩ (crM picks (srt L) L.length)) ∧ Below w.heap.size w w' := by
  refine callsIn_wide (n := 3).1 ?_
  have h0 := h
  have hlen := srt_len L
  obtain ⟨xs, hxs⟩ : ∃ xs, srt L = xs := ⟨_, rfl⟩
  have hmem : ∀ (k : Nat) x, xs[k]? = some x → x ∈ L := fun k x hx => (srt_perm L).mem_iff.1 (by rw [hxs]; exact List.mem_of_getElem? hx)
  rw [hxs] at hlen ⊢
  rw [← hlen]
  obtain ⟨np, hnp⟩ : ∃ n, picks.length = n := ⟨_, rfl⟩
  have hnpi : (np : Int) ≤ 1000000 := by omega
  rw [hnp]
  have cN := fun W => dnew_any D.room W hr1 hG.r2
  have hb := From.refl w
  refine callsIn_of_wp_marks Try.func9 rfl trivial ?_ rfl
  simp only [Try.ntmps9, List.size_toArray, List.length_cons, List.length_nil, Nat.reduceAdd, Nat.reduceSub, Array.replicate_succ, Array.replicate_zero, List.push_toArray, List.append_toArray, List.nil_append, List.cons_append]
  gi_upto_region 1 with fail
  obtain ⟨gP, hgP⟩ : ∃ g, (w).heap.size = g := ⟨_, rfl⟩
  have P := Blk.newV hgP 23 #[.slice po np cp]
  have hbn := (Below.refl (w).heap.size w).alloc (Nat.le_refl _) (.cells #[.slice po np cp] 23)
  replace hb := hb.step hbn
  replace h := h.step hbn
  clear hbn
  rw [hgP]
  generalize (w).alloc (.cells #[.slice po np cp] 23) = w1 at *
  have hc1 := h.c1
  have hc0 := h.blk.cell (j := 0) rfl
  gi_wp2_with (apply wpIn_label)
  refine ⟨trivial, ?_⟩
  refine (callsIn_wide.2 (dnone_at d mb _ hc1)).mono ?_
  rintro e wx ⟨rfl, rfl⟩
  gi_wp2_with (apply wpIn_label)
  refine ⟨trivial, ?_⟩
  refine (callsIn_wide.2 (cN _)).mono ?_
  rintro e w2 ⟨⟨c, mb2, rfl, hC, hcw, hmw⟩, hbn⟩
  have hPc : gP < c := Nat.lt_of_lt_of_le P.lt hcw
  have hPm : gP < mb2 := Nat.lt_of_lt_of_le P.lt hmw
  have hcm := hC.ne
  replace hb := hb.step hbn
  replace h := h.step hbn
  replace P := P.step hbn
  clear hbn hc1 hc0 cN
  gi_upto_region 4 with fail
  have hm2 : mb2 < w2.heap.size := hC.ltb
  obtain ⟨gC1, hgC1⟩ : ∃ g, (w2).heap.size = g := ⟨_, rfl⟩
  have lt_P_C1 := P.lt
  rw [hgC1] at lt_P_C1
  have lt_hC_C1 := hC.lt
  rw [hgC1] at lt_hC_C1
  have C1 := Blk.newV hgC1 25 #[.pointer (some ⟨c, 0, none⟩)]
  have hbn := (Below.refl (w2).heap.size w2).alloc (Nat.le_refl _) (.cells #[.pointer (some ⟨c, 0, none⟩)] 25)
  replace hb := hb.step hbn
  replace h := h.step hbn
  replace P := P.step hbn
  replace hC := hC.step hbn
  clear hbn
  rw [hgC1]
  generalize (w2).alloc (.cells #[.pointer (some ⟨c, 0, none⟩)] 25) = w3 at *
  have hcC : c < gC1 := by have := lt_hC_C1; omega
  have hmC : mb2 < gC1 := by omega
  gi_upto_region 5 with fail
  obtain ⟨gI1, hgI1⟩ : ∃ g, (w3).heap.size = g := ⟨_, rfl⟩
  have lt_P_I1 := P.lt
  rw [hgI1] at lt_P_I1
  have lt_hC_I1 := hC.lt
  rw [hgI1] at lt_hC_I1
  have lt_C1_I1 := C1.lt
  rw [hgI1] at lt_C1_I1
  have I1 := Blk.newV hgI1 3 #[.int .i64 0]
  have hbn := (Below.refl (w3).heap.size w3).alloc (Nat.le_refl _) (.cells #[.int .i64 0] 3)
  replace hb := hb.step hbn
  replace h := h.step hbn
  replace P := P.step hbn
  replace hC := hC.step hbn
  replace C1 := C1.step hbn
  clear hbn
  rw [hgI1]
  generalize (w3).alloc (.cells #[.int .i64 0] 3) = w4 at *
  have hCI : gC1 < gI1 := by omega
  gi_wp2_with (apply wpIn_label)
  refine ⟨trivial, ?_⟩
  refine (callsIn_wide.2 (dall_any _ rfl _)).mono ?_
  rintro e w5 ⟨⟨b, rfl, hBx, hbb⟩, hbn⟩
  have hIl := I1.lt
  replace hb := hb.step hbn
  replace h := h.step hbn
  replace P := P.step hbn
  replace hC := hC.step hbn
  replace C1 := C1.step hbn
  replace I1 := I1.step hbn
  clear hbn
  have hIb : gI1 < b := by omega
  have hIl5 : gI1 < w5.heap.size := I1.lt
  have hdw := h0.lt
  have hmw0 := h0.ltb
  have hwP : w.heap.size ≤ gP := by omega
  have hseq := dall_xs (fun k => k ∈ [gI1, mb2]) b d mb D L w5 hBx h (by have := hG.n; omega) hG.k (fun k hk => by simp at hk; rcases hk with rfl | rfl <;> omega) (by simp; omega) (by simp; omega) (by simp; omega)
  rw [hxs] at hseq
  unfold allF
  gi_wp2_with fail
  apply wpIn_range_xsAD 41 #[.pointer (some ⟨b, 0, none⟩)] rfl enters_all (fun k => k ∈ [gI1, mb2]) hseq (Below.refl _ _) (fun _ => rfl)
    (fun k W => DkW W c mb2 ⟨D.room, false, 0, false⟩ (crM picks xs k) ∧ Blk W gI1 3 [.int .i64 (k : Nat)] ∧ Blk W gC1 25 [.pointer (some ⟨c, 0, none⟩)] ∧ Blk W gP 23 [.slice po np cp] ∧ Below w.heap.size w W)
    (fun _ _ _ => False)
    ((dk_ownFrom _ c mb2 _ (fun k => crM picks xs k) (by omega)).and (((blk_own gI1 3 (fun k => [.int .i64 (k : Nat)])).from _).and (((blk_own gC1 25 (fun _ => [.pointer (some ⟨c, 0, none⟩)])).from _).and (((blk_own gP 23 (fun _ => [.slice po np cp])).from _).and (ownFrom_below (by omega) (by omega))))))
    (fun c => ownFrom_false _)
    ⟨hC, I1, C1, P, hb.out⟩ (ob := fun x => .cells #[.slice x.2.ao x.2.b.length x.2.cap, .int .i64 x.2.s] 61)
  case hassign =>
    intro l d x W K hd hK
    dsimp only [fEnc, fmV]
    gi_wp2
    exact hK
  case hbody =>
    rintro l k dd x W hx ⟨hC, I1, C1, P1, hbW⟩ hd hWd hsW
    have F : Blk W dd 61 [.slice x.2.ao x.2.b.length x.2.cap, .int .i64 x.2.s] := hWd
    have hkN : k < xs.length := (List.getElem?_eq_some_iff.1 hx).1
    have hxL := hmem k x hx
    have hxs2 := hS x hxL
    have hks := hG.k x hxL
    have hx3 := h0.con x hxL
    have hroom := h0.room x hxL
    have hbx := hbW
    have hn := hG.n
    have hxb : x.2.b.length ≤ 16777216 := Nat.le_trans (le_sum_mem (List.mem_map.2 ⟨x, hxL, rfl⟩)) hG.used
    obtain ⟨hcr1, hcr2⟩ := crN_bd (picks := picks) (k := k) hxs2
    obtain ⟨N, hN⟩ : ∃ N : Nat, crN picks k x = (N : Int) := ⟨(crN picks k x).toNat, by omega⟩
    rw [hN] at hcr1 hcr2
    have HN := Lib.hid hN
    have HX := Lib.hid hx
    have hkx : Kx [gI1, mb2] W W := Kx.refl _ _
    have x1 := F.cell (j := 1) rfl
    have i0 := I1.cell (j := 0) rfl
    have p0 := P1.cell (j := 0) rfl
    have hNi : ((N : Nat) : Int) ≤ (x.2.cap : Int) := by omega
    unfold crN at hN
    clear hWd hx hseq hxs hmem h h0
    rw [hnp] at hN
    by_cases hki : k < np
    · rw [if_pos hki] at hN
      have hkii : (k : Int) < (np : Int) := by omega
      have hpk : picks[k]? = some (picks.getD k 0) := by
        have : k < picks.length := by omega
        simp [this]
      obtain ⟨pb, po2, hpo, hpc⟩ := (hp.step hbW) k _ hpk
      obtain ⟨q, hq⟩ : ∃ q, picks.getD k 0 = q := ⟨_, rfl⟩
      rw [hq] at hN hpc
      have hpb := pick_bd q (x.2.b.length - x.2.s) (by omega)
      obtain ⟨u, hu⟩ : ∃ u, pickI q (x.2.b.length - x.2.s) = u := ⟨_, rfl⟩
      have cP := fun W => picked_any q (x.2.b.length - x.2.s) W (by omega) (by omega)
      simp only [hu] at hN hpb cP
      subst hpo
      gi_upto_region 10 with fail
      have hw1 : IntKind.wrap .i64 ((x.2.b.length : Int) - x.2.s) = (x.2.b.length : Int) - x.2.s := by rw [IntKind.wrap_i64]; omega
      have hw2 : IntKind.wrap .i64 (x.2.s + u) = (N : Int) := by rw [IntKind.wrap_i64]; omega
      have e0 := extA_cell (F.cell (j := 0) rfl)
      have e1 := extA_cell x1
      have e2 := extA_cell i0
      have e3 := extA_cell p0
      have e4 := extA_cell hpc
      clear x1 i0 p0 hpc
      refine wpIn_region_extR (by kernel_rfl) (by kernel_rfl) (by kernel_rfl) ?_
      repeat
        (first
          | go_big_quiet_skip
          | (go_big_quiet_want
             go_big_quiet_op
             first
               | go_big_quiet_on
               | (apply Exists.intro
                  refine ⟨fun w' hC9 => ?_, ?_⟩
                  · (first
                      | with_reducible rfl
                      | (go_at_call 29; refine (cP _).mono ?_; rintro e w2 ⟨rfl, rfl⟩; exact ⟨rfl, hC9⟩)
                      | (go_simp; done)
                      | (go_simp; with_reducible rfl))
                  go_big_quiet_on)))
      refine wpQuiet_nil ?_
      intro w6 hq6
      replace hC := hC.step hq6
      replace I1 := I1.step hq6
      replace C1 := C1.step hq6
      replace P1 := P1.step hq6
      replace F := F.step hq6
      replace hbx := Below.trans hbx (hq6.mono hbW.size)
      replace hkx := hkx.step hq6
      clear e0 e1 e2 e3 e4 hw1 hw2 hq6
      have x0 := extA_cell (F.cell (j := 0) rfl)
      have c0 := extA_cell (C1.cell (j := 0) rfl)
      have m0 := extA_cell hC.c1
      gi_upto_region 11 with fail
      refine wpIn_region_headR (C := ExtA w6) 12 (by kernel_rfl) (by decide) (by kernel_rfl) (by kernel_rfl) ⟨rfl, rfl, rfl, Nat.le_refl _, fun _ _ => rfl⟩ ?_
      simp only [List.take_succ_cons, List.take_zero]
      repeat
        (first
          | go_big_quiet_skip
          | (go_big_quiet_want
             go_big_quiet_op
             first
               | go_big_quiet_on
               | (apply Exists.intro
                  refine ⟨fun w' hC9 => ?_, ?_⟩
                  · (first
                      | with_reducible rfl
                      | fail
                      | (go_simp; done)
                      | (go_simp; with_reducible rfl))
                  go_big_quiet_on)))
      refine wpQuiet_nil ?_
      intro w7 hq7
      replace hC := hC.step hq7
      replace I1 := I1.step hq7
      replace C1 := C1.step hq7
      replace P1 := P1.step hq7
      replace hkx := hkx.step hq7
      have hx7 := hx3.step (hbx.trans (hq7.mono hbx.size))
      clear x0 c0 m0
      refine wpAnyIn_ready (rs := [12]) (by kernel_rfl) (by simp) ?_
      refine AllReadyIn.cons rfl (fun K hK => ?_) AllReadyIn.nil
      obtain ⟨w8, hrun, hM8, hk8, -⟩ := MapG.put hC.map keyS Try.underlying53 x.1 (⟨x.2.ao, N, x.2.b.take N, (N : Int)⟩ : Fm) hks (by have := crM_len picks xs k; unfold maxLen; omega)
      have hlt : (x.2.b.take N).length = N := by rw [List.length_take]; omega
      have hD8 := hC.put hk8 hM8 (hx7.pre N) (Nat.le_of_eq hlt)
      unfold fmV at hrun
      simp only [hlt] at hrun
      refine stepIn_map rfl 53 (.tmp 48) (.tmp 49) (.tmp 56) rfl rfl rfl rfl rfl hrun ?_
      refine hK _ _ ?_
      clear hK K hrun hM8
      refine wpAnyIn_done (by kernel_rfl) ?_ _
      have hI8 := hk8.blk I1 (by simp; omega)
      have hC8 := hk8.blk C1 (by simp; omega)
      have hP8 := hk8.blk P1 (by simp; omega)
      have i0 := hI8.cell (j := 0) rfl
      have g0 := hI8.frozen 0
      have hkI : Kx [gI1] w8 (w8.setCell ⟨gI1, 0, none⟩ (.int .i64 (k + 1))) := (Kx.refl _ _).setCell (.inl (by simp)) _
      have hD9 := hD8.kx hkI (by simp; omega) (by simp; omega) (fun p hp g hg => by
        rcases hD8.con p hp with ⟨h1, -⟩ | ⟨g', h1, h2⟩
        · rw [h1] at hg; cases hg
        · rw [h1] at hg
          cases hg
          have := h2.ne_any hI8 (by decide)
          simpa using this)
      have hI9 := hI8.set 0 (.int .i64 ((k + 1 : Nat) : Int))
      have hkk : Kx [gI1, mb2] W (w8.setCell ⟨gI1, 0, none⟩ (.int .i64 (k + 1))) := (hkx.trans (hk8.mono (by simp))).trans (hkI.mono (by simp))
      have hkf : KeepsFrom w5.heap.size W (w8.setCell ⟨gI1, 0, none⟩ (.int .i64 (k + 1))) := keepsFrom_kx hkk (by intro x hx; simp at hx; rcases hx with rfl | rfl <;> omega)
      have hb9 : Below w.heap.size w (w8.setCell ⟨gI1, 0, none⟩ (.int .i64 (k + 1))) := Below.trans hbW (hkk.below (B := w.heap.size) (by have := hbW.size; omega) (by intro x hx; simp at hx; rcases hx with rfl | rfl <;> omega))
      clear hq7 hx7 hkx
      gi_wp2
      refine ⟨hkf, by simpa using KbC.of_kx hkk, ?_, hI9, hkI.blk hC8 (by simp; omega), hkI.blk hP8 (by simp; omega), hb9.mono (by omega)⟩
      have : crM picks xs (k + 1) = putG (crM picks xs k) x.1 ⟨x.2.ao, N, x.2.b.take N, (N : Int)⟩ := by
        show (match xs[k]? with | some x => putG (crM picks xs k) x.1 (crF picks k x) | none => crM picks xs k) = _
        rw [HX.out]
        simp only [crF, HN.out]
        rfl
      rw [this]
      exact hD9
    · rw [if_neg hki] at hN
      have hkii : ¬ (k : Int) < (np : Int) := by omega
      rw [hN] at x1
      have x0 := extA_cell (F.cell (j := 0) rfl)
      have c0 := extA_cell (C1.cell (j := 0) rfl)
      have m0 := extA_cell hC.c1
      gi_upto_region 11 with fail
      refine wpIn_region_headR (C := ExtA W) 12 (by kernel_rfl) (by decide) (by kernel_rfl) (by kernel_rfl) ⟨rfl, rfl, rfl, Nat.le_refl _, fun _ _ => rfl⟩ ?_
      simp only [List.take_succ_cons, List.take_zero]
      repeat
        (first
          | go_big_quiet_skip
          | (go_big_quiet_want
             go_big_quiet_op
             first
               | go_big_quiet_on
               | (apply Exists.intro
                  refine ⟨fun w' hC9 => ?_, ?_⟩
                  · (first
                      | with_reducible rfl
                      | fail
                      | (go_simp; done)
                      | (go_simp; with_reducible rfl))
                  go_big_quiet_on)))
      refine wpQuiet_nil ?_
      intro w7 hq7
      replace hC := hC.step hq7
      replace I1 := I1.step hq7
      replace C1 := C1.step hq7
      replace P1 := P1.step hq7
      replace hkx := hkx.step hq7
      have hx7 := hx3.step (hbx.trans (hq7.mono hbx.size))
      clear x0 c0 m0
      refine wpAnyIn_ready (rs := [12]) (by kernel_rfl) (by simp) ?_
      refine AllReadyIn.cons rfl (fun K hK => ?_) AllReadyIn.nil
      obtain ⟨w8, hrun, hM8, hk8, -⟩ := MapG.put hC.map keyS Try.underlying53 x.1 (⟨x.2.ao, N, x.2.b.take N, (N : Int)⟩ : Fm) hks (by have := crM_len picks xs k; unfold maxLen; omega)
      have hlt : (x.2.b.take N).length = N := by rw [List.length_take]; omega
      have hD8 := hC.put hk8 hM8 (hx7.pre N) (Nat.le_of_eq hlt)
      unfold fmV at hrun
      simp only [hlt] at hrun
      refine stepIn_map rfl 53 (.tmp 48) (.tmp 49) (.tmp 56) rfl rfl rfl rfl rfl hrun ?_
      refine hK _ _ ?_
      clear hK K hrun hM8
      refine wpAnyIn_done (by kernel_rfl) ?_ _
      have hI8 := hk8.blk I1 (by simp; omega)
      have hC8 := hk8.blk C1 (by simp; omega)
      have hP8 := hk8.blk P1 (by simp; omega)
      have i0 := hI8.cell (j := 0) rfl
      have g0 := hI8.frozen 0
      have hkI : Kx [gI1] w8 (w8.setCell ⟨gI1, 0, none⟩ (.int .i64 (k + 1))) := (Kx.refl _ _).setCell (.inl (by simp)) _
      have hD9 := hD8.kx hkI (by simp; omega) (by simp; omega) (fun p hp g hg => by
        rcases hD8.con p hp with ⟨h1, -⟩ | ⟨g', h1, h2⟩
        · rw [h1] at hg; cases hg
        · rw [h1] at hg
          cases hg
          have := h2.ne_any hI8 (by decide)
          simpa using this)
      have hI9 := hI8.set 0 (.int .i64 ((k + 1 : Nat) : Int))
      have hkk : Kx [gI1, mb2] W (w8.setCell ⟨gI1, 0, none⟩ (.int .i64 (k + 1))) := (hkx.trans (hk8.mono (by simp))).trans (hkI.mono (by simp))
      have hkf : KeepsFrom w5.heap.size W (w8.setCell ⟨gI1, 0, none⟩ (.int .i64 (k + 1))) := keepsFrom_kx hkk (by intro x hx; simp at hx; rcases hx with rfl | rfl <;> omega)
      have hb9 : Below w.heap.size w (w8.setCell ⟨gI1, 0, none⟩ (.int .i64 (k + 1))) := Below.trans hbW (hkk.below (B := w.heap.size) (by have := hbW.size; omega) (by intro x hx; simp at hx; rcases hx with rfl | rfl <;> omega))
      clear hq7 hx7 hkx
      gi_wp2
      refine ⟨hkf, by simpa using KbC.of_kx hkk, ?_, hI9, hkI.blk hC8 (by simp; omega), hkI.blk hP8 (by simp; omega), hb9.mono (by omega)⟩
      have : crM picks xs (k + 1) = putG (crM picks xs k) x.1 ⟨x.2.ao, N, x.2.b.take N, (N : Int)⟩ := by
        show (match xs[k]? with | some x => putG (crM picks xs k) x.1 (crF picks k x) | none => crM picks xs k) = _
        rw [HX.out]
        simp only [crF, HN.out]
        rfl
      rw [this]
      exact hD9
  case hdone =>
    rintro D' W hD ⟨hC, I1, C1, P1, hbW⟩ hDf
    have c0 := C1.cell (j := 0) rfl
    have HDf := Lib.hid hDf
    clear hDf
    clear hseq I1 P1
    gi_wp2
    exact leaves_list w5.heap.size [D'] rfl (fun D'' h => by simp at h; subst h; exact ⟨hD, HDf.out⟩) (by simp) (v := .tuple #[.pointer (some ⟨c, 0, none⟩), .int .i64 0]) (fun W' hbW' hcW => by
      refine ⟨by simp [results, Try.results9, go_sem], ⟨c, rfl, by omega, mb2, by omega, hC.same (hbW'.block mb2 (by omega)) hcW⟩, ?_⟩
      exact Below.mono (Below.trans hbW (hbW'.mono (by omega))) (by omega))
  case hstop =>
    rintro D c k W hD hk h hDf
    exact h.elim
end Go.Proofs.Ytceoehjjebkgpaa
