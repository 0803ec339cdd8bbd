
/- SlotsRounds: a choir's rounds are those of the document, twice over, and one may leave them. -/
import Derived.Test.YtkpgdchhdhkpdaaSlS
import Derived.Sort.CutIn
import Derived.Test.YtkpgdchhdhkpdaaReads
namespace Go.Proofs.Ytkpgdchhdhkpdaa
open Go.RowKit Go.Shelf
attribute [local go_sem] Oper.semAt_some

theorem eql_seq2 (fn : Fn) (x y : Array Value) (w : World) : (binOp .eql 49 (.func fn x y) .nilFunc).run Try.prog w = .ok (.bool false) w := by kernel_rfl
theorem rounds_quo {c : Int} (hr : rightB c = true) : (4096 + c - 1).tdiv c = ((roundsL c).length : Int) := by
  rcases right_cases hr with rfl | rfl | rfl | rfl <;> simp [roundsL, rightB, roundsN]
theorem ext_cell2 {W : World} {p : Addr} {v : Value} (h : W.cell? p = some v) (W' : World) (hx : ExtR W W') : W'.cell? p = some v := (Below.cell hx (World.block_lt_of_cell? W _ h)).trans h
theorem kx_drop {ws ws' : List Nat} {A W : World} (h : Kx ws A W) (hs : ∀ x, x ∈ ws → x ∈ ws' ∨ A.heap.size ≤ x) : Kx ws' A W :=
  ⟨h.os, h.tape, h.output, h.size, fun k hk hw => h.block k hk (fun e => by rcases hs k e with h | h; exact hw h; omega)⟩
theorem rounds_bd {c : Int} (hr : rightB c = true) : ((roundsL c).length : Int) ≤ 4096 := by
  rcases right_cases hr with rfl | rfl | rfl | rfl <;> simp [roundsL, rightB, roundsN]
theorem round_get {c : Int} {k x K : Nat} (hK : (roundsL c).length = K) (h : (roundsL c)[k]? = some x) : x = k ∧ rightB c = true ∧ k < roundsN c.toNat ∧ K = roundsN c.toNat := by
  unfold roundsL at *
  cases hr : rightB c
  · simp [hr] at h
  · simp only [hr, if_true, List.length_range] at h hK
    rw [List.getElem?_eq_some_iff] at h
    obtain ⟨h1, h2⟩ := h
    simp at h1 h2
    exact ⟨h2.symm, rfl, h1, hK.symm⟩
theorem ints_own2 {W : World} {base : Nat} {v : Value} {xs : List Int} (h : OwnInts W base v xs) : ∃ ao cap, v = .slice ao xs.length cap ∧ ∀ (j : Nat) (x : Int), xs[j]? = some x → ∃ g, ao = some ⟨g, 0, none⟩ ∧ base ≤ g ∧ g < W.heap.size ∧ W.cell? ⟨g, j, none⟩ = some (.int .i64 x) := by
  obtain ⟨h1, h2⟩ := id h
  rcases h2 with ⟨rfl, h0⟩ | ⟨g, cap, cur, hv, hg, hh, r1, r2, r3⟩
  · have : xs = [] := by simpa using h0
    subst this
    exact ⟨none, 0, rfl, fun j x hx => by simp at hx⟩
  · refine ⟨_, cap, hv, fun j x hx => ⟨g, rfl, hg, (Array.getElem?_eq_some_iff.1 hh).1, ?_⟩⟩
    have := World.ownsRow.cells h (g := g) (by rw [hv]; rfl) j (.int .i64 x) (by simp [hx])
    simpa [Addr.add_lit] using this
set_option maxRecDepth 100000 in
set_option maxHeartbeats 4000000 in
theorem SlotsRounds_walk (c m : Int) (w : World) (_ : -9223372036854775808 ≤ c ∧ c ≤ 9223372036854775807) (hm : -9223372036854775808 ≤ m ∧ m ≤ 9223372036854775807) :
    Calls Try.prog 9 #[.int .i64 c, .int .i64 m] w fun e w' => e = .returned (.bool true) ∧ Below w.heap.size w w' := by
  refine callsIn_wide (n := 3).1 ?_
  obtain ⟨m1, m2⟩ := hm
  obtain ⟨K, hK⟩ : ∃ K, (roundsL c).length = K := ⟨_, rfl⟩
  obtain ⟨br, hbr⟩ : ∃ b, rightB c = b := ⟨_, rfl⟩
  have HK := Lib.hid hK
  clear hK
  have HB := Lib.hid hbr
  clear hbr
  refine callsIn_of_wp_marks Try.func9 rfl trivial ?_ rfl
  simp only [Try.ntmps9, List.size_toArray, List.length_cons, List.length_nil, Nat.reduceAdd, Nat.reduceSub, Array.replicate_succ, Array.replicate_zero, List.push_toArray, List.append_toArray, List.nil_append, List.cons_append]
  gi_wp2_with (apply wpIn_label)
  refine ⟨trivial, ?_⟩
  refine (callsIn_wide.2 (refRight_at _ _ HB.out _)).mono ?_
  rintro e w1 ⟨rfl, rfl⟩
  gi_upto_if 14 with fail
  gi_cut [] from 13 (fun w' => w' = ((((w.alloc (.cells #[.int .i64 c] 3)).alloc (.cells #[.int .i64 m] 3)).alloc (.cells #[.bool false] 4)).alloc (.cells #[.int .i64 K] 3)))
  case first =>
    cases br
    · have hk0 : K = 0 := by have := HK.out; simp [roundsL, HB.out] at this; exact this.symm
      subst hk0
      gi_wp2_with fail
      gi_meet
      case rel => rfl
    · have hq := rounds_quo HB.out
      rw [HK.out] at hq
      obtain ⟨hc3, hc9⟩ := right_bd HB.out
      have hK0 : (0 : Int) ≤ (K : Int) := by omega
      have hK1 : (K : Int) ≤ 4096 := by rw [← HK.out]; exact rounds_bd HB.out
      gi_wp2_with fail
      gi_meet
      case rel => rfl
  case rest =>
    subst hcut
    have heq := eql_seq2
    obtain ⟨W0, hW0⟩ : ∃ W0, ((((w.alloc (.cells #[.int .i64 c] 3)).alloc (.cells #[.int .i64 m] 3)).alloc (.cells #[.bool false] 4)).alloc (.cells #[.int .i64 K] 3)) = W0 := ⟨_, rfl⟩
    have E0 : Boxed W0 w.heap.size 3 (.int .i64 c) := hW0 ▸ (((Boxed.new w _ _).alloc _).alloc _).alloc _
    have E1 : Boxed W0 (w.heap.size + 1) 3 (.int .i64 m) := by
      have h := ((Boxed.new (w.alloc (.cells #[.int .i64 c] 3)) 3 (.int .i64 m)).alloc (.cells #[.bool false] 4)).alloc (.cells #[.int .i64 K] 3)
      rw [hW0] at h; simpa using h
    have E2 : Boxed W0 (w.heap.size + 2) 4 (.bool false) := by
      have h := (Boxed.new ((w.alloc (.cells #[.int .i64 c] 3)).alloc (.cells #[.int .i64 m] 3)) 4 (.bool false)).alloc (.cells #[.int .i64 K] 3)
      rw [hW0] at h; simpa using h
    have E3 : Boxed W0 (w.heap.size + 3) 3 (.int .i64 K) := by
      have h := Boxed.new (((w.alloc (.cells #[.int .i64 c] 3)).alloc (.cells #[.int .i64 m] 3)).alloc (.cells #[.bool false] 4)) 3 (.int .i64 K)
      rw [hW0] at h; simpa using h
    have hB0 : Below w.heap.size w W0 := hW0 ▸ ((((Below.refl _ w).alloc (Nat.le_refl _) _).alloc (by simp) _).alloc (by simp; omega) _).alloc (by simp; omega) _
    have z0 : W0.heap.size = w.heap.size + 4 := by rw [← hW0]; simp
    rw [hW0]
    clear hW0
    have e0 := E0.cell
    gi_wp2_with (apply wpIn_label)
    refine ⟨trivial, ?_⟩
    refine (callsIn_wide.2 (roundsC _ _)).mono ?_
    rintro e w1 ⟨rfl, A0, b1⟩
    rw [z0] at A0 ⊢
    clear e0
    replace E0 := box_step E0 b1
    replace E1 := box_step E1 b1
    replace E2 := box_step E2 b1
    replace E3 := box_step E3 b1
    have hB1 := hB0.trans (b1.mono hB0.size)
    have hseq := rounds_g c (w.heap.size + 4) w1 A0
    clear hB0 z0 b1
    unfold RoundsF
    gi_wp2_with fail
    refine wpIn_loop_rounds 3 ?_
    rw [roundsIn_succ]
    gi_wp2
    obtain ⟨W4, hW4⟩ : ∃ W4, (w1.alloc (.cells #[.int .i64 0] 3)).alloc (.cells #[.int .i64 0] 3) = W4 := ⟨_, rfl⟩
    obtain ⟨b4, hb4⟩ : ∃ b4, w1.heap.size = b4 := ⟨_, rfl⟩
    have l3 := A0.lt
    have z4 : W4.heap.size = b4 + 2 := by rw [← hW4, ← hb4]; simp
    replace A0 : Boxed W4 (w.heap.size + 4) 25 (.int .i64 c) := hW4 ▸ (A0.alloc _).alloc _
    replace E0 : Boxed W4 w.heap.size 3 (.int .i64 c) := hW4 ▸ (E0.alloc _).alloc _
    replace E1 : Boxed W4 (w.heap.size + 1) 3 (.int .i64 m) := hW4 ▸ (E1.alloc _).alloc _
    replace E2 : Boxed W4 (w.heap.size + 2) 4 (.bool false) := hW4 ▸ (E2.alloc _).alloc _
    replace E3 : Boxed W4 (w.heap.size + 3) 3 (.int .i64 K) := hW4 ▸ (E3.alloc _).alloc _
    have A3 : Boxed W4 b4 3 (.int .i64 0) := hW4 ▸ hb4 ▸ (Boxed.new w1 _ _).alloc _
    have A4 : Boxed W4 (b4 + 1) 3 (.int .i64 0) := by
      have := Boxed.new (w1.alloc (.cells #[.int .i64 0] 3)) 3 (.int .i64 0)
      rw [World.size_alloc, hb4, hW4] at this; exact this
    have HSQ : Hid (∀ W, Below w1.heap.size w1 W → SeqG Try.prog 40 #[.pointer (some ⟨w.heap.size + 4, 0, none⟩)] (encR c.toNat) (roundsL c) (fun k => k = w.heap.size + 4) (MR c.toNat) W) := Lib.hid (fun W h => hseq.later h)
    have hS4 : Below w1.heap.size w1 W4 := hW4 ▸ ((Below.refl w1.heap.size w1).alloc (Nat.le_refl _) _).alloc (by simp) _
    clear hseq
    have hB4 : Below w.heap.size w W4 := hW4 ▸ (hB1.alloc hB1.size _).alloc (by simp; have := hB1.size; omega) _
    rw [hW4]
    simp only [hb4] at *
    clear hW4 hB1
    apply wpIn_range_g 40 #[.pointer (some ⟨w.heap.size + 4, 0, none⟩)] rfl (enters_of Try.func40 (by kernel_rfl) rfl) (fun k => k = w.heap.size + 4) (HSQ.out W4 hS4) (fun k hk => by omega) (Below.refl _ _) (fun _ _ => rfl)
      (fun k W => (k = 0 ∨ (k : Int) < m) ∧ Boxed W (b4 + 1) 3 (.int .i64 k) ∧ Kx [b4 + 1] W4 W)
      (fun c k W => (c = .exit 2 ∧ m ≤ k ∧ (k = 1 ∨ (k : Int) ≤ m)) ∧ Boxed W (b4 + 1) 3 (.int .i64 k) ∧ Kx [b4 + 1] W4 W)
      ((ownFrom_pure _ _).and (((boxed_own _ _ _).from _).and (ownFrom_kx _ _)))
      (fun c => (ownFrom_pure _ _).and (((boxed_own _ _ _).from _).and (ownFrom_kx _ _)))
      ⟨.inl rfl, A4, Kx.refl _ _⟩
    case hassign =>
      intro l g x W K hK
      dsimp only [encR]
      gi_wp2
      exact hK
    case hbody =>
      rintro l k g x W hg hx ⟨hk, D4, hW⟩ hM hsW
      obtain ⟨rfl, hr, hkK, hKn⟩ := round_get HK.out hx
      obtain ⟨n, rfl, hn3, hn9, hlt, hst⟩ := round_facts hr
      simp only [Int.toNat_natCast] at hM hkK hKn ⊢
      have ho := (hlt x).1 hkK
      obtain ⟨hoff, hl1, hon⟩ := hst x ho
      have hln : lnN n x = min n (4096 - offN n x) := rfl
      obtain ⟨cs, hcs, hcl, hcg⟩ := hM
      obtain ⟨off, hof⟩ : ∃ off, offN n x = off := ⟨_, rfl⟩
      obtain ⟨mm, hmm⟩ : ∃ mm, lnN n x = mm := ⟨_, rfl⟩
      rw [hof] at ho hoff hcg hln
      rw [hof, hmm] at hon
      rw [hmm] at hln hl1
      simp only [hof, hmm]
      have D0 := hW.box E0 (by simp; omega)
      have D1 := hW.box E1 (by simp; omega)
      have D3 := hW.box E3 (by simp; omega)
      have DT := hW.box A3 (by simp)
      have c0 := D0.cell
      have c4 := D4.cell
      have cR := refRound_ok n x off mm hn3 hn9 hoff.symm ho hln
      have HOFF := Lib.hid (show x * n = off ∧ offN n (x + 1) = off + mm ∧ off + mm ≤ 4096 ∧ 1 ≤ mm ∧ off < 4096 from ⟨hoff.symm, hon, by omega, hl1, ho⟩)
      have hgl : g < W.heap.size := (Array.getElem?_eq_some_iff.1 hcs).1
      clear hof hmm hoff hl1 hon hln hlt hst ho hr
      gi_wp2_with (apply wpIn_label)
      refine ⟨trivial, ?_⟩
      refine (CallsIn.inRound _ (callsIn_wide.2 (cR _))).mono ?_
      rintro e w5 ⟨v, rfl, ho5, b5⟩
      clear c0 c4 cR
      obtain ⟨ao, cap, rfl, hcells⟩ := ints_own2 ho5
      clear ho5
      rw [rnd_len]
      have G5 : Blk w5 g 3 cs := Blk.step (show Blk W g 3 cs from hcs) b5
      replace D1 := box_step D1 b5
      replace D3 := box_step D3 b5
      replace D4 := box_step D4 b5
      replace DT := box_step DT b5
      have hW5 := hW.step b5
      have KO5 : KeepsOthers W w5 := others_below b5
      have KB5 : w5.heap[w.heap.size + 4]? = W.heap[w.heap.size + 4]? := b5.block _ (by have := A0.lt; omega)
      have c3 := D3.cell
      have c4 := D4.cell
      have hx1 : (x : Int) < (K : Int) := by omega
      have hx2 : x < K := by omega
      have hx0 : (0 : Int) ≤ (x : Int) := by omega
      clear hcs hkK hKn b5
      have HC := Lib.hid hcells
      clear hcells
      have HW5 := Lib.hid hW5
      clear hW5
      have HKO5 := Lib.hid KO5
      clear KO5
      have HKB := Lib.hid KB5
      clear KB5
      clear hx
      gi_wp2_with fail
      clear c3 c4
      gi_loopw [12] (fun s wr => ∃ j : Nat, j ≤ mm ∧ s = .int .i64 j ∧ Hid (∃ cs, Blk wr g 3 cs ∧ cs.length = 4096 ∧ (∀ i, off + j ≤ i → i < 4096 → cs[i]? = some (.int .i64 i)) ∧ Kx [g] w5 wr ∧ KeepsOthers w5 wr)) (fun s _ => mm - (intOf s).toNat)
      case atStart => exact ⟨0, by omega, rfl, Lib.hid ⟨cs, G5, hcl, fun i h1 h2 => hcg i (by omega) h2, Kx.refl _ _, KeepsOthers.refl _⟩⟩
      case' round =>
        obtain ⟨j, hj, rfl, hI⟩ := hrel
        by_cases hltj : j < mm
        · obtain ⟨cs2, G, hl2, hc2, hKx, hKO⟩ := hI.out
          obtain ⟨gv, rfl, hgv1, hgv2, hcv⟩ := HC.out j _ (rnd_get hltj)
          obtain ⟨s, hs⟩ : ∃ s, off + j = s := ⟨_, rfl⟩
          have hs4 : s < 4096 := by have := HOFF.out; omega
          have cl : wr.cell? ⟨g, off + j, none⟩ = some (.int .i64 (s : Int)) := by rw [hs]; exact G.cell (hc2 s (by omega) hs4)
          have cv : wr.cell? ⟨gv, j, none⟩ = some (.int .i64 (s : Int)) := by rw [← hs]; exact (World.cell?_of_block (hKx.block gv hgv2 (by simp; omega))).trans hcv
          have zl : wr.frozen? ⟨g, off + j, none⟩ = false := G.frozen _
          have hj0 : (0 : Int) ≤ (j : Int) := by omega
          have hj1 : (j : Int) < (mm : Int) := by omega
          have hj2 : (j : Int) < 4096 := by have := HOFF.out; omega
          have hs0 : (0 : Int) ≤ (s : Int) := by omega
          have hs1 : (s : Int) < 4096 := by omega
          have HSS := Lib.hid hs
          have HJ := Lib.hid hltj
          clear hs
          have cl' := ext_cell2 cl
          have cv' := ext_cell2 cv
          clear cl cv zl
          gi_wp2_with fail
          refine wpIn_region_reads (by kernel_rfl) (by kernel_rfl) rfl ?_
          repeat
            (first
              | go_big_quiet_skip
              | (go_big_quiet_want
                 go_big_quiet_op
                 first
                   | go_big_quiet_on
                   | (apply Exists.intro
                      refine ⟨fun w' hC => ?_, ?_⟩
                      · (first
                          | with_reducible rfl
                          | (go_simp; done)
                          | (go_simp; with_reducible rfl))
                      go_big_quiet_on)))
          refine wpQuiet_nil ?_
          intro wq hq
          have cl := cl' wq hq
          have zl : wq.frozen? ⟨g, off + j, none⟩ = false := (Blk.step G hq).frozen _
          have HR := Lib.hid (show ∃ cs, Blk (wq.setCell ⟨g, off + j, none⟩ (.int .i64 ((s : Int) + 1))) g 3 cs ∧ cs.length = 4096 ∧ (∀ i, off + (j + 1) ≤ i → i < 4096 → cs[i]? = some (.int .i64 i)) ∧ Kx [g] w5 (wq.setCell ⟨g, off + j, none⟩ (.int .i64 ((s : Int) + 1))) ∧ KeepsOthers w5 (wq.setCell ⟨g, off + j, none⟩ (.int .i64 ((s : Int) + 1))) from
            ⟨_, (Blk.step G hq).set (off + j) _, by simp [hl2], fun i h1 h2 => by rw [List.getElem?_set_ne (by omega)]; exact hc2 i (by omega) h2, (Kx.step hKx hq).setCell (.inl (by simp)) _, (hKO.trans (others_below hq)).trans (KeepsOthers.setCell _ _ _)⟩)
          clear hI G hl2 hc2 hKx hKO hcv HSS hgv1 hgv2 cl' cv' hq
          gi_wp2_with fail
          go_roundw
          case rel => exact ⟨j + 1, by have := HJ.out; omega, by go_num, HR⟩
          case measure => (have := HJ.out; simp [intOf]; omega)
      ·
        obtain rfl : j = mm := by omega
        obtain ⟨cs2, G, hl2, hc2, hKx, hKO⟩ := hI.out
        obtain ⟨y1, y2, y3, y4, y5⟩ := HOFF.out
        have hlg := G5.lt
        replace D1 := hKx.box D1 (by simp; omega)
        replace D4 := hKx.box D4 (by simp; omega)
        replace DT := hKx.box DT (by simp; omega)
        have hWr : Kx [b4 + 1] W4 wr := kx_drop ((HW5.out.mono (ws' := [b4 + 1, g]) (by simp)).trans (hKx.mono (ws' := [b4 + 1, g]) (by simp))) (fun y hy => (by
          simp at hy
          rcases hy with rfl | rfl
          · exact .inl (by simp)
          · exact .inr (by omega)))
        have KF : KeepsFrom W4.heap.size W (wr.setCell ⟨b4 + 1, 0, none⟩ (.int .i64 ((x + 1 : Nat) : Int))) := ((HKO5.out.trans hKO).trans (KeepsOthers.setCell _ _ _)).from _
        have KBr : Kb (fun k => k = w.heap.size + 4) W (wr.setCell ⟨b4 + 1, 0, none⟩ (.int .i64 ((x + 1 : Nat) : Int))) := fun q hq => by
          subst hq
          exact (Below.heap_setCell wr ⟨b4 + 1, 0, none⟩ _ _ (by show w.heap.size + 4 ≠ b4 + 1; omega)).trans ((hKx.block _ (by have := HW5.out.size; have := A0.lt; omega) (by have := A0.lt; simp; omega)).trans HKB.out)
        have hM2 : MR n (x + 1) (wr.setCell ⟨b4 + 1, 0, none⟩ (.int .i64 ((x + 1 : Nat) : Int))).heap[g]? := ⟨cs2, G.other (by omega) _ _, hl2, fun i h1 h2 => hc2 i (by omega) h2⟩
        have hD4 := D4.set (.int .i64 ((x + 1 : Nat) : Int))
        have hWr2 := hWr.setCell (p := ⟨b4 + 1, 0, none⟩) (.inl (by simp)) (.int .i64 ((x + 1 : Nat) : Int))
        have c1 := D1.cell
        have c4 := D4.cell
        have f4 := D4.frozen
        have cT := DT.cell
        have HKF := Lib.hid KF
        clear KF
        have HKBr := Lib.hid KBr
        clear KBr
        have HM2 := Lib.hid hM2
        clear hM2
        have HD4 := Lib.hid hD4
        clear hD4
        have HWR := Lib.hid hWr2
        clear hWr2
        have hxb : (x : Int) ≤ 4096 := by have := Nat.le_mul_of_pos_right x (show 0 < n by omega); omega
        clear hI G hc2 hKx hKO hWr D1 D4 DT y1 y2 y3 y4 y5
        by_cases hmk : m ≤ (x : Int) + 1
        · gi_wp2
          rw [show (x : Int) + 1 = ((x + 1 : Nat) : Int) by omega]
          first
            | exact ⟨HKF.out, ⟨rfl, by omega, by omega⟩, HD4.out, HWR.out⟩
            | (have q := HKF.out; rw [z4] at q; exact ⟨q, ⟨rfl, by omega, by omega⟩, HD4.out, HWR.out⟩)
        · gi_wp2
          rw [show (x : Int) + 1 = ((x + 1 : Nat) : Int) by omega]
          first
            | exact ⟨HKF.out, HKBr.out, HM2.out, by omega, HD4.out, HWR.out⟩
            | (have q := HKF.out; rw [z4] at q; exact ⟨q, HKBr.out, HM2.out, by omega, HD4.out, HWR.out⟩)
    case' hdone =>
      rintro D W hD ⟨hk, D4, hW⟩ hK
      rw [HK.out] at D4 hk
      obtain ⟨nn, hnn⟩ : ∃ nn, K = nn := ⟨_, rfl⟩
      have hmn : ∀ mx : Int, (if 1 < m then m else 1) = mx → (if mx < (K : Int) then mx else (K : Int)) = (nn : Int) := by intro mx h; split at h <;> split <;> omega
      rw [hnn] at D4
      clear hk hnn
    case' hstop =>
      rintro D c k W hD hk ⟨⟨rfl, hk1, hk2⟩, D4, hW⟩ hK
      rw [HK.out] at hk
      obtain ⟨nn, hnn⟩ : ∃ nn, k + 1 = nn := ⟨_, rfl⟩
      have hmn : ∀ mx : Int, (if 1 < m then m else 1) = mx → (if mx < (K : Int) then mx else (K : Int)) = (nn : Int) := by intro mx h; split at h <;> split <;> omega
      rw [hnn] at D4
      clear hk hk1 hk2 hnn
    all_goals
      obtain ⟨mx, hmx⟩ : ∃ mx : Int, (if 1 < m then m else 1) = mx := ⟨_, rfl⟩
      have hmn := hmn mx hmx
      have D0 := hW.box E0 (by simp; omega)
      have D1 := hW.box E1 (by simp; omega)
      have D2 := hW.box E2 (by simp; omega)
      have D3 := hW.box E3 (by simp; omega)
      have DR := hW.box A0 (by simp; omega)
      have DT := hW.box A3 (by simp)
      have c1 := D1.cell
      have c3 := D3.cell
      have c4 := D4.cell
      have cT := DT.cell
      gi_wp2
      clear c1 c3 c4 cT hmx hmn
      rw [roundsIn_succ]
      gi_wp2
      obtain ⟨W6, hW6⟩ : ∃ W6, (W.alloc (.cells #[.int .i64 1] 3)).alloc (.cells #[.int .i64 0] 3) = W6 := ⟨_, rfl⟩
      obtain ⟨b5, hb5⟩ : ∃ b5, W.heap.size = b5 := ⟨_, rfl⟩
      have l4 := D4.lt
      have z5 := hW.size
      have z6 : W6.heap.size = b5 + 2 := by rw [← hW6, ← hb5]; simp
      have lD := (Array.getElem?_eq_some_iff.1 hK).1
      have hX6 : Kx [b4 + 1] W4 W6 := hW6 ▸ (hW.alloc _).alloc _
      clear A0 E0 E1 E2 E3 A3 A4
      have A0 : Boxed W6 (w.heap.size + 4) 25 (.int .i64 c) := hW6 ▸ (DR.alloc _).alloc _
      have E0 : Boxed W6 w.heap.size 3 (.int .i64 c) := hW6 ▸ (D0.alloc _).alloc _
      have E1 : Boxed W6 (w.heap.size + 1) 3 (.int .i64 m) := hW6 ▸ (D1.alloc _).alloc _
      have E2 : Boxed W6 (w.heap.size + 2) 4 (.bool false) := hW6 ▸ (D2.alloc _).alloc _
      have E3 : Boxed W6 (w.heap.size + 3) 3 (.int .i64 K) := hW6 ▸ (D3.alloc _).alloc _
      have A3 : Boxed W6 b5 3 (.int .i64 1) := hW6 ▸ hb5 ▸ (Boxed.new W _ _).alloc _
      have A4 : Boxed W6 (b5 + 1) 3 (.int .i64 0) := by
        have := Boxed.new (W.alloc (.cells #[.int .i64 1] 3)) 3 (.int .i64 0)
        rw [World.size_alloc, hb5, hW6] at this; exact this
      clear DR D0 D1 D2 D3 DT D4
      have hS6 := hS4.trans (hX6.below (by omega) (by simp))
      have hB6 := hB4.trans (hX6.below (by have := hB4.size; omega) (by simp; have := hB4.size; omega))
      have hD6 : W6.heap[D]? = some (.deferred (some [])) := by rw [← hW6]; exact (Below.heap_alloc _ _ _ (by simp; omega)).trans ((Below.heap_alloc _ _ _ lD).trans hK)
      rw [hW6]
      simp only [hb5] at *
      clear hW6 hK
      have hseq2 := HSQ.out W6 hS6
      clear HSQ hX6 hS6 hS4
      apply wpIn_range_g 40 #[.pointer (some ⟨w.heap.size + 4, 0, none⟩)] rfl (enters_of Try.func40 (by kernel_rfl) rfl) (fun k => k = w.heap.size + 4) hseq2 (fun k hk => by omega) (Below.refl _ _) (fun _ _ => rfl)
        (fun k W => Boxed W (b5 + 1) 3 (.int .i64 k) ∧ Kx [b5 + 1] W6 W)
        (fun _ _ _ => False)
        (((boxed_own _ _ _).from _).and (ownFrom_kx _ _))
        (fun _ _ _ _ _ h _ _ => h)
        ⟨A4, Kx.refl _ _⟩
      case hassign =>
        intro l g x W K hK
        dsimp only [encR]
        gi_wp2
        exact hK
      case hbody =>
        clear hseq2
        rintro l k g x W hg hx ⟨D4, hW⟩ hM hsW
        obtain ⟨rfl, hr, hkK, hKn⟩ := round_get HK.out hx
        obtain ⟨n, rfl, hn3, hn9, hlt, hst⟩ := round_facts hr
        simp only [Int.toNat_natCast] at hM hkK hKn ⊢
        have ho := (hlt x).1 hkK
        obtain ⟨hoff, hl1, hon⟩ := hst x ho
        have hln : lnN n x = min n (4096 - offN n x) := rfl
        obtain ⟨cs, hcs, hcl, hcg⟩ := hM
        obtain ⟨off, hof⟩ : ∃ off, offN n x = off := ⟨_, rfl⟩
        obtain ⟨mm, hmm⟩ : ∃ mm, lnN n x = mm := ⟨_, rfl⟩
        rw [hof] at ho hoff hcg hln
        rw [hof, hmm] at hon
        rw [hmm] at hln hl1
        simp only [hof, hmm]
        have D0 := hW.box E0 (by simp; omega)
        have D1 := hW.box E1 (by simp; omega)
        have D3 := hW.box E3 (by simp; omega)
        have DT := hW.box A3 (by simp)
        have c0 := D0.cell
        have c4 := D4.cell
        have cR := refRound_ok n x off mm hn3 hn9 hoff.symm ho hln
        have HOFF := Lib.hid (show x * n = off ∧ offN n (x + 1) = off + mm ∧ off + mm ≤ 4096 ∧ 1 ≤ mm ∧ off < 4096 from ⟨hoff.symm, hon, by omega, hl1, ho⟩)
        have hgl : g < W.heap.size := (Array.getElem?_eq_some_iff.1 hcs).1
        clear hof hmm hoff hl1 hon hln hlt hst ho hr
        gi_wp2_with (apply wpIn_label)
        refine ⟨trivial, ?_⟩
        refine (CallsIn.inRound _ (callsIn_wide.2 (cR _))).mono ?_
        rintro e w5 ⟨v, rfl, ho5, b5⟩
        clear c0 c4 cR
        obtain ⟨ao, cap, rfl, hcells⟩ := ints_own2 ho5
        clear ho5
        rw [rnd_len]
        have G5 : Blk w5 g 3 cs := Blk.step (show Blk W g 3 cs from hcs) b5
        replace D1 := box_step D1 b5
        replace D3 := box_step D3 b5
        replace D4 := box_step D4 b5
        replace DT := box_step DT b5
        have hW5 := hW.step b5
        have KO5 : KeepsOthers W w5 := others_below b5
        have KB5 : w5.heap[w.heap.size + 4]? = W.heap[w.heap.size + 4]? := b5.block _ (by have := A0.lt; omega)
        have c3 := D3.cell
        have c4 := D4.cell
        have hx1 : (x : Int) < (K : Int) := by omega
        have hx2 : x < K := by omega
        have hx0 : (0 : Int) ≤ (x : Int) := by omega
        clear hcs hkK hKn b5
        have HC := Lib.hid hcells
        clear hcells
        have HW5 := Lib.hid hW5
        clear hW5
        have HKO5 := Lib.hid KO5
        clear KO5
        have HKB := Lib.hid KB5
        clear KB5
        clear hx
        gi_wp2_with fail
        clear c3 c4
        gi_loopw [12] (fun s wr => ∃ j : Nat, j ≤ mm ∧ s = .int .i64 j ∧ Hid (∃ cs, Blk wr g 3 cs ∧ cs.length = 4096 ∧ (∀ i, off + j ≤ i → i < 4096 → cs[i]? = some (.int .i64 i)) ∧ Kx [g] w5 wr ∧ KeepsOthers w5 wr)) (fun s _ => mm - (intOf s).toNat)
        case atStart => exact ⟨0, by omega, rfl, Lib.hid ⟨cs, G5, hcl, fun i h1 h2 => hcg i (by omega) h2, Kx.refl _ _, KeepsOthers.refl _⟩⟩
        case' round =>
          obtain ⟨j, hj, rfl, hI⟩ := hrel
          by_cases hltj : j < mm
          · obtain ⟨cs2, G, hl2, hc2, hKx, hKO⟩ := hI.out
            obtain ⟨gv, rfl, hgv1, hgv2, hcv⟩ := HC.out j _ (rnd_get hltj)
            obtain ⟨s, hs⟩ : ∃ s, off + j = s := ⟨_, rfl⟩
            have hs4 : s < 4096 := by have := HOFF.out; omega
            have cl : wr.cell? ⟨g, off + j, none⟩ = some (.int .i64 (s : Int)) := by rw [hs]; exact G.cell (hc2 s (by omega) hs4)
            have cv : wr.cell? ⟨gv, j, none⟩ = some (.int .i64 (s : Int)) := by rw [← hs]; exact (World.cell?_of_block (hKx.block gv hgv2 (by simp; omega))).trans hcv
            have zl : wr.frozen? ⟨g, off + j, none⟩ = false := G.frozen _
            have hj0 : (0 : Int) ≤ (j : Int) := by omega
            have hj1 : (j : Int) < (mm : Int) := by omega
            have hj2 : (j : Int) < 4096 := by have := HOFF.out; omega
            have hs0 : (0 : Int) ≤ (s : Int) := by omega
            have hs1 : (s : Int) < 4096 := by omega
            have HSS := Lib.hid hs
            have HJ := Lib.hid hltj
            clear hs
            have cl' := ext_cell2 cl
            have cv' := ext_cell2 cv
            clear cl cv zl
            gi_wp2_with fail
            refine wpIn_region_reads (by kernel_rfl) (by kernel_rfl) rfl ?_
            repeat
              (first
                | go_big_quiet_skip
                | (go_big_quiet_want
                   go_big_quiet_op
                   first
                     | go_big_quiet_on
                     | (apply Exists.intro
                        refine ⟨fun w' hC => ?_, ?_⟩
                        · (first
                            | with_reducible rfl
                            | (go_simp; done)
                            | (go_simp; with_reducible rfl))
                        go_big_quiet_on)))
            refine wpQuiet_nil ?_
            intro wq hq
            have cl := cl' wq hq
            have zl : wq.frozen? ⟨g, off + j, none⟩ = false := (Blk.step G hq).frozen _
            have HR := Lib.hid (show ∃ cs, Blk (wq.setCell ⟨g, off + j, none⟩ (.int .i64 ((s : Int) + 1))) g 3 cs ∧ cs.length = 4096 ∧ (∀ i, off + (j + 1) ≤ i → i < 4096 → cs[i]? = some (.int .i64 i)) ∧ Kx [g] w5 (wq.setCell ⟨g, off + j, none⟩ (.int .i64 ((s : Int) + 1))) ∧ KeepsOthers w5 (wq.setCell ⟨g, off + j, none⟩ (.int .i64 ((s : Int) + 1))) from
              ⟨_, (Blk.step G hq).set (off + j) _, by simp [hl2], fun i h1 h2 => by rw [List.getElem?_set_ne (by omega)]; exact hc2 i (by omega) h2, (Kx.step hKx hq).setCell (.inl (by simp)) _, (hKO.trans (others_below hq)).trans (KeepsOthers.setCell _ _ _)⟩)
            clear hI G hl2 hc2 hKx hKO hcv HSS hgv1 hgv2 cl' cv' hq
            gi_wp2_with fail
            go_roundw
            case rel => exact ⟨j + 1, by have := HJ.out; omega, by go_num, HR⟩
            case measure => (have := HJ.out; simp [intOf]; omega)
        ·
          obtain rfl : j = mm := by omega
          obtain ⟨cs2, G, hl2, hc2, hKx, hKO⟩ := hI.out
          obtain ⟨y1, y2, y3, y4, y5⟩ := HOFF.out
          have hlg := G5.lt
          replace D1 := hKx.box D1 (by simp; omega)
          replace D4 := hKx.box D4 (by simp; omega)
          replace DT := hKx.box DT (by simp; omega)
          have hWr : Kx [b5 + 1] W6 wr := kx_drop ((HW5.out.mono (ws' := [b5 + 1, g]) (by simp)).trans (hKx.mono (ws' := [b5 + 1, g]) (by simp))) (fun y hy => (by
            simp at hy
            rcases hy with rfl | rfl
            · exact .inl (by simp)
            · exact .inr (by omega)))
          have KF : KeepsFrom W6.heap.size W (wr.setCell ⟨b5 + 1, 0, none⟩ (.int .i64 ((x + 1 : Nat) : Int))) := ((HKO5.out.trans hKO).trans (KeepsOthers.setCell _ _ _)).from _
          have KBr : Kb (fun k => k = w.heap.size + 4) W (wr.setCell ⟨b5 + 1, 0, none⟩ (.int .i64 ((x + 1 : Nat) : Int))) := fun q hq => by
            subst hq
            exact (Below.heap_setCell wr ⟨b5 + 1, 0, none⟩ _ _ (by show w.heap.size + 4 ≠ b5 + 1; omega)).trans ((hKx.block _ (by have := HW5.out.size; have := A0.lt; omega) (by have := A0.lt; simp; omega)).trans HKB.out)
          have hM2 : MR n (x + 1) (wr.setCell ⟨b5 + 1, 0, none⟩ (.int .i64 ((x + 1 : Nat) : Int))).heap[g]? := ⟨cs2, G.other (by omega) _ _, hl2, fun i h1 h2 => hc2 i (by omega) h2⟩
          have hD4 := D4.set (.int .i64 ((x + 1 : Nat) : Int))
          have hWr2 := hWr.setCell (p := ⟨b5 + 1, 0, none⟩) (.inl (by simp)) (.int .i64 ((x + 1 : Nat) : Int))
          have c1 := D1.cell
          have c4 := D4.cell
          have f4 := D4.frozen
          have cT := DT.cell
          have HKF := Lib.hid KF
          clear KF
          have HKBr := Lib.hid KBr
          clear KBr
          have HM2 := Lib.hid hM2
          clear hM2
          have HD4 := Lib.hid hD4
          clear hD4
          have HWR := Lib.hid hWr2
          clear hWr2
          have hxb : (x : Int) ≤ 4096 := by have := Nat.le_mul_of_pos_right x (show 0 < n by omega); omega
          clear hI G hc2 hKx hKO hWr D1 D4 DT y1 y2 y3 y4 y5
          gi_wp2
          rw [show (x : Int) + 1 = ((x + 1 : Nat) : Int) by omega]
          first
            | exact ⟨HKF.out, HKBr.out, HM2.out, HD4.out, HWR.out⟩
            | (have q := HKF.out; rw [z6] at q; exact ⟨q, HKBr.out, HM2.out, HD4.out, HWR.out⟩)
      case hstop => rintro D c k W hD hk h _; exact h.elim
      case hdone =>
        rintro E V hE ⟨E4, hV⟩ hL
        rw [HK.out] at E4
        replace E2 := hV.box E2 (by simp; omega)
        replace E3 := hV.box E3 (by simp; omega)
        have ET := hV.box A3 (by simp)
        have c1 := E2.cell
        have f1 := E2.frozen
        have c3 := E3.cell
        have c4 := E4.cell
        have cT := ET.cell
        have hDV : V.heap[D]? = some (.deferred (some [])) := hV.obj hD6 (by simp; omega)
        have hBV := hB6.trans (hV.below (B := w.heap.size) (by have := hB4.size; omega) (by simp; have := hB4.size; omega))
        gi_wp2
        rw [roundsIn_succ]
        have E1' := E2.alloc (.cells #[.int .i64 2] 3)
        have hB7 := hBV.alloc hBV.size (.cells #[.int .i64 2] 3)
        have hD7 := (Below.heap_alloc V (.cells #[.int .i64 2] 3) D (Array.getElem?_eq_some_iff.1 hDV).1).trans hDV
        have hE7 := (Below.heap_alloc V (.cells #[.int .i64 2] 3) E (Array.getElem?_eq_some_iff.1 hL).1).trans hL
        clear c1 f1 c3 c4 cT
        gi_wp2_with fail
        refine ⟨trivial, ?_⟩
        refine (callsIn_wide.2 (works_any _)).mono ?_
        rintro e w9 ⟨rfl, hb9⟩
        have F1 := box_below E1' hb9 E1'.lt
        have c1 := F1.cell
        have f1 := F1.frozen
        have hB9 := hB7.trans (hb9.mono hB7.size)
        have hD9 := (hb9.block D (Array.getElem?_eq_some_iff.1 hD7).1).trans hD7
        have hE9 := (hb9.block E (Array.getElem?_eq_some_iff.1 hE7).1).trans hE7
        gi_wp2
        have G1 := F1.set (.bool true)
        have hD10 := (KeepsOthers.setCell w9 ⟨w.heap.size + 2, 0, none⟩ (.bool true)).same D _ hD9 rfl
        have hE10 := (KeepsOthers.setCell w9 ⟨w.heap.size + 2, 0, none⟩ (.bool true)).same E _ hE9 rfl
        refine leaves_two w.heap.size E D rfl hE10 hD10 (by have := hB4.size; omega) (by have := hB4.size; omega) (by omega) (v := .bool true) ?_
        intro W' hbW hcW
        have G1' : Boxed W' (w.heap.size + 2) 4 (.bool true) := hcW _ _ G1 rfl
        exact ⟨by simp [results, Try.results9, go_sem, G1'.cell], rfl, (hB9.setCell (p := ⟨w.heap.size + 2, 0, none⟩) (by simp) _).trans hbW⟩
end Go.Proofs.Ytkpgdchhdhkpdaa
