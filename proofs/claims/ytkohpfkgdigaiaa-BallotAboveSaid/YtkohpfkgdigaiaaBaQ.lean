
/- The document's Above: the walk. -/
import Derived.Test.YtkohpfkgdigaiaaBaP
namespace Go.Proofs.Ytkohpfkgdigaiaa
open Go.RowKit

theorem cell_keptA {w w' : World} (hb : Below w.heap.size w w') {a : Addr} {v : Value} (h : w.cell? a = some v) : w'.cell? a = some v := (hb.cell (World.block_lt_of_cell? w _ h)).trans h
theorem ext_cellA {W : World} {a : Addr} {v : Value} (h : W.cell? a = some v) (W' : World) (hx : Ext W W') : W'.cell? a = some v := cell_keptA hx h
theorem HasA.step {w w1 : World} {a : Addr} {xs : List Bl} (h : HasA w a xs) (hb : Below w.heap.size w w1) : HasA w1 a xs := fun k hk => ⟨cell_keptA hb (h k hk).1, cell_keptA hb (h k hk).2⟩
theorem refNone_at (r p : Int) (v : Bool) (hv : noneB (r, p) = v) (w : World) : Calls Try.prog 43 #[.agg #[.int .i64 r, .int .i64 p]] w fun e w' => e = .returned (.bool v) ∧ Below w.heap.size w w' := hv ▸ refNone_any r p w
theorem chk_place {c p : Int} (h : rightB c = true) : chkB c 0 p = inB p 0 c := by simp [chkB, hiB, h]
set_option maxRecDepth 100000 in
set_option maxHeartbeats 1000000 in
theorem refAbove_some (c p : Int) (a : Addr) (cap n : Nat) (xs : List Bl) (hn : xs.length = n) (hm : n ≤ 900) (hr : rightB c = true) (hp : inB p 0 c = true) (w : World) (hx : HasA w a xs) :
    Calls Try.prog 21 #[.int .i64 c, .int .i64 p, .slice (some a) n cap] w fun e w' => e = .returned (.tuple #[.agg #[.int .i64 (aboveR c p xs), .int .i64 (aboveP c p xs)], .int .i64 (aboveE c p xs)]) ∧ Below w.heap.size w w' := by
  have hck := chk_place (p := p) hr
  rw [hp] at hck
  have HCK := Lib.hid hck
  clear hck
  have HR := Lib.hid hr
  clear hr
  have HP := Lib.hid hp
  clear hp
  have HX := Lib.hid hx
  have HN := Lib.hid hn
  clear hx hn
  go_enter Try.func21, Try.ntmps21
  go_wp2_with fail
  refine (refRight_at _ _ HR.out _).mono ?_
  rintro e w' ⟨rfl, rfl⟩
  go_wp2_with fail
  refine (refPlace_at _ _ _ HP.out _).mono ?_
  rintro e w' ⟨rfl, rfl⟩
  go_wp2_with fail
  go_loopw [9] (fun i wr => ∃ k : Nat, k ≤ n ∧ i = .int .i64 k ∧ Below w.heap.size w wr ∧ Blk wr w.heap.size 23 [.int .i64 0, .int .i64 0] ∧ Blk wr (w.heap.size + 1) 23 [.int .i64 (topR xs k).1, .int .i64 (topR xs k).2] ∧ Hid ((xs.take k).any (badB c) = false)) (fun i _ => n - (intOf i).toNat)
  case atStart => exact ⟨0, by omega, rfl, by go_grown, (Blk.new w _ _).alloc _, Blk.new' (by simp) _ _, Lib.hid (by simp)⟩
  case round =>
    obtain ⟨k, hk, rfl, hb, R, M, ht⟩ := hrel
    by_cases hlt : k < n
    · have hlt' : k < xs.length := by rw [HN.out]; exact hlt
      have hcell := (HX.out.step hb) k hlt'
      have HA := Lib.hid (any_take (p := badB c) xs k hlt')
      have HB := Lib.hid (fun h => any_at (p := badB c) hlt' h)
      obtain ⟨xr, hr⟩ : ∃ r, xs[k].1 = r := ⟨_, rfl⟩
      obtain ⟨xp, hp⟩ : ∃ p, xs[k].2 = p := ⟨_, rfl⟩
      have HE : Hid (xs[k] = (xr, xp)) := Lib.hid (by rw [← hr, ← hp])
      rw [hr, hp] at hcell
      clear hr hp
      obtain ⟨c0, c1⟩ := hcell
      change wr.cell? ⟨(a.add (k * 2)).block, (a.add (k * 2)).off + 1, none⟩ = _ at c1
      have hn0 : (0 : Int) ≤ (k : Int) := by omega
      have hn1 : (k : Int) < (n : Int) := by omega
      have HT : Hid (xs.getD k (0, 0) = (xr, xp)) := Lib.hid (by rw [← HE.out]; simp [hlt'])
      obtain ⟨mr, hmr⟩ : ∃ mr, (topR xs k).1 = mr := ⟨_, rfl⟩
      obtain ⟨mp, hmp⟩ : ∃ mp, (topR xs k).2 = mp := ⟨_, rfl⟩
      have HK : Hid (topR xs k = (mr, mp)) := Lib.hid (by rw [← hmr, ← hmp])
      rw [hmr, hmp] at M
      clear hmr hmp
      cases hc : chkB c xr xp
      · cases hno : noneB (xr, xp)
        · have hbad : Hid (badB c xs[k] = true) := Lib.hid (by rw [HE.out]; simp [badB, hc, hno])
          have HC := Lib.hid hc
          clear hc
          have HNO := Lib.hid hno
          clear hno
          have hsz := M.lt
          go_wp2_with fail
          refine (refRight13_at _ _ _ _ HC.out _).mono ?_
          rintro e w1 ⟨rfl, b1⟩
          replace c0 := cell_keptA b1 c0
          replace c1 := cell_keptA b1 c1
          go_wp2_with fail
          refine (refNone_at _ _ _ HNO.out _).mono ?_
          rintro e w2 ⟨rfl, b2⟩
          have bb := (hb.trans (b1.mono hb.size))
          replace bb := bb.trans (b2.mono bb.size)
          replace R := (R.step b1).step b2
          clear b1 b2 c0 c1
          have c0R := R.cell (j := 0) rfl
          have c1R := R.cell (j := 1) rfl
          have z0R := R.frozen 0
          have z1R := R.frozen 1
          have hE : aboveE c p xs = 2 := by simp [aboveE, HB.out hbad.out]
          have HEE : Hid (aboveE c p xs = 2 ∧ aboveR c p xs = 0 ∧ aboveP c p xs = 0) := Lib.hid ⟨hE, by simp [aboveR, hE], by simp [aboveP, hE]⟩
          clear hE
          go_wp2
          have R2 := (R.set 0 (.int .i64 0)).set 1 (.int .i64 0)
          have bbb := (bb.setCell (p := ⟨w.heap.size, 0, none⟩) (by simp) (.int .i64 0)).setCell (p := ⟨w.heap.size, 1, none⟩) (by simp) (.int .i64 0)
          generalize (World.setCell _ _ _).setCell _ _ = w9 at R2 bbb ⊢
          have c0R2 := R2.cell (j := 0) rfl
          have c1R2 := R2.cell (j := 1) rfl
          have z0R2 := R2.frozen 0
          have z1R2 := R2.frozen 1
          refine bodyPost_ret (v := .tuple #[.agg #[.int .i64 0, .int .i64 0], .int .i64 2]) (by simp [results, Try.results21, go_sem, c0R2, c1R2]) rfl ?_
          exact ⟨by rw [HEE.out.1, HEE.out.2.1, HEE.out.2.2], bbb⟩
        · have hgood : Hid (badB c xs[k] = false) := Lib.hid (by rw [HE.out]; simp [badB, hno])
          have HC := Lib.hid hc
          clear hc
          have HNO := Lib.hid hno
          clear hno
          have hsz := M.lt
          go_wp2_with fail
          refine (refRight13_at _ _ _ _ HC.out _).mono ?_
          rintro e w1 ⟨rfl, b1⟩
          replace c0 := cell_keptA b1 c0
          replace c1 := cell_keptA b1 c1
          go_wp2_with fail
          refine (refNone_at _ _ _ HNO.out _).mono ?_
          rintro e w2 ⟨rfl, b2⟩
          replace c0 := cell_keptA b2 c0
          replace c1 := cell_keptA b2 c1
          have bb := (hb.trans (b1.mono hb.size))
          replace bb := bb.trans (b2.mono bb.size)
          replace R := (R.step b1).step b2
          replace M := (M.step b1).step b2
          clear b1 b2
          have e0 := ext_cellA c0
          have e1 := ext_cellA c1
          have e2 := ext_cell (M.cell (j := 0) rfl)
          have e3 := ext_cell (M.cell (j := 1) rfl)
          cases hl : lessB mr mp xr xp
          · have HS : Hid (topR xs (k + 1) = (mr, mp)) := Lib.hid (by rw [topR, HT.out, HK.out, lessS]; simp only; rw [hl]; rfl)
            have HL := Lib.hid hl
            clear hl
            go_wp2_with fail
            refine wp_region_ext (by kernel_rfl) (by kernel_rfl) ?_
            repeat
              (first
                | go_big_quiet_skip
                | (go_big_quiet_want
                   go_big_quiet_op
                   first
                     | go_big_quiet_on
                     | (apply Exists.intro
                        refine ⟨fun w' hC => ?_, ?_⟩
                        · (first
                            | with_reducible rfl
                            | (go_at_call 35; refine (refLess_at _ _ _ _ _ HL.out _).mono ?_; rintro e w2 ⟨rfl, hb⟩; exact ⟨rfl, hC.call hb⟩)
                            | (go_simp; done)
                            | (go_simp; with_reducible rfl))
                        go_big_quiet_on)))
            refine wpQuiet_nil ?_
            intro wq hq
            replace R := Blk.step R hq
            replace M := Blk.step M hq
            replace bb := bb.trans (Below.mono hq bb.size)
            clear e0 e1 e2 e3 c0 c1 hq
            go_wp2
            go_roundw
            case rel => exact ⟨k + 1, by omega, by go_num, bb, R, by rw [HS.out]; exact M, Lib.hid (by rw [HA.out, ht.out, hgood.out]; rfl)⟩
            case measure => simp [intOf]; omega
          · have HS : Hid (topR xs (k + 1) = (xr, xp)) := Lib.hid (by rw [topR, HT.out, HK.out, lessS]; simp only; rw [hl]; rfl)
            have HL := Lib.hid hl
            clear hl
            go_wp2_with fail
            refine wp_region_ext (by kernel_rfl) (by kernel_rfl) ?_
            repeat
              (first
                | go_big_quiet_skip
                | (go_big_quiet_want
                   go_big_quiet_op
                   first
                     | go_big_quiet_on
                     | (apply Exists.intro
                        refine ⟨fun w' hC => ?_, ?_⟩
                        · (first
                            | with_reducible rfl
                            | (go_at_call 35; refine (refLess_at _ _ _ _ _ HL.out _).mono ?_; rintro e w2 ⟨rfl, hb⟩; exact ⟨rfl, hC.call hb⟩)
                            | (go_simp; done)
                            | (go_simp; with_reducible rfl))
                        go_big_quiet_on)))
            refine wpQuiet_nil ?_
            intro wq hq
            replace R := Blk.step R hq
            replace M := Blk.step M hq
            replace bb := bb.trans (Below.mono hq bb.size)
            replace c0 := cell_keptA hq c0
            replace c1 := cell_keptA hq c1
            clear e0 e1 e2 e3 hq
            have c0M := M.cell (j := 0) rfl
            have c1M := M.cell (j := 1) rfl
            have z0M := M.frozen 0
            have z1M := M.frozen 1
            go_wp2
            go_roundw
            case rel => exact ⟨k + 1, by omega, by go_num, (bb.setCell (p := ⟨w.heap.size + 1, 0, none⟩) (by simp) _).setCell (p := ⟨w.heap.size + 1, 1, none⟩) (by simp) _, (R.other (by omega) _ _).other (by omega) _ _, by rw [HS.out]; exact (M.set 0 _).set 1 _, Lib.hid (by rw [HA.out, ht.out, hgood.out]; rfl)⟩
            case measure => simp [intOf]; omega
      · have hgood : Hid (badB c xs[k] = false) := Lib.hid (by rw [HE.out]; simp [badB, hc])
        have HC := Lib.hid hc
        clear hc
        have hsz := M.lt
        go_wp2_with fail
        refine (refRight13_at _ _ _ _ HC.out _).mono ?_
        rintro e w1 ⟨rfl, b1⟩
        replace c0 := cell_keptA b1 c0
        replace c1 := cell_keptA b1 c1
        have bb := (hb.trans (b1.mono hb.size))
        replace R := R.step b1
        replace M := M.step b1
        clear b1
        have e0 := ext_cellA c0
        have e1 := ext_cellA c1
        have e2 := ext_cell (M.cell (j := 0) rfl)
        have e3 := ext_cell (M.cell (j := 1) rfl)
        cases hl : lessB mr mp xr xp
        · have HS : Hid (topR xs (k + 1) = (mr, mp)) := Lib.hid (by rw [topR, HT.out, HK.out, lessS]; simp only; rw [hl]; rfl)
          have HL := Lib.hid hl
          clear hl
          go_wp2_with fail
          refine wp_region_ext (by kernel_rfl) (by kernel_rfl) ?_
          repeat
            (first
              | go_big_quiet_skip
              | (go_big_quiet_want
                 go_big_quiet_op
                 first
                   | go_big_quiet_on
                   | (apply Exists.intro
                      refine ⟨fun w' hC => ?_, ?_⟩
                      · (first
                          | with_reducible rfl
                          | (go_at_call 35; refine (refLess_at _ _ _ _ _ HL.out _).mono ?_; rintro e w2 ⟨rfl, hb⟩; exact ⟨rfl, hC.call hb⟩)
                          | (go_simp; done)
                          | (go_simp; with_reducible rfl))
                      go_big_quiet_on)))
          refine wpQuiet_nil ?_
          intro wq hq
          replace R := Blk.step R hq
          replace M := Blk.step M hq
          replace bb := bb.trans (Below.mono hq bb.size)
          clear e0 e1 e2 e3 c0 c1 hq
          go_wp2
          go_roundw
          case rel => exact ⟨k + 1, by omega, by go_num, bb, R, by rw [HS.out]; exact M, Lib.hid (by rw [HA.out, ht.out, hgood.out]; rfl)⟩
          case measure => simp [intOf]; omega
        · have HS : Hid (topR xs (k + 1) = (xr, xp)) := Lib.hid (by rw [topR, HT.out, HK.out, lessS]; simp only; rw [hl]; rfl)
          have HL := Lib.hid hl
          clear hl
          go_wp2_with fail
          refine wp_region_ext (by kernel_rfl) (by kernel_rfl) ?_
          repeat
            (first
              | go_big_quiet_skip
              | (go_big_quiet_want
                 go_big_quiet_op
                 first
                   | go_big_quiet_on
                   | (apply Exists.intro
                      refine ⟨fun w' hC => ?_, ?_⟩
                      · (first
                          | with_reducible rfl
                          | (go_at_call 35; refine (refLess_at _ _ _ _ _ HL.out _).mono ?_; rintro e w2 ⟨rfl, hb⟩; exact ⟨rfl, hC.call hb⟩)
                          | (go_simp; done)
                          | (go_simp; with_reducible rfl))
                      go_big_quiet_on)))
          refine wpQuiet_nil ?_
          intro wq hq
          replace R := Blk.step R hq
          replace M := Blk.step M hq
          replace bb := bb.trans (Below.mono hq bb.size)
          replace c0 := cell_keptA hq c0
          replace c1 := cell_keptA hq c1
          clear e0 e1 e2 e3 hq
          have c0M := M.cell (j := 0) rfl
          have c1M := M.cell (j := 1) rfl
          have z0M := M.frozen 0
          have z1M := M.frozen 1
          go_wp2
          go_roundw
          case rel => exact ⟨k + 1, by omega, by go_num, (bb.setCell (p := ⟨w.heap.size + 1, 0, none⟩) (by simp) _).setCell (p := ⟨w.heap.size + 1, 1, none⟩) (by simp) _, (R.other (by omega) _ _).other (by omega) _ _, by rw [HS.out]; exact (M.set 0 _).set 1 _, Lib.hid (by rw [HA.out, ht.out, hgood.out]; rfl)⟩
          case measure => simp [intOf]; omega
    · obtain rfl : k = n := by omega
      have hb' : xs.any (badB c) = false := by have h := ht.out; rwa [List.take_of_length_le (by rw [HN.out]; exact Nat.le_refl _)] at h
      have hTB : topR xs k = topB xs := by have h := topR_B xs hb'; rwa [HN.out] at h
      rw [hTB] at M
      obtain ⟨t0, t1⟩ := top_bd hb'
      obtain ⟨m, hmm⟩ : ∃ m, outM xs = m := ⟨_, rfl⟩
      obtain ⟨v, hv⟩ : ∃ v, cmpI (topB xs).1 (topB xs).2 m p = v := ⟨_, rfl⟩
      have hl : lessB (topB xs).1 (topB xs).2 m p = !decide (0 ≤ v) := by
        rw [← hv]
        rcases less_cmp (topB xs).1 (topB xs).2 m p with ⟨h1, h2⟩ | ⟨h1, h2, h3⟩ | ⟨h1, h2, h3⟩
        · rw [h1, h2]; rfl
        · rw [h1, h3]; rfl
        · rw [h1, h3]; rfl
      unfold outM at hmm
      have hR : outR p xs = if 0 ≤ v then m + 1 else m := by unfold outR outM; rw [hmm, hv]
      have hE : aboveE c p xs = if 2147483647 < outR p xs then 230 else 0 := by unfold aboveE; simp [HCK.out, hb']
      clear hTB hv
      generalize (topB xs).1 = tr at hmm hl t0 t1 M
      generalize (topB xs).2 = tp at hl M
      have mb : 1 ≤ m ∧ m ≤ 2147483647 := by rw [← hmm]; split <;> omega
      obtain ⟨m0, m1⟩ := mb
      clear ht hb' hlt hk
      by_cases hpos : 0 ≤ v
      · rw [if_pos hpos] at hR
        have hl' : lessB tr tp m p = false := by rw [hl]; simp [hpos]
        clear hl
        by_cases hbig : 2147483647 < m + 1
        · rw [hR, if_pos hbig] at hE
          have HEE : Hid (aboveE c p xs = 230 ∧ aboveR c p xs = 0 ∧ aboveP c p xs = 0) := Lib.hid ⟨hE, by simp only [aboveR, hE, hR]; simp, by simp [aboveP, hE]⟩
          clear hE hR
          have e1 : m = 2147483647 := by omega
          have e2 : tr = 2147483647 := by rw [e1] at hmm; split at hmm <;> omega
          clear hmm hbig m0 m1 t0 t1
          subst e1 e2
          have HL := Lib.hid hl'
          clear hl'
          have hsz := M.lt
          have c0M := M.cell (j := 0) rfl
          have c1M := M.cell (j := 1) rfl
          have k0M := keep_alloc c0M
          have k1M := keep_alloc c1M
          go_wp2_with fail
          refine (refLess_at _ _ _ _ false HL.out _).mono ?_
          rintro e w5 ⟨rfl, b5⟩
          have q1 := hb.alloc hb.size (.cells #[.int .i64 2147483647, .int .i64 p] 23)
          have bb := q1.trans (b5.mono q1.size)
          replace R := (R.alloc (.cells #[.int .i64 2147483647, .int .i64 p] 23)).step b5
          have O : Blk w5 wr.heap.size 23 [.int .i64 2147483647, .int .i64 p] := (Blk.new _ _ _).step b5
          clear q1 b5 c0M c1M k0M k1M M
          have c0R := R.cell (j := 0) rfl
          have c1R := R.cell (j := 1) rfl
          have z0R := R.frozen 0
          have z1R := R.frozen 1
          have c0O := O.cell (j := 0) rfl
          have c1O := O.cell (j := 1) rfl
          have z0O := O.frozen 0
          have z1O := O.frozen 1
          replace R := R.other (show w.heap.size ≠ wr.heap.size by omega) 0 (.int .i64 2147483648)
          go_wp2
          have R2 := (R.set 0 (.int .i64 0)).set 1 (.int .i64 0)
          have bbb := ((bb.setCell (p := ⟨wr.heap.size, 0, none⟩) (by simp; omega) (.int .i64 2147483648)).setCell (p := ⟨w.heap.size, 0, none⟩) (by simp) (.int .i64 0)).setCell (p := ⟨w.heap.size, 1, none⟩) (by simp) (.int .i64 0)
          generalize (World.setCell _ _ _).setCell _ _ = w9 at R2 bbb ⊢
          have c0R2 := R2.cell (j := 0) rfl
          have c1R2 := R2.cell (j := 1) rfl
          have z0R2 := R2.frozen 0
          have z1R2 := R2.frozen 1
          refine bodyPost_ret (v := .tuple #[.agg #[.int .i64 0, .int .i64 0], .int .i64 230]) (by simp [results, Try.results21, go_sem, c0R2, c1R2]) rfl ?_
          exact ⟨by rw [HEE.out.1, HEE.out.2.1, HEE.out.2.2], bbb⟩
        · rw [hR, if_neg hbig] at hE
          have HEE : Hid (aboveE c p xs = 0 ∧ aboveR c p xs = (m + 1) ∧ aboveP c p xs = p) := Lib.hid ⟨hE, by simp only [aboveR, hE, hR]; simp, by simp [aboveP, hE]⟩
          clear hE hR
          have HL := Lib.hid hl'
          clear hl'
          have hsz := M.lt
          have c0M := M.cell (j := 0) rfl
          have c1M := M.cell (j := 1) rfl
          have k0M := keep_alloc c0M
          have k1M := keep_alloc c1M
          go_wp2_with fail
          refine (refLess_at _ _ _ _ false HL.out _).mono ?_
          rintro e w5 ⟨rfl, b5⟩
          have q1 := hb.alloc hb.size (.cells #[.int .i64 m, .int .i64 p] 23)
          have bb := q1.trans (b5.mono q1.size)
          replace R := (R.alloc (.cells #[.int .i64 m, .int .i64 p] 23)).step b5
          have O : Blk w5 wr.heap.size 23 [.int .i64 m, .int .i64 p] := (Blk.new _ _ _).step b5
          clear q1 b5 c0M c1M k0M k1M M
          have c0R := R.cell (j := 0) rfl
          have c1R := R.cell (j := 1) rfl
          have z0R := R.frozen 0
          have z1R := R.frozen 1
          have c0O := O.cell (j := 0) rfl
          have c1O := O.cell (j := 1) rfl
          have z0O := O.frozen 0
          have z1O := O.frozen 1
          replace R := R.other (show w.heap.size ≠ wr.heap.size by omega) 0 (.int .i64 (m + 1))
          go_wp2
          have R2 := (R.set 0 (.int .i64 (m + 1))).set 1 (.int .i64 p)
          have bbb := ((bb.setCell (p := ⟨wr.heap.size, 0, none⟩) (by simp; omega) (.int .i64 (m + 1))).setCell (p := ⟨w.heap.size, 0, none⟩) (by simp) (.int .i64 (m + 1))).setCell (p := ⟨w.heap.size, 1, none⟩) (by simp) (.int .i64 p)
          generalize (World.setCell _ _ _).setCell _ _ = w9 at R2 bbb ⊢
          have c0R2 := R2.cell (j := 0) rfl
          have c1R2 := R2.cell (j := 1) rfl
          have z0R2 := R2.frozen 0
          have z1R2 := R2.frozen 1
          refine bodyPost_ret (v := .tuple #[.agg #[.int .i64 (m + 1), .int .i64 p], .int .i64 0]) (by simp [results, Try.results21, go_sem, c0R2, c1R2]) rfl ?_
          exact ⟨by rw [HEE.out.1, HEE.out.2.1, HEE.out.2.2], bbb⟩
      · rw [if_neg hpos] at hR
        have hl' : lessB tr tp m p = true := by rw [hl]; simp [hpos]
        clear hl
        rw [hR, if_neg (by omega)] at hE
        have HEE : Hid (aboveE c p xs = 0 ∧ aboveR c p xs = m ∧ aboveP c p xs = p) := Lib.hid ⟨hE, by simp only [aboveR, hE, hR]; simp, by simp [aboveP, hE]⟩
        clear hE hR
        have HL := Lib.hid hl'
        clear hl'
        have hsz := M.lt
        have c0M := M.cell (j := 0) rfl
        have c1M := M.cell (j := 1) rfl
        have k0M := keep_alloc c0M
        have k1M := keep_alloc c1M
        go_wp2_with fail
        refine (refLess_at _ _ _ _ true HL.out _).mono ?_
        rintro e w5 ⟨rfl, b5⟩
        have q1 := hb.alloc hb.size (.cells #[.int .i64 m, .int .i64 p] 23)
        have bb := q1.trans (b5.mono q1.size)
        replace R := (R.alloc (.cells #[.int .i64 m, .int .i64 p] 23)).step b5
        have O : Blk w5 wr.heap.size 23 [.int .i64 m, .int .i64 p] := (Blk.new _ _ _).step b5
        clear q1 b5 c0M c1M k0M k1M M
        have c0R := R.cell (j := 0) rfl
        have c1R := R.cell (j := 1) rfl
        have z0R := R.frozen 0
        have z1R := R.frozen 1
        have c0O := O.cell (j := 0) rfl
        have c1O := O.cell (j := 1) rfl
        have z0O := O.frozen 0
        have z1O := O.frozen 1
        go_wp2
        have R2 := (R.set 0 (.int .i64 m)).set 1 (.int .i64 p)
        have bbb := (bb.setCell (p := ⟨w.heap.size, 0, none⟩) (by simp) (.int .i64 m)).setCell (p := ⟨w.heap.size, 1, none⟩) (by simp) (.int .i64 p)
        generalize (World.setCell _ _ _).setCell _ _ = w9 at R2 bbb ⊢
        have c0R2 := R2.cell (j := 0) rfl
        have c1R2 := R2.cell (j := 1) rfl
        have z0R2 := R2.frozen 0
        have z1R2 := R2.frozen 1
        refine bodyPost_ret (v := .tuple #[.agg #[.int .i64 m, .int .i64 p], .int .i64 0]) (by simp [results, Try.results21, go_sem, c0R2, c1R2]) rfl ?_
        exact ⟨by rw [HEE.out.1, HEE.out.2.1, HEE.out.2.2], bbb⟩
end Go.Proofs.Ytkohpfkgdigaiaa
