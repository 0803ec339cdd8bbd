
/- Package ballot: the least ballot of a place above others. -/
import Derived.Test.YtkohpfkgdigaiaaBaF
namespace Go.Proofs.Ytkohpfkgdigaiaa
open Go.RowKit

def topB (xs : List Bl) : Bl := topK (xs ++ [(-1, 0)]) (xs.length + 1)
def outM (xs : List Bl) : Int := if 1 < (topB xs).1 then (topB xs).1 else 1
def outR (p : Int) (xs : List Bl) : Int := if 0 ≤ cmpI (topB xs).1 (topB xs).2 (outM xs) p then outM xs + 1 else outM xs
def aboveE (c p : Int) (xs : List Bl) : Int := if !chkB c 0 p || xs.any (badB c) then 2 else if 2147483647 < outR p xs then 230 else 0
def aboveR (c p : Int) (xs : List Bl) : Int := if aboveE c p xs = 0 then outR p xs else 0
def aboveP (c p : Int) (xs : List Bl) : Int := if aboveE c p xs = 0 then p else 0

theorem topK_mem (ys : List Bl) (k : Nat) (h : k ≤ ys.length) (h1 : 1 ≤ ys.length) : topK ys k ∈ ys := by
  induction k with
  | zero => simp only [topK]; rw [List.getD_eq_getElem?_getD, List.getElem?_eq_getElem (by omega)]; exact List.getElem_mem _
  | succ k ih =>
    have h2 := ih (by omega)
    simp only [topK, stepB]
    split
    · rw [List.getD_eq_getElem?_getD, List.getElem?_eq_getElem (by omega)]; exact List.getElem_mem _
    · exact h2
theorem top_bd {c : Int} {xs : List Bl} (h : xs.any (badB c) = false) : -1 ≤ (topB xs).1 ∧ (topB xs).1 ≤ 2147483647 := by
  have hm := topK_mem (xs ++ [(-1, 0)]) (xs.length + 1) (by simp) (by simp)
  change topB xs ∈ _ at hm
  rcases List.mem_append.1 hm with h1 | h1
  · have h2 := (List.any_eq_false.1 h) _ h1
    simp only [badB, noneB, Bool.not_eq_true, Bool.and_eq_false_iff, Bool.not_eq_false'] at h2
    rcases h2 with h2 | h2
    · simp at h2; omega
    · have := chk_bd h2; omega
  · simp at h1; rw [h1]; simp


theorem SlB.below {w w1 : World} {sl : Value} {xs : List Bl} (h : SlB w sl xs) (hb : Below w.heap.size w w1) : SlB w1 sl xs := by
  rcases h with h | ⟨g, cap, h1, h2, h3, h4⟩
  · exact .inl h
  · exact .inr ⟨g, cap, h1, h2, h3.below hb h4, Nat.lt_of_lt_of_le h4 hb.size⟩
set_option maxRecDepth 100000 in
set_option maxHeartbeats 1000000 in
theorem above_any (c p : Int) (sl : Value) (xs : List Bl) (hm : xs.length ≤ 900) (w : World) (hx : SlB w sl xs) :
    Calls Try.prog 20 #[.int .i64 c, .int .i64 p, sl] w fun e w' => e = .returned (.tuple #[.agg #[.int .i64 (aboveR c p xs), .int .i64 (aboveP c p xs)], .int .i64 (aboveE c p xs)]) ∧ Below w.heap.size w w' := by
  have HX := Lib.hid hx
  clear hx
  cases hc : chkB c 0 p
  · have h1 : aboveE c p xs = 2 := by simp [aboveE, hc]
    have h2 : aboveR c p xs = 0 := by simp [aboveR, h1]
    have h3 : aboveP c p xs = 0 := by simp [aboveP, h1]
    rw [h1, h2, h3]
    have hk : chkI c 0 p = 2 := by simp [chkI, hc]
    have HK := Lib.hid hk
    clear hk
    clear h1 h2 h3 hc
    go_enter Try.func20, Try.ntmps20
    go_wp2_with fail
    refine (bnone_any _).mono ?_
    rintro e w1 ⟨rfl, b1⟩
    have b01 : Below w.heap.size w ((w.alloc (.cells #[.int .i64 c] 27)).alloc (.cells #[.int .i64 0, .int .i64 0] 23)) := by go_grown
    have bb := b01.trans (b1.mono b01.size)
    have C : Blk w1 w.heap.size 27 [.int .i64 c] := ((Blk.new w _ _).alloc _).step b1
    have R : Blk w1 (w.heap.size + 1) 23 [.int .i64 0, .int .i64 0] := (Blk.new' (by simp) _ _).step b1
    clear b01 b1
    have cC := C.cell (j := 0) rfl
    have kC := keep_alloc cC
    go_wp2_with fail
    refine (bcheck_at _ _ _ _ HK.out _).mono ?_
    rintro e w2 ⟨rfl, b2⟩
    have N : Blk w2 w1.heap.size 23 [.int .i64 (-1), .int .i64 0] := (Blk.new w1 _ _).step b2
    replace C := (C.alloc _).step b2
    replace R := (R.alloc _).step b2
    have bb' := (bb.alloc bb.size (.cells #[.int .i64 (-1), .int .i64 0] 23))
    replace bb := bb'.trans (b2.mono bb'.size)
    clear cC kC b2 bb'
    have c0R := R.cell (j := 0) rfl
    have c1R := R.cell (j := 1) rfl
    have z0R := R.frozen 0
    have z1R := R.frozen 1
    go_wp2
    have R2 := (R.set 0 (.int .i64 0)).set 1 (.int .i64 0)
    have bbb := (bb.setCell (p := ⟨w.heap.size + 1, 0, none⟩) (by simp) (.int .i64 0)).setCell (p := ⟨w.heap.size + 1, 1, none⟩) (by simp) (.int .i64 0)
    generalize (World.setCell _ _ _).setCell _ _ = w9 at R2 bbb ⊢
    have c0R2 := R2.cell (j := 0) rfl
    have c1R2 := R2.cell (j := 1) rfl
    have z0R2 := R2.frozen 0
    have z1R2 := R2.frozen 1
    refine bodyPost_ret (v := .tuple #[.agg #[.int .i64 0, .int .i64 0], .int .i64 2]) (by simp [results, Try.results20, go_sem, c0R2, c1R2]) rfl ?_
    exact ⟨rfl, bbb⟩
  · have hk : chkI c 0 p = 0 := by simp [chkI, hc]
    cases hb : xs.any (badB c)
    · obtain ⟨t0, t1⟩ := top_bd hb
      obtain ⟨m, hmm⟩ : ∃ m, outM xs = m := ⟨_, rfl⟩
      obtain ⟨v, hv⟩ : ∃ v, cmpI (topB xs).1 (topB xs).2 m p = v := ⟨_, rfl⟩
      have hg := greatest_any (-1) 0 sl xs hm
      change ∀ w, SlB w sl xs → Calls _ _ _ w fun e w' => e = .returned (.agg #[.int .i64 (topB xs).1, .int .i64 (topB xs).2]) ∧ _ at hg
      unfold outM at hmm
      have hR : outR p xs = if 0 ≤ v then m + 1 else m := by unfold outR outM; rw [hmm, hv]
      have hE : aboveE c p xs = if 2147483647 < outR p xs then 230 else 0 := by unfold aboveE; simp [hc, hb]
      generalize (topB xs).1 = tr at hmm hv hg t0 t1
      generalize (topB xs).2 = tp at hv hg
      have mb : 1 ≤ m ∧ m ≤ 2147483647 := by rw [← hmm]; split <;> omega
      obtain ⟨m0, m1⟩ := mb
      have HB := Lib.hid hb
      clear hb
      have HK := Lib.hid hk
      clear hk
      have HV := Lib.hid hv
      clear hv
      have HG := Lib.hid hg
      clear hg
      clear hc
      by_cases hpos : 0 ≤ v
      · rw [if_pos hpos] at hR
        by_cases hbig : 2147483647 < m + 1
        · rw [hR, if_pos hbig] at hE
          have h1 : aboveR c p xs = 0 := by simp only [aboveR, hE, hR]; simp
          have h2 : aboveP c p xs = 0 := by simp [aboveP, hE]
          rw [hE, h1, h2]
          clear hE h1 h2 hR
          have e1 : m = 2147483647 := by omega
          have e2 : tr = 2147483647 := by rw [e1] at hmm; split at hmm <;> omega
          clear hmm hbig m0 m1 t0 t1
          subst e1 e2
          go_enter Try.func20, Try.ntmps20
          go_wp2_with fail
          refine (bnone_any _).mono ?_
          rintro e w1 ⟨rfl, b1⟩
          have b01 : Below w.heap.size w ((w.alloc (.cells #[.int .i64 c] 27)).alloc (.cells #[.int .i64 0, .int .i64 0] 23)) := by go_grown
          have bb := b01.trans (b1.mono b01.size)
          have C : Blk w1 w.heap.size 27 [.int .i64 c] := ((Blk.new w _ _).alloc _).step b1
          have R : Blk w1 (w.heap.size + 1) 23 [.int .i64 0, .int .i64 0] := (Blk.new' (by simp) _ _).step b1
          clear b01 b1
          have cC := C.cell (j := 0) rfl
          have kC := keep_alloc cC
          go_wp2_with fail
          refine (bcheck_at _ _ _ _ HK.out _).mono ?_
          rintro e w2 ⟨rfl, b2⟩
          have N : Blk w2 w1.heap.size 23 [.int .i64 (-1), .int .i64 0] := (Blk.new w1 _ _).step b2
          replace C := (C.alloc _).step b2
          replace R := (R.alloc _).step b2
          have bb' := (bb.alloc bb.size (.cells #[.int .i64 (-1), .int .i64 0] 23))
          replace bb := bb'.trans (b2.mono bb'.size)
          clear cC kC b2 bb'
          have n0 := N.cell (j := 0) rfl
          have n1 := N.cell (j := 1) rfl
          have cC := C.cell (j := 0) rfl
          go_wp2_with fail
          refine (contains_any c sl w1.heap.size w.heap.size xs (by omega) false HB.out w2 (HX.out.below bb) n0 n1 cC).mono ?_
          rintro e w3 ⟨rfl, b3⟩
          replace C := C.step b3
          replace R := R.step b3
          replace N := N.step b3
          replace bb := bb.trans (b3.mono bb.size)
          clear n0 n1 cC b3
          have n0 := N.cell (j := 0) rfl
          have n1 := N.cell (j := 1) rfl
          go_wp2_with fail
          refine (HG.out w3 (HX.out.below bb)).mono ?_
          rintro e w4 ⟨rfl, b4⟩
          clear n0 n1
          replace R := R.step b4
          replace bb := bb.trans (b4.mono bb.size)
          go_wp2_with fail
          refine (compare_S _ _ _ _ v HV.out _).mono ?_
          rintro e w5 ⟨rfl, b5, -⟩
          have q1 := bb.alloc bb.size (.cells #[.int .i64 2147483647, .int .i64 tp] 23)
          have q2 := q1.alloc q1.size (.cells #[.int .i64 2147483647, .int .i64 p] 23)
          replace bb := q2.trans (b5.mono q2.size)
          have hlt := R.lt
          replace R := ((R.alloc (.cells #[.int .i64 2147483647, .int .i64 tp] 23)).alloc (.cells #[.int .i64 2147483647, .int .i64 p] 23)).step b5
          have O : Blk w5 (w4.heap.size + 1) 23 [.int .i64 2147483647, .int .i64 p] := (Blk.new' (by simp) _ _).step b5
          clear q1 q2 b5
          have c0R := R.cell (j := 0) rfl
          have c1R := R.cell (j := 1) rfl
          have z0R := R.frozen 0
          have z1R := R.frozen 1
          have c0O := O.cell (j := 0) rfl
          have c1O := O.cell (j := 1) rfl
          have z0O := O.frozen 0
          have z1O := O.frozen 1
          replace R := R.other (show w.heap.size + 1 ≠ w4.heap.size + 1 by omega) 0 (.int .i64 2147483648)
          go_wp2
          have R2 := (R.set 0 (.int .i64 0)).set 1 (.int .i64 0)
          have bbb := ((bb.setCell (p := ⟨w4.heap.size + 1, 0, none⟩) (by simp; omega) (.int .i64 2147483648)).setCell (p := ⟨w.heap.size + 1, 0, none⟩) (by simp) (.int .i64 0)).setCell (p := ⟨w.heap.size + 1, 1, none⟩) (by simp) (.int .i64 0)
          generalize (World.setCell _ _ _).setCell _ _ = w9 at R2 bbb ⊢
          have c0R2 := R2.cell (j := 0) rfl
          have c1R2 := R2.cell (j := 1) rfl
          have z0R2 := R2.frozen 0
          have z1R2 := R2.frozen 1
          refine bodyPost_ret (v := .tuple #[.agg #[.int .i64 0, .int .i64 0], .int .i64 230]) (by simp [results, Try.results20, go_sem, c0R2, c1R2]) rfl ?_
          exact ⟨rfl, bbb⟩
        · rw [hR, if_neg hbig] at hE
          have h1 : aboveR c p xs = (m + 1) := by simp only [aboveR, hE, hR]; simp
          have h2 : aboveP c p xs = p := by simp [aboveP, hE]
          rw [hE, h1, h2]
          clear hE h1 h2 hR
          go_enter Try.func20, Try.ntmps20
          go_wp2_with fail
          refine (bnone_any _).mono ?_
          rintro e w1 ⟨rfl, b1⟩
          have b01 : Below w.heap.size w ((w.alloc (.cells #[.int .i64 c] 27)).alloc (.cells #[.int .i64 0, .int .i64 0] 23)) := by go_grown
          have bb := b01.trans (b1.mono b01.size)
          have C : Blk w1 w.heap.size 27 [.int .i64 c] := ((Blk.new w _ _).alloc _).step b1
          have R : Blk w1 (w.heap.size + 1) 23 [.int .i64 0, .int .i64 0] := (Blk.new' (by simp) _ _).step b1
          clear b01 b1
          have cC := C.cell (j := 0) rfl
          have kC := keep_alloc cC
          go_wp2_with fail
          refine (bcheck_at _ _ _ _ HK.out _).mono ?_
          rintro e w2 ⟨rfl, b2⟩
          have N : Blk w2 w1.heap.size 23 [.int .i64 (-1), .int .i64 0] := (Blk.new w1 _ _).step b2
          replace C := (C.alloc _).step b2
          replace R := (R.alloc _).step b2
          have bb' := (bb.alloc bb.size (.cells #[.int .i64 (-1), .int .i64 0] 23))
          replace bb := bb'.trans (b2.mono bb'.size)
          clear cC kC b2 bb'
          have n0 := N.cell (j := 0) rfl
          have n1 := N.cell (j := 1) rfl
          have cC := C.cell (j := 0) rfl
          go_wp2_with fail
          refine (contains_any c sl w1.heap.size w.heap.size xs (by omega) false HB.out w2 (HX.out.below bb) n0 n1 cC).mono ?_
          rintro e w3 ⟨rfl, b3⟩
          replace C := C.step b3
          replace R := R.step b3
          replace N := N.step b3
          replace bb := bb.trans (b3.mono bb.size)
          clear n0 n1 cC b3
          have n0 := N.cell (j := 0) rfl
          have n1 := N.cell (j := 1) rfl
          go_wp2_with fail
          refine (HG.out w3 (HX.out.below bb)).mono ?_
          rintro e w4 ⟨rfl, b4⟩
          clear n0 n1
          replace R := R.step b4
          replace bb := bb.trans (b4.mono bb.size)
          go_wp2_with fail
          refine (compare_S _ _ _ _ v HV.out _).mono ?_
          rintro e w5 ⟨rfl, b5, -⟩
          have q1 := bb.alloc bb.size (.cells #[.int .i64 tr, .int .i64 tp] 23)
          have q2 := q1.alloc q1.size (.cells #[.int .i64 m, .int .i64 p] 23)
          replace bb := q2.trans (b5.mono q2.size)
          have hlt := R.lt
          replace R := ((R.alloc (.cells #[.int .i64 tr, .int .i64 tp] 23)).alloc (.cells #[.int .i64 m, .int .i64 p] 23)).step b5
          have O : Blk w5 (w4.heap.size + 1) 23 [.int .i64 m, .int .i64 p] := (Blk.new' (by simp) _ _).step b5
          clear q1 q2 b5
          have c0R := R.cell (j := 0) rfl
          have c1R := R.cell (j := 1) rfl
          have z0R := R.frozen 0
          have z1R := R.frozen 1
          have c0O := O.cell (j := 0) rfl
          have c1O := O.cell (j := 1) rfl
          have z0O := O.frozen 0
          have z1O := O.frozen 1
          replace R := R.other (show w.heap.size + 1 ≠ w4.heap.size + 1 by omega) 0 (.int .i64 (m + 1))
          go_wp2
          have R2 := (R.set 0 (.int .i64 (m + 1))).set 1 (.int .i64 p)
          have bbb := ((bb.setCell (p := ⟨w4.heap.size + 1, 0, none⟩) (by simp; omega) (.int .i64 (m + 1))).setCell (p := ⟨w.heap.size + 1, 0, none⟩) (by simp) (.int .i64 (m + 1))).setCell (p := ⟨w.heap.size + 1, 1, none⟩) (by simp) (.int .i64 p)
          generalize (World.setCell _ _ _).setCell _ _ = w9 at R2 bbb ⊢
          have c0R2 := R2.cell (j := 0) rfl
          have c1R2 := R2.cell (j := 1) rfl
          have z0R2 := R2.frozen 0
          have z1R2 := R2.frozen 1
          refine bodyPost_ret (v := .tuple #[.agg #[.int .i64 (m + 1), .int .i64 p], .int .i64 0]) (by simp [results, Try.results20, go_sem, c0R2, c1R2]) rfl ?_
          exact ⟨rfl, bbb⟩
      · rw [if_neg hpos] at hR
        rw [hR, if_neg (by omega)] at hE
        have h1 : aboveR c p xs = m := by simp only [aboveR, hE, hR]; simp
        have h2 : aboveP c p xs = p := by simp [aboveP, hE]
        rw [hE, h1, h2]
        clear hE h1 h2 hR
        go_enter Try.func20, Try.ntmps20
        go_wp2_with fail
        refine (bnone_any _).mono ?_
        rintro e w1 ⟨rfl, b1⟩
        have b01 : Below w.heap.size w ((w.alloc (.cells #[.int .i64 c] 27)).alloc (.cells #[.int .i64 0, .int .i64 0] 23)) := by go_grown
        have bb := b01.trans (b1.mono b01.size)
        have C : Blk w1 w.heap.size 27 [.int .i64 c] := ((Blk.new w _ _).alloc _).step b1
        have R : Blk w1 (w.heap.size + 1) 23 [.int .i64 0, .int .i64 0] := (Blk.new' (by simp) _ _).step b1
        clear b01 b1
        have cC := C.cell (j := 0) rfl
        have kC := keep_alloc cC
        go_wp2_with fail
        refine (bcheck_at _ _ _ _ HK.out _).mono ?_
        rintro e w2 ⟨rfl, b2⟩
        have N : Blk w2 w1.heap.size 23 [.int .i64 (-1), .int .i64 0] := (Blk.new w1 _ _).step b2
        replace C := (C.alloc _).step b2
        replace R := (R.alloc _).step b2
        have bb' := (bb.alloc bb.size (.cells #[.int .i64 (-1), .int .i64 0] 23))
        replace bb := bb'.trans (b2.mono bb'.size)
        clear cC kC b2 bb'
        have n0 := N.cell (j := 0) rfl
        have n1 := N.cell (j := 1) rfl
        have cC := C.cell (j := 0) rfl
        go_wp2_with fail
        refine (contains_any c sl w1.heap.size w.heap.size xs (by omega) false HB.out w2 (HX.out.below bb) n0 n1 cC).mono ?_
        rintro e w3 ⟨rfl, b3⟩
        replace C := C.step b3
        replace R := R.step b3
        replace N := N.step b3
        replace bb := bb.trans (b3.mono bb.size)
        clear n0 n1 cC b3
        have n0 := N.cell (j := 0) rfl
        have n1 := N.cell (j := 1) rfl
        go_wp2_with fail
        refine (HG.out w3 (HX.out.below bb)).mono ?_
        rintro e w4 ⟨rfl, b4⟩
        clear n0 n1
        replace R := R.step b4
        replace bb := bb.trans (b4.mono bb.size)
        go_wp2_with fail
        refine (compare_S _ _ _ _ v HV.out _).mono ?_
        rintro e w5 ⟨rfl, b5, -⟩
        have q1 := bb.alloc bb.size (.cells #[.int .i64 tr, .int .i64 tp] 23)
        have q2 := q1.alloc q1.size (.cells #[.int .i64 m, .int .i64 p] 23)
        replace bb := q2.trans (b5.mono q2.size)
        have hlt := R.lt
        replace R := ((R.alloc (.cells #[.int .i64 tr, .int .i64 tp] 23)).alloc (.cells #[.int .i64 m, .int .i64 p] 23)).step b5
        have O : Blk w5 (w4.heap.size + 1) 23 [.int .i64 m, .int .i64 p] := (Blk.new' (by simp) _ _).step b5
        clear q1 q2 b5
        have c0R := R.cell (j := 0) rfl
        have c1R := R.cell (j := 1) rfl
        have z0R := R.frozen 0
        have z1R := R.frozen 1
        have c0O := O.cell (j := 0) rfl
        have c1O := O.cell (j := 1) rfl
        have z0O := O.frozen 0
        have z1O := O.frozen 1
        go_wp2
        have R2 := (R.set 0 (.int .i64 m)).set 1 (.int .i64 p)
        have bbb := (bb.setCell (p := ⟨w.heap.size + 1, 0, none⟩) (by simp) (.int .i64 m)).setCell (p := ⟨w.heap.size + 1, 1, none⟩) (by simp) (.int .i64 p)
        generalize (World.setCell _ _ _).setCell _ _ = w9 at R2 bbb ⊢
        have c0R2 := R2.cell (j := 0) rfl
        have c1R2 := R2.cell (j := 1) rfl
        have z0R2 := R2.frozen 0
        have z1R2 := R2.frozen 1
        refine bodyPost_ret (v := .tuple #[.agg #[.int .i64 m, .int .i64 p], .int .i64 0]) (by simp [results, Try.results20, go_sem, c0R2, c1R2]) rfl ?_
        exact ⟨rfl, bbb⟩
    · have h1 : aboveE c p xs = 2 := by simp [aboveE, hb]
      have h2 : aboveR c p xs = 0 := by simp [aboveR, h1]
      have h3 : aboveP c p xs = 0 := by simp [aboveP, h1]
      rw [h1, h2, h3]
      have HK := Lib.hid hk
      clear hk
      have HB := Lib.hid hb
      clear hb
      clear h1 h2 h3 hc
      go_enter Try.func20, Try.ntmps20
      go_wp2_with fail
      refine (bnone_any _).mono ?_
      rintro e w1 ⟨rfl, b1⟩
      have b01 : Below w.heap.size w ((w.alloc (.cells #[.int .i64 c] 27)).alloc (.cells #[.int .i64 0, .int .i64 0] 23)) := by go_grown
      have bb := b01.trans (b1.mono b01.size)
      have C : Blk w1 w.heap.size 27 [.int .i64 c] := ((Blk.new w _ _).alloc _).step b1
      have R : Blk w1 (w.heap.size + 1) 23 [.int .i64 0, .int .i64 0] := (Blk.new' (by simp) _ _).step b1
      clear b01 b1
      have cC := C.cell (j := 0) rfl
      have kC := keep_alloc cC
      go_wp2_with fail
      refine (bcheck_at _ _ _ _ HK.out _).mono ?_
      rintro e w2 ⟨rfl, b2⟩
      have N : Blk w2 w1.heap.size 23 [.int .i64 (-1), .int .i64 0] := (Blk.new w1 _ _).step b2
      replace C := (C.alloc _).step b2
      replace R := (R.alloc _).step b2
      have bb' := (bb.alloc bb.size (.cells #[.int .i64 (-1), .int .i64 0] 23))
      replace bb := bb'.trans (b2.mono bb'.size)
      clear cC kC b2 bb'
      have n0 := N.cell (j := 0) rfl
      have n1 := N.cell (j := 1) rfl
      have cC := C.cell (j := 0) rfl
      go_wp2_with fail
      refine (contains_any c sl w1.heap.size w.heap.size xs (by omega) true HB.out w2 (HX.out.below bb) n0 n1 cC).mono ?_
      rintro e w3 ⟨rfl, b3⟩
      replace C := C.step b3
      replace R := R.step b3
      replace N := N.step b3
      replace bb := bb.trans (b3.mono bb.size)
      clear n0 n1 cC b3
      have c0R := R.cell (j := 0) rfl
      have c1R := R.cell (j := 1) rfl
      have z0R := R.frozen 0
      have z1R := R.frozen 1
      go_wp2
      have R2 := (R.set 0 (.int .i64 0)).set 1 (.int .i64 0)
      have bbb := (bb.setCell (p := ⟨w.heap.size + 1, 0, none⟩) (by simp) (.int .i64 0)).setCell (p := ⟨w.heap.size + 1, 1, none⟩) (by simp) (.int .i64 0)
      generalize (World.setCell _ _ _).setCell _ _ = w9 at R2 bbb ⊢
      have c0R2 := R2.cell (j := 0) rfl
      have c1R2 := R2.cell (j := 1) rfl
      have z0R2 := R2.frozen 0
      have z1R2 := R2.frozen 1
      refine bodyPost_ret (v := .tuple #[.agg #[.int .i64 0, .int .i64 0], .int .i64 2]) (by simp [results, Try.results20, go_sem, c0R2, c1R2]) rfl ?_
      exact ⟨rfl, bbb⟩
end Go.Proofs.Ytkohpfkgdigaiaa
