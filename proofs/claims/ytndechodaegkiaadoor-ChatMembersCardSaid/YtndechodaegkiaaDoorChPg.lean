
/- ChatPages: the walk. -/
import Derived.Test.YtndechodaegkiaaDoorChU
import Derived.Test.YtndechodaegkiaaDoorChX
namespace Go.Proofs.YtndechodaegkiaaDoor
open Go.RowKit
/-- The document's New, whatever it comes to. -/
theorem refNew_some (l : List En) (ao : Option Addr) (c : Nat) (w : World) (hE : HasE w ao l) (hs : ∀ e, e ∈ l → e.s.size ≤ 9223372036854775807) (hl : l.length ≤ 9223372036854775807) :
    Calls Tryd.prog 19 #[.slice ao l.length c] w fun r w' => (∃ x a n c3, r = .returned (.tuple #[.agg #[.int .i64 x, .slice a n c3], .int .i64 (newF tk0 0 l).2])) ∧ Below w.heap.size w w' := by
  refine Calls.mono (refNew_any l ao c w hE hs hl) ?_
  rintro r w' ⟨hP, hb⟩
  refine ⟨?_, hb⟩
  split at hP
  · rename_i h0
    obtain ⟨sv, rfl, hD⟩ := hP
    obtain ⟨a, c3, rfl⟩ := hD.sl
    rw [h0]
    exact ⟨_, _, _, _, rfl⟩
  · exact ⟨_, _, _, _, hP⟩
set_option maxRecDepth 100000 in
set_option maxHeartbeats 2000000 in
theorem pages_off (l : List En) (ao : Option Addr) (c : Nat) (ix fr most mem : Int) (w : World) (hT : Tabs w) (hE : HasE w ao l) (hl : l.length ≤ 9223372036854775807) (hs : ∀ e, e ∈ l → e.s.size ≤ 9223372036854775807) (ho : fewB l 40 = false ∨ (newF tk0 0 l).2 ≠ 0) :
    Calls Tryd.prog 7 #[.slice ao l.length c, .int .i64 ix, .int .i64 fr, .int .i64 most, .int .i64 mem] w fun r w' => r = .returned (.bool true) ∧ Below w.heap.size w w' := by
  have cF := fun W hW => few_any l ao c 40 W hW hl
  have cD := refNew_some l ao c w hE hs hl
  obtain ⟨N, hN⟩ : ∃ N, l.length = N := ⟨_, rfl⟩
  rw [hN] at cF cD ⊢
  obtain ⟨E, hEE⟩ : ∃ E, (newF tk0 0 l).2 = E := ⟨_, rfl⟩
  rw [hEE] at cD ho
  cases hf : fewB l 40
  · rw [hf] at cF
    clear ho
    go_enter Tryd.func7, Tryd.ntmps7
    go_wp2_with fail
    refine (cD).mono ?_
    rintro e w2 ⟨⟨x, a, n, c3, rfl⟩, hb2⟩
    have hbA := (Below.refl w2.heap.size w2).alloc (Nat.le_refl _) (.cells #[.int .i64 x, .slice a n c3] 49)
    have hb3 := hb2.trans (hbA.mono hb2.size)
    go_wp2_with fail
    refine (cF _ (hE.step hb3)).mono ?_
    rintro e w3 ⟨rfl, rfl⟩
    go_wp2_with fail
    refine (works_any _ (hT.step hb3)).mono ?_
    rintro e w4 ⟨rfl, hb⟩
    go_wp2
    go_ret
    exact ⟨rfl, hb3.trans (hb.mono hb3.size)⟩
  · rw [hf] at cF
    have hE0 : E ≠ 0 := by rcases ho with h | h; · rw [hf] at h; cases h
                           · exact h
    go_enter Tryd.func7, Tryd.ntmps7
    go_wp2_with fail
    refine (cD).mono ?_
    rintro e w2 ⟨⟨x, a, n, c3, rfl⟩, hb2⟩
    have hbA := (Below.refl w2.heap.size w2).alloc (Nat.le_refl _) (.cells #[.int .i64 x, .slice a n c3] 49)
    have hb3 := hb2.trans (hbA.mono hb2.size)
    go_wp2_with fail
    refine (cF _ (hE.step hb3)).mono ?_
    rintro e w3 ⟨rfl, rfl⟩
    go_wp2_with fail
    refine (works_any _ (hT.step hb3)).mono ?_
    rintro e w4 ⟨rfl, hb⟩
    go_wp2
    go_ret
    exact ⟨rfl, hb3.trans (hb.mono hb3.size)⟩
def rqP (w : World) (L : List Ln) (E : Int) (r : Ending) (w' : World) : Prop := (∃ a2 c2, r = .returned (.tuple #[.slice a2 L.length c2, .int .i64 E]) ∧ HasL w' a2 L) ∧ Below w.heap.size w w'
theorem refPage_any (base : Nat) (t : Tk) (a : Option Addr) (c : Nat) (f m : Int) (w : World) (hrow : w.ownsRow base 33 6 (.slice a t.L.length c) t.L.length (cellsN t.L)) (hn : t.L.length ≤ 5000) :
    Calls Tryd.prog 23 #[.agg #[.int .i64 t.sl, .slice a t.L.length c], .int .i64 f, .int .i64 m] w (rqP w (pgL t f m) (pgE t f m)) := by
  by_cases hE : pgE t f m = 0
  · have h := refPage_yes base t a c f m w hrow hn hE
    rw [hE]
    exact h
  · have h := refPage_no t.L t a c f m w rfl hn hE
    have hL : pgL t f m = [] := by unfold pgL; rw [if_neg hE]
    rw [hL]
    refine Calls.mono h ?_
    rintro r w' ⟨rfl, hb⟩
    exact ⟨⟨none, 0, rfl, fun k x hx => by simp at hx⟩, hb⟩
set_option maxRecDepth 100000 in
set_option maxHeartbeats 8000000 in
theorem pages_on (l : List En) (ao : Option Addr) (c : Nat) (ix fr most mem : Int) (w : World) (hT : Tabs w) (hE : HasE w ao l) (hl : l.length ≤ 9223372036854775807) (hs : ∀ e, e ∈ l → e.s.size ≤ 9223372036854775807) (hf : fewB l 40 = true) (t : Tk) (ht : newF tk0 0 l = (t, 0)) :
    Calls Tryd.prog 7 #[.slice ao l.length c, .int .i64 ix, .int .i64 fr, .int .i64 most, .int .i64 mem] w fun r w' => r = .returned (.bool true) ∧ Below w.heap.size w w' := by
  have cF := fun W hW => few_any l ao c 40 W hW hl
  obtain ⟨hl40, _⟩ := few_small hf
  have cN := fun W hE hT => new_any l ao c W hE hT hs (by omega)
  have cD := refNew_any l ao c w hE hs hl
  have hG : Good (newF tk0 0 l).1 := newF_good l 0 tk0 good0
  obtain ⟨N, hN⟩ : ∃ N, l.length = N := ⟨_, rfl⟩
  rw [hN] at cF cN cD ⊢
  rw [hf] at cF
  unfold newP at cN
  unfold dnP at cD
  rw [ht] at cN cD hG
  replace cN : ∀ W, HasE W ao l → Tabs W → Calls Tryd.prog 11 #[.slice ao N c] W fun r w' => (∃ g v, r = .returned (.tuple #[.pointer (some ⟨g, 0, none⟩), .int .i64 0]) ∧ TkW w' W.heap.size g v t ∧ W.heap.size ≤ g) ∧ Below W.heap.size W w' := by simpa using cN
  replace cD : Calls Tryd.prog 19 #[.slice ao N c] w fun r w' => (∃ sv, r = .returned (.tuple #[.agg #[.int .i64 t.sl, sv], .int .i64 0]) ∧ DW w' w.heap.size sv t.L) ∧ Below w.heap.size w w' := by simpa using cD
  replace hG : Good t := hG
  clear ht
  have hfew := hG.few
  have htop := hG.top
  obtain ⟨n, hn⟩ : ∃ n, t.L.length = n := ⟨_, rfl⟩
  obtain ⟨sl, hsl⟩ : ∃ sl : Nat, t.sl = sl := ⟨_, rfl⟩
  have hnI : (n : Int) ≤ 4096 := by omega
  go_enter Tryd.func7, Tryd.ntmps7
  go_wp2_with fail
  refine (cD).mono ?_
  rintro e w1 ⟨⟨sv, rfl, hD⟩, hb1⟩
  obtain ⟨a, c2, rfl⟩ := hD.sl
  rw [hn] at hD ⊢
  rw [hsl]
  have hbA := (Below.refl w1.heap.size w1).alloc (Nat.le_refl _) (.cells #[.int .i64 sl, .slice a n c2] 49)
  have XA := Blk.newA' (W := w1) rfl 49 #[.int .i64 sl, .slice a n c2]
  have hb2 := hb1.trans (hbA.mono hb1.size)
  have hD2 := hD.step hbA
  go_wp2_with fail
  refine (cF _ (hE.step hb2)).mono ?_
  rintro e w2 ⟨rfl, rfl⟩
  generalize w1.heap.size = gt at *
  go_wp2_with fail
  refine (cN _ (hE.step hb2) (hT.step hb2)).mono ?_
  rintro e w3 ⟨⟨g, v, rfl, hW, hg⟩, hb3⟩
  have hb4 := hb2.trans (hb3.mono hb2.size)
  have XA3 := XA.step hb3
  have hD3 := hD2.step hb3
  clear cF cN cD hE hD hD2 XA hbA hb1 hb2 hb3
  have cI := line_any _ g v t ix w3 hW
  cases hli : liX t ix with
  | mk i1 i2 ie =>
  obtain ⟨i3, i4, i5, i6⟩ := ie
  rw [hli] at cI
  change Calls Tryd.prog 17 #[.pointer (some ⟨g, 0, none⟩), .int .i64 ix] w3 fun r w' => r = .returned (.tuple #[.agg #[.int .i64 i1, .int .i64 i2, .int .i64 i3, .int .i64 i4, .int .i64 i5, .string i6], .int .i64 (liE t ix)]) ∧ Below w3.heap.size w3 w' at cI
  go_wp2_with fail
  refine (cI).mono ?_
  rintro e w4 ⟨rfl, hb5⟩
  have hbX := (Below.refl w4.heap.size w4).alloc (Nat.le_refl _) (.cells #[.int .i64 i1, .int .i64 i2, .int .i64 i3, .int .i64 i4, .int .i64 i5, .string i6] 33)
  have hbX2 := hb5.trans (hbX.mono hb5.size)
  have XX := Blk.newA' (W := w4) rfl 33 #[.int .i64 i1, .int .i64 i2, .int .i64 i3, .int .i64 i4, .int .i64 i5, .string i6]
  have hW5 := hW.step hbX2
  have XA5 := XA3.step hbX2
  have hD5 := hD3.step hbX2
  have hb6 := hb4.trans (hbX2.mono hb4.size)
  have hgg := hW.blk.lt
  go_upto_region 6 with fail
  generalize w4.alloc (.cells #[.int .i64 i1, .int .i64 i2, .int .i64 i3, .int .i64 i4, .int .i64 i5, .string i6] 33) = w5 at *
  generalize w4.heap.size = gx at *
  clear cI hb5 hbX hbX2 hW XA3 hD3 hb4
  have q1 := XA5.cell (j := 1) rfl
  go_cut [17] (fun v17 wx => v17 = .bool (liB t ix) ∧ wx = w5)
  case first =>
    by_cases h0 : 0 ≤ ix
    · by_cases h1 : ix < n
      · have e : liB t ix = true := by simp [liB, hn, h0, h1]
        go_wp2_with fail
        go_meet
        exact ⟨by rw [e], rfl⟩
      · have e : liB t ix = false := by simp [liB, hn, h1]
        go_wp2_with fail
        go_meet
        exact ⟨by rw [e], rfl⟩
    · have e : liB t ix = false := by simp [liB, h0]
      go_wp2_with fail
      go_meet
      exact ⟨by rw [e], rfl⟩
  case rest =>
  obtain ⟨rfl, rfl⟩ := hcut
  clear q1
  generalize wc = w5 at *
  go_upto_region 7 with fail
  have m0 := extA_cell (XX.cell (j := 0) rfl)
  have m1 := extA_cell (XX.cell (j := 1) rfl)
  have m2 := extA_cell (XX.cell (j := 2) rfl)
  have m3 := extA_cell (XX.cell (j := 3) rfl)
  have m4 := extA_cell (XX.cell (j := 4) rfl)
  have m5 := extA_cell (XX.cell (j := 5) rfl)
  have k1 := extA_cell (XA5.cell (j := 1) rfl)
  have hrow5 := hasL_own (by have := hD5.row; rw [hn] at this; exact this) hn
  go_cut [16, 17, 94] (fun _ _ v94 wx => v94 = .bool false ∧ ExtA w5 wx)
  case first =>
    cases hB : liB t ix
    · have e1 : liX t ix = zL := by unfold liX; rw [hB]; rfl
      have e2 : liE t ix = 4 := by unfold liE; rw [hB]; rfl
      rw [e2]
      rw [hli] at e1
      obtain ⟨rfl, rfl, rfl, rfl, rfl, rfl⟩ : i1 = 0 ∧ i2 = 0 ∧ i3 = 0 ∧ i4 = 0 ∧ i5 = 0 ∧ i6 = ⟨#[]⟩ := by cases e1; exact ⟨rfl, rfl, rfl, rfl, rfl, rfl⟩
      clear e1 e2 hli
      refine wp_region_extB (by kernel_rfl) (by kernel_rfl) ?_
      repeat
        (first
          | go_big_quiet_skip
          | (go_big_quiet_want
             go_big_quiet_op
             first
               | go_big_quiet_on
               | (apply Exists.intro
                  refine ⟨fun w' hC => ?_, ?_⟩
                  · (first
                      | with_reducible rfl
                      | (go_at_call 12; refine (num_any _ _).mono ?_; rintro e w2 ⟨rfl, rfl⟩; exact ⟨rfl, hC⟩)
                      | (go_simp; done)
                      | (go_simp; with_reducible rfl))
                  go_big_quiet_on)))
      refine wpQuiet_nil ?_
      intro wq hq
      go_wp2_with fail
      go_meet
      exact ⟨rfl, hq⟩
    · have e2 : liE t ix = 0 := by unfold liE; rw [hB]; rfl
      rw [e2]
      obtain ⟨h0, h1⟩ : 0 ≤ ix ∧ ix < n := by simpa [liB, hn] using hB
      obtain ⟨j, rfl⟩ := Int.eq_ofNat_of_zero_le h0
      have hx : t.L[j]? = some ⟨i1, i2, ⟨i3, i4, i5, i6⟩⟩ := by
        rw [← hli]; unfold liX; rw [hB, if_pos rfl]
        have : j < t.L.length := by omega
        simp [this]
      obtain ⟨rb, ro, rfl, p0, p1, p2, p3, p4, p5⟩ := hrow5 j _ hx
      simp only at p0 p1 p2 p3 p4 p5
      have y0 := extA_cell p0
      have y1 := extA_cell p1
      have y2 := extA_cell p2
      have y3 := extA_cell p3
      have y4 := extA_cell p4
      have y5 := extA_cell p5
      have hjn : j < n := by omega
      clear p0 p1 p2 p3 p4 p5 e2 hli hx hB
      refine wp_region_extB (by kernel_rfl) (by kernel_rfl) ?_
      repeat
        (first
          | go_big_quiet_skip
          | (go_big_quiet_want
             go_big_quiet_op
             first
               | go_big_quiet_on
               | (apply Exists.intro
                  refine ⟨fun w' hC => ?_, ?_⟩
                  · (first
                      | with_reducible rfl
                      | (go_at_call 12; refine (num_any _ _).mono ?_; rintro e w2 ⟨rfl, rfl⟩; exact ⟨rfl, hC⟩)
                      | (go_simp; done)
                      | (go_simp; with_reducible rfl))
                  go_big_quiet_on)))
      refine wpQuiet_nil ?_
      intro wq hq
      go_wp2_with fail
      go_meet
      exact ⟨rfl, hq⟩
  case rest =>
  obtain ⟨rfl, hx5⟩ := hcut
  clear m0 m1 m2 m3 m4 m5 k1 hrow5 XX hli
  have hb7 := hb6.trans (Below.mono hx5 hb6.size)
  have hW6 := hW5.step hx5
  have XA6 := XA5.step hx5
  have hD6 := hD5.step hx5
  clear hx5 hW5 XA5 hD5 hb6
  generalize wc = w6 at *
  have cP := page_any _ g v t fr most w6 hW6
  unfold pgP at cP
  generalize (w1.alloc (.cells #[.int .i64 sl, .slice a n c2] 49)).heap.size = bs at *
  go_wp2_with fail
  refine (cP).mono ?_
  rintro e w7 ⟨⟨vp, rfl, hrp⟩, hb8⟩
  have hkk : (pgL t fr most).length ≤ 5000 := by
    unfold pgL
    split
    · rw [List.length_take, List.length_drop]; omega
    · simp
  have cQ := fun W hW => refPage_any w.heap.size t a c2 fr most W hW (by omega)
  unfold rqP at cQ
  rw [hn, hsl] at cQ
  generalize pgL t fr most = PL at *
  generalize pgE t fr most = E at *
  obtain ⟨k, hk⟩ : ∃ k, PL.length = k := ⟨_, rfl⟩
  rw [hk] at hrp cQ hkk
  have hkI : (k : Int) ≤ 5000 := by omega
  obtain ⟨ap, cp, rfl⟩ : ∃ ap cp, vp = .slice ap k cp := by
    rcases hrp.2 with ⟨e, e2⟩ | ⟨g', cap', cur, e, -⟩
    · exact ⟨none, 0, by rw [e, e2]⟩
    · exact ⟨_, _, e⟩
  have u0 := (XA6.step hb8).cell (j := 0) rfl
  have u1 := (XA6.step hb8).cell (j := 1) rfl
  have hD7 := hD6.step hb8
  go_wp2_with fail
  refine (cQ _ (by have := hD7.row; rw [hn] at this; exact this)).mono ?_
  rintro e w8 ⟨⟨aq, cq, rfl, hLq⟩, hb9⟩
  have hrp8 := own_step hrp hb9
  have cSL := sameLines_any PL ap aq cp cq w8 (hasL_own hrp8 hk) hLq (by omega)
  rw [hk] at cSL
  go_wp2_with fail
  refine (cSL).mono ?_
  rintro e w9 ⟨rfl, hb10⟩
  go_wp2_with fail
  refine (num_any E _).mono ?_
  rintro e w9 ⟨rfl, rfl⟩
  have hrp9 := own_step hrp8 hb10
  have hb11 : Below w6.heap.size w6 w9 := (hb8.trans (hb9.mono hb8.size)).trans (hb10.mono (by have := hb8.size; have := hb9.size; omega))
  clear cP cQ cSL hb8 hb9 hb10 hrp hrp8 hLq hD7 u0 u1
  go_wp2_with fail
  have hI0 : Hid (∀ pb, ap = some ⟨pb, 0, none⟩ → ∃ cs, Blk w9 pb 33 cs ∧ k * 6 ≤ cs.length) := Lib.hid (fun pb e => by
    subst e
    rcases hrp9.2 with ⟨e, -⟩ | ⟨g', cap', cur, e, _, hh, hle, _, hsz, _⟩
    · cases e
    · cases e
      exact ⟨cur.toList, hh, by rw [Array.length_toList, hsz]; exact Nat.mul_le_mul_right 6 hle⟩)
  go_loopw [22] (fun i wr => ∃ (j : Nat), i = .int .i64 j ∧ j ≤ k ∧ Below w6.heap.size w6 wr ∧ Hid (∀ pb, ap = some ⟨pb, 0, none⟩ → ∃ cs, Blk wr pb 33 cs ∧ k * 6 ≤ cs.length)) (fun i _ => k - (intOf i).toNat)
  case atStart => exact ⟨0, rfl, by omega, hb11, hI0⟩
  case round =>
    obtain ⟨j, rfl, hj, hb, HI⟩ := hrel
    clear hI0 hb11
    by_cases hlt : j < k
    · have hj0 : (0 : Int) ≤ (j : Int) := by omega
      have hj1 : (j : Int) < (k : Int) := by omega
      rcases hrp9.2 with ⟨e, e2⟩ | ⟨pb, cap', cur, e, hge, -⟩
      · omega
      · cases e
        obtain ⟨cs, X, hcs⟩ := HI.out pb rfl
        have hjc : j * 6 < cs.length := by omega
        have z0 := X.cell (j := j * 6) (List.getElem?_eq_getElem hjc)
        have f0 := X.frozen (j * 6)
        clear HI
        go_wp2
        go_roundw
        case rel => exact ⟨j + 1, by go_num, by omega, hb.setCell (p := ⟨pb, j * 6, none⟩) hge _, Lib.hid (fun pb' e' => by cases e'; exact ⟨_, X.set (j * 6) _, by rw [List.length_set]; exact hcs⟩)⟩
        case measure => simp [intOf]; omega
    · obtain rfl : j = k := by omega
      have hW7 := hW6.step hb
      have XA7 := XA6.step hb
      have hD7 := hD6.step hb
      have hb8 := hb7.trans (hb.mono hb7.size)
      clear HI hb hW6 XA6 hD6 hb7 hrp9
      have cO := of_any _ g v t mem wr hW7
      cases hox : ofX t mem with
      | mk o1 o2 o3 =>
      rw [hox] at cO
      change Calls Tryd.prog 25 #[.pointer (some ⟨g, 0, none⟩), .int .i64 mem] wr fun r w' => r = .returned (.tuple #[.agg #[.bool o1, .int .i64 o2, .int .i64 o3], .int .i64 (ofE mem)]) ∧ Below wr.heap.size wr w' at cO
      go_wp2_with fail
      refine (cO).mono ?_
      rintro e w10 ⟨rfl, hb9⟩
      have hbX := (Below.refl w10.heap.size w10).alloc (Nat.le_refl _) (.cells #[.bool o1, .int .i64 o2, .int .i64 o3] 64)
      have hbX2 := hb9.trans (hbX.mono hb9.size)
      have XX := Blk.newA' (W := w10) rfl 64 #[.bool o1, .int .i64 o2, .int .i64 o3]
      have hW8 := hW7.step hbX2
      have XA8 := XA7.step hbX2
      have hD8 := hD7.step hbX2
      have hb10 := hb8.trans (hbX2.mono hb8.size)
      go_upto_region 18 with fail
      generalize w10.alloc (.cells #[.bool o1, .int .i64 o2, .int .i64 o3] 64) = w11 at *
      generalize w10.heap.size = gy at *
      clear cO hb9 hbX hbX2 hW7 XA7 hD7 hb8
      go_cut [25] (fun v25 wx => v25 = .bool (ofB mem) ∧ wx = w11)
      case first =>
        by_cases h0 : 0 ≤ mem
        · by_cases h1 : mem < 16
          · have e : ofB mem = true := by simp [ofB, h0, h1]
            go_wp2_with fail
            go_meet
            exact ⟨by rw [e], rfl⟩
          · have e : ofB mem = false := by simp [ofB, h1]
            go_wp2_with fail
            go_meet
            exact ⟨by rw [e], rfl⟩
        · have e : ofB mem = false := by simp [ofB, h0]
          go_wp2_with fail
          go_meet
          exact ⟨by rw [e], rfl⟩
      case rest =>
      obtain ⟨rfl, rfl⟩ := hcut
      generalize wc = w11 at *
      go_upto_region 19 with fail
      have m0 := extA_cell (XX.cell (j := 0) rfl)
      have m1 := extA_cell (XX.cell (j := 1) rfl)
      have m2 := extA_cell (XX.cell (j := 2) rfl)
      have k0 := extA_cell (XA8.cell (j := 0) rfl)
      have k1 := extA_cell (XA8.cell (j := 1) rfl)
      have hrow8 : ∀ W, ExtA w11 W → HasL W a t.L := fun W hW => hasL_own (by have := (hD8.step hW).row; rw [hn] at this; exact this) hn
      go_cut [24, 25, 169] (fun _ _ v169 wx => v169 = .bool false ∧ ExtA w11 wx)
      case first =>
        cases hB : ofB mem
        · have e1 : ofX t mem = z0 := by unfold ofX; rw [hB]; rfl
          have e2 : ofE mem = 2 := by unfold ofE; rw [hB]; rfl
          rw [e2]
          rw [hox] at e1
          obtain ⟨rfl, rfl, rfl⟩ : o1 = false ∧ o2 = 0 ∧ o3 = 0 := by cases e1; exact ⟨rfl, rfl, rfl⟩
          clear e1 e2 hox
          refine wp_region_extB (by kernel_rfl) (by kernel_rfl) ?_
          repeat
            (first
              | go_big_quiet_skip
              | (go_big_quiet_want
                 go_big_quiet_op
                 first
                   | go_big_quiet_on
                   | (apply Exists.intro
                      refine ⟨fun w' hC => ?_, ?_⟩
                      · (first
                          | with_reducible rfl
                          | (go_at_call 12; refine (num_any _ _).mono ?_; rintro e w2 ⟨rfl, rfl⟩; exact ⟨rfl, hC⟩)
                          | (go_simp; done)
                          | (go_simp; with_reducible rfl))
                      go_big_quiet_on)))
          refine wpQuiet_nil ?_
          intro wq hq
          go_wp2_with fail
          go_meet
          exact ⟨rfl, hq⟩
        · have e2 : ofE mem = 0 := by unfold ofE; rw [hB]; rfl
          rw [e2]
          obtain ⟨h0, h1⟩ : 0 ≤ mem ∧ mem < 16 := by simpa [ofB] using hB
          have hst : stOf mem t.L = ⟨o1, o2, o3⟩ := by
            obtain ⟨mm, rfl⟩ := Int.eq_ofNat_of_zero_le h0
            rw [← hox]; unfold ofX; rw [hB, if_pos rfl, Int.toNat_natCast]
            exact (hG.say mm (by omega)).symm
          have cR := fun W hW => refOf_any t.L a c2 sl mem W hW (by omega)
          rw [hn, hst] at cR
          change ∀ W, HasL W a t.L → Calls Tryd.prog 26 #[.agg #[.int .i64 sl, .slice a n c2], .int .i64 mem] W fun r w' => r = .returned (.agg #[.bool o1, .int .i64 o2, .int .i64 o3]) ∧ Below W.heap.size W w' at cR
          clear hst e2 hox hB
          refine wp_region_extB (by kernel_rfl) (by kernel_rfl) ?_
          repeat
            (first
              | go_big_quiet_skip
              | (go_big_quiet_want
                 go_big_quiet_op
                 first
                   | go_big_quiet_on
                   | (apply Exists.intro
                      refine ⟨fun w' hC => ?_, ?_⟩
                      · (first
                          | with_reducible rfl
                          | (go_at_call 12; refine (num_any _ _).mono ?_; rintro e w2 ⟨rfl, rfl⟩; exact ⟨rfl, hC⟩) | (go_at_call 26; refine (cR _ (hrow8 _ hC)).mono ?_; rintro e w2 ⟨rfl, hb9⟩; exact ⟨rfl, extA_then hC hb9⟩)
                          | (go_simp; done)
                          | (go_simp; with_reducible rfl))
                      go_big_quiet_on)))
          refine wpQuiet_nil ?_
          intro wq hq
          go_wp2_with fail
          go_meet
          exact ⟨rfl, hq⟩
      case rest =>
      obtain ⟨rfl, hx11⟩ := hcut
      clear m0 m1 m2 k0 k1 hrow8 XX hox
      have hb12 := hb10.trans (Below.mono hx11 hb10.size)
      have hW9 := hW8.step hx11
      have XA9 := XA8.step hx11
      have hD9 := hD8.step hx11
      clear hx11 hW8 XA8 hD8 hb10
      have k0 := XA9.cell (j := 0) rfl
      have k1 := XA9.cell (j := 1) rfl
      have cI := is_any _ _ g v _ t _ hW9 hG hD9
      rw [hsl] at cI
      have hT9 : Tabs wc := hT.step hb12
      go_wp2_with fail
      refine (cI).mono ?_
      rintro e w12 ⟨rfl, hb13⟩
      go_wp2_with fail
      refine (works_any _ (hT9.step hb13)).mono ?_
      rintro e w13 ⟨rfl, hb14⟩
      go_wp2
      go_ret
      have hb15 := hb12.trans (hb13.mono hb12.size)
      exact ⟨rfl, hb15.trans (hb14.mono hb15.size)⟩
end Go.Proofs.YtndechodaegkiaaDoor
