
/- ChatHolds: the walk. -/
import Derived.Test.YtndechodaegkiaaDoorChHa
namespace Go.Proofs.YtndechodaegkiaaDoor
open Go.RowKit
set_option maxRecDepth 100000 in
set_option maxHeartbeats 2000000 in
theorem holds_off (l : List En) (ao : Option Addr) (c : Nat) (cut most : Int) (w : World) (hT : Tabs w) (hE : HasE w ao l) (hl : l.length ≤ 9223372036854775807) (hs : ∀ e, e ∈ l → e.s.size ≤ 9223372036854775807) (ho : fewB l 40 = false ∨ most < 1 ∨ 64 < most ∨ (newF tk0 0 l).2 ≠ 0) :
    Calls Tryd.prog 4 #[.slice ao l.length c, .int .i64 cut, .int .i64 most] w fun r w' => r = .returned (.bool true) ∧ Below w.heap.size w w' := by
  have cF := few_any l ao c 40 w hE hl
  have hlen : ∃ N, l.length = N := ⟨_, rfl⟩
  cases hf : fewB l 40
  · rw [hf] at cF
    obtain ⟨N, hN⟩ := hlen
    rw [hN] at cF ⊢
    clear ho
    go_enter Tryd.func4, Tryd.ntmps4
    go_wp2_with fail
    refine (cF).mono ?_
    rintro e w1 ⟨rfl, rfl⟩
    go_wp2_with fail
    refine (works_any _ hT).mono ?_
    rintro e w2 ⟨rfl, hb⟩
    go_wp2
    go_ret
    exact ⟨rfl, hb⟩
  · rw [hf] at cF
    by_cases hm1 : most < 1
    · obtain ⟨N, hN⟩ := hlen
      rw [hN] at cF ⊢
      clear ho
      go_enter Tryd.func4, Tryd.ntmps4
      go_wp2_with fail
      refine (cF).mono ?_
      rintro e w1 ⟨rfl, rfl⟩
      go_wp2_with fail
      refine (works_any _ hT).mono ?_
      rintro e w2 ⟨rfl, hb⟩
      go_wp2
      go_ret
      exact ⟨rfl, hb⟩
    · by_cases hm2 : 64 < most
      · obtain ⟨N, hN⟩ := hlen
        rw [hN] at cF ⊢
        clear ho
        go_enter Tryd.func4, Tryd.ntmps4
        go_wp2_with fail
        refine (cF).mono ?_
        rintro e w1 ⟨rfl, rfl⟩
        go_wp2_with fail
        refine (works_any _ hT).mono ?_
        rintro e w2 ⟨rfl, hb⟩
        go_wp2
        go_ret
        exact ⟨rfl, hb⟩
      · have hE0 : (newF tk0 0 l).2 ≠ 0 := by
          rcases ho with h | h | h | h
          · rw [hf] at h; cases h
          · exact absurd h hm1
          · exact absurd h hm2
          · exact h
        obtain ⟨hl40, _⟩ := few_small hf
        have cN := new_any l ao c w hE hT hs (by omega)
        obtain ⟨N, hN⟩ := hlen
        rw [hN] at cF cN ⊢
        unfold newP at cN
        generalize (newF tk0 0 l).2 = E at cN hE0
        replace cN : Calls Tryd.prog 11 #[.slice ao N c] w fun r w' => r = .returned (.tuple #[.pointer none, .int .i64 E]) ∧ Below w.heap.size w w' := by simpa [hE0] using cN
        clear ho
        go_enter Tryd.func4, Tryd.ntmps4
        go_wp2_with fail
        refine (cF).mono ?_
        rintro e w1 ⟨rfl, rfl⟩
        go_wp2_with fail
        refine (cN).mono ?_
        rintro e w2 ⟨rfl, hb2⟩
        go_wp2_with fail
        refine (num_any E _).mono ?_
        rintro e w' ⟨rfl, rfl⟩
        go_wp2_with fail
        refine (works_any _ (hT.step hb2)).mono ?_
        rintro e w3 ⟨rfl, hb3⟩
        go_wp2
        go_ret
        exact ⟨rfl, hb2.trans (hb3.mono hb2.size)⟩
theorem hasE_take {w : World} {a : Option Addr} {l : List En} (h : HasE w a l) (q : Nat) : HasE w a (l.take q) := fun k x hx => h k x (by
  rw [List.getElem?_take] at hx
  split at hx
  · exact hx
  · cases hx)
theorem pre_get {L M : List Ln} (h : L <+: M) {j : Nat} {x : Ln} (hx : L[j]? = some x) : M[j]? = some x := by
  obtain ⟨r, rfl⟩ := h
  rw [List.getElem?_append_left (List.getElem?_eq_some_iff.1 hx).1]; exact hx
theorem TkW.kx {W W' : World} {base g : Nat} {v : Value} {t : Tk} {ws : List Nat} (h : TkW W base g v t) (hK : Kx ws W W') (hd : ∀ x, x ∈ g :: v.ownBlock.toList → x ∉ ws) : TkW W' base g v t := by
  refine ⟨hK.blk h.blk (hd g (by simp)), ?_, h.len, h.few, h.top⟩
  obtain ⟨h1, h2⟩ := h.row
  refine ⟨h1, ?_⟩
  rcases h2 with h2 | ⟨b, cap, cur, hv, hg, hh, r⟩
  · exact Or.inl h2
  · refine Or.inr ⟨b, cap, cur, hv, hg, ?_, r⟩
    rw [hK.block b (Array.getElem?_eq_some_iff.1 hh).1 (hd b (by rw [hv]; simp [Value.ownBlock]))]
    exact hh
theorem insL_zero (L : List Ln) : insL L 0 = [.bool false, .bool false, .bool false, .bool false, .bool false, .bool false, .bool false, .bool false, .bool false, .bool false, .bool false, .bool false, .bool false, .bool false, .bool false, .bool false] := rfl
theorem lastL_zero (L : List Ln) : lastL L 0 = [.int .i64 0, .int .i64 0, .int .i64 0, .int .i64 0, .int .i64 0, .int .i64 0, .int .i64 0, .int .i64 0, .int .i64 0, .int .i64 0, .int .i64 0, .int .i64 0, .int .i64 0, .int .i64 0, .int .i64 0, .int .i64 0] := rfl
theorem page_at (base g : Nat) (v : Value) (t : Tk) (i most : Nat) (w : World) (h : TkW w base g v t) (hi : i < t.L.length) (hm1 : 1 ≤ most) (hm2 : most ≤ 64) :
    Calls Tryd.prog 18 #[.pointer (some ⟨g, 0, none⟩), .int .i64 i, .int .i64 most] w fun r w' => (∃ pb pc, r = .returned (.tuple #[.slice (some ⟨pb, 0, none⟩) ((t.L.drop i).take most).length pc, .int .i64 0]) ∧ w.heap.size ≤ pb ∧ HasL w' (some ⟨pb, 0, none⟩) ((t.L.drop i).take most)) ∧ Below w.heap.size w w' := by
  have hE : pgE t i most = 0 := by unfold pgE; rw [if_neg (by omega), if_neg (by omega)]
  have hL : pgL t i most = (t.L.drop i).take most := by unfold pgL; rw [if_pos hE]; simp
  have c := page_any base g v t i most w h
  unfold pgP at c
  rw [hE, hL] at c
  refine Calls.mono c ?_
  rintro r w' ⟨⟨vp, rfl, hrow⟩, hb⟩
  refine ⟨?_, hb⟩
  have hlen : 0 < ((t.L.drop i).take most).length := by rw [List.length_take, List.length_drop]; omega
  rcases hrow.2 with ⟨_, e⟩ | ⟨pb, pc, cur, rfl, hge, -⟩
  · omega
  · exact ⟨pb, pc, rfl, hge, hasL_own hrow rfl⟩
theorem HasL.kx {w w' : World} {a : Option Addr} {L : List Ln} {ws : List Nat} (h : HasL w a L) (hK : Kx ws w w') (hd : ∀ b off, a = some ⟨b, off, none⟩ → b ∉ ws) : HasL w' a L := fun k x hx => by
  obtain ⟨b, off, ha, h0, h1, h2, h3, h4, h5⟩ := h k x hx
  have hlt := World.block_lt_of_cell? w _ h0
  have key : ∀ o, w'.cell? ⟨b, o, none⟩ = w.cell? ⟨b, o, none⟩ := fun o => World.cell?_of_block (hK.block b hlt (hd b off ha))
  exact ⟨b, off, ha, (key _).trans h0, (key _).trans h1, (key _).trans h2, (key _).trans h3, (key _).trans h4, (key _).trans h5⟩
theorem line_at (base g : Nat) (v : Value) (t : Tk) (j : Nat) (x : Ln) (w : World) (h : TkW w base g v t) (hx : t.L[j]? = some x) :
    Calls Tryd.prog 17 #[.pointer (some ⟨g, 0, none⟩), .int .i64 j] w fun r w' => r = .returned (.tuple #[.agg #[.int .i64 x.i, .int .i64 x.sl, .int .i64 x.e.k, .int .i64 x.e.m, .int .i64 x.e.n, .string x.e.s], .int .i64 0]) ∧ Below w.heap.size w w' := by
  have hlt : j < t.L.length := (List.getElem?_eq_some_iff.1 hx).1
  have hli : liB t (j : Int) = true := by simp [liB, hlt]
  have hlx : liX t (j : Int) = x := by unfold liX; rw [hli]; simp [hx]
  have hle : liE t (j : Int) = 0 := by unfold liE; rw [hli]; rfl
  have c := line_any base g v t (j : Int) w h
  rw [hlx, hle] at c
  exact c
set_option maxRecDepth 100000 in
set_option maxHeartbeats 8000000 in
theorem holds_on (l : List En) (ao : Option Addr) (c : Nat) (cut : Int) (most : Nat) (w : World) (hT : Tabs w) (hE : HasE w ao l) (hlc : l.length ≤ c) (hs : ∀ e, e ∈ l → e.s.size ≤ 9223372036854775807) (hf : fewB l 40 = true) (hm1 : 1 ≤ most) (hm2 : most ≤ 64) (t : Tk) (ht : newF tk0 0 l = (t, 0)) :
    Calls Tryd.prog 4 #[.slice ao l.length c, .int .i64 cut, .int .i64 most] w fun r w' => r = .returned (.bool true) ∧ Below w.heap.size w w' := by
  obtain ⟨hl40, _⟩ := few_small hf
  have cF := few_any l ao c 40 w hE (by omega)
  have cN := new_any l ao c w hE hT hs (by omega)
  have hok : okL l t.L := by have := new_ok l; rwa [ht] at this
  have hG : Good t := by have := newF_good l 0 tk0 good0; rwa [ht] at this
  have htk := fun k => newF_take l 0 tk0 k (by rw [ht])
  rw [ht] at htk
  have cU := fun k W hW hTW => new_any (l.take k) ao c W hW hTW (fun e he => hs e (List.mem_of_mem_take he)) (by rw [List.length_take]; omega)
  have hmI1 : (1 : Int) ≤ most := by omega
  have hmI2 : (most : Int) ≤ 64 := by omega
  obtain ⟨N, hN⟩ : ∃ N, l.length = N := ⟨_, rfl⟩
  have hNI : (N : Int) ≤ 40 := by omega
  rw [hN] at cF cN hlc ⊢
  rw [hf] at cF
  unfold newP at cN
  rw [ht] at cN
  replace cN : Calls Tryd.prog 11 #[.slice ao N c] w fun r w' => (∃ g v, r = .returned (.tuple #[.pointer (some ⟨g, 0, none⟩), .int .i64 0]) ∧ TkW w' w.heap.size g v t ∧ w.heap.size ≤ g) ∧ Below w.heap.size w w' := by simpa using cN
  clear ht hf
  have hfew := hG.few
  have htop := hG.top
  obtain ⟨n, hn⟩ : ∃ n, t.L.length = n := ⟨_, rfl⟩
  have hnI : (n : Int) ≤ 4096 := by omega
  have hd1 : decide ((most : Int) < 1) = false := decide_eq_false (by omega)
  have hd2 : decide (64 < (most : Int)) = false := decide_eq_false (by omega)
  go_enter Tryd.func4, Tryd.ntmps4
  go_wp2_with fail
  refine (cF).mono ?_
  rintro e w1 ⟨rfl, rfl⟩
  go_wp2_with fail
  refine (cN).mono ?_
  rintro e w2 ⟨⟨g, v, rfl, hW, hg⟩, hb2⟩
  go_wp2_with fail
  refine (num_any 0 _).mono ?_
  rintro e w' ⟨rfl, rfl⟩
  obtain ⟨kk, hkk⟩ : ∃ kk, (max 0 (min (N : Int) cut)).toNat = kk := ⟨_, rfl⟩
  have hkN : kk ≤ N := by omega
  obtain ⟨hu0, hpre⟩ := htk kk
  have cU2 := cU kk w2 (hasE_take (hE.step hb2) kk) (hT.step hb2)
  unfold newP at cU2
  rw [hu0] at cU2
  generalize (newF tk0 0 (l.take kk)).1 = u at cU2 hpre
  rw [show (l.take kk).length = kk by rw [List.length_take]; omega] at cU2
  replace hpre : u.L <+: t.L := hpre
  replace cU2 : Calls Tryd.prog 11 #[.slice ao kk c] w2 fun r w' => (∃ g v, r = .returned (.tuple #[.pointer (some ⟨g, 0, none⟩), .int .i64 0]) ∧ TkW w' w2.heap.size g v u ∧ w2.heap.size ≤ g) ∧ Below w2.heap.size w2 w' := by simpa using cU2
  clear cU htk hu0 cN cF
  go_wp2_with fail
  refine (cU2).mono ?_
  rintro e w3 ⟨⟨g2, v2, rfl, hU, hg2⟩, hb3⟩
  have hb4 := hb2.trans (hb3.mono hb2.size)
  have hW3 := hW.step hb3
  obtain ⟨m, hm⟩ : ∃ m, u.L.length = m := ⟨_, rfl⟩
  have hmn : m ≤ n := by rw [← hm, ← hn]; exact hpre.length_le
  have hmnI : (m : Int) ≤ (n : Int) := by omega
  have cLu : ∀ W, TkW W w2.heap.size g2 v2 u → Calls Tryd.prog 16 #[.pointer (some ⟨g2, 0, none⟩)] W fun e w' => e = .returned (.int .i64 m) ∧ W = w' := fun W hW => by have := len_any _ g2 v2 u W hW; rwa [hm] at this
  have cLt : ∀ W, TkW W w.heap.size g v t → Calls Tryd.prog 16 #[.pointer (some ⟨g, 0, none⟩)] W fun e w' => e = .returned (.int .i64 n) ∧ W = w' := fun W hW => by have := len_any _ g v t W hW; rwa [hn] at this
  clear cU2 hW hb2 hb3 hkk
  generalize w2.heap.size = bu at *
  go_wp2_with fail
  refine (num_any 0 _).mono ?_
  rintro e w' ⟨rfl, rfl⟩
  go_wp2_with fail
  refine (cLu _ hU).mono ?_
  rintro e w' ⟨rfl, rfl⟩
  go_wp2_with fail
  refine (cLt _ hW3).mono ?_
  rintro e w' ⟨rfl, rfl⟩
  go_upto_region 9 with fail
  go_cut [11] (fun v11 wx => v11 = .int .i64 0 ∧ wx = w3)
  case first =>
    go_wp2_with fail
    go_meet
    exact ⟨rfl, rfl⟩
  case rest =>
  obtain ⟨rfl, rfl⟩ := hcut
  generalize wc = w3 at *
  go_wp2_with fail
  go_loopw [11] (fun i wr => ∃ (j : Nat), i = .int .i64 j ∧ j ≤ m ∧ ExtA w3 wr) (fun i _ => m - (intOf i).toNat)
  case atStart => exact ⟨0, rfl, by omega, Below.refl _ _⟩
  case round =>
    obtain ⟨j, rfl, hj, hb⟩ := hrel
    go_wp2_with fail
    refine (cLu _ (hU.step hb)).mono ?_
    rintro e w' ⟨rfl, rfl⟩
    by_cases hlt : j < m
    · have hj0 : (0 : Int) ≤ (j : Int) := by omega
      have hj1 : (j : Int) < (m : Int) := by omega
      obtain ⟨x, hx⟩ : ∃ x, u.L[j]? = some x := ⟨u.L[j], by simp [hm, hlt]⟩
      have cA := line_at _ g v t j x wr (hW3.step hb) (pre_get hpre hx)
      have cB := fun W hW => line_at bu g2 v2 u j x W hW hx
      obtain ⟨x1, x2, x3, x4, x5, x6⟩ := x
      simp only at cA cB
      go_wp2_with fail
      refine (cA).mono ?_
      rintro e w4 ⟨rfl, hb5⟩
      have hb6 : ExtA w3 (w4.alloc (.cells #[.int .i64 x1, .int .i64 x2, .int .i64 x3, .int .i64 x4, .int .i64 x5, .string x6] 33)) := extA_then (extA_then hb hb5) ((Below.refl _ _).alloc (Nat.le_refl _) _)
      have XA := Blk.newA' (W := w4) rfl 33 #[.int .i64 x1, .int .i64 x2, .int .i64 x3, .int .i64 x4, .int .i64 x5, .string x6]
      clear hb5
      go_wp2_with fail
      generalize w4.alloc (.cells #[.int .i64 x1, .int .i64 x2, .int .i64 x3, .int .i64 x4, .int .i64 x5, .string x6] 33) = w5 at *
      generalize w4.heap.size = ga at *
      refine (cB w5 (hU.step hb6)).mono ?_
      rintro e w6 ⟨rfl, hb7⟩
      have hbZ := (Below.refl w6.heap.size w6).alloc (Nat.le_refl _) (.cells #[.int .i64 x1, .int .i64 x2, .int .i64 x3, .int .i64 x4, .int .i64 x5, .string x6] 33)
      have XB := Blk.newA' (W := w6) rfl 33 #[.int .i64 x1, .int .i64 x2, .int .i64 x3, .int .i64 x4, .int .i64 x5, .string x6]
      have XA2 := (XA.step hb7).step hbZ
      have hb8 : ExtA w3 _ := extA_then (extA_then hb6 hb7) hbZ
      have p0 := XA2.cell (j := 0) rfl
      have p1 := XA2.cell (j := 1) rfl
      have p2 := XA2.cell (j := 2) rfl
      have p3 := XA2.cell (j := 3) rfl
      have p4 := XA2.cell (j := 4) rfl
      have p5 := XA2.cell (j := 5) rfl
      have q0 := XB.cell (j := 0) rfl
      have q1 := XB.cell (j := 1) rfl
      have q2 := XB.cell (j := 2) rfl
      have q3 := XB.cell (j := 3) rfl
      have q4 := XB.cell (j := 4) rfl
      have q5 := XB.cell (j := 5) rfl
      clear XA XB XA2 hb7 hbZ hb6 cA cB hx
      go_wp2_with fail
      refine (num_any 0 _).mono ?_
      rintro e w' ⟨rfl, rfl⟩
      go_wp2_with fail
      refine (num_any 0 _).mono ?_
      rintro e w' ⟨rfl, rfl⟩
      go_wp2
      go_roundw
      case rel => exact ⟨j + 1, by go_num, by omega, hb8⟩
      case measure => simp [intOf]; omega
    · obtain rfl : j = m := by omega
      have hW4 := hW3.step hb
      have hb5 := hb4.trans (Below.mono hb hb4.size)
      clear hU cLu hpre hm hmn hmnI hj hlt hb hb4 hW3 hg2
      go_upto_region 18 with fail
      obtain ⟨gi, hgi⟩ : ∃ gi, wr.heap.size = gi := ⟨_, rfl⟩
      have XI := (Blk.newA' hgi 42 (insL t.L 0).toArray).alloc (.cells (lastL t.L 0).toArray 43)
      have XL := Blk.newA' (alloc_size hgi (.cells (insL t.L 0).toArray 42)) 43 (lastL t.L 0).toArray
      have hbI := ((Below.refl wr.heap.size wr).alloc (Nat.le_refl _) (.cells (insL t.L 0).toArray 42)).alloc (by rw [World.size_alloc]; omega) (.cells (lastL t.L 0).toArray 43)
      have hW5 := hW4.step hbI
      have hb6 := hb5.trans (hbI.mono hb5.size)
      have hlt4 := hW4.lt
      have hgiw : w.heap.size ≤ gi := by have := hb5.size; omega
      clear hbI hW4 hb5
      rw [hgi] at hlt4 ⊢
      rw [insL_zero, lastL_zero] at XI XL hW5 hb6
      change Blk _ gi 42 (insL t.L 0) at XI
      change Blk _ (gi + 1) 43 (lastL t.L 0) at XL
      generalize (wr.alloc (.cells #[.bool false, .bool false, .bool false, .bool false, .bool false, .bool false, .bool false, .bool false, .bool false, .bool false, .bool false, .bool false, .bool false, .bool false, .bool false, .bool false] 42)).alloc (.cells #[.int .i64 0, .int .i64 0, .int .i64 0, .int .i64 0, .int .i64 0, .int .i64 0, .int .i64 0, .int .i64 0, .int .i64 0, .int .i64 0, .int .i64 0, .int .i64 0, .int .i64 0, .int .i64 0, .int .i64 0, .int .i64 0] 43) = w4 at *
      clear hgi
      have hgz : gi + 1 < w4.heap.size := XL.lt
      go_wp2_with fail
      go_loopw [18] (fun s18 wr2 => ∃ (i : Nat), s18 = .int .i64 i ∧ i ≤ n ∧ Kx [gi, gi + 1] w4 wr2 ∧ Blk wr2 gi 42 (insL t.L i) ∧ Blk wr2 (gi + 1) 43 (lastL t.L i)) (fun s18 _ => n - (intOf s18).toNat)
      case atStart => exact ⟨0, rfl, by omega, Kx.refl _ _, XI, XL⟩
      case round =>
        clear XI XL
        obtain ⟨i, rfl, hi, hK, XI, XL⟩ := hrel
        have hW6 : TkW _ _ g v t := hW5.kx hK (fun x hx => by have := hlt4 x hx; simp; omega)
        go_wp2_with fail
        refine (cLt _ hW6).mono ?_
        rintro e w' ⟨rfl, rfl⟩
        by_cases hin : i < n
        · have hi0 : (0 : Int) ≤ (i : Int) := by omega
          have hi1 : (i : Int) < (n : Int) := by omega
          have cP := page_at _ g v t i most _ hW6 (by omega) hm1 hm2
          have hPget : ∀ (j : Nat) x, ((t.L.drop i).take most)[j]? = some x → t.L[i + j]? = some x := fun j x hx => by
            rw [List.getElem?_take] at hx
            split at hx
            · rwa [List.getElem?_drop] at hx
            · cases hx
          have hPlen : ((t.L.drop i).take most).length ≤ most ∧ 0 < ((t.L.drop i).take most).length ∧ i + ((t.L.drop i).take most).length ≤ n := by
            rw [List.length_take, List.length_drop]; omega
          generalize (t.L.drop i).take most = PL at cP hPget hPlen
          obtain ⟨k, hk⟩ : ∃ k, PL.length = k := ⟨_, rfl⟩
          rw [hk] at cP hPlen
          obtain ⟨hk1, hk2, hk3⟩ := hPlen
          have hk0 : (0 : Int) < (k : Int) := by omega
          have hkm : (k : Int) ≤ (most : Int) := by omega
          have hd3 : decide ((most : Int) < (k : Int)) = false := decide_eq_false (by omega)
          have hd4 : ((k : Int) == 0) = false := by simp; omega
          go_wp2_with fail
          refine (cP).mono ?_
          rintro e w5 ⟨⟨pb, pc, rfl, hpb, hPL⟩, hb7⟩
          go_wp2_with fail
          refine (num_any 0 _).mono ?_
          rintro e w' ⟨rfl, rfl⟩
          go_upto_region 23 with fail
          go_cut [21] from 95 to 215 (fun v21 wx => v21 = .int .i64 0 ∧ wx = w5)
          case first =>
            go_wp2_with fail
            go_meet
            exact ⟨rfl, rfl⟩
          case rest =>
          obtain ⟨rfl, rfl⟩ := hcut
          generalize wc = w5 at *
          go_wp2_with fail
          have hb8 : Below w.heap.size w w5 := (hb6.trans (hK.below hb6.size (by simp; omega))).trans (hb7.mono (by have := hb6.size; have := hK.size; omega))
          have hK5 : Kx [gi, gi + 1] w4 w5 := hK.step hb7
          have XI5 := XI.step hb7
          have XL5 := XL.step hb7
          have hpbI : pb ≠ gi ∧ pb ≠ gi + 1 := by have := hK.size; omega
          clear cP hW6 hK XI XL
          go_loopw [18, 21] (fun s18 s21 wr3 => ∃ (jj : Nat), s18 = .int .i64 ((i + jj : Nat) : Int) ∧ s21 = .int .i64 jj ∧ jj ≤ k ∧ Kx [gi, gi + 1] w5 wr3 ∧ Blk wr3 gi 42 (insL t.L (i + jj)) ∧ Blk wr3 (gi + 1) 43 (lastL t.L (i + jj))) (fun _ s21 _ => k - (intOf s21).toNat)
          case atStart => exact ⟨0, rfl, rfl, by omega, Kx.refl _ _, XI5, XL5⟩
          case round =>
            clear XI5 XL5
            obtain ⟨jj, rfl, rfl, hjj, hK3, XI, XL⟩ := hrel
            by_cases hjk : jj < k
            · obtain ⟨x, hx⟩ : ∃ x, PL[jj]? = some x := ⟨PL[jj], by simp [hk, hjk]⟩
              have hxt := hPget jj x hx
              obtain ⟨hxi, ⟨p, hxp, hlp⟩, hm0, hm16, hrc⟩ := hok (i + jj) x hxt
              obtain ⟨mm, hmm⟩ : ∃ mm : Nat, x.e.m = mm := ⟨x.e.m.toNat, by omega⟩
              have hq16 : mm < 16 := by omega
              have hJ := ins_join hxt hmm
              have hLv := ins_leave hxt hmm
              have hSy := ins_say hxt hmm
              rw [hmm] at hrc
              obtain ⟨_, _, ep, p0, p1, p2, p3, p4, p5⟩ := (hPL.kx hK3 (fun b off e => by cases e; simp; exact hpbI)) jj x hx
              cases ep
              rw [Nat.zero_add] at p0 p1 p2 p3 p4 p5
              have hb9 : Below w.heap.size w _ := hb8.trans (hK3.below hb8.size (by simp; omega))
              obtain ⟨be, oe, rfl, z0, z1, z2, z3⟩ := (hE.step hb9) p x.e hlp
              have hpN : p < N := by rw [← hN]; exact (List.getElem?_eq_some_iff.1 hlp).1
              obtain ⟨x1, x2, x3, x4, x5, x6⟩ := x
              simp only at hxi hxp hmm hJ hLv hSy p0 p1 p2 p3 p4 p5 z0 z1 z2 z3
              rw [Int.natCast_add] at hxi
              subst hxi hxp hmm
              have p3' : wr.cell? ⟨pb, jj * 6 + 2 + 1, none⟩ = some (.int .i64 mm) := p3
              have p4' : wr.cell? ⟨pb, jj * 6 + 2 + 2, none⟩ = some (.int .i64 x5) := p4
              have p5' : wr.cell? ⟨pb, jj * 6 + 2 + 3, none⟩ = some (.string x6) := p5
              have hj0 : (0 : Int) ≤ (jj : Int) := by omega
              have hj1 : (jj : Int) < (k : Int) := by omega
              have hp0 : (0 : Int) ≤ (p : Int) := by omega
              have hp1 : (p : Int) < (N : Int) := by omega
              have hq0 : (0 : Int) ≤ (mm : Int) := by omega
              have hq1 : (mm : Int) < 16 := by omega
              have hq2 : ¬ (15 : Int) < (mm : Int) := by omega
              have gd1 : decide ((p : Int) < 0) = false := decide_eq_false (by omega)
              have gd2 : decide ((N : Int) ≤ (p : Int)) = false := decide_eq_false (by omega)
              have gd3 : decide (N ≤ p) = false := decide_eq_false (by omega)
              have gd4 : decide ((mm : Int) < 0) = false := decide_eq_false (by omega)
              have gd5 : decide (15 < (mm : Int)) = false := decide_eq_false (by omega)
              have gd6 : ((i : Int) + (jj : Int) != (i : Int) + (jj : Int)) = false := by simp
              have XE := Blk.newA' (W := wr) rfl 26 #[.int .i64 x3, .int .i64 mm, .int .i64 x5, .string x6]
              have hbE : ExtA wr (wr.alloc (.cells #[.int .i64 x3, .int .i64 mm, .int .i64 x5, .string x6] 26)) := (Below.refl wr.heap.size wr).alloc (Nat.le_refl _) _
              go_wp2_with fail
              generalize wr.alloc (.cells #[.int .i64 x3, .int .i64 mm, .int .i64 x5, .string x6] 26) = w6 at *
              have y0 := extA_cell (cells_kept hbE p0)
              have y1 := extA_cell (cells_kept hbE p1)
              have v0 := extA_cell (cells_kept hbE z0)
              have v1 := extA_cell (cells_kept hbE z1)
              have v2' := extA_cell (cells_kept hbE z2)
              have v3 := extA_cell (cells_kept hbE z3)
              have n0 := extA_cell (XE.cell (j := 0) rfl)
              have n1 := extA_cell (XE.cell (j := 1) rfl)
              have n2 := extA_cell (XE.cell (j := 2) rfl)
              have n3 := extA_cell (XE.cell (j := 3) rfl)
              clear p0 p1 p2 p3 p4 p5 z0 z1 z2 z3 p3' p4' p5'
              refine wp_region_extB (by kernel_rfl) (by kernel_rfl) ?_
              repeat
                (first
                  | go_big_quiet_skip
                  | (go_big_quiet_want
                     go_big_quiet_op
                     first
                       | go_big_quiet_on
                       | (apply Exists.intro
                          refine ⟨fun w' hC => ?_, ?_⟩
                          · (first
                              | with_reducible rfl
                              | fail
                              | (go_simp; done)
                              | (go_simp; with_reducible rfl))
                          go_big_quiet_on)))
              refine wpQuiet_nil ?_
              intro wq hq
              have hx7 : ExtA wr wq := extA_then hbE hq
              have XI7 := XI.step hx7
              have XL7 := XL.step hx7
              have XE7 := XE.step hq
              have hK7 : Kx [gi, gi + 1] w5 wq := hK3.step hx7
              clear y0 y1 v0 v1 v2' v3 n0 n1 n2 n3 XI XL XE hx7 hbE hq hK3 hb9
              generalize wq = w7 at *
              have n0 := XE7.cell (j := 0) rfl
              have n2 := XE7.cell (j := 2) rfl
              by_cases k2 : x3 = 2
              · subst k2
                have hin : (stOf mm (List.take (i + jj) t.L)).inn = false := by simpa [rcB] using hrc
                have cI := XI7.cell (insL_get t.L (i + jj) mm hq16)
                rw [hin] at cI
                have fI := XI7.frozen mm
                obtain ⟨e1, e2⟩ := hJ rfl
                have E1 := Lib.hid e1
                have E2 := Lib.hid e2
                have e3 : i + (jj + 1) = i + jj + 1 := rfl
                clear e1 e2 hJ hLv hSy
                clear hrc hin
                go_wp2
                go_roundw
                case rel => exact ⟨jj + 1, by first | go_num | (simp; omega) | (push_cast; omega), by go_num, by omega, hK7.setCell (p := ⟨gi, mm, none⟩) (.inl (by simp)) _, by rw [e3, ← E1.out]; exact XI7.set mm (.bool true), by rw [e3, ← E2.out]; exact XL7.other (by omega : gi + 1 ≠ gi) mm (.bool true)⟩
                case measure => simp [intOf]; omega
              · by_cases k3 : x3 = 3
                · subst k3
                  have hin : (stOf mm (List.take (i + jj) t.L)).inn = true := by simpa [rcB] using hrc
                  have cI := XI7.cell (insL_get t.L (i + jj) mm hq16)
                  rw [hin] at cI
                  have fI := XI7.frozen mm
                  obtain ⟨e1, e2⟩ := hLv rfl
                  have E1 := Lib.hid e1
                  have E2 := Lib.hid e2
                  have e3 : i + (jj + 1) = i + jj + 1 := rfl
                  clear e1 e2 hJ hLv hSy
                  clear hrc hin
                  go_wp2
                  go_roundw
                  case rel => exact ⟨jj + 1, by first | go_num | (simp; omega) | (push_cast; omega), by go_num, by omega, hK7.setCell (p := ⟨gi, mm, none⟩) (.inl (by simp)) _, by rw [e3, ← E1.out]; exact XI7.set mm (.bool false), by rw [e3, ← E2.out]; exact XL7.other (by omega : gi + 1 ≠ gi) mm (.bool false)⟩
                  case measure => simp [intOf]; omega
                · have k4 : x3 = 4 := by
                    unfold rcB at hrc
                    simp only at hrc
                    rw [if_neg k2, if_neg k3] at hrc
                    by_cases k4 : x3 = 4
                    · exact k4
                    · rw [if_neg k4] at hrc; cases hrc
                  clear k2 k3
                  subst k4
                  obtain ⟨hin, hnum⟩ : (stOf mm (List.take (i + jj) t.L)).inn = true ∧ x5 = wrap64 ((stOf mm (List.take (i + jj) t.L)).l + 1) := by simpa [rcB, nextB] using hrc
                  have cI := XI7.cell (insL_get t.L (i + jj) mm hq16)
                  rw [hin] at cI
                  have cL := XL7.cell (lastL_get t.L (i + jj) mm hq16)
                  obtain ⟨e1, e2⟩ := hSy rfl
                  have E1 := Lib.hid e1
                  have E2 := Lib.hid e2
                  have e3 : i + (jj + 1) = i + jj + 1 := rfl
                  clear e1 e2 hJ hLv hSy
                  generalize (stOf mm (List.take (i + jj) t.L)).l = ls at cL hnum
                  subst hnum
                  have cI2 := extA_cell cI
                  have cL2 := extA_cell cL
                  have n22 := extA_cell n2
                  clear hrc hin cI cL
                  go_wp2_with fail
                  refine wp_region_extB (by kernel_rfl) (by kernel_rfl) ?_
                  repeat
                    (first
                      | go_big_quiet_skip
                      | (go_big_quiet_want
                         go_big_quiet_op
                         first
                           | go_big_quiet_on
                           | (apply Exists.intro
                              refine ⟨fun w' hC => ?_, ?_⟩
                              · (first
                                  | with_reducible rfl
                                  | fail
                                  | (go_simp; done)
                                  | (go_simp; with_reducible rfl))
                              go_big_quiet_on)))
                  refine wpQuiet_nil ?_
                  intro wq hq
                  have XI8 := XI7.step hq
                  have XL8 := XL7.step hq
                  have XE8 := XE7.step hq
                  have hK8 : Kx [gi, gi + 1] w5 wq := hK7.step hq
                  clear cI2 cL2 n22 n0 n2 XI7 XL7 XE7 hK7 hq
                  have n2 := XE8.cell (j := 2) rfl
                  have cL := XL8.cell (lastL_get t.L (i + jj) mm hq16)
                  have fL := XL8.frozen mm
                  go_wp2
                  go_roundw
                  case rel => exact ⟨jj + 1, by first | go_num | (simp; omega) | (push_cast; omega), by go_num, by omega, hK8.setCell (p := ⟨gi + 1, mm, none⟩) (.inl (by simp)) _, by rw [e3, ← E1.out]; exact XI8.other (by omega : gi ≠ gi + 1) mm _, by rw [e3, ← E2.out]; exact XL8.set mm _⟩
                  case measure => simp [intOf]; omega
            · obtain rfl : jj = k := by omega
              have hKo : Kx [gi, gi + 1] w4 _ := hK5.trans hK3
              have hiI : (i : Int) + (jj : Int) ≤ (n : Int) := by omega
              go_wp2
              go_roundw
              case rel => exact ⟨i + jj, by first | rfl | (simp; done) | go_num, hk3, hKo, XI, XL⟩
              case measure => simp [intOf]; omega
        · obtain rfl : i = n := by omega
          have hb8 := hb6.trans (hK.below hb6.size (by simp; omega))
          have hTe : Tabs _ := hT.step hb8
          go_wp2_with fail
          refine (works_any _ hTe).mono ?_
          rintro e w9 ⟨rfl, hb9⟩
          go_wp2
          go_ret
          exact ⟨rfl, hb8.trans (hb9.mono hb8.size)⟩
end Go.Proofs.YtndechodaegkiaaDoor
