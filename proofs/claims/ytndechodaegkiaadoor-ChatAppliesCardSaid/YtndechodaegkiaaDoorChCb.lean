
/- Lines compared: the document's SameLines, Same. -/
import Derived.Test.YtndechodaegkiaaDoorChCa
namespace Go.Proofs.YtndechodaegkiaaDoor
open Go.RowKit
theorem Blk.newV {W : World} {g : Nat} (hg : W.heap.size = g) (t : TypeId) (cs : Array Value) : Blk (W.alloc (.cells cs t)) g t cs.toList := Blk.newA' hg t cs
theorem ne_line (x y : Ln) (w : World) : (binOp .neq 33 (lnV x) (lnV y)).run Tryd.prog w = .ok (.bool (!lnB x y)) w := by
  obtain ⟨i, sl, ⟨k, m, n, s⟩⟩ := x
  obtain ⟨i2, sl2, ⟨k2, m2, n2, s2⟩⟩ := y
  unfold lnB lnV lnL enL
  simp only
  go_simp
  by_cases h0 : i = i2
  case neg => simp [h0]
  by_cases h1 : sl = sl2
  case neg => simp [h0, h1]
  by_cases h2 : k = k2
  case neg => simp [h0, h1, h2]
  by_cases h3 : m = m2
  case neg => simp [h0, h1, h2, h3]
  by_cases h4 : n = n2
  case neg => simp [h0, h1, h2, h3, h4]
  by_cases h5 : s.toList = s2.toList
  case neg => simp [h0, h1, h2, h3, h4, h5]
  simp [h0, h1, h2, h3, h4, h5]
theorem take_next {L M : List Ln} {j : Nat} {x y : Ln} (h : L.take j = M.take j) (hx : L[j]? = some x) (hy : M[j]? = some y) (he : x = y) : L.take (j + 1) = M.take (j + 1) := by
  rw [List.take_add_one, List.take_add_one, h, hx, hy, he]
theorem lns_off {L M : List Ln} {j : Nat} {x y : Ln} (hx : L[j]? = some x) (hy : M[j]? = some y) (he : lnB x y = false) : lnsB L M = false := by
  apply lnsB_ne
  intro e
  subst e
  rw [hx] at hy
  cases hy
  rw [lnB_eq.2 rfl] at he
  cases he
theorem lns_len {L M : List Ln} (h : L.length ≠ M.length) : lnsB L M = false := lnsB_ne (fun e => h (by rw [e]))
theorem lns_all {L M : List Ln} {n : Nat} (h : L.take n = M.take n) (h1 : L.length = n) (h2 : M.length = n) : lnsB L M = true := by
  rw [List.take_of_length_le (by omega), List.take_of_length_le (by omega)] at h
  exact lnsB_eq.2 h
set_option maxRecDepth 100000 in
set_option maxHeartbeats 1000000 in
theorem sameLinesG_any (L M : List Ln) (a a2 : Option Addr) (c c2 : Nat) (w : World) (hA : HasL w a L) (hB : HasL w a2 M) (hn : L.length ≤ 5000) (hm : M.length ≤ 5000) :
    Calls Tryd.prog 24 #[.slice a L.length c, .slice a2 M.length c2] w fun r w' => r = .returned (.bool (lnsB L M)) ∧ Below w.heap.size w w' := by
  obtain ⟨n, hnn⟩ : ∃ n, L.length = n := ⟨_, rfl⟩
  obtain ⟨m, hmm⟩ : ∃ m, M.length = m := ⟨_, rfl⟩
  have hnI : (n : Int) ≤ 5000 := by omega
  have hmI : (m : Int) ≤ 5000 := by omega
  rw [hnn, hmm]
  by_cases hnm : n = m
  case neg =>
    have hf := lns_len (L := L) (M := M) (by omega)
    rw [hf]
    have hd : ((n : Int) != (m : Int)) = true := by simp; omega
    clear hf
    go_enter Tryd.func24, Tryd.ntmps24
    go_wp2
    go_ret
    exact ⟨rfl, Below.refl _ _⟩
  subst hnm
  obtain ⟨R, hR⟩ : ∃ R, lnsB L M = R := ⟨_, rfl⟩
  rw [hR]
  have HR := Lib.hid hR
  clear hR
  go_enter Tryd.func24, Tryd.ntmps24
  go_wp2_with fail
  go_loopw [5] (fun i wr => ∃ (j : Nat), i = .int .i64 j ∧ j ≤ n ∧ L.take j = M.take j ∧ Below w.heap.size w wr) (fun i _ => n - (intOf i).toNat)
  case atStart => exact ⟨0, rfl, by omega, by simp, Below.refl _ _⟩
  case round =>
    obtain ⟨j, rfl, hj, htk, hb⟩ := hrel
    by_cases hlt : j < n
    · obtain ⟨x, hx⟩ : ∃ x, L[j]? = some x := ⟨L[j], by simp [hnn, hlt]⟩
      obtain ⟨y, hy⟩ : ∃ y, M[j]? = some y := ⟨M[j], by simp [hmm, hlt]⟩
      have hj0 : (0 : Int) ≤ (j : Int) := by omega
      have hj1 : (j : Int) < (n : Int) := by omega
      obtain ⟨b, off, rfl, p0, p1, p2, p3, p4, p5⟩ := (hA.step hb) j x hx
      obtain ⟨b2, off2, rfl, q0, q1, q2, q3, q4, q5⟩ := (hB.step hb) j y hy
      have hNE := fun W => ne_line x y W
      have hE1 := fun e => lns_off hx hy e
      have hE2 := fun e : lnB x y = true => take_next htk hx hy (lnB_eq.1 e)
      generalize lnB x y = V at hNE hE1 hE2
      obtain ⟨x1, x2, ek, em, en, es⟩ := x
      obtain ⟨y1, y2, fk, fm, fn, fs⟩ := y
      unfold lnV lnL enL at hNE
      simp only at hNE p0 p1 p2 p3 p4 p5 q0 q1 q2 q3 q4 q5
      clear hx hy htk
      have fa0 := extA_cell p0
      have fa1 := extA_cell p1
      have fa2 := extA_cell p2
      have fa3 := extA_cell p3
      have fa4 := extA_cell p4
      have fa5 := extA_cell p5
      have z0 := extA_cell q0
      have z1 := extA_cell q1
      have z2 := extA_cell q2
      have z3 := extA_cell q3
      have z4 := extA_cell q4
      have z5 := extA_cell q5
      clear p0 p1 p2 p3 p4 p5 q0 q1 q2 q3 q4 q5
      cases V
      · have hRf := hE1 rfl
        rw [HR.out] at hRf
        subst hRf
        clear hE1 hE2
        go_wp2_with fail
        refine wp_region_extB (by kernel_rfl) (by kernel_rfl) ?_
        repeat
          (first
            | go_big_quiet_skip
            | (go_big_quiet_want
               go_big_quiet_op
               first
                 | go_big_quiet_on
                 | (apply Exists.intro
                    refine ⟨fun w' hC => ?_, ?_⟩
                    · (first
                        | with_reducible rfl
                        | fail
                        | (go_simp; done)
                        | (go_simp; with_reducible rfl))
                    go_big_quiet_on)))
        refine wpQuiet_nil ?_
        intro wq hq
        clear fa0 fa1 fa2 fa3 fa4 fa5 z0 z1 z2 z3 z4 z5 hNE
        have hb5 := hb.trans (Below.mono hq hb.size)
        go_wp2
        go_ret
        exact ⟨rfl, hb5⟩
      · have htk := hE2 rfl
        clear hE1 hE2
        go_wp2_with fail
        refine wp_region_extB (by kernel_rfl) (by kernel_rfl) ?_
        repeat
          (first
            | go_big_quiet_skip
            | (go_big_quiet_want
               go_big_quiet_op
               first
                 | go_big_quiet_on
                 | (apply Exists.intro
                    refine ⟨fun w' hC => ?_, ?_⟩
                    · (first
                        | with_reducible rfl
                        | fail
                        | (go_simp; done)
                        | (go_simp; with_reducible rfl))
                    go_big_quiet_on)))
        refine wpQuiet_nil ?_
        intro wq hq
        clear fa0 fa1 fa2 fa3 fa4 fa5 z0 z1 z2 z3 z4 z5 hNE
        have hb5 := hb.trans (Below.mono hq hb.size)
        go_wp2
        go_roundw
        case rel => exact ⟨j + 1, by go_num, by omega, htk, hb5⟩
        case measure => simp [intOf]; omega
    · obtain rfl : j = n := by omega
      have hRt := lns_all htk hnn hmm
      rw [HR.out] at hRt
      subst hRt
      clear htk
      go_wp2
      go_ret
      exact ⟨rfl, hb⟩
set_option maxRecDepth 100000 in
set_option maxHeartbeats 1000000 in
theorem equal_any (L M : List Ln) (a a2 : Option Addr) (c c2 : Nat) (w : World) (hA : HasL w a L) (hB : HasL w a2 M) (hn : L.length ≤ 5000) (hm : M.length ≤ 5000) :
    Calls Tryd.prog 46 #[.slice a L.length c, .slice a2 M.length c2] w fun r w' => r = .returned (.bool (lnsB L M)) ∧ Below w.heap.size w w' := by
  obtain ⟨n, hnn⟩ : ∃ n, L.length = n := ⟨_, rfl⟩
  obtain ⟨m, hmm⟩ : ∃ m, M.length = m := ⟨_, rfl⟩
  have hnI : (n : Int) ≤ 5000 := by omega
  have hmI : (m : Int) ≤ 5000 := by omega
  rw [hnn, hmm]
  by_cases hnm : n = m
  case neg =>
    have hf := lns_len (L := L) (M := M) (by omega)
    rw [hf]
    have hd : ((n : Int) != (m : Int)) = true := by simp; omega
    clear hf
    go_enter Tryd.func46, Tryd.ntmps46
    go_wp2
    go_ret
    exact ⟨rfl, Below.refl _ _⟩
  subst hnm
  obtain ⟨R, hR⟩ : ∃ R, lnsB L M = R := ⟨_, rfl⟩
  rw [hR]
  have HR := Lib.hid hR
  clear hR
  go_enter Tryd.func46, Tryd.ntmps46
  go_wp2_with fail
  go_loopw [13] (fun i wr => ∃ (j : Nat), i = .int .i64 j ∧ j ≤ n ∧ L.take j = M.take j ∧ Below w.heap.size w wr) (fun i _ => n - (intOf i).toNat)
  case atStart => exact ⟨0, rfl, by omega, by simp, Below.refl _ _⟩
  case round =>
    obtain ⟨j, rfl, hj, htk, hb⟩ := hrel
    by_cases hlt : j < n
    · obtain ⟨x, hx⟩ : ∃ x, L[j]? = some x := ⟨L[j], by simp [hnn, hlt]⟩
      obtain ⟨y, hy⟩ : ∃ y, M[j]? = some y := ⟨M[j], by simp [hmm, hlt]⟩
      have hj0 : (0 : Int) ≤ (j : Int) := by omega
      have hj1 : (j : Int) < (n : Int) := by omega
      obtain ⟨b, off, rfl, p0, p1, p2, p3, p4, p5⟩ := (hA.step hb) j x hx
      obtain ⟨b2, off2, rfl, q0, q1, q2, q3, q4, q5⟩ := (hB.step hb) j y hy
      have hNE := fun W => ne_line x y W
      have hE1 := fun e => lns_off hx hy e
      have hE2 := fun e : lnB x y = true => take_next htk hx hy (lnB_eq.1 e)
      generalize lnB x y = V at hNE hE1 hE2
      obtain ⟨x1, x2, ek, em, en, es⟩ := x
      obtain ⟨y1, y2, fk, fm, fn, fs⟩ := y
      unfold lnV lnL enL at hNE
      simp only at hNE p0 p1 p2 p3 p4 p5 q0 q1 q2 q3 q4 q5
      clear hx hy htk
      have fa0 := extA_cell p0
      have fa1 := extA_cell p1
      have fa2 := extA_cell p2
      have fa3 := extA_cell p3
      have fa4 := extA_cell p4
      have fa5 := extA_cell p5
      have z0 := extA_cell q0
      have z1 := extA_cell q1
      have z2 := extA_cell q2
      have z3 := extA_cell q3
      have z4 := extA_cell q4
      have z5 := extA_cell q5
      clear p0 p1 p2 p3 p4 p5 q0 q1 q2 q3 q4 q5
      cases V
      · have hRf := hE1 rfl
        rw [HR.out] at hRf
        subst hRf
        clear hE1 hE2
        go_wp2_with fail
        refine wp_region_extB (by kernel_rfl) (by kernel_rfl) ?_
        repeat
          (first
            | go_big_quiet_skip
            | (go_big_quiet_want
               go_big_quiet_op
               first
                 | go_big_quiet_on
                 | (apply Exists.intro
                    refine ⟨fun w' hC => ?_, ?_⟩
                    · (first
                        | with_reducible rfl
                        | fail
                        | (go_simp; done)
                        | (go_simp; with_reducible rfl))
                    go_big_quiet_on)))
        refine wpQuiet_nil ?_
        intro wq hq
        clear fa0 fa1 fa2 fa3 fa4 fa5 z0 z1 z2 z3 z4 z5 hNE
        have hb5 := hb.trans (Below.mono hq hb.size)
        go_wp2
        go_ret
        exact ⟨rfl, hb5⟩
      · have htk := hE2 rfl
        clear hE1 hE2
        go_wp2_with fail
        refine wp_region_extB (by kernel_rfl) (by kernel_rfl) ?_
        repeat
          (first
            | go_big_quiet_skip
            | (go_big_quiet_want
               go_big_quiet_op
               first
                 | go_big_quiet_on
                 | (apply Exists.intro
                    refine ⟨fun w' hC => ?_, ?_⟩
                    · (first
                        | with_reducible rfl
                        | fail
                        | (go_simp; done)
                        | (go_simp; with_reducible rfl))
                    go_big_quiet_on)))
        refine wpQuiet_nil ?_
        intro wq hq
        clear fa0 fa1 fa2 fa3 fa4 fa5 z0 z1 z2 z3 z4 z5 hNE
        have hb5 := hb.trans (Below.mono hq hb.size)
        go_wp2
        go_roundw
        case rel => exact ⟨j + 1, by go_num, by omega, htk, hb5⟩
        case measure => simp [intOf]; omega
    · obtain rfl : j = n := by omega
      have hRt := lns_all htk hnn hmm
      rw [HR.out] at hRt
      subst hRt
      clear htk
      go_wp2
      go_ret
      exact ⟨rfl, hb⟩
end Go.Proofs.YtndechodaegkiaaDoor
