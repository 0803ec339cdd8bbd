
/- Package wheel: All. -/
import Derived.Test.YtfdfmmmfklodgaaWhL
import Derived.Test.YtfdfmmmfklodgaaIterA
import Derived.OwnWalkIn
import Derived.TacticsInMore
import Derived.LoopNIn
import Derived.LoopIn
import Derived.BigGuardIn
namespace Go.Proofs.Ytfdfmmmfklodgaa
set_option linter.unusedSimpArgs false
set_option linter.unusedVariables false
open Go.RowKit
attribute [local go_sem] Oper.semAt_some
/-- Things that are due as they lie from an address on. -/
def HasD (w : World) (ao : Option Addr) (l : List (Int × Int)) : Prop := ∀ k p, l[k]? = some p → ∃ b off, ao = some ⟨b, off, none⟩ ∧ w.cell? ⟨b, off + k * 2, none⟩ = some (.int .i64 p.2) ∧ w.cell? ⟨b, off + k * 2 + 1, none⟩ = some (.int .i64 p.1)
theorem HasD.step {w w' : World} {ao : Option Addr} {l : List (Int × Int)} (h : HasD w ao l) (hb : Below w.heap.size w w') : HasD w' ao l := fun k e he => by
  obtain ⟨b, off, ha, h0, h1⟩ := h k e he
  exact ⟨b, off, ha, cells_kept hb h0, cells_kept hb h1⟩
theorem HasD.kx {w w' : World} {ao : Option Addr} {l : List (Int × Int)} {ws : List Nat} (h : HasD w ao l) (hk : Kx ws w w') (hw : ∀ b off, ao = some ⟨b, off, none⟩ → b ∉ ws) : HasD w' ao l := fun k e he => by
  obtain ⟨b, off, ha, h0, h1⟩ := h k e he
  have key := kx_all (ws := ws) h0 (hw b off ha) _ hk
  have key1 := kx_all (ws := ws) h1 (hw b off ha) _ hk
  exact ⟨b, off, ha, key, key1⟩
def rowS (ao : Option Addr) (k : Nat) : Prop := ∃ off, ao = some ⟨k, off, none⟩
theorem HasD.kb {w w' : World} {ao : Option Addr} {l : List (Int × Int)} (h : HasD w ao l) (hb : Kb (rowS ao) w w') : HasD w' ao l := fun k e he => by
  obtain ⟨b, off, ha, h0, h1⟩ := h k e he
  have key : ∀ o, w'.cell? ⟨b, o, none⟩ = w.cell? ⟨b, o, none⟩ := fun o => hb.cell (p := ⟨b, o, none⟩) ⟨off, ha⟩
  exact ⟨b, off, ha, (key _).trans h0, (key _).trans h1⟩
theorem RowD.has {W : World} {base : Nat} {a : Option Addr} {n c : Nat} {O : List (Int × Int)} (h : RowD W base (.slice a n c) O) : n = O.length ∧ HasD W a O ∧ ∀ b off, a = some ⟨b, off, none⟩ → base ≤ b ∧ b < W.heap.size := by
  have hg := h.ge
  rcases h with ⟨h1, ⟨h2, h3⟩ | ⟨g, cap, cur, h2, hb, hh, hle, hm, hs, ht⟩⟩
  · cases h2
    refine ⟨h3.symm, ?_, fun b off e => by cases e⟩
    intro k p hk
    rw [List.eq_nil_of_length_eq_zero h3] at hk
    simp at hk
  · cases h2
    refine ⟨rfl, ?_, fun b off e => by cases e; exact hg _ rfl⟩
    intro k p hk
    have hkl := (List.getElem?_eq_some_iff.1 hk).1
    have hx := (List.getElem?_eq_some_iff.1 hk).2
    have key : ∀ j, j < 2 → W.cell? ⟨g, 0 + k * 2 + j, none⟩ = (encD p)[j]? := fun j hj => by
      have e1 := flat_cells O (k * 2 + j) (by omega)
      rw [show (k * 2 + j) / 2 = k by omega, show (k * 2 + j) % 2 = j by omega, show O.toArray[k]! = p by simp [hkl, hx]] at e1
      rw [← ht, List.getElem?_take, if_pos (by omega)] at e1
      simp only [World.cell?, hh]
      rw [show 0 + k * 2 + j = k * 2 + j by omega]
      have e2 : (encD p)[j]? = some ((encD p)[j]!) := by
        have : j < (encD p).length := by simpa [encD] using hj
        simp [this]
      rw [e2]
      simpa using e1
    exact ⟨g, 0, rfl, key 0 (by omega), key 1 (by omega)⟩
/-- What All gives: a function value, whose list lies in memory from base on. -/
def SeqD (W : World) (base b : Nat) (L : List (Int × Int)) : Prop := ∃ ao c, Boxed W b 26 (.slice ao L.length c) ∧ HasD W ao L ∧ base ≤ b ∧ ∀ k off, ao = some ⟨k, off, none⟩ → base ≤ k ∧ k < W.heap.size
theorem SeqD.step {W W' : World} {base b : Nat} {L : List (Int × Int)} (h : SeqD W base b L) (hb : Below W.heap.size W W') : SeqD W' base b L := by
  obtain ⟨ao, c, h1, h2, h3, h4⟩ := h
  exact ⟨ao, c, box_step h1 hb, h2.step hb, h3, fun k off e => ⟨(h4 k off e).1, Nat.lt_of_lt_of_le (h4 k off e).2 hb.size⟩⟩
theorem SeqD.kx {W W' : World} {base b : Nat} {L : List (Int × Int)} {ws : List Nat} (h : SeqD W base b L) (hk : Kx ws W W') (hw : ∀ x, x ∈ ws → x < base) : SeqD W' base b L := by
  obtain ⟨ao, c, h1, h2, h3, h4⟩ := h
  exact ⟨ao, c, hk.box h1 (fun hm => by have := hw _ hm; omega), h2.kx hk (fun k off e hm => by have := hw _ hm; have := (h4 k off e).1; omega), h3, fun k off e => ⟨(h4 k off e).1, Nat.lt_of_lt_of_le (h4 k off e).2 hk.size⟩⟩
def DueF (b : Nat) : Value := .func (.func 37) #[] #[.pointer (some ⟨b, 0, none⟩)]
def AllR (w : World) (L : List (Int × Int)) (e : Ending) (w' : World) : Prop := ∃ b, e = .returned (DueF b) ∧ SeqD w' w.heap.size b L ∧ Below w.heap.size w w'
set_option maxRecDepth 100000 in
set_option maxHeartbeats 1000000 in
theorem allF_of (p : Value) (L : List (Int × Int)) (w : World) (h : Calls Try.prog 36 #[p] w (AllP w L)) : Calls Try.prog 20 #[p] w (AllR w L) := by
  unfold AllP at h
  go_enter Try.func20, Try.ntmps20
  go_wp2_with fail
  refine (h).mono ?_
  rintro e w1 ⟨⟨v, rfl, hr⟩, hb⟩
  obtain ⟨a, c, rfl, -⟩ := row_form hr
  have hh := RowD.has hr
  have hb2 := hb.alloc hb.size (.cells #[.slice a L.length c] 26)
  have hb1 := (Below.refl w1.heap.size w1).alloc (Nat.le_refl _) (.cells #[.slice a L.length c] 26)
  have hbx := Boxed.new w1 26 (.slice a L.length c)
  have hz := hb.size
  clear hr hb
  go_wp2
  go_ret
  exact ⟨_, rfl, ⟨a, c, hbx, hh.2.1.step hb1, hz, fun k off e => ⟨(hh.2.2 k off e).1, Nat.lt_of_lt_of_le (hh.2.2 k off e).2 hb1.size⟩⟩, hb2⟩
theorem allF_any (xs : List Nat) (g : Nat) (now : Int) (L : List (Int × Int)) (w : World) (h : WhV w xs g now L) (hG : GoodW now L) : Calls Try.prog 20 #[.pointer (some ⟨g, 0, none⟩)] w (AllR w L) := by
  obtain ⟨sb, ba, h⟩ := h
  exact allF_of _ L w (all_wh xs g now L sb ba w h hG.len hG.ord)
theorem allF_no (p : Value) (w : World) (h : NoW w p) : Calls Try.prog 20 #[p] w (AllR w []) := by
  refine allF_of _ [] w ((all_no p w h).mono ?_)
  rintro e w' ⟨rfl, rfl⟩
  exact ⟨⟨_, rfl, World.ownsRow_nil _ _ _ _⟩, Below.refl _ _⟩
def dueEnc (p : Int × Int) : Array Value := #[.agg #[.int .i64 p.2, .int .i64 p.1]]
set_option maxRecDepth 100000 in
set_option maxHeartbeats 2000000 in
theorem all_xs (b : Nat) (ao : Option Addr) (c : Nat) (xs : List (Int × Int)) (w : World) (hB : Boxed w b 26 (.slice ao xs.length c)) (hL : HasD w ao xs) (hn : xs.length ≤ 5000) :
    SeqXs Try.prog 37 #[.pointer (some ⟨b, 0, none⟩)] dueEnc xs (Kb (rowS ao)) w := by
  obtain ⟨N, hN⟩ : ∃ N, xs.length = N := ⟨_, rfl⟩
  have hNI : (N : Int) ≤ 5000 := by omega
  intro l J Jx W hW hJ hJx hY h0
  have hB' := box_below hB hW hB.lt
  have hL' := hL.step hW
  rw [hN] at hB'
  have c0 := hB'.cell
  clear hB' hB hL
  have HY := Lib.hid hY
  clear hY
  refine callsIn_of_wp Try.func37 rfl trivial ?_ rfl
  simp only [Try.ntmps37, List.size_toArray, List.length_cons, List.length_nil, Nat.reduceAdd, Nat.reduceSub, Array.replicate_succ, Array.replicate_zero, List.push_toArray, List.append_toArray, List.nil_append, List.cons_append]
  refine wpIn_scope_wide ?_
  gi_wp2_with (apply wpIn_label)
  clear c0
  gi_loopw [7] (fun i wr => ∃ k : Nat, k ≤ N ∧ i = .int .i64 k ∧ HasD wr ao xs ∧ J k wr) (fun i _ => N - (intOf i).toNat)
  case atStart => exact ⟨0, by omega, rfl, hL', h0⟩
  case round =>
    obtain ⟨k, hk, rfl, hLr, hJr⟩ := hrel
    clear hL' h0
    by_cases hlt : k < N
    · obtain ⟨x, hx⟩ : ∃ x, xs[k]? = some x := ⟨xs[k], by simp [hN, hlt]⟩
      obtain ⟨b2, off, hao, h0, h1⟩ := hLr k x hx
      obtain ⟨xi, xa⟩ := x
      simp only at h0 h1
      have hbE := (Below.refl wr.heap.size wr).alloc (Nat.le_refl _) (.cells #[.int .i64 xa, .int .i64 xi] 50)
      have hL1 := hLr.step hbE
      have hJ1 := abides_below hJ hJr hbE
      obtain ⟨fn, tmps, assign, body, hy, hR⟩ := HY.out k _ _ hx hJ1
      have HR := Lib.hid hR
      clear hR hJ1 hLr hJr hbE
      have HX := Lib.hid hx
      clear hx
      dsimp only [dueEnc] at hy
      have hj0 : (0 : Int) ≤ (k : Int) := by omega
      have hj1 : (k : Int) < (N : Int) := by omega
      subst hao
      gi_wp2
      refine HR.out.mono ?_
      rintro e W3 (⟨rfl, hJ3, hK3⟩ | ⟨rfl, hJx3⟩)
      · have hL3 := hL1.kb hK3
        gi_wp2
        go_roundw
        case rel => exact ⟨k + 1, by omega, by go_num, hL3, hJ3⟩
        case measure => simp [intOf]; omega
      · gi_wp2
        (try rw [Exit.noGoto_normal])
        refine bodyPost_end (results_none rfl _ _ _) rfl ?_
        exact ⟨⟨_, rfl⟩, .inr ⟨k, by omega, hJx3⟩⟩
    · obtain rfl : k = N := by omega
      gi_wp2
      (try rw [Exit.noGoto_normal])
      refine bodyPost_end (results_none rfl _ _ _) rfl ?_
      exact ⟨⟨_, rfl⟩, .inl (by rw [hN]; exact hJr)⟩
end Go.Proofs.Ytfdfmmmfklodgaa
