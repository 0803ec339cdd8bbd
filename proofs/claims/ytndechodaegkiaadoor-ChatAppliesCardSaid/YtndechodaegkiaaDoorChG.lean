
/- Package chat: slices.Values over lines. -/
import Derived.Test.YtndechodaegkiaaDoorChF
import Derived.Test.YtndechodaegkiaaDoorIter
import Derived.OwnWalkIn
import Derived.TacticsInMore
import Derived.LoopNIn
import Derived.LoopIn
import Derived.BigGuardIn
namespace Go.Proofs.YtndechodaegkiaaDoor
open Go.RowKit Go.Shelf
attribute [local go_sem] Oper.semAt_some
/-- Lines as they lie from an address on. -/
def HasL (w : World) (ao : Option Addr) (l : List Ln) : Prop := ∀ k x, l[k]? = some x → ∃ b off, ao = some ⟨b, off, none⟩ ∧ w.cell? ⟨b, off + k * 6, none⟩ = some (.int .i64 x.i) ∧ w.cell? ⟨b, off + k * 6 + 1, none⟩ = some (.int .i64 x.sl) ∧ w.cell? ⟨b, off + k * 6 + 2, none⟩ = some (.int .i64 x.e.k) ∧
  w.cell? ⟨b, off + k * 6 + 3, none⟩ = some (.int .i64 x.e.m) ∧ w.cell? ⟨b, off + k * 6 + 4, none⟩ = some (.int .i64 x.e.n) ∧ w.cell? ⟨b, off + k * 6 + 5, none⟩ = some (.string x.e.s)
theorem HasL.step {w w' : World} {ao : Option Addr} {l : List Ln} (h : HasL w ao l) (hb : Below w.heap.size w w') : HasL w' ao l := fun k e he => by
  obtain ⟨b, off, ha, h0, h1, h2, h3, h4, h5⟩ := h k e he
  exact ⟨b, off, ha, cells_kept hb h0, cells_kept hb h1, cells_kept hb h2, cells_kept hb h3, cells_kept hb h4, cells_kept hb h5⟩
def rowS (ao : Option Addr) (k : Nat) : Prop := ∃ off, ao = some ⟨k, off, none⟩
theorem HasL.kb {w w' : World} {ao : Option Addr} {l : List Ln} (h : HasL w ao l) (hb : Kb (rowS ao) w w') : HasL w' ao l := fun k e he => by
  obtain ⟨b, off, ha, h0, h1, h2, h3, h4, h5⟩ := h k e he
  have key : ∀ o, w'.cell? ⟨b, o, none⟩ = w.cell? ⟨b, o, none⟩ := fun o => hb.cell (p := ⟨b, o, none⟩) ⟨off, ha⟩
  exact ⟨b, off, ha, (key _).trans h0, (key _).trans h1, (key _).trans h2, (key _).trans h3, (key _).trans h4, (key _).trans h5⟩
theorem cells_len (l : List Ln) : (cellsN l).length = l.length * 6 := by
  induction l with
  | nil => rfl
  | cons a t ih => simp [cellsN, lnL, enL] at ih ⊢; omega
theorem cells_get (l : List Ln) (k j : Nat) (hj : j < 6) : (cellsN l)[k * 6 + j]? = l[k]?.bind (fun x => (lnL x)[j]?) := by
  induction l generalizing k with
  | nil => simp [cellsN]
  | cons a t ih =>
    have e : cellsN (a :: t) = lnL a ++ cellsN t := rfl
    have hl : (lnL a).length = 6 := rfl
    rw [e]
    cases k with
    | zero => rw [List.getElem?_append_left (by omega)]; simp
    | succ k =>
      rw [List.getElem?_append_right (by omega), hl, show (k + 1) * 6 + j - 6 = k * 6 + j by omega, ih k]
      simp
/-- A row's tail, as slicing leaves it. -/
theorem hasL_row {w : World} {base : Nat} {a : Option Addr} {n c : Nat} {L : List Ln} (h : w.ownsRow base 33 6 (.slice a n c) n (cellsN L)) (hn : L.length = n) (l : Nat) (hl : l ≤ n) (cc : Nat) (hcc : n ≤ cc) : HasL w (if cc = l then a else a.map (·.add (l * 6))) (L.drop l) := by
  intro k x hx
  rw [List.getElem?_drop] at hx
  have hk : l + k < n := by rw [← hn]; exact (List.getElem?_eq_some_iff.1 hx).1
  rw [if_neg (by omega)]
  have h2 := h.2
  rcases h2 with ⟨e, -⟩ | ⟨g, c', cur, e, -⟩
  · cases e; omega
  · cases e
    have key : ∀ j, j < 6 → w.cell? ⟨g, (l + k) * 6 + j, none⟩ = (lnL x)[j]? := fun j hj => by
      have h3 := h.cellAt ((l + k) * 6 + j) (by omega)
      rw [h3, cells_get _ _ _ hj, hx]; rfl
    refine ⟨g, l * 6, by simp [Addr.add_lit], ?_⟩
    have e0 := key 0 (by omega)
    have e1 := key 1 (by omega)
    have e2 := key 2 (by omega)
    have e3 := key 3 (by omega)
    have e4 := key 4 (by omega)
    have e5 := key 5 (by omega)
    rw [show (l + k) * 6 = l * 6 + k * 6 by omega] at e0 e1 e2 e3 e4 e5
    exact ⟨e0, e1, e2, e3, e4, e5⟩
def LnF (b : Nat) : Value := .func (.func 56) #[] #[.pointer (some ⟨b, 0, none⟩)]
theorem values_any (v : Value) (n : Nat) (hv : Sl v n) (w : World) : Calls Tryd.prog 41 #[v] w fun e w' => e = .returned (LnF w.heap.size) ∧ Boxed w' w.heap.size 76 v ∧ Below w.heap.size w w' := by
  obtain ⟨a, c, rfl⟩ := hv
  unfold LnF
  go_enter Tryd.func41, Tryd.ntmps41
  go_wp2
  go_ret
  exact ⟨rfl, Boxed.new w _ _, (Below.refl _ _).alloc (Nat.le_refl _) _⟩
def lnEnc (x : Ln) : Array Value := #[lnV x]
set_option maxRecDepth 100000 in
set_option maxHeartbeats 2000000 in
theorem values_xs (b : Nat) (ao : Option Addr) (c : Nat) (xs : List Ln) (w : World) (hB : Boxed w b 76 (.slice ao xs.length c)) (hL : HasL w ao xs) (hn : xs.length ≤ 5000) :
    SeqXs Tryd.prog 56 #[.pointer (some ⟨b, 0, none⟩)] lnEnc xs (Kb (rowS ao)) w := by
  obtain ⟨N, hN⟩ : ∃ N, xs.length = N := ⟨_, rfl⟩
  have hNI : (N : Int) ≤ 5000 := by omega
  intro l J Jx W hW hJ hJx hY h0
  have hB' := box_below hB hW hB.lt
  have hL' := hL.step hW
  rw [hN] at hB'
  have c0 := hB'.cell
  clear hB' hB hL
  have HY := Lib.hid hY
  clear hY
  refine callsIn_of_wp Tryd.func56 rfl trivial ?_ rfl
  simp only [Tryd.ntmps56, List.size_toArray, List.length_cons, List.length_nil, Nat.reduceAdd, Nat.reduceSub, Array.replicate_succ, Array.replicate_zero, List.push_toArray, List.append_toArray, List.nil_append, List.cons_append]
  gi_wp2_with fail
  clear c0
  gi_loopw [7] (fun i wr => ∃ k : Nat, k ≤ N ∧ i = .int .i64 k ∧ HasL wr ao xs ∧ J k wr) (fun i _ => N - (intOf i).toNat)
  case atStart => exact ⟨0, by omega, rfl, hL', h0⟩
  case round =>
    obtain ⟨k, hk, rfl, hLr, hJr⟩ := hrel
    clear hL' h0
    by_cases hlt : k < N
    · obtain ⟨x, hx⟩ : ∃ x, xs[k]? = some x := ⟨xs[k], by simp [hN, hlt]⟩
      obtain ⟨b2, off, hao, h0, h1, h2, h3, h4, h5⟩ := hLr k x hx
      obtain ⟨xi, xl, e⟩ := x
      obtain ⟨ek, em, en, es⟩ := e
      simp only at h0 h1 h2 h3 h4 h5
      have hbE := (Below.refl wr.heap.size wr).alloc (Nat.le_refl _) (.cells #[.int .i64 xi, .int .i64 xl, .int .i64 ek, .int .i64 em, .int .i64 en, .string es] 33)
      have hL1 := hLr.step hbE
      have hJ1 := abides_below hJ hJr hbE
      obtain ⟨fn, tmps, assign, body, hy, hR⟩ := HY.out k _ _ hx hJ1
      have HR := Lib.hid hR
      clear hR hJ1 hLr hJr hbE
      have HX := Lib.hid hx
      clear hx
      dsimp only [lnEnc, lnV, lnL, enL] at hy
      have hj0 : (0 : Int) ≤ (k : Int) := by omega
      have hj1 : (k : Int) < (N : Int) := by omega
      subst hao
      gi_wp2
      refine HR.out.mono ?_
      rintro e W3 (⟨rfl, hJ3, hK3⟩ | ⟨rfl, hJx3⟩)
      · have hL3 := hL1.kb hK3
        gi_wp2
        go_roundw
        case rel => exact ⟨k + 1, by omega, by go_num, hL3, hJ3⟩
        case measure => simp [intOf]; omega
      · gi_wp2
        refine bodyPost_ret (results_none rfl _ _ _) rfl ?_
        exact ⟨⟨_, rfl⟩, .inr ⟨k, by omega, hJx3⟩⟩
    · obtain rfl : k = N := by omega
      gi_wp2
      refine bodyPost_end (results_none rfl _ _ _) rfl ?_
      exact ⟨⟨_, rfl⟩, .inl (by rw [hN]; exact hJr)⟩
end Go.Proofs.YtndechodaegkiaaDoor
