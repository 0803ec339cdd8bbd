
/- Package ballot: how many votes; whether they are a majority. -/
import Derived.Test.YtkohpfkgdigaiaaBaI
namespace Go.Proofs.Ytkohpfkgdigaiaa
open Go.RowKit Go.Shelf
attribute [local go_sem] Oper.semAt_some

theorem plK_len (k : Int) (hs : List Bool) : (plK k hs).length ≤ hs.length := by
  induction hs generalizing k with
  | nil => simp [plK]
  | cons a t ih => cases a <;> (have := ih (k + 1); simp [plK]; omega)
def manyV (hs : List Bool) : Int := (plK 0 hs).length
set_option maxRecDepth 100000 in
set_option maxHeartbeats 1000000 in
theorem vmany_any (g : Nat) (c : Int) (hs : List Bool) (w : World) (hV : VB w g c hs) (hr : rightB c = true) :
    Calls Try.prog 49 #[.pointer (some ⟨g, 0, none⟩)] w fun e w' => e = .returned (.int .i64 (manyV hs)) ∧ Below w.heap.size w w' := by
  refine callsIn_wide (n := 3).1 ?_
  have hV2 := hV.step ((Below.refl _ _).alloc (Nat.le_refl _) (.cells #[.int .i64 0] 3))
  have hlen : (plK 0 hs).length ≤ 9 := by have := plK_len 0 hs; rw [hV.2] at this; exact this
  refine callsIn_of_wp_marks Try.func49 rfl trivial ?_ rfl
  simp only [Try.ntmps49, List.size_toArray, List.length_cons, List.length_nil, Nat.reduceAdd, Nat.reduceSub, Array.replicate_succ, Array.replicate_zero, List.push_toArray, List.append_toArray, List.nil_append, List.cons_append]
  gi_wp2_with (apply wpIn_label)
  refine ⟨trivial, ?_⟩
  refine (callsIn_wide.2 (vplaces_any _ _ _ _ hV2 hr)).mono ?_
  rintro e w1 ⟨rfl, A1, b1⟩
  have B0 := box_below (Boxed.new w 3 (.int .i64 0)) b1 (by simp)
  have hb : Below w.heap.size w w1 := ((Below.refl w.heap.size w).alloc (Nat.le_refl _) (.cells #[.int .i64 0] 3)).trans (b1.mono (by simp))
  simp only [World.size_alloc] at A1
  have hseq := places_xs (w.heap.size + 1) hs w1 hV.2 A1
  have hsz := B0.lt
  clear b1 A1
  unfold PlF
  gi_wp2_with fail
  apply wpIn_range_xs 47 #[.pointer (some ⟨w.heap.size + 1, 0, none⟩)] rfl (enters_of Try.func47 (by kernel_rfl) rfl) (fun _ => False) hseq (fun k hk => hk.elim) (Below.refl _ _) (fun _ => rfl)
    (fun k W => Boxed W w.heap.size 3 (.int .i64 k) ∧ Below w.heap.size w W)
    (fun c k W => False)
    ((((boxed_own _ _ _).from _).and (ownFrom_below (Nat.le_refl _) (by omega))))
    (fun c => ownFrom_pure _ _)
    ⟨B0, hb⟩
  case hassign =>
    intro l x W K hK
    dsimp only [plEnc]
    gi_wp2
    exact hK
  case hbody =>
    rintro l k x W hx ⟨D0, hbW⟩ hsW
    have hk : k < 9 := Nat.lt_of_lt_of_le (List.getElem?_eq_some_iff.1 hx).1 hlen
    have c0 := D0.cell
    have f0 := D0.frozen
    clear hx
    gi_wp2
    refine ⟨(KeepsOthers.setCell W _ _).from _, fun _ h => h.elim, ?_, hbW.setCell (p := ⟨w.heap.size, 0, none⟩) (Nat.le_refl _) _⟩
    rw [show ((k + 1 : Nat) : Int) = (k : Int) + 1 by omega]
    exact D0.set _
  case hdone =>
    rintro D W hD ⟨D0, hbW⟩ hK
    have c0 := D0.cell
    have f0 := D0.frozen
    gi_wp2
    have hK' := (KeepsOthers.setCell W ⟨w.heap.size, 0, none⟩ (.int .i64 ((plK 0 hs).length : Int))).same D _ hK rfl
    have q1 := box_putObj (D0.set (.int .i64 ((plK 0 hs).length : Int))) hK' rfl (.deferred none)
    exact leaves_col (v := .int .i64 ((plK 0 hs).length : Int)) rfl hK' (by simp [results, Try.results49, go_sem, q1.cell]) ⟨rfl, below_putObj (hbW.setCell (p := ⟨w.heap.size, 0, none⟩) (Nat.le_refl _) _) (by omega) _⟩
  case hstop =>
    rintro D c k W hD hk h
    exact h.elim
def wonB (c : Int) (hs : List Bool) : Bool := decide (majI c ≤ manyV hs)
set_option maxRecDepth 100000 in
set_option maxHeartbeats 1000000 in
theorem vwon_any (g : Nat) (c : Int) (hs : List Bool) (w : World) (hV : VB w g c hs) (hr : rightB c = true) :
    Calls Try.prog 26 #[.pointer (some ⟨g, 0, none⟩)] w fun e w' => e = .returned (.bool (wonB c hs)) ∧ Below w.heap.size w w' := by
  have c0 := hV.c0
  have he : errI c = 0 := by simp [errI, hr]
  obtain ⟨m, hm⟩ : ∃ m, majI c = m := ⟨_, rfl⟩
  have HE := Lib.hid he
  clear he
  have HM := Lib.hid hm
  clear hm
  go_enter Try.func26, Try.ntmps26
  go_wp2_with fail
  refine (vnone_at _ _ _ _ hV hr).mono ?_
  rintro e w' ⟨rfl, rfl⟩
  go_wp2_with fail
  refine (majority_at _ _ _ HM.out HE.out _).mono ?_
  rintro e w1 ⟨rfl, b1⟩
  go_wp2_with fail
  refine (vmany_any _ _ _ _ (hV.step b1) hr).mono ?_
  rintro e w2 ⟨rfl, b2⟩
  go_wp2_with fail
  go_returns
  exact ⟨ret_bool (by simp [wonB, HM.out]), b1.trans (b2.mono b1.size)⟩
theorem vwon_at (g : Nat) (c : Int) (hs : List Bool) (v : Bool) (hv : wonB c hs = v) (w : World) (hV : VB w g c hs) (hr : rightB c = true) :
    Calls Try.prog 26 #[.pointer (some ⟨g, 0, none⟩)] w fun e w' => e = .returned (.bool v) ∧ Below w.heap.size w w' := hv ▸ vwon_any g c hs w hV hr
end Go.Proofs.Ytkohpfkgdigaiaa
