
/- A region that draws its order and writes, in a round of a range over a function: walked by the plain words (wpAnyH), where nothing panics. -/
import Derived.Test.YthhpblchiodahaaGreatDoorRndW
import Derived.OrdersHeld
namespace Go.Proofs.YthhpblchiodahaaGreatDoor
set_option linter.unusedSimpArgs false
set_option linter.unusedVariables false
open Go.RowKit
variable {P : Program} {ops : Array Oper} {md : Region.Mode} {rl n : Nat}
theorem wpIn_of_wpP {o : Oper} {a : Act} {K K0 : Act → World → Prop} {Q' : Exit → Act → World → Prop} {w : World} (hnd : ∀ c, o.op ≠ .defer c) (h : o.wp P a w K (Exit.then K0 (fun _ _ _ => False))) : o.wpIn (Fence.wide.inRound rl) n P a w K Q' := by
  unfold Oper.wp at h
  unfold Oper.wpIn
  refine ⟨fun _ _ => trivial, ?_⟩
  rw [Oper.semAt_plain _ _ _ hnd]
  generalize (execOp a.eval o).run P w = r at *
  cases r with
  | ok x w' =>
    cases x with
    | value v => exact h
    | skip => exact h
    | defer d => exact h
    | enter f args =>
      refine ⟨fun hd => by simp [Fence.wide] at hd, CallsIn.mono (CallsIn.inRound rl (callsIn_wide.2 h)) (fun e w'' he => ?_)⟩
      cases e with
      | returned v => exact he
      | panicked ch => exact he.elim
      | outgrown => obtain ⟨a, w, h⟩ := he; exact h.elim
    | row row args =>
      refine ⟨fun hd => by simp [Fence.wide] at hd, fun c cs _ => ?_⟩
      obtain ⟨v, w', r, s⟩ := h c cs
      exact ⟨v, w', r, stepsIn_wide.2 s⟩
    | _ => exact h.elim
  | halt x w' =>
    cases x with
    | panic v => exact h.elim
    | _ => exact h.elim
theorem wpAnyIn_of_wpAnyP (hnd : noDefer ops = true) {K0 : Act → World → Prop} {Q' : Exit → Act → World → Prop} : ∀ (fuel : Nat) (listed : Array Bool) (a : Act) (w : World),
    wpAny P md ops (Exit.then K0 (fun _ _ _ => False)) fuel listed a w → wpAnyIn (Fence.wide.inRound rl) n P md ops (Exit.then K0 Q') fuel listed a w
  | 0, listed, a, w, h => h
  | fuel + 1, listed, a, w, h => by
    refine ⟨h.1, fun i hi => ?_⟩
    have h2 := h.2 i hi
    unfold wpOp at h2
    unfold wpOpIn
    cases ho : ops[i]? with
    | none =>
      rw [ho] at h2
      exact wpAnyIn_of_wpAnyP hnd fuel _ a w h2
    | some o =>
      rw [ho] at h2
      simp only at h2 ⊢
      by_cases hw : Region.wanted o (yielded ops a.tmps) = true
      · rw [if_pos hw] at h2 ⊢
        rcases h2 with h2 | ⟨-, a0, w0, h2⟩
        · refine wpIn_of_wpP (K0 := K0) (fun c => noDefer_spec hnd i o c ho) ?_
          unfold Oper.wp at h2 ⊢
          generalize (execOp a.eval o).run P w = r at *
          cases r with
          | ok x w' =>
            cases x with
            | value v => exact wpAnyIn_of_wpAnyP hnd fuel _ _ _ h2
            | skip => exact wpAnyIn_of_wpAnyP hnd fuel _ _ _ h2
            | defer d => exact wpAnyIn_of_wpAnyP hnd fuel _ _ _ h2
            | enter f args =>
              refine Calls.mono h2 (fun e w'' he => ?_)
              cases e with
              | returned v => exact wpAnyIn_of_wpAnyP hnd fuel _ _ _ he
              | panicked ch => exact he
              | outgrown => exact he
            | row row args => exact Rows.mono h2 (fun v w'' he => wpAnyIn_of_wpAnyP hnd fuel _ _ _ he)
            | _ => exact h2.elim
          | halt x w' =>
            cases x with
            | panic v => exact h2
            | _ => exact h2.elim
        · exact h2.elim
      · rw [if_neg hw] at h2 ⊢
        exact ⟨fun _ _ => trivial, wpAnyIn_of_wpAnyP hnd fuel _ _ _ h2⟩
theorem wpIn_region_heldR {S : World → Prop} {id : Nat} {K0 : Act → World → Prop} {Q' : Exit → Act → World → Prop} {a : Act} {w : World} (hm : P.follows .mixedOrders = true) (hnd : noDefer ops = true)
    (h : wpAnyH P .any ops (Exit.then K0 (fun _ _ _ => False)) S ops.size (Array.replicate ops.size false) a { w with drawn := w.drawn + 1 }) : (Code.region id ops true).wpIn (Fence.wide.inRound rl) n P (Exit.then K0 Q') a w :=
  wpIn_region_any hm (wpAnyIn_of_wpAnyP hnd _ _ _ _ (wpAny_of_held _ _ _ _ h))
end Go.Proofs.YthhpblchiodahaaGreatDoor
