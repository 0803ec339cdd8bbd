
/- A region that draws its order, in a round of a range over a function: a quiet head, then a tail. -/
import Derived.Test.YthhpblchiodahaaGreatDoorRnd
namespace Go.Proofs.YthhpblchiodahaaGreatDoor
set_option linter.unusedSimpArgs false
set_option linter.unusedVariables false
open Go.RowKit
variable {P : Program} {ops : Array Oper} {md : Region.Mode} {C : World → Prop} {rl m : Nat}
theorem hd_anyR {n g : Nat} {L : Array Bool → Act → Prop} {Q : Exit → Act → World → Prop} (hnd : noDefer ops = true) (hL : ∀ s a w, C w → L s a → wpAnyIn (Fence.wide.inRound rl) m P md ops Q g s a w) :
    ∀ (f : Nat) (s : Array Bool) (a : Act) (w : World), C w → hd P md ops C n L f s a → wpAnyIn (Fence.wide.inRound rl) m P md ops Q (f + g) s a w
  | 0, s, a, w, hw, h => by rw [Nat.zero_add]; exact hL s a w hw h
  | f + 1, s, a, w, hw, h => by
    have := fun i hi => wpOpIn_of_qOpR (rl := rl) (n := m) (Q' := Q) hnd hw (fun a' w' hw' h' => hd_anyR hnd hL f (s.setIfInBounds i true) a' w' hw' h') (h.2 i hi).2
    rw [Nat.add_right_comm]
    exact ⟨fun e => absurd e h.1, this⟩
theorem wpIn_region_headR {id : Nat} {Q : Exit → Act → World → Prop} {a : Act} {w : World} {l : List Oper} (n : Nat) (hm : P.follows .mixedOrders = true) (hn : n ≤ l.length) (hB : headB .any l.toArray n = true) (hnd : noDefer l.toArray = true) (hC : C { w with drawn := w.drawn + 1 })
    (h : wpQuiet P l.toArray C (fun a' => ∀ w', C w' → wpAnyIn (Fence.wide.inRound rl) m P .any l.toArray Q (l.length - n) (headL n l.length) a' w') (l.take n) a) : (Code.region id l.toArray true).wpIn (Fence.wide.inRound rl) m P Q a w := by
  simp only [headB, Bool.and_eq_true] at hB
  obtain ⟨hsel, hs, hc, hgo, hall⟩ := hB
  have ht : (l.take n).length = n := by simp; omega
  have he : ∀ j ∈ Region.ready .any l.toArray (headL n l.toArray.size), n ≤ j := fun j hj => by simpa using List.all_eq_true.1 hall j hj
  have H := hd_go (C := C) (P := P) (K := fun a' => ∀ w', C w' → wpAnyIn (Fence.wide.inRound rl) m P .any l.toArray Q (l.length - n) (headL n l.length) a' w') hsel hs hc he (l.take n) 0 (Array.replicate l.toArray.size false) a
    (fun j hj => by rw [ht] at hj; simp [hj]) (by rw [ht, Nat.zero_add])
    ⟨by simp, fun j oj _ hl => (by rw [getD_replicate_false] at hl; cases hl), fun t _ h' => getD_in (by simpa using h') (getD_replicate_false _ _)⟩ (by rw [ht]; exact hgo) h
  refine wpIn_region_any hm ?_
  have hz : l.toArray.size = (l.take n).length + (l.length - n) := by rw [ht]; simp; omega
  have := hd_anyR (rl := rl) (m := m) (Q := Q) (g := l.length - n) hnd (fun s a' w' hw' hL => by
    obtain ⟨rfl, hK⟩ := hL
    simpa using hK w' hw') _ _ _ _ hC H
  rw [← hz] at this
  exact this
theorem stepIn_map {w w' : World} {o : Oper} {a : Act} {K : Act → World → Prop} {Q : Exit → Act → World → Prop} {E : Prop} (hgd : o.guard = none) (ty : TypeId) (x y z : Operand) (ho : o.op = .mapUpdate ty x y z) (hd : o.dst = none)
    {u v t : Value} (hx : a.eval x = u) (hy : a.eval y = v) (hz : a.eval z = t) (hrun : (Instr.mapUpdate ty u v t).run P w = .ok () w') (h : K a w') :
    if Region.wanted o (yielded ops a.tmps) = true then Oper.wpIn (Fence.wide.inRound rl) m P o a w K Q else E := by
  have hw : Region.wanted o (yielded ops a.tmps) = true := by simp [Region.wanted, hgd]
  rw [if_pos hw]
  unfold Oper.wpIn
  refine ⟨fun _ _ => trivial, ?_⟩
  rw [Oper.semAt_plain _ _ _ (fun c hc => by rw [ho] at hc; cases hc)]
  have he : (execOp a.eval o).run P w = .ok .skip w' := by
    unfold execOp
    simp only [ho, hx, hy, hz, Sem.run_bind, hrun, Result.andThen_ok, Sem.run_pure]
  rw [he, Oper.uponIn_skip, hd]
  exact h
end Go.Proofs.YthhpblchiodahaaGreatDoor
