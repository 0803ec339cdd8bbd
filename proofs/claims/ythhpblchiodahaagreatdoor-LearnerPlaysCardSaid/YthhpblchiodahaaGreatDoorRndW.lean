
/- A region that draws its order, in a callee of a range over a function (the wide fence): a quiet region, and a quiet head with a tail. (Turned from XRnd.tpx, XRndH.tpx.) -/
import Derived.Test.YthhpblchiodahaaGreatDoorRndH
namespace Go.Proofs.YthhpblchiodahaaGreatDoor
set_option linter.unusedSimpArgs false
set_option linter.unusedVariables false
open Go.RowKit
variable {P : Program} {ops : Array Oper} {md : Region.Mode} {C : World → Prop} {n : Nat}
theorem wpIn_of_quietRW {o : Oper} {a : Act} {K : Act → Prop} {K' : Act → World → Prop} {Q' : Exit → Act → World → Prop} {w : World} (hnd : ∀ c, o.op ≠ .defer c) (hw : C w) (h : ∀ a w', C w' → K a → K' a w') (hh : o.quiet P a C K) :
    o.wpIn Fence.wide n P a w K' Q' := by
  obtain ⟨v, h1, h2⟩ := hh
  have h3 := h1 w hw
  unfold Oper.quietAt at h3
  unfold Oper.wpIn
  refine ⟨fun _ _ => trivial, ?_⟩
  rw [Oper.semAt_plain _ _ _ hnd]
  generalize (execOp a.eval o).run P w = r at *
  cases r with
  | ok x w' =>
    cases x <;> simp only [Oper.quietUpon] at h3 <;> simp only [Oper.uponIn]
    case value u =>
      obtain ⟨e1, e2⟩ := h3
      rw [e1, e2]
      exact h _ _ hw h2
    case skip =>
      obtain ⟨e1, e2⟩ := h3
      rw [e1, ← e2]
      exact h _ _ hw h2
    case enter f args =>
      obtain ⟨e1, hc⟩ := h3
      rw [e1]
      exact ⟨fun hd => by simp [Fence.wide] at hd, CallsIn.mono (callsIn_wide.2 hc) (fun e w'' ⟨he, hw''⟩ => by subst he; exact h _ _ hw'' h2)⟩
  | halt x w' => simp only [Oper.quietUpon] at h3
theorem wpOpIn_of_qOpRW {i : Nat} {a : Act} {K : Act → Prop} {K' : Act → World → Prop} {Q' : Exit → Act → World → Prop} {w : World} (hnd : noDefer ops = true) (hC : C w) (h : ∀ a w', C w' → K a → K' a w')
    (hh : qOp P ops C i K a) : wpOpIn Fence.wide n P ops Q' i K' a w := by
  unfold qOp at hh
  unfold wpOpIn
  split
  · rename_i ho; simp only [ho] at hh; exact h _ _ hC hh
  · rename_i o ho
    simp only [ho] at hh
    split
    · rename_i hw; simp only [hw, if_true] at hh; exact wpIn_of_quietRW (fun c => noDefer_spec hnd i o c ho) hC h hh
    · rename_i hw; simp only [hw] at hh; exact ⟨fun _ _ => trivial, h _ _ hC hh⟩
theorem wpAnyIn_of_quietRW {Q : Act → Prop} {Q' : Exit → Act → World → Prop} (hnd : noDefer ops = true) (hQ : ∀ a w, C w → Q a → Q' .normal a w) : ∀ (fuel : Nat) (listed : Array Bool) (a : Act) (w : World), C w →
    wpAnyQ P md ops C Q fuel listed a → wpAnyIn Fence.wide n P md ops Q' fuel listed a w
  | 0, _, _, _, hw, h => ⟨h.1, hQ _ _ hw h.2⟩
  | fuel + 1, _, _, _, hw, h => ⟨fun h0 => hQ _ _ hw (h.1 h0), fun i hi => wpOpIn_of_qOpRW hnd hw (fun a' w' hw' => wpAnyIn_of_quietRW hnd hQ fuel _ a' w' hw') (h.2 i hi)⟩
theorem wpIn_region_extRW {id : Nat} {Q : Exit → Act → World → Prop} {a : Act} {w : World} {l : List Oper} (hm : P.follows .mixedOrders = true) (hB : Region.lexB .any l.toArray = true) (hnd : noDefer l.toArray = true)
    (h : wpQuiet P l.toArray (ExtA w) (fun a' => ∀ w', ExtA w w' → Q .normal a' w') l a) : (Code.region id l.toArray true).wpIn Fence.wide n P Q a w := by
  simp only [Region.lexB, Bool.and_eq_true] at hB
  refine wpIn_region_any hm (wpAnyIn_of_quietRW (C := ExtA w) (Q := fun a' => ∀ w', ExtA w w' → Q .normal a' w') hnd (fun _ w' hw' h => h w' hw') _ _ _ _ ⟨rfl, rfl, rfl, Nat.le_refl _, fun _ _ => rfl⟩ ?_)
  have := wpAnyQ_lex (C := ExtA w) (md := .any) hB.1 l 0 (Array.replicate l.toArray.size false) a (by simp) (by simpa using hB.2) h
  simpa using this

variable {m : Nat}
theorem hd_anyRW {n g : Nat} {L : Array Bool → Act → Prop} {Q : Exit → Act → World → Prop} (hnd : noDefer ops = true) (hL : ∀ s a w, C w → L s a → wpAnyIn Fence.wide m P md ops Q g s a w) :
    ∀ (f : Nat) (s : Array Bool) (a : Act) (w : World), C w → hd P md ops C n L f s a → wpAnyIn Fence.wide m P md ops Q (f + g) s a w
  | 0, s, a, w, hw, h => by rw [Nat.zero_add]; exact hL s a w hw h
  | f + 1, s, a, w, hw, h => by
    have := fun i hi => wpOpIn_of_qOpRW (n := m) (Q' := Q) hnd hw (fun a' w' hw' h' => hd_anyRW hnd hL f (s.setIfInBounds i true) a' w' hw' h') (h.2 i hi).2
    rw [Nat.add_right_comm]
    exact ⟨fun e => absurd e h.1, this⟩
theorem wpIn_region_headRW {id : Nat} {Q : Exit → Act → World → Prop} {a : Act} {w : World} {l : List Oper} (n : Nat) (hm : P.follows .mixedOrders = true) (hn : n ≤ l.length) (hB : headB .any l.toArray n = true) (hnd : noDefer l.toArray = true) (hC : C { w with drawn := w.drawn + 1 })
    (h : wpQuiet P l.toArray C (fun a' => ∀ w', C w' → wpAnyIn Fence.wide m P .any l.toArray Q (l.length - n) (headL n l.length) a' w') (l.take n) a) : (Code.region id l.toArray true).wpIn Fence.wide m P Q a w := by
  simp only [headB, Bool.and_eq_true] at hB
  obtain ⟨hsel, hs, hc, hgo, hall⟩ := hB
  have ht : (l.take n).length = n := by simp; omega
  have he : ∀ j ∈ Region.ready .any l.toArray (headL n l.toArray.size), n ≤ j := fun j hj => by simpa using List.all_eq_true.1 hall j hj
  have H := hd_go (C := C) (P := P) (K := fun a' => ∀ w', C w' → wpAnyIn Fence.wide m P .any l.toArray Q (l.length - n) (headL n l.length) a' w') hsel hs hc he (l.take n) 0 (Array.replicate l.toArray.size false) a
    (fun j hj => by rw [ht] at hj; simp [hj]) (by rw [ht, Nat.zero_add])
    ⟨by simp, fun j oj _ hl => (by rw [getD_replicate_false] at hl; cases hl), fun t _ h' => getD_in (by simpa using h') (getD_replicate_false _ _)⟩ (by rw [ht]; exact hgo) h
  refine wpIn_region_any hm ?_
  have hz : l.toArray.size = (l.take n).length + (l.length - n) := by rw [ht]; simp; omega
  have := hd_anyRW (m := m) (Q := Q) (g := l.length - n) hnd (fun s a' w' hw' hL => by
    obtain ⟨rfl, hK⟩ := hL
    simpa using hK w' hw') _ _ _ _ hC H
  rw [← hz] at this
  exact this
theorem stepIn_mapW {w w' : World} {o : Oper} {a : Act} {K : Act → World → Prop} {Q : Exit → Act → World → Prop} {E : Prop} (hgd : o.guard = none) (ty : TypeId) (x y z : Operand) (ho : o.op = .mapUpdate ty x y z) (hd : o.dst = none)
    {u v t : Value} (hx : a.eval x = u) (hy : a.eval y = v) (hz : a.eval z = t) (hrun : (Instr.mapUpdate ty u v t).run P w = .ok () w') (h : K a w') :
    if Region.wanted o (yielded ops a.tmps) = true then Oper.wpIn Fence.wide m P o a w K Q else E := by
  have hw : Region.wanted o (yielded ops a.tmps) = true := by simp [Region.wanted, hgd]
  rw [if_pos hw]
  unfold Oper.wpIn
  refine ⟨fun _ _ => trivial, ?_⟩
  rw [Oper.semAt_plain _ _ _ (fun c hc => by rw [ho] at hc; cases hc)]
  have he : (execOp a.eval o).run P w = .ok .skip w' := by
    unfold execOp
    simp only [ho, hx, hy, hz, Sem.run_bind, hrun, Result.andThen_ok, Sem.run_pure]
  rw [he, Oper.uponIn_skip, hd]
  exact h
theorem stepIn_valW {w : World} {o : Oper} {a : Act} {K : Act → World → Prop} {Q : Exit → Act → World → Prop} {E : Prop} (hgd : o.guard = none) (v : Value) (hnd : ∀ c, o.op ≠ .defer c) (he : (execOp a.eval o).run P w = .ok (.value v) w) (h : K (a.put o.dst v) w) :
    if Region.wanted o (yielded ops a.tmps) = true then Oper.wpIn Fence.wide m P o a w K Q else E := by
  have hw : Region.wanted o (yielded ops a.tmps) = true := by simp [Region.wanted, hgd]
  rw [if_pos hw]
  unfold Oper.wpIn
  refine ⟨fun _ _ => trivial, ?_⟩
  rw [Oper.semAt_plain _ _ _ hnd, he]
  exact h
theorem stepIn_yieldW {w : World} {o : Oper} {a : Act} {K : Act → World → Prop} {Q : Exit → Act → World → Prop} {E : Prop} {l : Nat} (hgd : o.guard = none) (f : Operand) (xs : Array Operand) (ats : Array TypeId) (ho : o.op = .call { callee := .value f, args := xs, argTypes := ats })
    (hf : a.eval f = .func (.yield l) #[] #[]) {args : Array Value} (hargs : xs.map a.eval = args) {fn : FuncId} {tmps : Array Value} {assign body : Code} (hy : (Instr.yield l args).run P w = .ok (.round l fn tmps assign body) w) (hm : 1 ≤ m)
    (h : RoundIn Fence.wide (m - 1) P l fn tmps assign body w (fun e w' => ∃ v, e = .returned v ∧ K (a.put o.dst v) w')) :
    if Region.wanted o (yielded ops a.tmps) = true then Oper.wpIn Fence.wide m P o a w K Q else E := by
  have hw : Region.wanted o (yielded ops a.tmps) = true := by simp [Region.wanted, hgd]
  rw [if_pos hw]
  unfold Oper.wpIn
  refine ⟨fun _ _ => trivial, ?_⟩
  rw [Oper.semAt_plain _ _ _ (fun c hc => by rw [ho] at hc; cases hc)]
  have he : (execOp a.eval o).run P w = .ok (.round l fn tmps assign body) w := by
    unfold execOp
    simp only [ho, resolve, hf, hargs]
    simp [go_sem, invoke, hy]
  rw [he]
  simp only [Oper.uponIn]
  refine ⟨fun _ => hm, RoundIn.mono h (fun e w'' h => ?_)⟩
  obtain ⟨v, rfl, hk⟩ := h
  exact hk
end Go.Proofs.YthhpblchiodahaaGreatDoor
