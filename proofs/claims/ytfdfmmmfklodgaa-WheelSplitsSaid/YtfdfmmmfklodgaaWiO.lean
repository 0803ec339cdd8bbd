
/- WheelSplits: the walk. -/
import Derived.Test.YtfdfmmmfklodgaaWiN
import Derived.Test.YtfdfmmmfklodgaaWiI
import Derived.Test.YtfdfmmmfklodgaaOpW
namespace Go.Proofs.Ytfdfmmmfklodgaa
set_option linter.unusedSimpArgs false
set_option linter.unusedVariables false
open Go.RowKit
/-- Two wheels made since w0, apart from one another and from the blocks rs. -/
def Tw (w0 : World) (rs : List Nat) (W : World) (xs : List Nat) (ga : Nat) (n1 : Int) (L1 : List (Int × Int)) (ys : List Nat) (gb : Nat) (n2 : Int) (L2 : List (Int × Int)) : Prop :=
  From w0 W ∧ (∀ r, r ∈ rs → r < W.heap.size) ∧ (WhV W xs ga n1 L1 ∧ GoodW n1 L1) ∧ (WhV W ys gb n2 L2 ∧ GoodW n2 L2) ∧ (∀ x, x ∈ xs → w0.heap.size ≤ x ∧ x ∉ rs ∧ x ∉ ys) ∧ ∀ y, y ∈ ys → w0.heap.size ≤ y ∧ y ∉ rs
theorem Tw.swap {w0 W : World} {rs xs ys : List Nat} {ga gb : Nat} {n1 n2 : Int} {L1 L2 : List (Int × Int)} (h : Tw w0 rs W xs ga n1 L1 ys gb n2 L2) : Tw w0 rs W ys gb n2 L2 xs ga n1 L1 :=
  ⟨h.1, h.2.1, h.2.2.2.1, h.2.2.1, fun y hy => ⟨(h.2.2.2.2.2 y hy).1, (h.2.2.2.2.2 y hy).2, fun hx => (h.2.2.2.2.1 y hx).2.2 hy⟩, fun x hx => ⟨(h.2.2.2.2.1 x hx).1, (h.2.2.2.2.1 x hx).2.1⟩⟩
theorem Tw.step {w0 W W' : World} {rs xs ys : List Nat} {ga gb : Nat} {n1 n2 : Int} {L1 L2 : List (Int × Int)} (h : Tw w0 rs W xs ga n1 L1 ys gb n2 L2) (hb : Below W.heap.size W W') : Tw w0 rs W' xs ga n1 L1 ys gb n2 L2 :=
  ⟨h.1.step hb, fun r hr => Nat.lt_of_lt_of_le (h.2.1 r hr) hb.size, ⟨h.2.2.1.1.step hb, h.2.2.1.2⟩, ⟨h.2.2.2.1.1.step hb, h.2.2.2.1.2⟩, h.2.2.2.2.1, h.2.2.2.2.2⟩
theorem Tw.goes {w0 W W' : World} {rs xs ys xs' : List Nat} {ga gb : Nat} {n1 n2 n1' : Int} {L1 L2 L1' : List (Int × Int)} (h : Tw w0 rs W xs ga n1 L1 ys gb n2 L2) (hV : WhV W' xs' ga n1' L1') (hG : GoodW n1' L1') (hgr : Grow W.heap.size xs xs') (hk : Kx xs W W') :
    Tw w0 rs W' xs' ga n1' L1' ys gb n2 L2 ∧ ∀ r, r ∈ rs → r ∉ xs := by
  obtain ⟨h1, h2, -, ⟨h4, h5⟩, h6, h7⟩ := h
  have hy := h4.lt
  refine ⟨⟨h1.kx hk (fun x hx => (h6 x hx).1), fun r hr => Nat.lt_of_lt_of_le (h2 r hr) hk.size, ⟨hV, hG⟩, ⟨h4.kx hk (fun y hy hx => (h6 y hx).2.2 hy), h5⟩, fun x hx => ?_, h7⟩, fun r hr hx => (h6 r hx).2.1 hr⟩
  rcases hgr.2 x hx with q | q
  · exact h6 x q
  · exact ⟨Nat.le_trans h1.size q, fun hr => by have := h2 x hr; omega, fun hm => by have := hy x hm; omega⟩
/-- Other rows are kept apart from now on. -/
theorem Tw.rows {w0 W : World} {rs rs' xs ys : List Nat} {ga gb : Nat} {n1 n2 : Int} {L1 L2 : List (Int × Int)} (h : Tw w0 rs W xs ga n1 L1 ys gb n2 L2) (hr : ∀ r, r ∈ rs' → r < W.heap.size ∧ r ∉ xs ∧ r ∉ ys) : Tw w0 rs' W xs ga n1 L1 ys gb n2 L2 :=
  ⟨h.1, fun r h1 => (hr r h1).1, h.2.2.1, h.2.2.2.1, fun x hx => ⟨(h.2.2.2.2.1 x hx).1, fun h1 => (hr x h1).2.1 hx, (h.2.2.2.2.1 x hx).2.2⟩, fun y hy => ⟨(h.2.2.2.2.2 y hy).1, fun h1 => (hr y h1).2.2 hy⟩⟩
theorem tw_set {w0 W : World} {rs xs ys : List Nat} {ga gb : Nat} {n1 n2 : Int} {L1 L2 : List (Int × Int)} (h : Tw w0 rs W xs ga n1 L1 ys gb n2 L2) (id t : Int) (hid : wf64 id) {L' : List (Int × Int)} {m e : Int} (h1 : setL n1 L1 id t = L') (h2 : setA n1 L1 id t = m) (h3 : setE n1 L1 id t = e) :
    Calls Try.prog 14 #[.pointer (some ⟨ga, 0, none⟩), .int .i64 id, .int .i64 t] W fun r W' => r = .returned (.tuple #[.int .i64 m, .int .i64 e]) ∧ ∃ xs', Tw w0 rs W' xs' ga n1 L' ys gb n2 L2 := by
  refine (set_any xs ga n1 L1 id t hid W h.2.2.1.1 h.2.2.1.2).mono ?_
  rintro r W' ⟨rfl, xs', hV', hgr, hk⟩
  have hG2 := h.2.2.1.2.set id t
  rw [h1] at hV' hG2
  rw [h2, h3]
  exact ⟨rfl, xs', (h.goes hV' hG2 hgr hk).1⟩
/-- Advance of the first wheel: what is due lies in a row of its own; the rows rs are as they were. -/
theorem tw_adv {w0 W : World} {rs xs ys : List Nat} {ga gb : Nat} {n1 n2 : Int} {L1 L2 : List (Int × Int)} (h : Tw w0 rs W xs ga n1 L1 ys gb n2 L2) (t : Int) {L' O' : List (Int × Int)} {n' e : Int} (h1 : advL n1 L1 t = L') (h2 : advO n1 L1 t = O') (h3 : advN n1 t = n') (h4 : advE n1 t = e) :
    Calls Try.prog 23 #[.pointer (some ⟨ga, 0, none⟩), .int .i64 t] W fun r W' => ∃ a c xs', r = .returned (.tuple #[.slice a O'.length c, .int .i64 e]) ∧ RowD W' W.heap.size (.slice a O'.length c) O' ∧ Tw w0 ((Value.slice a O'.length c).ownBlock.toList ++ rs) W' xs' ga n' L' ys gb n2 L2 ∧ ∃ zs, Kx zs W W' ∧ ∀ r, r ∈ rs → r ∉ zs := by
  refine (advance_any xs ga n1 L1 t W h.2.2.1.1 h.2.2.1.2).mono ?_
  rintro r W' ⟨v, rfl, hR, xs', hV', hgr, hk, ho⟩
  have hG2 := h.2.2.1.2.adv t
  rw [h1, h3] at hV' hG2
  rw [h2] at hR
  rw [h4]
  obtain ⟨a, c, rfl, -⟩ := row_form hR
  obtain ⟨h8, h9⟩ := h.goes hV' hG2 hgr hk
  have hyl := h.2.2.2.1.1.lt
  refine ⟨a, c, xs', rfl, hR, h8.rows (fun z hz => ?_), xs, hk, h9⟩
  simp only [List.mem_append, Option.mem_toList] at hz
  rcases hz with hz | hz
  · have q := hR.ge z hz
    exact ⟨q.2, ho z hz, fun hy => by have := hyl z hy; omega⟩
  · exact ⟨h8.2.1 z hz, fun hx => (h8.2.2.2.2.1 z hx).2.1 hz, fun hy => (h8.2.2.2.2.2 z hy).2 hz⟩
end Go.Proofs.Ytfdfmmmfklodgaa
