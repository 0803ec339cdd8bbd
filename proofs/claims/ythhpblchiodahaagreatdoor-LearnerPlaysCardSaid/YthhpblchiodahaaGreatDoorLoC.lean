
/- Package learner: ordered: what was heard, in the order of ballots. -/
import Derived.Test.YthhpblchiodahaaGreatDoorLoB
import Derived.Test.YthhpblchiodahaaGreatDoorRndW
namespace Go.Proofs.YthhpblchiodahaaGreatDoor
set_option linter.unusedSimpArgs false
set_option linter.unusedVariables false
open Go.RowKit Go.Maps
attribute [local go_sem] Oper.semAt_some
/-- Ballots as they lie in a slice. -/
def BalR (W : World) (base : Nat) (ao : Option Addr) (ks : List (Int × Int)) : Prop := ∀ (j : Nat) x, ks[j]? = some x → ∃ g, ao = some ⟨g, 0, none⟩ ∧ base ≤ g ∧ W.cell? ⟨g, j * 2, none⟩ = some (.int .i64 x.1) ∧ W.cell? ⟨g, j * 2 + 1, none⟩ = some (.int .i64 x.2)
theorem balL_get : ∀ (l : List (Int × Int)) (j : Nat) (x : Int × Int), l[j]? = some x → (balL l)[j * 2]? = some (.int .i64 x.1) ∧ (balL l)[j * 2 + 1]? = some (.int .i64 x.2)
  | [], j, x, h => by simp at h
  | a :: r, 0, x, h => by
    simp at h
    subst h
    simp [balL]
  | a :: r, j + 1, x, h => by
    have := balL_get r j x (by simpa using h)
    unfold balL at this ⊢
    rw [List.flatMap_cons, show (j + 1) * 2 = j * 2 + 2 by omega, show j * 2 + 2 + 1 = (j * 2 + 1) + 2 by omega]
    exact this
theorem row_balR {W : World} {base n : Nat} {v : Value} {ks : List (Int × Int)} (h : W.ownsRow base 66 2 v n (balL ks)) : ∃ ao cap, v = .slice ao n cap ∧ BalR W base ao ks := by
  obtain ⟨h1, ⟨rfl, h3⟩ | ⟨g, cap, cur, rfl, hg, hh, hle, hm, hs, htk⟩⟩ := id h
  · refine ⟨none, 0, by rw [h3], fun j x hx => ?_⟩
    have := (List.getElem?_eq_some_iff.1 hx).1
    rw [balL_len] at h1
    omega
  · refine ⟨_, cap, rfl, fun j x hx => ⟨g, rfl, hg, ?_⟩⟩
    obtain ⟨e1, e2⟩ := balL_get ks j x hx
    have c1 := World.ownsRow.cells h (g := g) rfl _ _ e1
    have c2 := World.ownsRow.cells h (g := g) rfl _ _ e2
    rw [Addr.add_lit, Nat.zero_add] at c1 c2
    exact ⟨c1, c2⟩
theorem KbC.cell {ws : Nat → Prop} {A B : World} (h : KbC ws A B) {g j : Nat} {v : Value} (hc : A.cell? ⟨g, j, none⟩ = some v) (hn : ¬ ws g) : B.cell? ⟨g, j, none⟩ = some v := by
  unfold World.cell? at hc ⊢
  cases hg : A.heap[g]? with
  | none => simp [hg] at hc
  | some o =>
    cases o <;> simp [hg] at hc
    next cs t fz =>
      rw [h g _ hg rfl hn]
      simpa using hc
theorem KbO.c {g : Nat} {ws : Nat → Prop} {A B : World} (h : KbO g ws A B) : KbC (fun k => ws k ∨ OwnB A g k) A B := fun k o hk hd hn => h.keep k o hk hd (fun e => hn (.inl e)) (fun e => hn (.inr e))
theorem BalR.kbn {ws : Nat → Prop} {A B : World} {base : Nat} {ao : Option Addr} {l : List (Int × Int)} (h : BalR A base ao l) (hk : KbC ws A B) (hw : ∀ g, ao = some ⟨g, 0, none⟩ → ¬ ws g) : BalR B base ao l := fun j s hs => by
  obtain ⟨g, h1, h2, h3, h4⟩ := h j s hs
  exact ⟨g, h1, h2, hk.cell h3 (hw g h1), hk.cell h4 (hw g h1)⟩
theorem BalR.step {A B : World} {base : Nat} {ao : Option Addr} {l : List (Int × Int)} (h : BalR A base ao l) (hb : Below A.heap.size A B) : BalR B base ao l := fun j s hs => by
  obtain ⟨g, h1, h2, h3, h4⟩ := h j s hs
  exact ⟨g, h1, h2, cells_kept hb h3, cells_kept hb h4⟩
theorem BalR.lts {A : World} {base : Nat} {ao : Option Addr} {l : List (Int × Int)} (h : BalR A base ao l) (hN : 0 < l.length) : ∃ g, ao = some ⟨g, 0, none⟩ ∧ g < A.heap.size := by
  obtain ⟨g, h1, -, h3, -⟩ := h 0 l[0] (List.getElem?_eq_getElem hN)
  exact ⟨g, h1, World.block_lt_of_cell? A _ h3⟩
def hEnc (p : (Int × Int) × Hd) : Array Value := #[ekB p.1, evH p.2]
def ordF (bm bc : Nat) : Value := .func (.func 75) #[] #[.pointer (some ⟨bm, 0, none⟩), .pointer (some ⟨bc, 0, none⟩)]
def cmpV : Value := .func (.func 45) #[] #[]
theorem zero_heard (W : World) : (zeroValue 121).run Tryz.prog W = .ok (evH ⟨0, 0, 0, ⟨#[]⟩, [false, false, false, false, false, false, false, false, false]⟩) W := by kernel_rfl
set_option maxRecDepth 100000 in
set_option maxHeartbeats 1000000 in
theorem ordered16_any (b : Nat) (w : World) : Calls Tryz.prog 44 #[.map (some b), cmpV] w fun e w' => (∃ bm bc, e = .returned (ordF bm bc) ∧ Blk w' bm 60 [.map (some b)] ∧ Blk w' bc 129 [cmpV] ∧ w.heap.size ≤ bm ∧ w.heap.size ≤ bc) ∧ Below w.heap.size w w' := by
  unfold cmpV ordF
  have hb := From.refl w
  obtain ⟨bm, hbm⟩ : ∃ b, w.heap.size = b := ⟨_, rfl⟩
  have X := Blk.newV hbm 60 #[.map (some b)]
  have hbn := (Below.refl w.heap.size w).alloc (Nat.le_refl _) (.cells #[.map (some b)] 60)
  have hs1 : (w.alloc (.cells #[.map (some b)] 60)).heap.size = bm + 1 := by rw [← hbm]; exact Array.size_push ..
  go_enter Tryz.func44, Tryz.ntmps44
  go_wp2
  replace hb := hb.step hbn
  generalize w.alloc (.cells #[.map (some b)] 60) = w1 at *
  go_returns
  have Y := Blk.newV hs1 129 #[.func (.func 45) #[] #[]]
  have hbn2 := (Below.refl w1.heap.size w1).alloc (Nat.le_refl _) (.cells #[.func (.func 45) #[] #[]] 129)
  exact ⟨⟨bm, bm + 1, rfl, X.step hbn2, Y, by omega, by omega⟩, by rw [← hbm]; exact hb.step hbn2⟩
end Go.Proofs.YthhpblchiodahaaGreatDoor
