
/- ProposerGives: the plain law. -/
import Derived.Test.YtcahkcbenanfnaaGreatDoorPrL
namespace Go.Proofs.YtcahkcbenanfnaaGreatDoor
set_option linter.unusedSimpArgs false
set_option linter.unusedVariables false
open Go.RowKit
/-- A call's answer. -/
def actP (A : Prp) (e : Pa) : Prp := if e.w = 0 then prA A e.pl e.ar e.ap e.k e.m e.n e.s else if e.w = 1 then acA A e.pl else rfA A e.pl e.x e.y
theorem InvP.act {A : Prp} (h : InvP A) (e : Pa) : InvP (actP A e) := by
  unfold actP
  split
  · exact h.tell _ _ _ _ _ _ _
  · split
    · exact h.take _
    · exact h.ref _ _ _
def entP (A : Prp) : Int × Int × Int × ByteArray := (A.k, A.m, A.n, A.s)
def bstP (A : Prp) : Int × Int × Int × ByteArray := (A.bk, A.bm, A.bn, A.bs)
theorem best_ent (A : Prp) (i : Nat) (x y k m n : Int) (s : ByteArray) : entP (bestA A i x y k m n s) = entP A ∧ (bstP (bestA A i x y k m n s) = bstP A ∨ bstP (bestA A i x y k m n s) = (k, m, n, s)) := by
  unfold bestA
  split
  · exact ⟨rfl, .inr rfl⟩
  · exact ⟨rfl, .inl rfl⟩
theorem give_ent (B : Prp) : bstP (giveA B) = bstP B ∧ (entP (giveA B) = (1, 0, 0, ⟨#[]⟩) ∨ entP (giveA B) = bstP B) := by
  unfold giveA
  split
  · exact ⟨rfl, .inl rfl⟩
  · exact ⟨rfl, .inr rfl⟩
/-- Phases never go back; what is given stays. -/
theorem act_mono (A : Prp) (h : InvP A) (e : Pa) : A.ph ≤ (actP A e).ph ∧ (2 ≤ A.ph → entP (actP A e) = entP A) ∧ (actP A e).r = A.r ∧ (actP A e).p = A.p := by
  unfold actP
  have hp := h.ph
  split
  · unfold prA
    split
    · split
      next h1 =>
        obtain ⟨g1, -, -, g4, g5⟩ := tell_same A e.pl.toNat e.ar e.ap e.k e.m e.n e.s
        exact ⟨by omega, fun h2 => by omega, g4, g5⟩
      · exact ⟨by omega, fun _ => rfl, rfl, rfl⟩
    · exact ⟨by omega, fun _ => rfl, rfl, rfl⟩
  · split
    · unfold acA
      split
      · split
        · obtain ⟨g1, -, -, g4, g5⟩ := take_same A e.pl.toNat
          refine ⟨by omega, fun h2 => ?_, g4, g5⟩
          unfold takeA
          split <;> rfl
        · exact ⟨by omega, fun _ => rfl, rfl, rfl⟩
      · exact ⟨by omega, fun _ => rfl, rfl, rfl⟩
    · unfold rfA
      split
      · split
        · exact ⟨by show A.ph ≤ 4; omega, fun _ => rfl, rfl, rfl⟩
        · exact ⟨by omega, fun _ => rfl, rfl, rfl⟩
      · exact ⟨by omega, fun _ => rfl, rfl, rfl⟩
/-- What was told up to a call. -/
def toldP (l : List Pa) (j : Nat) (x : Int × Int × Int × ByteArray) : Prop := ∃ (i : Nat) (e : Pa), i < j ∧ l[i]? = some e ∧ e.w = 0 ∧ (e.k, e.m, e.n, e.s) = x
theorem toldP.mono {l : List Pa} {j : Nat} {x : Int × Int × Int × ByteArray} (h : toldP l j x) : toldP l (j + 1) x := by
  obtain ⟨i, e, h1, h2⟩ := h
  exact ⟨i, e, by omega, h2⟩
/-- What one that asks gives: nothing yet, nothing, or what was told; and the best was told. -/
structure GivP (l : List Pa) (j : Nat) (A : Prp) : Prop where
  ask : A.ph = 1 → entP A = (0, 0, 0, ⟨#[]⟩)
  ent : entP A = (0, 0, 0, ⟨#[]⟩) ∨ entP A = (1, 0, 0, ⟨#[]⟩) ∨ toldP l j (entP A)
  bst : bstP A = (0, 0, 0, ⟨#[]⟩) ∨ toldP l j (bstP A)
theorem GivP.start (l : List Pa) (c sl r p : Int) : GivP l 0 (freshA c sl r p) := ⟨fun _ => rfl, .inl rfl, .inl rfl⟩
theorem GivP.mono {l : List Pa} {j : Nat} {A : Prp} (h : GivP l j A) : GivP l (j + 1) A :=
  ⟨h.ask, h.ent.imp id (fun h => h.imp id toldP.mono), h.bst.imp id toldP.mono⟩
theorem GivP.act {l : List Pa} {j : Nat} {A : Prp} (h : GivP l j A) (hI : InvP A) {e : Pa} (he : l[j]? = some e) : GivP l (j + 1) (actP A e) := by
  unfold actP
  split
  next hw =>
    unfold prA
    split
    · split
      next h1 =>
        have hb : bstP (bestA A e.pl.toNat e.ar e.ap e.k e.m e.n e.s) = (0, 0, 0, ⟨#[]⟩) ∨ toldP l (j + 1) (bstP (bestA A e.pl.toNat e.ar e.ap e.k e.m e.n e.s)) := by
          rcases (best_ent A e.pl.toNat e.ar e.ap e.k e.m e.n e.s).2 with q | q
          · rw [q]; exact h.mono.bst
          · rw [q]; exact .inr ⟨j, e, by omega, he, hw, rfl⟩
        have hE := (best_ent A e.pl.toNat e.ar e.ap e.k e.m e.n e.s).1
        have hS := (best_same A e.pl.toNat e.ar e.ap e.k e.m e.n e.s).1
        unfold tellA
        generalize bestA A e.pl.toNat e.ar e.ap e.k e.m e.n e.s = B at *
        split
        · exact h.mono
        · split
          · obtain ⟨g1, g2⟩ := give_ent B
            have g3 := (give_same B).1
            refine ⟨fun h2 => by omega, ?_, by rw [g1]; exact hb⟩
            rcases g2 with q | q
            · exact .inr (.inl q)
            · rw [q]
              rcases hb with q2 | q2
              · exact .inl q2
              · exact .inr (.inr q2)
          · refine ⟨fun _ => by rw [hE]; exact h.ask h1, ?_, hb⟩
            rw [hE]
            exact h.mono.ent
      · exact h.mono
    · exact h.mono
  · split
    · unfold acA
      split
      · split
        next h1 =>
          have h3 : entP (takeA A e.pl.toNat) = entP A ∧ bstP (takeA A e.pl.toNat) = bstP A ∧ (takeA A e.pl.toNat).ph ≠ 1 := by
            unfold takeA
            split
            · exact ⟨rfl, rfl, by simp⟩
            · exact ⟨rfl, rfl, by simp [h1]⟩
          refine ⟨fun h4 => absurd h4 h3.2.2, ?_, ?_⟩
          · rw [h3.1]; exact h.mono.ent
          · rw [h3.2.1]; exact h.mono.bst
        · exact h.mono
      · exact h.mono
    · unfold rfA
      split
      · split
        · exact ⟨fun h4 => absurd h4 (by show (4 : Int) ≠ 1; decide), h.mono.ent, h.mono.bst⟩
        · exact h.mono
      · exact h.mono
end Go.Proofs.YtcahkcbenanfnaaGreatDoor
