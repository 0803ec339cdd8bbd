
/- Package disk: a step, as one law for all five. -/
import Derived.Test.YtceoehjjebkgpaaDkV
import Derived.Test.YtceoehjjebkgpaaDkK
namespace Go.Proofs.Ytceoehjjebkgpaa
set_option linter.unusedSimpArgs false
set_option linter.unusedVariables false
open Go.RowKit Go.Maps
theorem usedN_cons (p : ByteArray × Fm) (L : FMap) : usedN (p :: L) = p.2.b.length + usedN L := by simp [usedN]
theorem used_filter (f : ByteArray × Fm → Bool) (L : FMap) : usedN (L.filter f) ≤ usedN L := by
  induction L with
  | nil => exact Nat.le_refl _
  | cons p r ih =>
    rw [List.filter_cons]
    split
    · rw [usedN_cons, usedN_cons]; omega
    · rw [usedN_cons]; omega
theorem used_del (L : FMap) (s : ByteArray) : (getM L s).b.length + usedN (delG L s) ≤ usedN L := by
  induction L with
  | nil => exact Nat.le_refl _
  | cons p r ih =>
    obtain ⟨k, v⟩ := p
    rw [usedN_cons]
    by_cases hk : k = s
    · subst hk
      have h1 : getM ((k, v) :: r) k = v := by simp [getM, getG]
      have h2 : delG ((k, v) :: r) k = delG r k := by simp [delG]
      rw [h1, h2]
      have := used_filter (fun p => decide (p.1 ≠ k)) r
      unfold delG
      show v.b.length + _ ≤ v.b.length + _
      omega
    · have h1 : getM ((k, v) :: r) s = getM r s := by simp [getM, getG, hk]
      have h2 : delG ((k, v) :: r) s = (k, v) :: delG r s := by simp [delG, hk]
      rw [h1, h2, usedN_cons]
      show _ + (v.b.length + _) ≤ v.b.length + _
      omega
theorem del_len (L : FMap) (s : ByteArray) : (delG L s).length ≤ L.length := List.length_filter_le _ _
theorem del_mem {L : FMap} {s : ByteArray} {p : ByteArray × Fm} (h : p ∈ delG L s) : p ∈ L := (List.mem_filter.1 h).1
/-- What may become of the files in a step. -/
structure NextL (room : Int) (L L' : FMap) : Prop where
  n : L'.length ≤ L.length + 1
  k : ∀ p ∈ L', okS p.1
  u : (usedN L' : Int) ≤ room
  s : Sured L → Sured L'
  m : (∀ p ∈ L, nmB p.1 = true) → ∀ p ∈ L', nmB p.1 = true
theorem next_put {D : Ds} {L : FMap} (hG : GoodD D L) (L1 : FMap) (s : ByteArray) (m : Fm) (h1 : L1.length ≤ L.length) (h2 : ∀ p ∈ L1, p ∈ L) (hs : okS s) (hu : (m.b.length + usedN (delG L1 s) : Int) ≤ D.room) (hS : Sured L → 0 ≤ m.s ∧ m.s ≤ m.b.length) (hm : nmB s = true) : NextL D.room L (putG L1 s m) := by
  refine ⟨?_, ?_, ?_, ?_, ?_⟩
  · have := del_len L1 s
    unfold putG
    rw [List.length_cons]
    omega
  · intro p hp
    rcases List.mem_cons.1 hp with rfl | hp
    · exact hs
    · exact hG.k p (h2 p (del_mem hp))
  · unfold putG
    rw [usedN_cons]
    show ((m.b.length + _ : Nat) : Int) ≤ _
    omega
  · intro h p hp
    rcases List.mem_cons.1 hp with rfl | hp
    · exact hS h
    · exact h p (h2 p (del_mem hp))
  · intro h p hp
    rcases List.mem_cons.1 hp with rfl | hp
    · exact hm
    · exact h p (h2 p (del_mem hp))
theorem sured_getM {L : FMap} (h : Sured L) (s : ByteArray) : 0 ≤ (getM L s).s ∧ (getM L s).s ≤ (getM L s).b.length := by
  unfold getM
  cases hg : getG L s with
  | none => exact ⟨Int.le_refl _, Int.le_refl _⟩
  | some m => exact h (s, m) (mem_getG hg)
theorem file_get {L : FMap} {s : ByteArray} (h : fileE L s = 0) : nmB s = true ∧ fileM L s = getM L s := by
  unfold fileE at h
  split at h
  · rename_i hn
    exact ⟨hn, by simp [fileM, hn, getM, fm0]⟩
  · cases h
theorem file_err {L : FMap} {s : ByteArray} (h : fileE L s ≠ 0) : fileE L s ≠ 172 := by
  unfold fileE
  split
  · split <;> decide
  · decide
/-- A step's answer, and what it leaves. -/
def StR (D : Ds) (L : FMap) (r : Int) (D' : Ds) (L' : FMap) : Prop :=
  (r ≠ 0 ∧ r ≠ 172 ∧ D' = D ∧ L' = L) ∨ (r = 172 ∧ L' = L ∧ ((D.dead = true ∧ D' = D) ∨ (D.dead = false ∧ D.stop = true ∧ D.after = 0 ∧ D' = dieD D))) ∨ (r = 0 ∧ D.dead = false ∧ (D.stop = false ∨ D.after ≠ 0) ∧ D' = goD D ∧ NextL D.room L L')
def StepQ (d mb : Nat) (D : Ds) (L : FMap) (w : World) (e : Ending) (w' : World) : Prop :=
  ∃ r D' L', e = .returned (.int .i64 r) ∧ (-9223372036854775808 ≤ r ∧ r ≤ 9223372036854775807) ∧ DkW w' d mb D' L' ∧ Kx [d, mb] w w' ∧ StR D L r D' L'
theorem q_same {d mb : Nat} {D : Ds} {L : FMap} {w : World} (h : DkW w d mb D L) (r : Int) (hr : r = 4 ∨ r = 5 ∨ r = 170 ∨ r = 171) : ∀ e w', (e = .returned (.int .i64 r) ∧ Below w.heap.size w w') → StepQ d mb D L w e w' := by
  rintro e w' ⟨rfl, hb⟩
  exact ⟨r, D, L, rfl, by omega, h.step hb, Kx.of_below _ hb (Nat.le_refl _), .inl ⟨by omega, by omega, rfl, rfl⟩⟩
theorem q_err {d mb : Nat} {D : Ds} {L : FMap} {w : World} {s : ByteArray} (h : DkW w d mb D L) (he : fileE L s ≠ 0) : ∀ e w', (e = .returned (.int .i64 (fileE L s)) ∧ Below w.heap.size w w') → StepQ d mb D L w e w' := by
  refine q_same h _ ?_
  unfold fileE at he ⊢
  split
  · rename_i hn
    rw [if_pos hn] at he
    split
    · rename_i hg; rw [if_pos hg] at he; exact absurd rfl he
    · exact .inr (.inl rfl)
  · exact .inr (.inr (.inl rfl))
theorem q_dead {d mb : Nat} {D : Ds} {L : FMap} {w : World} (h : DkW w d mb D L) (hd : D.dead = true) : ∀ e w', (e = .returned (.int .i64 172) ∧ Below w.heap.size w w') → StepQ d mb D L w e w' := by
  rintro e w' ⟨rfl, hb⟩
  exact ⟨172, D, L, rfl, by omega, h.step hb, Kx.of_below _ hb (Nat.le_refl _), .inr (.inl ⟨rfl, rfl, .inl ⟨hd, rfl⟩⟩)⟩
theorem q_die {d mb : Nat} {D : Ds} {L : FMap} {w : World} (hd : D.dead = false) (hst : D.stop = true) (ha : D.after = 0) : ∀ e w', (e = .returned (.int .i64 172) ∧ DkW w' d mb (dieD D) L ∧ Kx [d] w w') → StepQ d mb D L w e w' := by
  rintro e w' ⟨rfl, h, hk⟩
  exact ⟨172, _, L, rfl, by omega, h, hk.mono (by simp), .inr (.inl ⟨rfl, rfl, .inr ⟨hd, hst, ha, rfl⟩⟩)⟩
theorem q_do {d mb : Nat} {D : Ds} {L L' : FMap} {w : World} (hd : D.dead = false) (hst : D.stop = false ∨ D.after ≠ 0) (hn : NextL D.room L L') : ∀ e w', (e = .returned (.int .i64 0) ∧ (DkW w' d mb (goD D) L' ∧ Kx [d, mb] w w')) → StepQ d mb D L w e w' := by
  rintro e w' ⟨rfl, h, hk⟩
  exact ⟨0, _, L', rfl, by omega, h, hk, .inr (.inr ⟨rfl, hd, hst, rfl, hn⟩)⟩
theorem kinds (D : Ds) : D.dead = true ∨ (D.dead = false ∧ D.stop = true ∧ D.after = 0) ∨ (D.dead = false ∧ (D.stop = false ∨ D.after ≠ 0)) := by
  cases hd : D.dead
  · cases hs : D.stop
    · exact .inr (.inr ⟨rfl, .inl rfl⟩)
    · by_cases ha : D.after = 0
      · exact .inr (.inl ⟨rfl, rfl, ha⟩)
      · exact .inr (.inr ⟨rfl, .inr ha⟩)
  · exact .inl rfl
theorem app_q (d mb : Nat) (D : Ds) (L : FMap) (s : ByteArray) (bo : Option Addr) (y : BL) (cb : Nat) (w : World) (h : DkW w d mb D L) (hG : GoodD D L) (hs : okS s) (hy : ByAt w bo y) (hyl : y.length ≤ 16777216) :
    Calls Try.prog 8 #[.pointer (some ⟨d, 0, none⟩), .string s, .slice bo y.length cb] w (StepQ d mb D L w) := by
  cases hn : nmB s
  · exact (dapp_bad d mb D L s bo y cb w h hG hs hyl hn).mono (q_same h 170 (by decide))
  by_cases hr : (y.length : Int) ≤ D.room - usedN L
  · rcases kinds D with hd | ⟨hd, hst, ha⟩ | ⟨hd, hst⟩
    · exact (dapp_dead d mb D L s bo y cb w h hG hs hy hyl hn hr hd).mono (q_dead h hd)
    · exact (dapp_die d mb D L s bo y cb w h hG hs hy hyl hn hr hd hst ha).mono (q_die hd hst ha)
    · refine (dapp_do d mb D L s bo y cb w h hG hs hy hyl hn hr h hd hst).mono ?_
      rintro e w' ⟨he, ⟨m, h1, h2, h3, -⟩, hk⟩
      have hud := used_del L s
      refine q_do hd hst (next_put hG L s m (Nat.le_refl _) (fun _ h => h) hs ?_ (fun hS => ?_) hn) e w' ⟨he, h1, hk⟩
      · rw [h2, List.length_append]
        push_cast
        omega
      · have := sured_getM hS s
        rw [h2, h3, List.length_append]
        push_cast
        omega
  · exact (dapp_room d mb D L s bo y cb w h hG hs hyl hn (by omega)).mono (q_same h 171 (by decide))
theorem sync_q (d mb : Nat) (D : Ds) (L : FMap) (s : ByteArray) (w : World) (h : DkW w d mb D L) (hG : GoodD D L) (hs : okS s) :
    Calls Try.prog 20 #[.pointer (some ⟨d, 0, none⟩), .string s] w (StepQ d mb D L w) := by
  by_cases he : fileE L s = 0
  · obtain ⟨hn, hg⟩ := file_get he
    rcases kinds D with hd | ⟨hd, hst, ha⟩ | ⟨hd, hst⟩
    · exact (dsync_dead d mb D L s w h hs he hd).mono (q_dead h hd)
    · exact (dsync_die d mb D L s w h hs he hd hst ha).mono (q_die hd hst ha)
    · have hud := used_del L s
      have hu := hG.u
      exact (dsync_do d mb D L s w h hG hs he hd hst).mono (q_do hd hst (next_put hG L s _ (Nat.le_refl _) (fun _ h => h) hs (by rw [hg]; show (((getM L s).b.length : Nat) + _ : Int) ≤ _; omega) (fun hS => by simp) hn))
  · exact (dsync_err d mb D L s w h hs he).mono (q_err h he)
theorem cut_q (d mb : Nat) (D : Ds) (L : FMap) (s : ByteArray) (n : Int) (w : World) (h : DkW w d mb D L) (hG : GoodD D L) (hs : okS s) :
    Calls Try.prog 21 #[.pointer (some ⟨d, 0, none⟩), .string s, .int .i64 n] w (StepQ d mb D L w) := by
  by_cases he : fileE L s = 0
  · obtain ⟨hn, hg⟩ := file_get he
    by_cases hr : n < 0 ∨ ((fileM L s).b.length : Int) < n
    · exact (dcut_range d mb D L s n w h hs he hr).mono (q_same h 4 (by decide))
    have h0 : 0 ≤ n := by omega
    have h1 : n ≤ ((fileM L s).b.length : Int) := by omega
    rcases kinds D with hd | ⟨hd, hst, ha⟩ | ⟨hd, hst⟩
    · exact (dcut_dead d mb D L s n w h hs he h0 h1 hd).mono (q_dead h hd)
    · exact (dcut_die d mb D L s n w h hs he h0 h1 hd hst ha).mono (q_die hd hst ha)
    · have hud := used_del L s
      have hu := hG.u
      refine (dcut_do d mb D L s n w h hG hs he h0 h1 hd hst).mono (q_do hd hst (next_put hG L s _ (Nat.le_refl _) (fun _ h => h) hs ?_ (fun hS => ?_) hn))
      · rw [hg]
        simp only [cutF, List.length_take]
        omega
      · have := sured_getM hS s
        rw [hg] at h1 ⊢
        simp only [cutF, List.length_take]
        omega
  · exact (dcut_err d mb D L s n w h hs he).mono (q_err h he)
theorem rem_q (d mb : Nat) (D : Ds) (L : FMap) (s : ByteArray) (w : World) (h : DkW w d mb D L) (hG : GoodD D L) (hs : okS s) :
    Calls Try.prog 32 #[.pointer (some ⟨d, 0, none⟩), .string s] w (StepQ d mb D L w) := by
  by_cases he : fileE L s = 0
  · rcases kinds D with hd | ⟨hd, hst, ha⟩ | ⟨hd, hst⟩
    · exact (drem_dead d mb D L s w h hs he hd).mono (q_dead h hd)
    · exact (drem_die d mb D L s w h hs he hd hst ha).mono (q_die hd hst ha)
    · have hud := used_del L s
      have hu := hG.u
      exact (drem_do d mb D L s w h hG hs he hd hst).mono (q_do hd hst ⟨by have := del_len L s; omega, fun p hp => hG.k p (del_mem hp), by omega, fun hS p hp => hS p (del_mem hp), fun hM p hp => hM p (del_mem hp)⟩)
  · exact (drem_err d mb D L s w h hs he).mono (q_err h he)
theorem ren_q (d mb : Nat) (D : Ds) (L : FMap) (s t : ByteArray) (w : World) (h : DkW w d mb D L) (hG : GoodD D L) (hs : okS s) (ht : okS t) :
    Calls Try.prog 33 #[.pointer (some ⟨d, 0, none⟩), .string s, .string t] w (StepQ d mb D L w) := by
  cases hn : nmB s && nmB t
  · exact (dren_bad d mb D L s t w h hs ht hn).mono (q_same h 170 (by decide))
  by_cases he : fileE L s = 0
  · obtain ⟨-, hg⟩ := file_get he
    rcases kinds D with hd | ⟨hd, hst, ha⟩ | ⟨hd, hst⟩
    · exact (dren_dead d mb D L s t w h hs ht hn he hd).mono (q_dead h hd)
    · exact (dren_die d mb D L s t w h hs ht hn he hd hst ha).mono (q_die hd hst ha)
    · have hud := used_del L s
      have hu := hG.u
      have hu2 := used_filter (fun p => decide (p.1 ≠ t)) (delG L s)
      refine (dren_do d mb D L s t w h hG hs ht hn he hd hst).mono (q_do hd hst (next_put hG (delG L s) t _ (del_len L s) (fun _ h => del_mem h) ht ?_ (fun hS => ?_) (by simp only [Bool.and_eq_true] at hn; exact hn.2)))
      · rw [hg]
        show (_ + ((usedN ((delG L s).filter _) : Nat) : Int)) ≤ _
        omega
      · rw [hg]
        exact sured_getM hS s
  · exact (dren_err d mb D L s t w h hs ht hn he).mono (q_err h he)
end Go.Proofs.Ytceoehjjebkgpaa
