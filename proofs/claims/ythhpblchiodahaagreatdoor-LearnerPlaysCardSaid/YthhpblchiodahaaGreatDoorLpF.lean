
/- The document's learner: pieces of rows put behind rows. -/
import Derived.Test.YthhpblchiodahaaGreatDoorLpB
import Derived.Test.YthhpblchiodahaaGreatDoorLpD
import Derived.Test.YthhpblchiodahaaGreatDoorLpE
namespace Go.Proofs.YthhpblchiodahaaGreatDoor
set_option linter.unusedSimpArgs false
set_option linter.unusedVariables false
open Go.RowKit Go.Maps
theorem hdC_take (L : HMap) (us : List Value) (a : Nat) (h : us.length = L.length) (ha : a ≤ L.length) : (hdC L us).take (a * 7) = hdC (L.take a) (us.take a) := by
  have h1 : hdC L us = hdC (L.take a) (us.take a) ++ hdC (L.drop a) (us.drop a) := by
    unfold hdC
    rw [← List.flatMap_append, ← List.zip_append (by simp [h]), List.take_append_drop, List.take_append_drop]
  have h2 := hdC_len (L.take a) (us.take a) (by simp [h])
  rw [h1, List.take_append_of_le_length (by rw [h2, List.length_take]; omega), List.take_of_length_le (by rw [h2, List.length_take]; omega)]
theorem hdC_app (L M : HMap) (us vs : List Value) (h : us.length = L.length) : hdC (L ++ M) (us ++ vs) = hdC L us ++ hdC M vs := by
  unfold hdC
  rw [List.zip_append h.symm, List.flatMap_append]
theorem hd_one {x : (Int × Int) × Hd} {us : List Value} {L : HMap} {base : Nat} {W : World} (hr : ∀ (j : Nat) x u, L[j]? = some x → us[j]? = some u → RowI W base u (plK 0 x.2.vs)) (hl : us.length = L.length) : ∀ t ∈ hdC L us, t.oneCell' = true := by
  intro t ht
  unfold hdC at ht
  obtain ⟨⟨y, u⟩, hp, ht⟩ := List.mem_flatMap.1 ht
  obtain ⟨j, hj, he⟩ := List.getElem_of_mem hp
  simp at hj
  rw [List.getElem_zip] at he
  cases he
  have hu := hr j _ _ (List.getElem?_eq_getElem (by omega)) (List.getElem?_eq_getElem (by omega))
  obtain ⟨a, c, e⟩ := RowI.form hu
  simp only [h7] at ht
  rw [e] at ht
  simp at ht
  rcases ht with rfl | rfl | rfl | rfl | rfl | rfl | rfl <;> rfl
theorem kept_rows {W W' : World} {base : Nat} {row : Option Nat} {L : HMap} {us : List Value} (hr : ∀ (j : Nat) x u, L[j]? = some x → us[j]? = some u → RowI W base u (plK 0 x.2.vs)) (hg : W.grownBy W' row)
    (hc : ∀ k, row = some k → ∃ cs fz, W.heap[k]? = some (.cells cs 81 fz)) : ∀ (j : Nat) x u, L[j]? = some x → us[j]? = some u → RowI W' base u (plK 0 x.2.vs) := fun j x u hx hu => by
  refine World.ownsRow.kept (hr j x u hx hu) hg ?_
  cases hob : u.ownBlock with
  | none => exact .inl rfl
  | some k =>
    refine .inr fun e => ?_
    obtain ⟨cs, fz, h1⟩ := row_cellsT (hr j x u hx hu) k hob
    obtain ⟨cs2, fz2, h2⟩ := hc k e.symm
    rw [h1] at h2
    injection h2 with h2
    injection h2 with _ e2 _
    exact absurd e2 (by decide)
/-- 'append([]Heard{}, out[:a]...)'. -/
theorem HdR.takeApp {W : World} {base : Nat} {ao : Option Addr} {n c : Nat} {L : HMap} (h : HdR W base (.slice ao n c) L) (hn : L.length = n) (hl : n ≤ 10000) (hb : base ≤ W.heap.size) (a : Nat) (ha : a ≤ n) (ty : TypeId) :
    ∃ v' w', (Builtin.append_ #[53, 53] ty #[.slice (some ⟨W.heap.size, 0, none⟩) 0 0, .slice ao a c]).run Tryz.prog (W.alloc (.cells #[] 81)) = .ok v' w' ∧ HdR w' base v' (L.take a) ∧
      (∀ r, v'.ownBlock = some r → W.heap.size ≤ r) ∧ Kx [W.heap.size] (W.alloc (.cells #[] 81)) w' := by
  subst hn
  obtain ⟨i0, hi, hz0, hz1, hz2⟩ := info_parts info_hrd
  obtain ⟨us, h1, h2, h3⟩ := h
  have hba := (Below.refl W.heap.size W).alloc (Nat.le_refl _) (.cells #[] 81)
  have hsz : (W.alloc (.cells #[] 81)).heap.size = W.heap.size + 1 := Array.size_push ..
  have T0 := Blk.newV (W := W) rfl 81 #[]
  have hown0 : (W.alloc (.cells #[] 81)).ownsRow W.heap.size 81 7 (.slice (some ⟨W.heap.size, 0, none⟩) 0 0) 0 [] :=
    ⟨rfl, .inr ⟨W.heap.size, 0, #[], rfl, Nat.le_refl _, T0, Nat.le_refl _, by decide, rfl, rfl⟩⟩
  have hsrc : (W.alloc (.cells #[] 81)).ownsRow base 81 7 (.slice ao a c) a (hdC (L.take a) (us.take a)) := by
    have h2' := own_step h2 hba
    rw [← hdC_take L us a h1 (by omega)]
    refine ⟨by have := h2'.1; rw [List.length_take, this]; omega, ?_⟩
    rcases h2'.2 with ⟨e, e0⟩ | ⟨g, cap, cur, e, hg, hh, hle, hm, hs, htk⟩
    · injection e with e1 e2 e3
      subst e1 e3
      left
      have ha0 : a = 0 := by omega
      exact ⟨by rw [ha0], ha0⟩
    · cases e
      right
      refine ⟨g, c, cur, rfl, hg, hh, by omega, hm, hs, ?_⟩
      rw [← htk, List.take_take, Nat.min_eq_left (Nat.mul_le_mul_right 7 ha)]
  have hone := hd_one (x := ((0, 0), ⟨0, 0, 0, ⟨#[]⟩, []⟩)) (L := L.take a) (us := us.take a) (W := W) (base := base) (fun j x u hx hu => by
    rw [List.getElem?_take] at hx hu
    split at hx
    · rename_i hj; rw [if_pos hj] at hu; exact h3 j x u hx hu
    · cases hx) (by simp [h1])
  obtain ⟨v', w', hrun, own5, hgrow, hwhere⟩ := run_append_rows (P := Tryz.prog) (W.alloc (.cells #[] 81)) W.heap.size base 53 ty 81 i0 (.agg #[.int .i64 0, .int .i64 0, .int .i64 0, .int .i64 0, .int .i64 0, .string ⟨#[]⟩, .slice none 0 0]) 7 80 Tryz.underlying53 hi hz0 hz1 hz2 rfl (by decide) _ _ _ hown0 _ _ _ hsrc hone (by unfold maxLen; omega) (by omega) (by omega)
  have hlt : (L.take a).length = a := by rw [List.length_take]; omega
  refine ⟨v', w', hrun, ⟨us.take a, by simp [h1], ?_, ?_⟩, fun r hr => (row_ge own5 r hr).1, ?_⟩
  · rw [hlt]
    simp only [List.nil_append, Nat.zero_add] at own5
    exact row_low own5 hb
  · refine kept_rows (fun j x u hx hu => ?_) hgrow (fun k hk => by cases hk; exact ⟨_, _, T0⟩)
    rw [List.getElem?_take] at hx hu
    split at hx
    · rename_i hj; rw [if_pos hj] at hu; exact (h3 j x u hx hu).step hba
    · cases hx
  · exact (kx_grown hgrow).mono (by intro r hr; simpa [Value.ownBlock] using hr)
/-- 'append(all, out[a:]...)'. -/
theorem HdR.dropApp {W : World} {base : Nat} {v : Value} {M : HMap} (hM : HdR W base v M) {ao : Option Addr} {n c : Nat} {L : HMap} (h : HdR W base (.slice ao n c) L) (hn : L.length = n) (hl : M.length + n ≤ 10000) (hb : base ≤ W.heap.size) (a : Nat) (ha : a ≤ n) (ty : TypeId) (sa : Option Addr) (sc : Nat) (hsa : a < n → ∀ g, ao = some ⟨g, 0, none⟩ → sa = some ⟨g, a * 7, none⟩) :
    ∃ v' w', (Builtin.append_ #[53, 53] ty #[v, .slice sa (n - a) sc]).run Tryz.prog W = .ok v' w' ∧ HdR w' base v' (M ++ L.drop a) ∧
      (∀ r, v'.ownBlock = some r → v.ownBlock = some r ∨ r = W.heap.size) ∧ Kx v.ownBlock.toList W w' := by
  subst hn
  obtain ⟨i0, hi, hz0, hz1, hz2⟩ := info_parts info_hrd
  have hcM := hM.cellsT
  obtain ⟨um, m1, m2, m3⟩ := hM
  obtain ⟨us, h1, h2, h3⟩ := h
  by_cases hlt : a < L.length
  · rcases id h2.2 with ⟨e, e0⟩ | ⟨g, cap, cur, e, hg, hh, hle, hm, hs, htk⟩
    · omega
    · cases e
      rw [hsa hlt g rfl]
      have hld : (L.drop a).length = L.length - a := List.length_drop
      have hud : (us.drop a).length = (L.drop a).length := by simp [h1]
      have hr3 : ∀ (j : Nat) x u, (L.drop a)[j]? = some x → (us.drop a)[j]? = some u → RowI W base u (plK 0 x.2.vs) := fun j x u hx hu => by
        rw [List.getElem?_drop] at hx hu
        exact h3 _ x u hx hu
      have hdrop : hdC L us = hdC (L.take a) (us.take a) ++ hdC (L.drop a) (us.drop a) := by
        rw [← hdC_app _ _ _ _ (by simp [h1]), List.take_append_drop, List.take_append_drop]
      have hln := hdC_len (L.drop a) (us.drop a) hud
      have hlk := hdC_len (L.take a) (us.take a) (by simp [h1])
      obtain ⟨v', w', hrun, own5, hgrow, -, hwhere⟩ := run_append_own_at (P := Tryz.prog) (w := W) base 53 ty 81 i0 (.agg #[.int .i64 0, .int .i64 0, .int .i64 0, .int .i64 0, .int .i64 0, .string ⟨#[]⟩, .slice none 0 0]) 7 80 Tryz.underlying53 hi hz0 hz1 hz2 rfl (by decide) v M.length _ m2 ⟨g, a * 7, none⟩ (L.length - a) sc (hdC (L.drop a) (us.drop a)) (by rw [hln, hld]) (fun j u hj => by
        have e2 : (hdC L us)[a * 7 + j]? = some u := by
          rw [hdrop, List.getElem?_append_right (by rw [hlk, List.length_take]; omega), hlk, List.length_take]
          rw [show a * 7 + j - min a L.length * 7 = j by omega]
          exact hj
        have := World.ownsRow.cells h2 (g := g) rfl _ u e2
        simpa [Addr.add_lit] using this) (hd_one (x := ((0, 0), ⟨0, 0, 0, ⟨#[]⟩, []⟩)) hr3 hud) (by unfold maxLen; omega) (by omega) hb
      have hk3 := kept_rows m3 hgrow hcM
      have hk4 := kept_rows hr3 hgrow hcM
      refine ⟨v', w', hrun, ⟨um ++ us.drop a, by simp [m1, h1], ?_, fun j x u hx hu => ?_⟩, fun r hr => ?_, kx_grown hgrow⟩
      · rw [hdC_app _ _ _ _ m1, List.length_append, hld]
        exact own5
      · by_cases hj : j < M.length
        · rw [List.getElem?_append_left hj] at hx
          rw [List.getElem?_append_left (by omega)] at hu
          exact hk3 j x u hx hu
        · rw [List.getElem?_append_right (by omega)] at hx hu
          rw [m1] at hu
          exact hk4 _ x u hx hu
      · rcases hwhere with e | e
        · left; rw [← e]; exact hr
        · right; rw [e] at hr; cases hr; rfl
  · have e0 : L.length - a = 0 := by omega
    have ed : L.drop a = [] := List.drop_eq_nil_of_le (by omega)
    rw [e0, ed, List.append_nil]
    cases sa with
    | none => exact ⟨v, W, run_append_of_nil W base 53 ty 81 i0 7 Tryz.underlying53 hi v _ _ m2 sc, ⟨um, m1, m2, m3⟩, fun r hr => .inl hr, Kx.refl _ _⟩
    | some ad =>
      obtain ⟨v', w', hrun, own5, hgrow, -, hwhere⟩ := run_append_own_at (P := Tryz.prog) (w := W) base 53 ty 81 i0 (.agg #[.int .i64 0, .int .i64 0, .int .i64 0, .int .i64 0, .int .i64 0, .string ⟨#[]⟩, .slice none 0 0]) 7 80 Tryz.underlying53 hi hz0 hz1 hz2 rfl (by decide) v M.length _ m2 ad 0 sc [] rfl (fun j u hj => by simp at hj) (fun u hu => by cases hu) (by unfold maxLen; omega) (by omega) hb
      refine ⟨v', w', hrun, ⟨um, m1, by simpa using own5, kept_rows m3 hgrow hcM⟩, fun r hr => ?_, kx_grown hgrow⟩
      rcases hwhere with e | e
      · left; rw [← e]; exact hr
      · right; rw [e] at hr; cases hr; rfl
end Go.Proofs.YthhpblchiodahaaGreatDoor
