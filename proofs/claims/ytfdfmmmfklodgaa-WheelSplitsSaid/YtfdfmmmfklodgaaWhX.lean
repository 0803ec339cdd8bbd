
/- The document's wheel: Advance. -/
import Derived.Test.YtfdfmmmfklodgaaWhU
namespace Go.Proofs.Ytfdfmmmfklodgaa
set_option linter.unusedSimpArgs false
set_option linter.unusedVariables false
open Go.RowKit
def RefA (w : World) (v : Value) (now : Int) (L : List (Int × Int)) (n : Int) (e : Ending) (w' : World) : Prop :=
  ∃ a c a2 c2, e = .returned (.tuple #[.agg #[.int .i64 (advN now n), .slice a (advL now L n).length c], .slice a2 (advO now L n).length c2, .int .i64 (advE now n)]) ∧
    RowD w' 0 (.slice a (advL now L n).length c) (advL now L n) ∧ RowD w' 0 (.slice a2 (advO now L n).length c2) (advO now L n) ∧ FreshV w v (.slice a (advL now L n).length c) ∧ (∀ k, (Value.slice a2 (advO now L n).length c2).ownBlock = some k → w.heap.size ≤ k) ∧ Below w.heap.size w w'
theorem row_empty {w : World} {base b : Nat} {e : TypeId} {size : Nat} (hb : w.heap[b]? = some (.cells #[] e (0, 0))) (hB : base ≤ b) : w.ownsRow base e size (.slice (some ⟨b, 0, none⟩) 0 0) 0 [] :=
  ⟨by simp, .inr ⟨b, 0, #[], rfl, hB, hb, Nat.le_refl _, by unfold maxLen; omega, by simp, by simp⟩⟩
theorem HasD.news {w : World} {ad : Addr} {O : List (Int × Int)} (h : HasD w (some ad) O) : ∀ j u, (cellsD O)[j]? = some u → w.cell? (ad.add j) = some u := by
  intro j u hj
  have hl : j < O.length * 2 := by have := (List.getElem?_eq_some_iff.1 hj).1; rw [cellsD_len] at this; exact this
  have hf := flat_cells O j hl
  have hk : j / 2 < O.length := by omega
  obtain ⟨b, off, hA, h0, h1⟩ := h (j / 2) O[j / 2] (by simp [hk])
  cases hA
  rw [show O.toArray[j / 2]! = O[j / 2] by simp [hk]] at hf
  rw [hf] at hj
  cases hj
  rw [Addr.add_lit]
  obtain h2 | h2 : j % 2 = 0 ∨ j % 2 = 1 := by omega
  · rw [h2, show off + j = off + j / 2 * 2 by omega]
    exact h0
  · rw [h2, show off + j = off + j / 2 * 2 + 1 by omega]
    exact h1
/-- append of things that lie somewhere. -/
theorem RowD.appH {w : World} {base : Nat} {v : Value} {O O2 : List (Int × Int)} {ao : Option Addr} {m c2 : Nat} (h : RowD w base v O) (h2 : HasD w ao O2) (hm : O2.length = m) (hn : O.length + m ≤ 100000) (hb : base ≤ w.heap.size) (ty : TypeId) :
    ∃ v' w', (Builtin.append_ #[26, 26] ty #[v, .slice ao m c2]).run Try.prog w = .ok v' w' ∧ RowD w' base v' (O ++ O2) ∧ Kx v.ownBlock.toList w w' ∧ (v'.ownBlock = v.ownBlock ∨ v'.ownBlock = some w.heap.size) := by
  obtain ⟨i0, hi0, hz0, hz1, hz2⟩ := info_parts info_due
  cases ao with
  | none =>
    have hO : O2 = [] := by
      cases O2 with
      | nil => rfl
      | cons p r => obtain ⟨b, off, e, _⟩ := h2 0 p rfl; cases e
    subst hO
    subst hm
    exact ⟨v, w, run_append_of_nil w base 26 ty 50 i0 2 Try.underlying26 hi0 v O.length _ h c2, by simpa using h, Kx.refl _ _, .inl rfl⟩
  | some ad =>
    subst hm
    obtain ⟨v', w', hr, h3, h4, _, h5⟩ := run_append_own_at (P := Try.prog) w base 26 ty 50 i0 (.agg #[.int .i64 0, .int .i64 0]) 2 16 Try.underlying26 hi0 hz0 hz1 hz2 rfl (by decide) v O.length _ h ad O2.length c2 (cellsD O2) (cellsD_len O2) h2.news (cellsD_one O2) (by unfold maxLen; omega) (by omega) hb
    refine ⟨v', w', hr, ?_, kx_grown h4, h5⟩
    unfold RowD
    rw [List.length_append]
    have : cellsD O ++ cellsD O2 = cellsD (O ++ O2) := by simp [cellsD]
    rw [← this]
    exact h3
theorem HasD.drop {w : World} {a : Option Addr} {L : List (Int × Int)} (h : HasD w a L) (k c : Nat) (hc : c = k → L.length ≤ k) : HasD w (if c = k then a else a.map (·.add (k * 2))) (L.drop k) := by
  intro j p hp
  rw [List.getElem?_drop] at hp
  have hl := (List.getElem?_eq_some_iff.1 hp).1
  obtain ⟨b, off, rfl, h0, h1⟩ := h (k + j) p hp
  rw [if_neg (fun e => by have := hc e; omega)]
  refine ⟨b, off + k * 2, by simp [Addr.add_lit], ?_, ?_⟩
  · rw [show off + k * 2 + j * 2 = off + (k + j) * 2 by omega]; exact h0
  · rw [show off + k * 2 + j * 2 + 1 = off + (k + j) * 2 + 1 by omega]; exact h1
theorem HasD.take {w : World} {a : Option Addr} {L : List (Int × Int)} (h : HasD w a L) (k : Nat) : HasD w a (L.take k) := by
  intro j p hp
  rw [List.getElem?_take] at hp
  split at hp
  · exact h j p hp
  · cases hp
theorem ord_le {L : List (Int × Int)} (hL : L.Pairwise (fun a b => aheadB a b = true)) {i j : Nat} {p q : Int × Int} (hi : L[i]? = some p) (hj : L[j]? = some q) (hij : i ≤ j) : p.2 ≤ q.2 := by
  obtain ⟨h1, rfl⟩ := List.getElem?_eq_some_iff.1 hi
  obtain ⟨h2, rfl⟩ := List.getElem?_eq_some_iff.1 hj
  by_cases e : i = j
  · subst e; omega
  · have := List.pairwise_iff_getElem.1 hL i j h1 h2 (by omega)
    unfold aheadB at this
    simp at this
    omega
theorem cut_le {L : List (Int × Int)} {to : Int} {k : Nat} (hk : ∀ j p, j < k → L[j]? = some p → p.2 ≤ to) (hs : ∀ j p, k ≤ j → L[j]? = some p → to < p.2) :
    L.filter (fun p => decide (p.2 ≤ to)) = L.take k ∧ L.filter (fun p => decide (to < p.2)) = L.drop k := by
  have h1 : ∀ p, p ∈ L.take k → p.2 ≤ to := fun p hp => by
    obtain ⟨j, hj⟩ := List.mem_iff_getElem?.1 hp
    rw [List.getElem?_take] at hj
    split at hj
    · exact hk j p (by assumption) hj
    · cases hj
  have h2 : ∀ p, p ∈ L.drop k → to < p.2 := fun p hp => by
    obtain ⟨j, hj⟩ := List.mem_iff_getElem?.1 hp
    rw [List.getElem?_drop] at hj
    exact hs (k + j) p (by omega) hj
  have e := List.take_append_drop k L
  constructor
  · rw [← e, List.filter_append, List.filter_eq_self.2 (fun p hp => by simpa using h1 p hp), show (L.drop k).filter (fun p => decide (p.2 ≤ to)) = [] from List.filter_eq_nil_iff.2 (fun p hp => by have := h2 p hp; simp; omega), e]
    simp
  · rw [← e, List.filter_append, show (L.take k).filter (fun p => decide (to < p.2)) = [] from List.filter_eq_nil_iff.2 (fun p hp => by have := h1 p hp; simp; omega), List.filter_eq_self.2 (fun p hp => by simpa using h2 p hp), e]
    simp
theorem refA_same {w w' : World} {a : Option Addr} {N c : Nat} {now : Int} {L : List (Int × Int)} {n E : Int} {e : Ending} (hE : advE now n = E) (h0 : E ≠ 0) (he : e = .returned (.tuple #[.agg #[.int .i64 now, .slice a N c], .slice none 0 0, .int .i64 E])) (hN : L.length = N) (h : RowD w' 0 (.slice a N c) L) (hb : From w w') : RefA w (.slice a N c) now L n e w' := by
  subst hN
  unfold RefA advN advL advO
  rw [hE, if_neg h0, if_neg h0, if_neg h0]
  exact ⟨a, c, none, 0, he, h, World.ownsRow_nil _ _ _ _, fun _ hk => .inl hk, (fun k hk => by cases hk), hb⟩
set_option maxRecDepth 100000 in
set_option maxHeartbeats 1000000 in
theorem refAdv_bad (now : Int) (a : Option Addr) (c : Nat) (L : List (Int × Int)) (n : Int) (w : World) (h : RowD w 0 (.slice a L.length c) L) (hG : GoodW now L) (h1 : inI n 0 = false) :
    Calls Try.prog 32 #[.agg #[.int .i64 now, .slice a L.length c], .int .i64 n] w (RefA w (.slice a L.length c) now L n) := by
  have hE : advE now n = 2 := by unfold advE; rw [if_pos h1]
  have hR0 := Lib.hid h.ge
  obtain ⟨N, hN⟩ : ∃ N, L.length = N := ⟨_, rfl⟩
  rw [hN] at h hR0 ⊢
  have HN := Lib.hid hN
  clear hN
  clear hG
  have HE := Lib.hid hE
  clear hE
  rcases inI_no h1 with h1 | ⟨h1, h3⟩
  all_goals
    have hb := From.refl w
    go_enter Try.func32, Try.ntmps32
    go_upto_region 1 with fail
    obtain ⟨gX, hgX⟩ : ∃ g, (w).heap.size = g := ⟨_, rfl⟩
    have X := Blk.newV hgX 28 #[.int .i64 now, .slice a N c]
    have hbn := (Below.refl (w).heap.size w).alloc (Nat.le_refl _) (.cells #[.int .i64 now, .slice a N c] 28)
    replace hb := hb.step hbn
    replace h := h.step hbn
    clear hbn
    rw [hgX]
    have szX := alloc_size hgX (.cells #[.int .i64 now, .slice a N c] 28)
    generalize (w).alloc (.cells #[.int .i64 now, .slice a N c] 28) = w1 at *
    obtain ⟨gR, hgR⟩ : ∃ g, (w1).heap.size = g := ⟨_, rfl⟩
    have lt_X_R := X.lt
    rw [hgR] at lt_X_R
    have R := Blk.newV hgR 28 #[.int .i64 0, .slice none 0 0]
    have hbn := (Below.refl (w1).heap.size w1).alloc (Nat.le_refl _) (.cells #[.int .i64 0, .slice none 0 0] 28)
    replace hb := hb.step hbn
    replace h := h.step hbn
    replace X := X.step hbn
    clear hbn
    have egR : gX + 1 = gR := szX.symm.trans hgR
    rw [egR]
    clear szX
    generalize (w1).alloc (.cells #[.int .i64 0, .slice none 0 0] 28) = w2 at *
    have X_0 := X.cell (j := 0) rfl
    have X_1 := X.cell (j := 1) rfl
    have R_0 := R.cell (j := 0) rfl
    have R_1 := R.cell (j := 1) rfl
    have Rf0 := R.frozen 0
    have Rf1 := R.frozen 1
    go_wp2_with fail
    have hkk : Kx [gR] w2 ((w2.setCell ⟨gR, 0, none⟩ (.int .i64 now)).setCell ⟨gR, 1, none⟩ (.slice a N c)) := ((Kx.refl _ _).setCell (.inl (by simp)) _).setCell (.inl (by simp)) _
    have h2 := h.kx hkk (fun k hk hm => by have := hR0.out k hk; simp at hm; omega)
    have hb2 := hb.kx hkk (fun z hz => by simp at hz; omega)
    clear hkk h hb
    refine bodyPost_ret (v := .tuple #[.agg #[.int .i64 now, .slice a N c], .slice none 0 0, .int .i64 2]) ?_ rfl (refA_same HE.out (by decide) rfl HN.out h2 hb2)
    rw [r_cell1tt rfl]
    go_simp
set_option maxRecDepth 100000 in
set_option maxHeartbeats 1000000 in
theorem refAdv_long (now : Int) (a : Option Addr) (c : Nat) (L : List (Int × Int)) (n : Int) (w : World) (h : RowD w 0 (.slice a L.length c) L) (hG : GoodW now L) (h1 : inI n 0 = true) (h2 : 4611686018427387904 - n < now) :
    Calls Try.prog 32 #[.agg #[.int .i64 now, .slice a L.length c], .int .i64 n] w (RefA w (.slice a L.length c) now L n) := by
  have hE : advE now n = 3 := by unfold advE; rw [if_neg (by rw [h1]; simp), if_pos h2]
  have hR0 := Lib.hid h.ge
  obtain ⟨N, hN⟩ : ∃ N, L.length = N := ⟨_, rfl⟩
  rw [hN] at h hR0 ⊢
  have HN := Lib.hid hN
  clear hN
  have n0 := hG.n0
  have n1 := hG.n1
  clear hG
  have HE := Lib.hid hE
  clear hE
  obtain ⟨h1, h3⟩ := inI_yes h1
  have hb := From.refl w
  go_enter Try.func32, Try.ntmps32
  go_upto_region 1 with fail
  obtain ⟨gX, hgX⟩ : ∃ g, (w).heap.size = g := ⟨_, rfl⟩
  have X := Blk.newV hgX 28 #[.int .i64 now, .slice a N c]
  have hbn := (Below.refl (w).heap.size w).alloc (Nat.le_refl _) (.cells #[.int .i64 now, .slice a N c] 28)
  replace hb := hb.step hbn
  replace h := h.step hbn
  clear hbn
  rw [hgX]
  have szX := alloc_size hgX (.cells #[.int .i64 now, .slice a N c] 28)
  generalize (w).alloc (.cells #[.int .i64 now, .slice a N c] 28) = w1 at *
  obtain ⟨gR, hgR⟩ : ∃ g, (w1).heap.size = g := ⟨_, rfl⟩
  have lt_X_R := X.lt
  rw [hgR] at lt_X_R
  have R := Blk.newV hgR 28 #[.int .i64 0, .slice none 0 0]
  have hbn := (Below.refl (w1).heap.size w1).alloc (Nat.le_refl _) (.cells #[.int .i64 0, .slice none 0 0] 28)
  replace hb := hb.step hbn
  replace h := h.step hbn
  replace X := X.step hbn
  clear hbn
  have egR : gX + 1 = gR := szX.symm.trans hgR
  rw [egR]
  clear szX
  generalize (w1).alloc (.cells #[.int .i64 0, .slice none 0 0] 28) = w2 at *
  have X_0 := X.cell (j := 0) rfl
  have X_1 := X.cell (j := 1) rfl
  have R_0 := R.cell (j := 0) rfl
  have R_1 := R.cell (j := 1) rfl
  have Rf0 := R.frozen 0
  have Rf1 := R.frozen 1
  go_wp2_with fail
  have hkk : Kx [gR] w2 ((w2.setCell ⟨gR, 0, none⟩ (.int .i64 now)).setCell ⟨gR, 1, none⟩ (.slice a N c)) := ((Kx.refl _ _).setCell (.inl (by simp)) _).setCell (.inl (by simp)) _
  have h2 := h.kx hkk (fun k hk hm => by have := hR0.out k hk; simp at hm; omega)
  have hb2 := hb.kx hkk (fun z hz => by simp at hz; omega)
  clear hkk h hb
  refine bodyPost_ret (v := .tuple #[.agg #[.int .i64 now, .slice a N c], .slice none 0 0, .int .i64 3]) ?_ rfl (refA_same HE.out (by decide) rfl HN.out h2 hb2)
  rw [r_cell1tt rfl]
  go_simp
end Go.Proofs.Ytfdfmmmfklodgaa
