
/- The document's wheel: Advance goes by. -/
import Derived.Test.YtfdfmmmfklodgaaWhX
import Derived.Deep.Upon
import Derived.ArgAppend
namespace Go.Proofs.Ytfdfmmmfklodgaa
set_option linter.unusedSimpArgs false
set_option linter.unusedVariables false
open Go.RowKit
/-- Things that are due as they lie, below B. -/
def HasB (W : World) (B : Nat) (ao : Option Addr) (O : List (Int × Int)) : Prop := HasD W ao O ∧ ∀ b off, ao = some ⟨b, off, none⟩ → O ≠ [] → b < B
theorem HasB.step {W W' : World} {B : Nat} {ao : Option Addr} {O : List (Int × Int)} (h : HasB W B ao O) (hb : Below W.heap.size W W') : HasB W' B ao O := ⟨h.1.step hb, h.2⟩
theorem HasB.kx {W W' : World} {B : Nat} {ao : Option Addr} {O : List (Int × Int)} {ws : List Nat} (h : HasB W B ao O) (hk : Kx ws W W') (hw : ∀ x, x ∈ ws → B ≤ x) : HasB W' B ao O := by
  refine ⟨?_, h.2⟩
  intro k p hp
  obtain ⟨b, off, ha, h0, h1⟩ := h.1 k p hp
  have hne : O ≠ [] := by rintro rfl; cases hp
  have hb := h.2 b off ha hne
  have hn : b ∉ ws := fun hm => by have := hw b hm; omega
  exact ⟨b, off, ha, kx_all h0 hn _ hk, kx_all h1 hn _ hk⟩
theorem RowD.hasB {W : World} {base B n c : Nat} {a : Option Addr} {O : List (Int × Int)} (h : RowD W base (.slice a n c) O) (hB : W.heap.size = B) : HasB W B a O := ⟨h.has.2.1, fun b off e _ => hB ▸ (h.has.2.2 b off e).2⟩
theorem HasB.drop {W : World} {B : Nat} {a : Option Addr} {L : List (Int × Int)} (h : HasB W B a L) (k c : Nat) (hc : c = k → L.length ≤ k) : HasB W B (if c = k then a else a.map (·.add (k * 2))) (L.drop k) := by
  refine ⟨h.1.drop k c hc, fun b off e hne => ?_⟩
  have hL : L ≠ [] := by rintro rfl; simp at hne
  have hlk : ¬ L.length ≤ k := fun hl => hne (List.drop_eq_nil_of_le hl)
  rw [if_neg (fun e => hlk (hc e))] at e
  obtain ⟨b2, off2, rfl, _⟩ := h.1 0 (L.head hL) (by cases L with | nil => exact absurd rfl hL | cons x r => rfl)
  simp [Addr.add_lit] at e
  rw [← e.1]
  exact h.2 _ _ rfl hL
theorem HasB.take {W : World} {B : Nat} {a : Option Addr} {L : List (Int × Int)} (h : HasB W B a L) (k : Nat) : HasB W B a (L.take k) :=
  ⟨h.1.take k, fun b off e hne => h.2 b off e (by rintro rfl; simp at hne)⟩
theorem clone_run {w : World} {g : Nat} {O2 : List (Int × Int)} {ao : Option Addr} {m c2 : Nat} (hg : Blk w g 50 []) (h2 : HasD w ao O2) (hm : O2.length = m) (hn : m ≤ 100000) (ty : TypeId) :
    ∃ a' c' w', (Builtin.append_ #[26, 26] ty #[.slice (some ⟨g, 0, none⟩) 0 0, .slice ao m c2]).run Try.prog w = .ok (.slice a' m c') w' ∧ RowD w' g (.slice a' m c') O2 ∧ Below w.heap.size w w' := by
  obtain ⟨i0, hi0, hz0, hz1, hz2⟩ := info_parts info_due
  have hgl := hg.lt
  by_cases h0 : m = 0
  · subst h0
    have hO : O2 = [] := List.eq_nil_of_length_eq_zero hm
    subst hO
    have hs : Src Try.prog i0.size 26 (.slice ao 0 c2) 0 [] w := by
      cases ao with
      | none => exact Src.ofNil w Try.underlying26 c2
      | some ad => exact Src.ofSlice w Try.underlying26 ad 0 c2 [] (by simp) (fun j u h => by simp at h) (fun u h => by simp at h)
    have hr := run_append_nothing (P := Try.prog) w 26 26 ty 50 i0 Try.underlying26 hi0 (some ⟨g, 0, none⟩) 0 0 (Nat.le_refl _) _ hs
    exact ⟨_, _, w, hr, row_empty hg (Nat.le_refl _), Below.refl _ _⟩
  · cases ao with
    | none =>
      obtain ⟨b, off, e, _⟩ := h2 0 (O2[0]'(by omega)) (by simp)
      cases e
    | some ad =>
      subst hm
      obtain ⟨v', w', hr, h3, h4⟩ := run_append_arg_grows (P := Try.prog) w 26 ty 50 i0 (.agg #[.int .i64 0, .int .i64 0]) 2 16 Try.underlying26 hi0 hz0 hz1 hz2 rfl (by decide) ⟨g, 0, none⟩ 0 0 [] rfl (fun j u h => by simp at h) ad O2.length c2 (cellsD O2) (cellsD_len O2) h2.news (by omega) (by unfold maxLen; omega) (by omega)
      rw [Nat.zero_add, List.nil_append] at h3
      obtain ⟨a', c', rfl, -⟩ := row_form h3
      exact ⟨a', c', w', hr, row_low h3 (by omega), (Below.refl _ w).grown h4 (Nat.le_refl _) (fun j hj => by cases hj)⟩
theorem refA_new {w w' : World} {v : Value} {a2 a3 : Option Addr} {c2 c3 B N k : Nat} {now n : Int} {L M1 M2 : List (Int × Int)} {e : Ending} (hE : advE now n = 0) (hA : L.filter (fun p => decide (now + n < p.2)) = M1) (hO : L.filter (fun p => decide (p.2 ≤ now + n)) = M2) (h1 : M1.length = N) (h2 : M2.length = k) (hB : w.heap.size ≤ B)
    (V1 : RowD w' B (.slice a2 N c2) M1) (V2 : RowD w' B (.slice a3 k c3) M2) (hb : From w w') (he : e = .returned (.tuple #[.agg #[.int .i64 (now + n), .slice a2 N c2], .slice a3 k c3, .int .i64 0])) : RefA w v now L n e w' := by
  subst h1 h2
  unfold RefA advN advL advO
  rw [hE, if_pos rfl, if_pos rfl, if_pos rfl, hA, hO]
  exact ⟨a2, c2, a3, c3, he, V1.low (Nat.zero_le _), V2.low (Nat.zero_le _), fun j hj => .inr (by have := (V1.ge j hj).1; omega), (fun j hj => by have := (V2.ge j hj).1; omega), hb⟩
set_option maxRecDepth 100000 in
set_option maxHeartbeats 4000000 in
theorem refAdv_yes (now : Int) (a : Option Addr) (c : Nat) (L : List (Int × Int)) (n : Int) (w : World) (h : RowD w 0 (.slice a L.length c) L) (hG : GoodW now L) (h1 : inI n 0 = true) (h2 : now ≤ 4611686018427387904 - n) :
    Calls Try.prog 32 #[.agg #[.int .i64 now, .slice a L.length c], .int .i64 n] w (RefA w (.slice a L.length c) now L n) := by
  have hE : advE now n = 0 := by unfold advE; rw [h1, if_neg (by simp), if_neg (by omega)]
  have hR0 := Lib.hid h.ge
  have hd0 := h.has.2.1
  obtain ⟨_, _, hf, hcap⟩ := row_form h
  cases hf
  have hLn := hG.len
  have n0 := hG.n0
  have n1 := hG.n1
  have hord := Lib.hid hG.ord
  obtain ⟨N, hN⟩ : ∃ N, L.length = N := ⟨_, rfl⟩
  rw [hN] at h hR0 hLn hcap ⊢
  clear hG
  have HN := Lib.hid hN
  clear hN
  have HE := Lib.hid hE
  clear hE
  obtain ⟨h1, h3⟩ := inI_yes h1
  have hw1 : IntKind.i64.wrap (now + n) = now + n := IntWalk.i64_in _ (by omega)
  have hb := From.refl w
  go_enter Try.func32, Try.ntmps32
  go_upto_region 1 with fail
  obtain ⟨gX, hgX⟩ : ∃ g, (w).heap.size = g := ⟨_, rfl⟩
  have X := Blk.newV hgX 28 #[.int .i64 now, .slice a N c]
  have hbn := (Below.refl (w).heap.size w).alloc (Nat.le_refl _) (.cells #[.int .i64 now, .slice a N c] 28)
  replace hb := hb.step hbn
  replace h := h.step hbn
  clear hbn
  rw [hgX]
  have szX := alloc_size hgX (.cells #[.int .i64 now, .slice a N c] 28)
  generalize (w).alloc (.cells #[.int .i64 now, .slice a N c] 28) = w1 at *
  obtain ⟨gR, hgR⟩ : ∃ g, (w1).heap.size = g := ⟨_, rfl⟩
  have lt_X_R := X.lt
  rw [hgR] at lt_X_R
  have R := Blk.newV hgR 28 #[.int .i64 0, .slice none 0 0]
  have hbn := (Below.refl (w1).heap.size w1).alloc (Nat.le_refl _) (.cells #[.int .i64 0, .slice none 0 0] 28)
  replace hb := hb.step hbn
  replace h := h.step hbn
  replace X := X.step hbn
  clear hbn
  have egR : gX + 1 = gR := szX.symm.trans hgR
  rw [egR]
  clear szX
  generalize (w1).alloc (.cells #[.int .i64 0, .slice none 0 0] 28) = w2 at *
  have X_0 := X.cell (j := 0) rfl
  have X_1 := X.cell (j := 1) rfl
  have hXR : gX < gR := by omega
  have hXw : w.heap.size ≤ gX := by omega
  have HGX := Lib.hid hgX
  clear hgX
  go_wp2_with fail
  clear hd0
  go_loopw [7] (fun i wr => ∃ k : Nat, i = .int .i64 k ∧ k ≤ N ∧ Hid (∀ j p, j < k → L[j]? = some p → p.2 ≤ now + n) ∧ RowD wr 0 (.slice a N c) L ∧ Blk wr gX 28 [.int .i64 now, .slice a N c] ∧ Blk wr gR 28 [.int .i64 0, .slice none 0 0] ∧ From w wr) (fun i _ => N - (intOf i).toNat)
  case atStart => exact ⟨0, rfl, by omega, Lib.hid (fun j p hj => absurd hj (Nat.not_lt_zero _)), h, X, R, hb⟩
  case round =>
    clear X_0 X_1
    clear h X R hb
    obtain ⟨k, rfl, hk, hA, h, X, R, hb⟩ := hrel
    have hX0 := X
    have X_0 := extA_cell (X.cell (j := 0) rfl)
    have X_1 := extA_cell (X.cell (j := 1) rfl)
    have k0 : (0 : Int) ≤ (k : Int) := by omega
    have k2 : (k : Int) ≤ 4096 := by omega
    by_cases hgo : k < N ∧ ∃ p, L[k]? = some p ∧ p.2 ≤ now + n
    · obtain ⟨hlt, p, hp, hto⟩ := hgo
      have k1 : (k : Int) < (N : Int) := by omega
      have hA2 : Hid (∀ j p, j < k + 1 → L[j]? = some p → p.2 ≤ now + n) := Lib.hid (fun j q hj hq => by
        by_cases e : j = k
        · subst e; rw [hp] at hq; cases hq; exact hto
        · exact hA.out j q (by omega) hq)
      obtain ⟨b, off, rfl, d0, d1⟩ := h.has.2.1 k p hp
      have d0 := extA_cell d0
      clear hp hA
      go_upto_region 6 with fail
      refine wp_region_extB (by kernel_rfl) (by kernel_rfl) ?_
      repeat
        (first
          | go_big_quiet_skip
          | (go_big_quiet_want
             go_big_quiet_op
             first
               | go_big_quiet_on
               | (apply Exists.intro
                  refine ⟨fun w' hC => ?_, ?_⟩
                  · (first
                      | with_reducible rfl
                      | fail
                      | (go_simp; done)
                      | (go_simp; with_reducible rfl))
                  go_big_quiet_on)))
      refine wpQuiet_nil ?_
      intro w3 hbn
      replace h := h.step hbn
      replace X := X.step hbn
      replace R := R.step hbn
      replace hb := hb.step hbn
      clear hbn X_0 X_1
      go_wp2_with fail
      go_roundw
      case rel => exact ⟨k + 1, by go_num, by omega, hA2, h, X, R, hb⟩
      case measure => simp [intOf]; omega
    · have hstop : (∃ p, k < N ∧ L[k]? = some p ∧ now + n < p.2) ∨ k = N := by
        by_cases hlt : k < N
        · obtain ⟨p, hp⟩ : ∃ p, L[k]? = some p := ⟨L[k]'(by rw [HN.out]; exact hlt), by simp [HN.out, hlt]⟩
          refine .inl ⟨p, hlt, hp, ?_⟩
          by_cases hto : p.2 ≤ now + n
          · exact absurd ⟨hlt, p, hp, hto⟩ hgo
          · omega
        · exact .inr (by omega)
      have hcut := cut_le hA.out (by
        intro j p hj hp
        rcases hstop with ⟨q, h4, hq, h5⟩ | h4
        · have := ord_le hord.out hq hp hj; omega
        · have := (List.getElem?_eq_some_iff.1 hp).1; have := HN.out; omega)
      have HC := Lib.hid hcut
      clear hcut hgo hA hord
      rcases hstop with hst | hkN
      case' inl =>
        obtain ⟨p, hlt, hp, hto⟩ := hst
        have k1 : (k : Int) < (N : Int) := by omega
        obtain ⟨b, off, rfl, d0, d1⟩ := h.has.2.1 k p hp
        have d0 := extA_cell d0
        clear hp d1 hlt
        go_upto_region 6 with fail
        refine wp_region_extB (by kernel_rfl) (by kernel_rfl) ?_
        repeat
          (first
            | go_big_quiet_skip
            | (go_big_quiet_want
               go_big_quiet_op
               first
                 | go_big_quiet_on
                 | (apply Exists.intro
                    refine ⟨fun w' hC => ?_, ?_⟩
                    · (first
                        | with_reducible rfl
                        | fail
                        | (go_simp; done)
                        | (go_simp; with_reducible rfl))
                    go_big_quiet_on)))
        refine wpQuiet_nil ?_
        intro w3 hbn
        replace h := h.step hbn
        replace X := X.step hbn
        replace R := R.step hbn
        replace hb := hb.step hbn
        clear hbn X_0 X_1 hX0 d0
        have hto3 : ¬ p.2 ≤ now + n := by omega
        go_upto_region 8 with fail
        clear hto3
        generalize (some ⟨b, off, none⟩ : Option Addr) = a at *
        clear hto k1
      case' inr =>
        have k1 : ¬ (k : Int) < (N : Int) := by omega
        go_upto_region 6 with fail
        refine wp_region_extB (by kernel_rfl) (by kernel_rfl) ?_
        repeat
          (first
            | go_big_quiet_skip
            | (go_big_quiet_want
               go_big_quiet_op
               first
                 | go_big_quiet_on
                 | (apply Exists.intro
                    refine ⟨fun w' hC => ?_, ?_⟩
                    · (first
                        | with_reducible rfl
                        | fail
                        | (go_simp; done)
                        | (go_simp; with_reducible rfl))
                    go_big_quiet_on)))
        refine wpQuiet_nil ?_
        intro w3 hbn
        replace h := h.step hbn
        replace X := X.step hbn
        replace R := R.step hbn
        replace hb := hb.step hbn
        clear hbn X_0 X_1 hX0
        go_upto_region 8 with fail
        clear hkN k1
      all_goals
        obtain ⟨ao, hao⟩ : ∃ ao, (if c = k then a else Option.map (fun x => x.add (k * 2)) a) = ao := ⟨_, rfl⟩
        obtain ⟨B, hB⟩ : ∃ n, w3.heap.size = n := ⟨_, rfl⟩
        have hBw := hb.size
        rw [hB] at hBw
        have hn := HN.out
        have D1 : HasB w3 B ao (L.drop k) := hao ▸ HasB.drop (h.hasB hB) k c (by omega)
        have D2 : HasB w3 B a (L.take k) := (h.hasB hB).take k
        have l1 : (L.drop k).length = N - k := by rw [List.length_drop, hn]
        have l2 : (L.take k).length = k := by rw [List.length_take, hn]; omega
        have x0 := kx_all (ws := [gR]) (X.cell (j := 0) rfl) (by simp; omega)
        have x1 := kx_all (ws := [gR]) (X.cell (j := 1) rfl) (by simp; omega)
        have hRB := R.lt
        rw [hB] at hRB
        have hkc : k ≤ c := by omega
        clear h X hcap
        generalize L.drop k = M1 at *
        generalize L.take k = M2 at *
        clear hn
        have HB := Lib.hid hB
        clear hB
        have H1 := Lib.hid l1
        clear l1
        have H2 := Lib.hid l2
        clear l2
        refine wp_region_held (S := Kx [gR] w3) (by kernel_rfl) ?_
        have hst : Below (w3).heap.size w3 { w3 with drawn := (w3).drawn + 1 } := ⟨rfl, rfl, rfl, Nat.le_refl _, fun _ _ => rfl⟩
        have hS : (Kx [gR] w3) { w3 with drawn := (w3).drawn + 1 } := by first | exact ⟨rfl, rfl, rfl, Nat.le_refl _, fun _ _ _ => rfl⟩ | exact ⟨rfl, rfl, rfl, Nat.le_refl _, fun _ _ => rfl⟩ | exact hS0
        replace R := R.step hst
        replace D1 := D1.step hst
        replace D2 := D2.step hst
        clear hst
        generalize ({ w3 with drawn := (w3).drawn + 1 } : World) = wq at *
        refine wpAnyH_take (i := 0) (v := ?_) rfl (by kernel_rfl) (by kernel_rfl) (by kernel_rfl) (fun _ _ _ h => h) (Or.inl ⟨by kernel_rfl, ?_⟩) hS ?_
        rotate_left
        · intro W hSW
          have y0 := x0 _ hSW
          have y1 := x1 _ hSW
          go_simp
          try with_reducible rfl
        dsimp only [Act.put]
        refine wpAnyH_take (i := 1) (v := ?_) rfl (by kernel_rfl) (by kernel_rfl) (by kernel_rfl) (fun _ _ _ h => h) (Or.inl ⟨by kernel_rfl, ?_⟩) hS ?_
        rotate_left
        · intro W hSW
          have y0 := x0 _ hSW
          have y1 := x1 _ hSW
          go_simp
          try with_reducible rfl
        dsimp only [Act.put]
        refine wpAnyH_take (i := 2) (v := ?_) rfl (by kernel_rfl) (by kernel_rfl) (by kernel_rfl) (fun _ _ _ h => h) (Or.inl ⟨by kernel_rfl, ?_⟩) hS ?_
        rotate_left
        · intro W hSW
          have y0 := x0 _ hSW
          have y1 := x1 _ hSW
          go_simp
          try with_reducible rfl
        dsimp only [Act.put]
        refine wpAnyH_take (i := 3) (v := ?_) rfl (by kernel_rfl) (by kernel_rfl) (by kernel_rfl) (fun _ _ _ h => h) (Or.inl ⟨by kernel_rfl, ?_⟩) hS ?_
        rotate_left
        · intro W hSW
          have y0 := x0 _ hSW
          have y1 := x1 _ hSW
          go_simp
          try with_reducible rfl
        dsimp only [Act.put]
        refine wpAnyH_take (i := 5) (v := ?_) rfl (by kernel_rfl) (by kernel_rfl) (by kernel_rfl) (fun _ _ _ h => h) (Or.inl ⟨by kernel_rfl, ?_⟩) hS ?_
        rotate_left
        · intro W hSW
          have y0 := x0 _ hSW
          have y1 := x1 _ hSW
          go_simp
          try with_reducible rfl
        dsimp only [Act.put]
        refine wpAnyH_take (i := 6) (v := ?_) rfl (by kernel_rfl) (by kernel_rfl) (by kernel_rfl) (fun _ _ _ h => h) (Or.inl ⟨by kernel_rfl, ?_⟩) hS ?_
        rotate_left
        · intro W hSW
          have y0 := x0 _ hSW
          have y1 := x1 _ hSW
          go_simp
          try with_reducible rfl
        dsimp only [Act.put]
        refine wpAnyH_take (i := 7) (v := ?_) rfl (by kernel_rfl) (by kernel_rfl) (by kernel_rfl) (fun _ _ _ h => h) (Or.inl ⟨by kernel_rfl, ?_⟩) hS ?_
        rotate_left
        · intro W hSW
          have y0 := x0 _ hSW
          have y1 := x1 _ hSW
          go_simp
          try with_reducible rfl
        dsimp only [Act.put]
        refine wpAnyH_take (i := 8) (v := ?_) rfl (by kernel_rfl) (by kernel_rfl) (by kernel_rfl) (fun _ _ _ h => h) (Or.inl ⟨by kernel_rfl, ?_⟩) hS ?_
        rotate_left
        · intro W hSW
          have y0 := x0 _ hSW
          have y1 := x1 _ hSW
          go_simp
          try with_reducible rfl
        dsimp only [Act.put]
        refine wpAnyH_take (i := 12) (v := ?_) rfl (by kernel_rfl) (by kernel_rfl) (by kernel_rfl) (fun _ _ _ h => h) (Or.inl ⟨by kernel_rfl, ?_⟩) hS ?_
        rotate_left
        · intro W hSW
          have y0 := x0 _ hSW
          have y1 := x1 _ hSW
          go_simp
          try with_reducible rfl
        dsimp only [Act.put]
        refine wpAnyH_take (i := 13) (v := ?_) rfl (by kernel_rfl) (by kernel_rfl) (by kernel_rfl) (fun _ _ _ h => h) (Or.inl ⟨by kernel_rfl, ?_⟩) hS ?_
        rotate_left
        · intro W hSW
          have y0 := x0 _ hSW
          have y1 := x1 _ hSW
          go_simp
          try with_reducible rfl
        dsimp only [Act.put]
        refine wpAnyH_take (i := 14) (v := ?_) rfl (by kernel_rfl) (by kernel_rfl) (by kernel_rfl) (fun _ _ _ h => h) (Or.inl ⟨by kernel_rfl, ?_⟩) hS ?_
        rotate_left
        · intro W hSW
          have y0 := x0 _ hSW
          have y1 := x1 _ hSW
          go_simp
          try with_reducible rfl
        dsimp only [Act.put]
        refine wpAnyH_take (i := 15) (v := ?_) rfl (by kernel_rfl) (by kernel_rfl) (by kernel_rfl) (fun _ _ _ h => h) (Or.inl ⟨by kernel_rfl, ?_⟩) hS ?_
        rotate_left
        · intro W hSW
          have y0 := x0 _ hSW
          have y1 := x1 _ hSW
          go_simp
          try with_reducible rfl
        dsimp only [Act.put]
        refine wpAnyH_ready (rs := [4, 11]) (by kernel_rfl) (by simp) ?_
        refine AllReadyH.cons rfl (fun K hK => ?_) (AllReadyH.cons rfl (fun K hK => ?_) AllReadyH.nil)
        ·
          go_simp
          have hle4 : B ≤ wq.heap.size := by have := hS.size; have := HB.out; omega
          obtain ⟨gE4, hgE4⟩ : ∃ g, (wq).heap.size = g := ⟨_, rfl⟩
          have lt_R_E4 := R.lt
          rw [hgE4] at lt_R_E4
          have E4 := Blk.newV hgE4 50 #[]
          have hbn := (Below.refl (wq).heap.size wq).alloc (Nat.le_refl _) (.cells #[] 50)
          replace R := R.step hbn
          replace D1 := D1.step hbn
          replace D2 := D2.step hbn
          replace hS := hS.step hbn
          clear hbn
          rw [hgE4]
          generalize (wq).alloc (.cells #[] 50) = wa at *
          rw [hgE4] at hle4
          refine hK.out _ _ (hS) (fun hS => ?_)
          clear hK K
          refine wpAnyH_ready (rs := [9, 11]) (by kernel_rfl) (by simp) ?_
          refine AllReadyH.cons rfl (fun K hK => ?_) (AllReadyH.cons rfl (fun K hK => ?_) AllReadyH.nil)
          ·
            obtain ⟨a9, c9, w9, r9, V9, hbn⟩ := clone_run (c2 := c - k) E4 D1.1 H1.out (by omega) 26
            refine step_append_run rfl (.tmp 45) (.tmp 49) 26 rfl rfl rfl r9 ?_
            replace R := R.step hbn
            replace D2 := D2.step hbn
            replace hS := hS.step hbn
            replace V9 := V9.low hle4
            refine hK.out _ _ (hS) (fun hS => ?_)
            clear hbn E4 D1 r9
            clear hK K
            refine wpAnyH_ready (rs := [10, 11]) (by kernel_rfl) (by simp) ?_
            refine AllReadyH.cons rfl (fun K hK => ?_) (AllReadyH.cons rfl (fun K hK => ?_) AllReadyH.nil)
            ·
              go_simp
              refine hK.out _ _ (hS) (fun hS => ?_)
              clear hK K
              refine wpAnyH_ready (rs := [11]) (by kernel_rfl) (by simp) ?_
              refine AllReadyH.cons rfl (fun K hK => ?_) AllReadyH.nil
              go_simp
              have hle11 : B ≤ w9.heap.size := by have := hS.size; have := HB.out; omega
              obtain ⟨gE11, hgE11⟩ : ∃ g, (w9).heap.size = g := ⟨_, rfl⟩
              have lt_R_E11 := R.lt
              rw [hgE11] at lt_R_E11
              have E11 := Blk.newV hgE11 50 #[]
              have hbn := (Below.refl (w9).heap.size w9).alloc (Nat.le_refl _) (.cells #[] 50)
              replace R := R.step hbn
              replace D2 := D2.step hbn
              replace hS := hS.step hbn
              replace V9 := V9.step hbn
              clear hbn
              rw [hgE11]
              generalize (w9).alloc (.cells #[] 50) = wb at *
              rw [hgE11] at hle11
              refine hK.out _ _ (hS) (fun hS => ?_)
              clear hK K
              refine wpAnyH_ready (rs := [16]) (by kernel_rfl) (by simp) ?_
              refine AllReadyH.cons rfl (fun K hK => ?_) AllReadyH.nil
              obtain ⟨a16, c16, w16, r16, V16, hbn⟩ := clone_run (c2 := c) E11 D2.1 H2.out (by omega) 26
              refine step_append_run rfl (.tmp 52) (.tmp 56) 26 rfl rfl rfl r16 ?_
              replace R := R.step hbn
              replace hS := hS.step hbn
              replace V9 := V9.step hbn
              replace V16 := V16.low hle11
              refine hK.out _ _ (hS) (fun hS => ?_)
              clear hbn E11 D2 r16
              clear hK K
              have R_0 := R.cell (j := 0) rfl
              have R_1 := R.cell (j := 1) rfl
              have Rf0 := R.frozen 0
              have Rf1 := R.frozen 1
              refine wpAnyH_ready (rs := [17]) (by kernel_rfl) (by simp) ?_
              refine AllReadyH.cons rfl (fun K hK => ?_) AllReadyH.nil
              go_simp
              have hk17 : Kx [gR] w16 ((w16.setCell ⟨gR, 0, none⟩ (.int .i64 (now + n))).setCell ⟨gR, 1, none⟩ (.slice a9 (N - k) c9)) := ((Kx.refl _ _).setCell (.inl (by simp)) _).setCell (.inl (by simp)) _
              replace V9 := V9.kx hk17 (fun j hj hm => by have := (V9.ge j hj).1; simp at hm; omega)
              replace V16 := V16.kx hk17 (fun j hj hm => by have := (V16.ge j hj).1; simp at hm; omega)
              refine hK.out _ _ (hS.trans hk17) (fun hS => ?_)
              clear hk17
              clear hK K
              refine wpAnyH_ready (rs := [18]) (by kernel_rfl) (by simp) ?_
              refine AllReadyH.cons rfl (fun K hK => ?_) AllReadyH.nil
              go_simp
              refine hK.out _ _ hS (fun hS => ?_)
              clear hK K
              refine wpAnyH_ready (rs := [19]) (by kernel_rfl) (by simp) ?_
              refine AllReadyH.cons rfl (fun K hK => ?_) AllReadyH.nil
              go_simp
              refine hK.out _ _ hS (fun hS => ?_)
              clear hK K
              refine wpAnyH_done (by kernel_rfl) ?_ _
              have hbb := hb.kx hS (fun x hx => by simp at hx; omega)
              have HQ := refA_new (v := .slice a N c) HE.out HC.out.2 HC.out.1 H1.out H2.out hBw V9 V16 hbb rfl
              clear V9 V16 hbb hS
              go_wp2_with fail
              refine bodyPost_ret (v := .tuple #[.agg #[.int .i64 (now + n), .slice a9 (N - k) c9], .slice a16 k c16, .int .i64 0]) ?_ rfl HQ
              rw [r_cell1tt rfl]
              go_simp
            ·
              go_simp
              have hle11 : B ≤ w9.heap.size := by have := hS.size; have := HB.out; omega
              obtain ⟨gE11, hgE11⟩ : ∃ g, (w9).heap.size = g := ⟨_, rfl⟩
              have lt_R_E11 := R.lt
              rw [hgE11] at lt_R_E11
              have E11 := Blk.newV hgE11 50 #[]
              have hbn := (Below.refl (w9).heap.size w9).alloc (Nat.le_refl _) (.cells #[] 50)
              replace R := R.step hbn
              replace D2 := D2.step hbn
              replace hS := hS.step hbn
              replace V9 := V9.step hbn
              clear hbn
              rw [hgE11]
              generalize (w9).alloc (.cells #[] 50) = wb at *
              rw [hgE11] at hle11
              refine hK.out _ _ (hS) (fun hS => ?_)
              clear hK K
              refine wpAnyH_ready (rs := [10, 16]) (by kernel_rfl) (by simp) ?_
              refine AllReadyH.cons rfl (fun K hK => ?_) (AllReadyH.cons rfl (fun K hK => ?_) AllReadyH.nil)
              ·
                go_simp
                refine hK.out _ _ (hS) (fun hS => ?_)
                clear hK K
                refine wpAnyH_ready (rs := [16]) (by kernel_rfl) (by simp) ?_
                refine AllReadyH.cons rfl (fun K hK => ?_) AllReadyH.nil
                obtain ⟨a16, c16, w16, r16, V16, hbn⟩ := clone_run (c2 := c) E11 D2.1 H2.out (by omega) 26
                refine step_append_run rfl (.tmp 52) (.tmp 56) 26 rfl rfl rfl r16 ?_
                replace R := R.step hbn
                replace hS := hS.step hbn
                replace V9 := V9.step hbn
                replace V16 := V16.low hle11
                refine hK.out _ _ (hS) (fun hS => ?_)
                clear hbn E11 D2 r16
                clear hK K
                have R_0 := R.cell (j := 0) rfl
                have R_1 := R.cell (j := 1) rfl
                have Rf0 := R.frozen 0
                have Rf1 := R.frozen 1
                refine wpAnyH_ready (rs := [17]) (by kernel_rfl) (by simp) ?_
                refine AllReadyH.cons rfl (fun K hK => ?_) AllReadyH.nil
                go_simp
                have hk17 : Kx [gR] w16 ((w16.setCell ⟨gR, 0, none⟩ (.int .i64 (now + n))).setCell ⟨gR, 1, none⟩ (.slice a9 (N - k) c9)) := ((Kx.refl _ _).setCell (.inl (by simp)) _).setCell (.inl (by simp)) _
                replace V9 := V9.kx hk17 (fun j hj hm => by have := (V9.ge j hj).1; simp at hm; omega)
                replace V16 := V16.kx hk17 (fun j hj hm => by have := (V16.ge j hj).1; simp at hm; omega)
                refine hK.out _ _ (hS.trans hk17) (fun hS => ?_)
                clear hk17
                clear hK K
                refine wpAnyH_ready (rs := [18]) (by kernel_rfl) (by simp) ?_
                refine AllReadyH.cons rfl (fun K hK => ?_) AllReadyH.nil
                go_simp
                refine hK.out _ _ hS (fun hS => ?_)
                clear hK K
                refine wpAnyH_ready (rs := [19]) (by kernel_rfl) (by simp) ?_
                refine AllReadyH.cons rfl (fun K hK => ?_) AllReadyH.nil
                go_simp
                refine hK.out _ _ hS (fun hS => ?_)
                clear hK K
                refine wpAnyH_done (by kernel_rfl) ?_ _
                have hbb := hb.kx hS (fun x hx => by simp at hx; omega)
                have HQ := refA_new (v := .slice a N c) HE.out HC.out.2 HC.out.1 H1.out H2.out hBw V9 V16 hbb rfl
                clear V9 V16 hbb hS
                go_wp2_with fail
                refine bodyPost_ret (v := .tuple #[.agg #[.int .i64 (now + n), .slice a9 (N - k) c9], .slice a16 k c16, .int .i64 0]) ?_ rfl HQ
                rw [r_cell1tt rfl]
                go_simp
              ·
                obtain ⟨a16, c16, w16, r16, V16, hbn⟩ := clone_run (c2 := c) E11 D2.1 H2.out (by omega) 26
                refine step_append_run rfl (.tmp 52) (.tmp 56) 26 rfl rfl rfl r16 ?_
                replace R := R.step hbn
                replace hS := hS.step hbn
                replace V9 := V9.step hbn
                replace V16 := V16.low hle11
                refine hK.out _ _ (hS) (fun hS => ?_)
                clear hbn E11 D2 r16
                clear hK K
                refine wpAnyH_ready (rs := [10]) (by kernel_rfl) (by simp) ?_
                refine AllReadyH.cons rfl (fun K hK => ?_) AllReadyH.nil
                go_simp
                refine hK.out _ _ (hS) (fun hS => ?_)
                clear hK K
                have R_0 := R.cell (j := 0) rfl
                have R_1 := R.cell (j := 1) rfl
                have Rf0 := R.frozen 0
                have Rf1 := R.frozen 1
                refine wpAnyH_ready (rs := [17]) (by kernel_rfl) (by simp) ?_
                refine AllReadyH.cons rfl (fun K hK => ?_) AllReadyH.nil
                go_simp
                have hk17 : Kx [gR] w16 ((w16.setCell ⟨gR, 0, none⟩ (.int .i64 (now + n))).setCell ⟨gR, 1, none⟩ (.slice a9 (N - k) c9)) := ((Kx.refl _ _).setCell (.inl (by simp)) _).setCell (.inl (by simp)) _
                replace V9 := V9.kx hk17 (fun j hj hm => by have := (V9.ge j hj).1; simp at hm; omega)
                replace V16 := V16.kx hk17 (fun j hj hm => by have := (V16.ge j hj).1; simp at hm; omega)
                refine hK.out _ _ (hS.trans hk17) (fun hS => ?_)
                clear hk17
                clear hK K
                refine wpAnyH_ready (rs := [18]) (by kernel_rfl) (by simp) ?_
                refine AllReadyH.cons rfl (fun K hK => ?_) AllReadyH.nil
                go_simp
                refine hK.out _ _ hS (fun hS => ?_)
                clear hK K
                refine wpAnyH_ready (rs := [19]) (by kernel_rfl) (by simp) ?_
                refine AllReadyH.cons rfl (fun K hK => ?_) AllReadyH.nil
                go_simp
                refine hK.out _ _ hS (fun hS => ?_)
                clear hK K
                refine wpAnyH_done (by kernel_rfl) ?_ _
                have hbb := hb.kx hS (fun x hx => by simp at hx; omega)
                have HQ := refA_new (v := .slice a N c) HE.out HC.out.2 HC.out.1 H1.out H2.out hBw V9 V16 hbb rfl
                clear V9 V16 hbb hS
                go_wp2_with fail
                refine bodyPost_ret (v := .tuple #[.agg #[.int .i64 (now + n), .slice a9 (N - k) c9], .slice a16 k c16, .int .i64 0]) ?_ rfl HQ
                rw [r_cell1tt rfl]
                go_simp
          ·
            go_simp
            have hle11 : B ≤ wa.heap.size := by have := hS.size; have := HB.out; omega
            obtain ⟨gE11, hgE11⟩ : ∃ g, (wa).heap.size = g := ⟨_, rfl⟩
            have lt_R_E11 := R.lt
            rw [hgE11] at lt_R_E11
            have lt_E4_E11 := E4.lt
            rw [hgE11] at lt_E4_E11
            have E11 := Blk.newV hgE11 50 #[]
            have hbn := (Below.refl (wa).heap.size wa).alloc (Nat.le_refl _) (.cells #[] 50)
            replace R := R.step hbn
            replace D2 := D2.step hbn
            replace hS := hS.step hbn
            replace D1 := D1.step hbn
            replace E4 := E4.step hbn
            clear hbn
            rw [hgE11]
            generalize (wa).alloc (.cells #[] 50) = wb at *
            rw [hgE11] at hle11
            refine hK.out _ _ (hS) (fun hS => ?_)
            clear hK K
            refine wpAnyH_ready (rs := [9]) (by kernel_rfl) (by simp) ?_
            refine AllReadyH.cons rfl (fun K hK => ?_) AllReadyH.nil
            obtain ⟨a9, c9, w9, r9, V9, hbn⟩ := clone_run (c2 := c - k) E4 D1.1 H1.out (by omega) 26
            refine step_append_run rfl (.tmp 45) (.tmp 49) 26 rfl rfl rfl r9 ?_
            replace R := R.step hbn
            replace D2 := D2.step hbn
            replace hS := hS.step hbn
            replace E11 := E11.step hbn
            replace V9 := V9.low hle4
            refine hK.out _ _ (hS) (fun hS => ?_)
            clear hbn E4 D1 r9
            clear hK K
            refine wpAnyH_ready (rs := [10, 16]) (by kernel_rfl) (by simp) ?_
            refine AllReadyH.cons rfl (fun K hK => ?_) (AllReadyH.cons rfl (fun K hK => ?_) AllReadyH.nil)
            ·
              go_simp
              refine hK.out _ _ (hS) (fun hS => ?_)
              clear hK K
              refine wpAnyH_ready (rs := [16]) (by kernel_rfl) (by simp) ?_
              refine AllReadyH.cons rfl (fun K hK => ?_) AllReadyH.nil
              obtain ⟨a16, c16, w16, r16, V16, hbn⟩ := clone_run (c2 := c) E11 D2.1 H2.out (by omega) 26
              refine step_append_run rfl (.tmp 52) (.tmp 56) 26 rfl rfl rfl r16 ?_
              replace R := R.step hbn
              replace hS := hS.step hbn
              replace V9 := V9.step hbn
              replace V16 := V16.low hle11
              refine hK.out _ _ (hS) (fun hS => ?_)
              clear hbn E11 D2 r16
              clear hK K
              have R_0 := R.cell (j := 0) rfl
              have R_1 := R.cell (j := 1) rfl
              have Rf0 := R.frozen 0
              have Rf1 := R.frozen 1
              refine wpAnyH_ready (rs := [17]) (by kernel_rfl) (by simp) ?_
              refine AllReadyH.cons rfl (fun K hK => ?_) AllReadyH.nil
              go_simp
              have hk17 : Kx [gR] w16 ((w16.setCell ⟨gR, 0, none⟩ (.int .i64 (now + n))).setCell ⟨gR, 1, none⟩ (.slice a9 (N - k) c9)) := ((Kx.refl _ _).setCell (.inl (by simp)) _).setCell (.inl (by simp)) _
              replace V9 := V9.kx hk17 (fun j hj hm => by have := (V9.ge j hj).1; simp at hm; omega)
              replace V16 := V16.kx hk17 (fun j hj hm => by have := (V16.ge j hj).1; simp at hm; omega)
              refine hK.out _ _ (hS.trans hk17) (fun hS => ?_)
              clear hk17
              clear hK K
              refine wpAnyH_ready (rs := [18]) (by kernel_rfl) (by simp) ?_
              refine AllReadyH.cons rfl (fun K hK => ?_) AllReadyH.nil
              go_simp
              refine hK.out _ _ hS (fun hS => ?_)
              clear hK K
              refine wpAnyH_ready (rs := [19]) (by kernel_rfl) (by simp) ?_
              refine AllReadyH.cons rfl (fun K hK => ?_) AllReadyH.nil
              go_simp
              refine hK.out _ _ hS (fun hS => ?_)
              clear hK K
              refine wpAnyH_done (by kernel_rfl) ?_ _
              have hbb := hb.kx hS (fun x hx => by simp at hx; omega)
              have HQ := refA_new (v := .slice a N c) HE.out HC.out.2 HC.out.1 H1.out H2.out hBw V9 V16 hbb rfl
              clear V9 V16 hbb hS
              go_wp2_with fail
              refine bodyPost_ret (v := .tuple #[.agg #[.int .i64 (now + n), .slice a9 (N - k) c9], .slice a16 k c16, .int .i64 0]) ?_ rfl HQ
              rw [r_cell1tt rfl]
              go_simp
            ·
              obtain ⟨a16, c16, w16, r16, V16, hbn⟩ := clone_run (c2 := c) E11 D2.1 H2.out (by omega) 26
              refine step_append_run rfl (.tmp 52) (.tmp 56) 26 rfl rfl rfl r16 ?_
              replace R := R.step hbn
              replace hS := hS.step hbn
              replace V9 := V9.step hbn
              replace V16 := V16.low hle11
              refine hK.out _ _ (hS) (fun hS => ?_)
              clear hbn E11 D2 r16
              clear hK K
              refine wpAnyH_ready (rs := [10]) (by kernel_rfl) (by simp) ?_
              refine AllReadyH.cons rfl (fun K hK => ?_) AllReadyH.nil
              go_simp
              refine hK.out _ _ (hS) (fun hS => ?_)
              clear hK K
              have R_0 := R.cell (j := 0) rfl
              have R_1 := R.cell (j := 1) rfl
              have Rf0 := R.frozen 0
              have Rf1 := R.frozen 1
              refine wpAnyH_ready (rs := [17]) (by kernel_rfl) (by simp) ?_
              refine AllReadyH.cons rfl (fun K hK => ?_) AllReadyH.nil
              go_simp
              have hk17 : Kx [gR] w16 ((w16.setCell ⟨gR, 0, none⟩ (.int .i64 (now + n))).setCell ⟨gR, 1, none⟩ (.slice a9 (N - k) c9)) := ((Kx.refl _ _).setCell (.inl (by simp)) _).setCell (.inl (by simp)) _
              replace V9 := V9.kx hk17 (fun j hj hm => by have := (V9.ge j hj).1; simp at hm; omega)
              replace V16 := V16.kx hk17 (fun j hj hm => by have := (V16.ge j hj).1; simp at hm; omega)
              refine hK.out _ _ (hS.trans hk17) (fun hS => ?_)
              clear hk17
              clear hK K
              refine wpAnyH_ready (rs := [18]) (by kernel_rfl) (by simp) ?_
              refine AllReadyH.cons rfl (fun K hK => ?_) AllReadyH.nil
              go_simp
              refine hK.out _ _ hS (fun hS => ?_)
              clear hK K
              refine wpAnyH_ready (rs := [19]) (by kernel_rfl) (by simp) ?_
              refine AllReadyH.cons rfl (fun K hK => ?_) AllReadyH.nil
              go_simp
              refine hK.out _ _ hS (fun hS => ?_)
              clear hK K
              refine wpAnyH_done (by kernel_rfl) ?_ _
              have hbb := hb.kx hS (fun x hx => by simp at hx; omega)
              have HQ := refA_new (v := .slice a N c) HE.out HC.out.2 HC.out.1 H1.out H2.out hBw V9 V16 hbb rfl
              clear V9 V16 hbb hS
              go_wp2_with fail
              refine bodyPost_ret (v := .tuple #[.agg #[.int .i64 (now + n), .slice a9 (N - k) c9], .slice a16 k c16, .int .i64 0]) ?_ rfl HQ
              rw [r_cell1tt rfl]
              go_simp
        ·
          go_simp
          have hle11 : B ≤ wq.heap.size := by have := hS.size; have := HB.out; omega
          obtain ⟨gE11, hgE11⟩ : ∃ g, (wq).heap.size = g := ⟨_, rfl⟩
          have lt_R_E11 := R.lt
          rw [hgE11] at lt_R_E11
          have E11 := Blk.newV hgE11 50 #[]
          have hbn := (Below.refl (wq).heap.size wq).alloc (Nat.le_refl _) (.cells #[] 50)
          replace R := R.step hbn
          replace D2 := D2.step hbn
          replace hS := hS.step hbn
          replace D1 := D1.step hbn
          clear hbn
          rw [hgE11]
          generalize (wq).alloc (.cells #[] 50) = wb at *
          rw [hgE11] at hle11
          refine hK.out _ _ (hS) (fun hS => ?_)
          clear hK K
          refine wpAnyH_ready (rs := [4]) (by kernel_rfl) (by simp) ?_
          refine AllReadyH.cons rfl (fun K hK => ?_) AllReadyH.nil
          go_simp
          have hle4 : B ≤ wb.heap.size := by have := hS.size; have := HB.out; omega
          obtain ⟨gE4, hgE4⟩ : ∃ g, (wb).heap.size = g := ⟨_, rfl⟩
          have lt_R_E4 := R.lt
          rw [hgE4] at lt_R_E4
          have lt_E11_E4 := E11.lt
          rw [hgE4] at lt_E11_E4
          have E4 := Blk.newV hgE4 50 #[]
          have hbn := (Below.refl (wb).heap.size wb).alloc (Nat.le_refl _) (.cells #[] 50)
          replace R := R.step hbn
          replace D1 := D1.step hbn
          replace D2 := D2.step hbn
          replace hS := hS.step hbn
          replace E11 := E11.step hbn
          clear hbn
          rw [hgE4]
          generalize (wb).alloc (.cells #[] 50) = wa at *
          rw [hgE4] at hle4
          refine hK.out _ _ (hS) (fun hS => ?_)
          clear hK K
          refine wpAnyH_ready (rs := [9]) (by kernel_rfl) (by simp) ?_
          refine AllReadyH.cons rfl (fun K hK => ?_) AllReadyH.nil
          obtain ⟨a9, c9, w9, r9, V9, hbn⟩ := clone_run (c2 := c - k) E4 D1.1 H1.out (by omega) 26
          refine step_append_run rfl (.tmp 45) (.tmp 49) 26 rfl rfl rfl r9 ?_
          replace R := R.step hbn
          replace D2 := D2.step hbn
          replace hS := hS.step hbn
          replace E11 := E11.step hbn
          replace V9 := V9.low hle4
          refine hK.out _ _ (hS) (fun hS => ?_)
          clear hbn E4 D1 r9
          clear hK K
          refine wpAnyH_ready (rs := [10, 16]) (by kernel_rfl) (by simp) ?_
          refine AllReadyH.cons rfl (fun K hK => ?_) (AllReadyH.cons rfl (fun K hK => ?_) AllReadyH.nil)
          ·
            go_simp
            refine hK.out _ _ (hS) (fun hS => ?_)
            clear hK K
            refine wpAnyH_ready (rs := [16]) (by kernel_rfl) (by simp) ?_
            refine AllReadyH.cons rfl (fun K hK => ?_) AllReadyH.nil
            obtain ⟨a16, c16, w16, r16, V16, hbn⟩ := clone_run (c2 := c) E11 D2.1 H2.out (by omega) 26
            refine step_append_run rfl (.tmp 52) (.tmp 56) 26 rfl rfl rfl r16 ?_
            replace R := R.step hbn
            replace hS := hS.step hbn
            replace V9 := V9.step hbn
            replace V16 := V16.low hle11
            refine hK.out _ _ (hS) (fun hS => ?_)
            clear hbn E11 D2 r16
            clear hK K
            have R_0 := R.cell (j := 0) rfl
            have R_1 := R.cell (j := 1) rfl
            have Rf0 := R.frozen 0
            have Rf1 := R.frozen 1
            refine wpAnyH_ready (rs := [17]) (by kernel_rfl) (by simp) ?_
            refine AllReadyH.cons rfl (fun K hK => ?_) AllReadyH.nil
            go_simp
            have hk17 : Kx [gR] w16 ((w16.setCell ⟨gR, 0, none⟩ (.int .i64 (now + n))).setCell ⟨gR, 1, none⟩ (.slice a9 (N - k) c9)) := ((Kx.refl _ _).setCell (.inl (by simp)) _).setCell (.inl (by simp)) _
            replace V9 := V9.kx hk17 (fun j hj hm => by have := (V9.ge j hj).1; simp at hm; omega)
            replace V16 := V16.kx hk17 (fun j hj hm => by have := (V16.ge j hj).1; simp at hm; omega)
            refine hK.out _ _ (hS.trans hk17) (fun hS => ?_)
            clear hk17
            clear hK K
            refine wpAnyH_ready (rs := [18]) (by kernel_rfl) (by simp) ?_
            refine AllReadyH.cons rfl (fun K hK => ?_) AllReadyH.nil
            go_simp
            refine hK.out _ _ hS (fun hS => ?_)
            clear hK K
            refine wpAnyH_ready (rs := [19]) (by kernel_rfl) (by simp) ?_
            refine AllReadyH.cons rfl (fun K hK => ?_) AllReadyH.nil
            go_simp
            refine hK.out _ _ hS (fun hS => ?_)
            clear hK K
            refine wpAnyH_done (by kernel_rfl) ?_ _
            have hbb := hb.kx hS (fun x hx => by simp at hx; omega)
            have HQ := refA_new (v := .slice a N c) HE.out HC.out.2 HC.out.1 H1.out H2.out hBw V9 V16 hbb rfl
            clear V9 V16 hbb hS
            go_wp2_with fail
            refine bodyPost_ret (v := .tuple #[.agg #[.int .i64 (now + n), .slice a9 (N - k) c9], .slice a16 k c16, .int .i64 0]) ?_ rfl HQ
            rw [r_cell1tt rfl]
            go_simp
          ·
            obtain ⟨a16, c16, w16, r16, V16, hbn⟩ := clone_run (c2 := c) E11 D2.1 H2.out (by omega) 26
            refine step_append_run rfl (.tmp 52) (.tmp 56) 26 rfl rfl rfl r16 ?_
            replace R := R.step hbn
            replace hS := hS.step hbn
            replace V9 := V9.step hbn
            replace V16 := V16.low hle11
            refine hK.out _ _ (hS) (fun hS => ?_)
            clear hbn E11 D2 r16
            clear hK K
            refine wpAnyH_ready (rs := [10]) (by kernel_rfl) (by simp) ?_
            refine AllReadyH.cons rfl (fun K hK => ?_) AllReadyH.nil
            go_simp
            refine hK.out _ _ (hS) (fun hS => ?_)
            clear hK K
            have R_0 := R.cell (j := 0) rfl
            have R_1 := R.cell (j := 1) rfl
            have Rf0 := R.frozen 0
            have Rf1 := R.frozen 1
            refine wpAnyH_ready (rs := [17]) (by kernel_rfl) (by simp) ?_
            refine AllReadyH.cons rfl (fun K hK => ?_) AllReadyH.nil
            go_simp
            have hk17 : Kx [gR] w16 ((w16.setCell ⟨gR, 0, none⟩ (.int .i64 (now + n))).setCell ⟨gR, 1, none⟩ (.slice a9 (N - k) c9)) := ((Kx.refl _ _).setCell (.inl (by simp)) _).setCell (.inl (by simp)) _
            replace V9 := V9.kx hk17 (fun j hj hm => by have := (V9.ge j hj).1; simp at hm; omega)
            replace V16 := V16.kx hk17 (fun j hj hm => by have := (V16.ge j hj).1; simp at hm; omega)
            refine hK.out _ _ (hS.trans hk17) (fun hS => ?_)
            clear hk17
            clear hK K
            refine wpAnyH_ready (rs := [18]) (by kernel_rfl) (by simp) ?_
            refine AllReadyH.cons rfl (fun K hK => ?_) AllReadyH.nil
            go_simp
            refine hK.out _ _ hS (fun hS => ?_)
            clear hK K
            refine wpAnyH_ready (rs := [19]) (by kernel_rfl) (by simp) ?_
            refine AllReadyH.cons rfl (fun K hK => ?_) AllReadyH.nil
            go_simp
            refine hK.out _ _ hS (fun hS => ?_)
            clear hK K
            refine wpAnyH_done (by kernel_rfl) ?_ _
            have hbb := hb.kx hS (fun x hx => by simp at hx; omega)
            have HQ := refA_new (v := .slice a N c) HE.out HC.out.2 HC.out.1 H1.out H2.out hBw V9 V16 hbb rfl
            clear V9 V16 hbb hS
            go_wp2_with fail
            refine bodyPost_ret (v := .tuple #[.agg #[.int .i64 (now + n), .slice a9 (N - k) c9], .slice a16 k c16, .int .i64 0]) ?_ rfl HQ
            rw [r_cell1tt rfl]
            go_simp
end Go.Proofs.Ytfdfmmmfklodgaa
