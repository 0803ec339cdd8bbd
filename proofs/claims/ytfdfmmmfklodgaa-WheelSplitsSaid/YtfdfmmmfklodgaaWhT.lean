
/- The document's wheel: without, SameList, Same. -/
import Derived.Test.YtfdfmmmfklodgaaWhR
namespace Go.Proofs.Ytfdfmmmfklodgaa
set_option linter.unusedSimpArgs false
set_option linter.unusedVariables false
open Go.RowKit
theorem r_cell1 {fn : Func} {p : Tmp} {ty : TypeId} (h : fn.results = #[.cell p ty]) (tmps : Array Value) (P : Program) (w : World) :
    (results fn tmps).run P w = ((asAddr (tmps.getD p undef)).run P w).andThen fun a w₁ => (loadVar ty a).run P w₁ := by
  simp only [results, h]
  simp [Sem.run_bind, Result.andThen]
theorem r_cell1t {fn : Func} {p u : Tmp} {ty : TypeId} (h : fn.results = #[.cell p ty, .tmp u]) (tmps : Array Value) (P : Program) (w : World) :
    (results fn tmps).run P w = ((asAddr (tmps.getD p undef)).run P w).andThen fun a w₁ => ((loadVar ty a).run P w₁).andThen fun v w₂ => .ok (.tuple #[v, tmps.getD u undef]) w₂ := by
  simp only [results, h]
  simp [Sem.run_bind, Result.andThen]
theorem r_cell1tt {fn : Func} {p u u2 : Tmp} {ty : TypeId} (h : fn.results = #[.cell p ty, .tmp u, .tmp u2]) (tmps : Array Value) (P : Program) (w : World) :
    (results fn tmps).run P w = ((asAddr (tmps.getD p undef)).run P w).andThen fun a w₁ => ((loadVar ty a).run P w₁).andThen fun v w₂ => .ok (.tuple #[v, tmps.getD u undef, tmps.getD u2 undef]) w₂ := by
  simp only [results, h]
  simp [Sem.run_bind, Result.andThen]
theorem del_take {L : List (Int × Int)} {k : Nat} {p : Int × Int} (h : L[k]? = some p) (id : Int) : delF (L.take (k + 1)) id = if p.1 = id then delF (L.take k) id else delF (L.take k) id ++ [p] := by
  unfold delF
  rw [List.take_add_one, h, List.filter_append]
  by_cases e : p.1 = id
  · simp [e]
  · simp [e]
set_option maxRecDepth 100000 in
set_option maxHeartbeats 2000000 in
theorem without_any (base : Nat) (now : Int) (a : Option Addr) (c : Nat) (L : List (Int × Int)) (id : Int) (w : World) (h : RowD w base (.slice a L.length c) L) (hl : L.length ≤ 5000) :
    Calls Try.prog 42 #[.agg #[.int .i64 now, .slice a L.length c], .int .i64 id] w fun e w' => (∃ a' c', e = .returned (.agg #[.int .i64 now, .slice a' (delF L id).length c']) ∧ RowD w' w.heap.size (.slice a' (delF L id).length c') (delF L id)) ∧ Below w.heap.size w w' := by
  obtain ⟨i0, hi0, hz0, hz1, hz2⟩ := info_parts info_due
  have hd := h.has.2.1
  have hdn := Lib.hid (fun b off e => (h.has.2.2 b off e).2)
  clear h
  obtain ⟨N, hN⟩ : ∃ N, L.length = N := ⟨_, rfl⟩
  rw [hN] at hl ⊢
  obtain ⟨R, hR⟩ : ∃ R, delF L id = R := ⟨_, rfl⟩
  rw [hR]
  have hb := From.refl w
  have HR := Lib.hid hR
  clear hR
  have HN := Lib.hid hN
  clear hN
  go_enter Try.func42, Try.ntmps42
  go_upto_region 1 with fail
  obtain ⟨gX, hgX⟩ : ∃ g, (w).heap.size = g := ⟨_, rfl⟩
  have X := Blk.newV hgX 28 #[.int .i64 now, .slice a N c]
  have hbn := (Below.refl (w).heap.size w).alloc (Nat.le_refl _) (.cells #[.int .i64 now, .slice a N c] 28)
  replace hb := hb.step hbn
  replace hd := hd.step hbn
  clear hbn
  rw [hgX]
  have szX := alloc_size hgX (.cells #[.int .i64 now, .slice a N c] 28)
  generalize (w).alloc (.cells #[.int .i64 now, .slice a N c] 28) = w1 at *
  obtain ⟨gR, hgR⟩ : ∃ g, (w1).heap.size = g := ⟨_, rfl⟩
  have lt_X_R := X.lt
  rw [hgR] at lt_X_R
  have R := Blk.newV hgR 28 #[.int .i64 0, .slice none 0 0]
  have hbn := (Below.refl (w1).heap.size w1).alloc (Nat.le_refl _) (.cells #[.int .i64 0, .slice none 0 0] 28)
  replace hb := hb.step hbn
  replace hd := hd.step hbn
  replace X := X.step hbn
  clear hbn
  have egR : gX + 1 = gR := szX.symm.trans hgR
  rw [egR]
  clear szX
  generalize (w1).alloc (.cells #[.int .i64 0, .slice none 0 0] 28) = w2 at *
  have hXR : gX < gR := by omega
  have hXw : w.heap.size ≤ gX := by omega
  have HGX := Lib.hid hgX
  clear hgX
  have X_0 := X.cell (j := 0) rfl
  have X_1 := X.cell (j := 1) rfl
  go_wp2_with fail
  go_loopw [5, 6] (fun v i wr => ∃ (k : Nat) (O : List (Int × Int)), i = .int .i64 k ∧ k ≤ N ∧ Hid (O = delF (L.take k) id) ∧ RowD wr (gR + 1) v O ∧ HasD wr a L ∧ Blk wr gX 28 [.int .i64 now, .slice a N c] ∧ Blk wr gR 28 [.int .i64 0, .slice none 0 0] ∧ From w wr ∧ O.length ≤ k) (fun _ i _ => N - (intOf i).toNat)
  case atStart => exact ⟨0, [], rfl, by omega, Lib.hid (by simp [delF]), World.ownsRow_nil _ _ _ _, hd, X, R, hb, by simp⟩
  case round =>
    clear X_0 X_1
    clear X R hb hd
    obtain ⟨k, O, rfl, hk, hO, hv, hd, X, R, hb, hOl⟩ := hrel
    have x1 := X.cell (j := 1) rfl
    by_cases hlt : k < N
    · obtain ⟨p, hp⟩ : ∃ p, L[k]? = some p := ⟨L[k]'(by rw [HN.out]; exact hlt), by simp [HN.out, hlt]⟩
      have k0 : (0 : Int) ≤ (k : Int) := by omega
      have k1 : (k : Int) < (N : Int) := by omega
      have k2 : (k : Int) < 5000 := by omega
      obtain ⟨b, off, rfl, d0, d1⟩ := hd k p hp
      have hdt := del_take hp id
      clear hp
      by_cases he : p.1 = id
      · rw [if_pos he] at hdt
        have hO2 : Hid (O = delF (L.take (k + 1)) id) := Lib.hid (hO.out.trans hdt.symm)
        rw [he] at d1
        clear hO hdt he
        go_wp2_with fail
        go_roundw
        case rel => exact ⟨k + 1, O, by go_num, by omega, hO2, hv, hd, X, R, hb, by omega⟩
        case measure => simp [intOf]; omega
      · rw [if_neg he] at hdt
        have hO2 : Hid (O ++ [p] = delF (L.take (k + 1)) id) := Lib.hid (by rw [hdt, ← hO.out])
        clear hO hdt
        obtain ⟨x, t⟩ := p
        simp only at d0 d1 he
        have hXB := Blk.new wr 50 [.int .i64 t, .int .i64 x]
        have hba := (Below.refl wr.heap.size wr).alloc (Nat.le_refl _) (.cells #[.int .i64 t, .int .i64 x] 50)
        have hRl := R.lt
        have hzz : gR + 1 ≤ (wr.alloc (.cells #[.int .i64 t, .int .i64 x] 50)).heap.size := by have := hba.size; omega
        go_wp2_with (first
          | (at_builtin; refine wpList_append_own_at _ rfl (.tmp 22) (.tmp 28) 26 rfl (gR + 1) 50 i0 (.agg #[.int .i64 0, .int .i64 0]) 2 16 Try.underlying26 hi0 hz0 hz1 hz2 rfl (by decide) u5 O.length (cellsD O) (by rfl) (hv.step hba) ⟨wr.heap.size, 0, none⟩ 1 1 [.int .i64 t, .int .i64 x] (by rfl) rfl hXB.news (by simp [Value.oneCell']) (by unfold maxLen; omega) (by omega) hzz ?_
             intro v3 w3 row3 hgr3 _ hob3)
          | fail)
        have hk3 : Kx u5.ownBlock.toList wr w3 := (((Kx.refl [] wr).alloc _).mono (by simp)).trans (kx_grown hgr3)
        have hv1 : ∀ z, z ∈ u5.ownBlock.toList → gR + 1 ≤ z := fun z hz => (hv.ge z (by simpa using hz)).1
        have hd3 := hd.kx hk3 (fun b2 o2 e hm => by have := hdn.out b2 o2 e; have := hv1 _ hm; omega)
        have hX3 := X.kx hk3 (fun hm => by have := hv1 _ hm; omega)
        have hR3 := R.kx hk3 (fun hm => by have := hv1 _ hm; omega)
        have hb3 := hb.kx hk3 (fun z hz => by have := hv1 _ hz; omega)
        rw [cellsD_app] at row3
        have hv3 : RowD w3 (gR + 1) v3 (O ++ [(x, t)]) := by
          unfold RowD
          rw [List.length_append, List.length_cons, List.length_nil]
          exact row3
        clear hgr3 hk3 row3 hd X R hb hv hXB hba
        go_roundw
        case rel => exact ⟨k + 1, O ++ [(x, t)], by go_num, by omega, hO2, hv3, hd3, hX3, hR3, hb3, by simp; omega⟩
        case measure => simp [intOf]; omega
    · obtain rfl : k = N := by omega
      have hOR : O = delF L id := by rw [hO.out, List.take_of_length_le (by rw [HN.out]; exact Nat.le_refl _)]
      rw [HR.out] at hOR
      subst hOR
      obtain ⟨a2, c2, rfl, -⟩ := row_form hv
      have x0 := X.cell (j := 0) rfl
      have r0 := R.cell (j := 0) rfl
      have r1 := R.cell (j := 1) rfl
      have f0 := R.frozen 0
      have f1 := R.frozen 1
      go_wp2_with fail
      have hkk : Kx [gR] wr ((wr.setCell ⟨gR, 0, none⟩ (.int .i64 now)).setCell ⟨gR, 1, none⟩ (.slice a2 O.length c2)) := ((Kx.refl _ _).setCell (.inl (by simp)) _).setCell (.inl (by simp)) _
      have hv2 := (hv.kx hkk (fun j hj hm => by have := (hv.ge j hj).1; simp at hm; omega)).low (base' := w.heap.size) (by omega)
      have hb2 := hb.kx hkk (fun z hz => by simp at hz; omega)
      clear hkk hv hb hd
      refine bodyPost_ret (v := .agg #[.int .i64 now, .slice a2 O.length c2]) ?_ rfl ⟨⟨_, _, rfl, hv2⟩, hb2⟩
      rw [r_cell1 rfl]
      go_simp
theorem list_diff {L M : List (Int × Int)} {k : Nat} {p q : Int × Int} (h1 : L[k]? = some p) (h2 : M[k]? = some q) (hne : p ≠ q) : decide (L = M) = false := by
  apply decide_eq_false
  rintro rfl
  rw [h1] at h2
  cases h2
  exact hne rfl
set_option maxRecDepth 100000 in
set_option maxHeartbeats 2000000 in
theorem sameList_any (base base2 : Nat) (a : Option Addr) (c : Nat) (L : List (Int × Int)) (a2 : Option Addr) (c2 : Nat) (M : List (Int × Int)) (w : World) (h : RowD w base (.slice a L.length c) L) (h2 : RowD w base2 (.slice a2 M.length c2) M) (hl : L.length ≤ 5000) (hl2 : M.length ≤ 5000) :
    Calls Try.prog 24 #[.slice a L.length c, .slice a2 M.length c2] w fun e w' => e = .returned (.bool (decide (L = M))) ∧ Below w.heap.size w w' := by
  have hd := h.has.2.1
  have hd2 := h2.has.2.1
  clear h h2
  obtain ⟨R, hR⟩ : ∃ R, decide (L = M) = R := ⟨_, rfl⟩
  rw [hR]
  have hbb := Below.refl w.heap.size w
  by_cases hn : L.length = M.length
  · obtain ⟨N, hN⟩ : ∃ N, L.length = N := ⟨_, rfl⟩
    have hM : M.length = N := by omega
    rw [hN] at hl ⊢
    rw [hM]
    clear hn hl2
    have HR := Lib.hid hR
    clear hR
    have HN := Lib.hid hN
    clear hN
    have HM := Lib.hid hM
    clear hM
    go_enter Try.func24, Try.ntmps24
    go_wp2_with fail
    go_loopw [5] (fun i wr => ∃ k : Nat, i = .int .i64 k ∧ k ≤ N ∧ From w wr ∧ Hid (∀ j, j < k → L[j]? = M[j]?)) (fun i _ => N - (intOf i).toNat)
    case atStart => exact ⟨0, rfl, by omega, hbb, Lib.hid (fun j hj => absurd hj (Nat.not_lt_zero _))⟩
    case round =>
      obtain ⟨k, rfl, hk, hb, hA⟩ := hrel
      by_cases hlt : k < N
      · obtain ⟨p, hp⟩ : ∃ p, L[k]? = some p := ⟨L[k]'(by rw [HN.out]; exact hlt), by simp [HN.out, hlt]⟩
        obtain ⟨q, hq⟩ : ∃ p, M[k]? = some p := ⟨M[k]'(by rw [HM.out]; exact hlt), by simp [HM.out, hlt]⟩
        have k0 : (0 : Int) ≤ (k : Int) := by omega
        have k1 : (k : Int) < (N : Int) := by omega
        have k2 : (k : Int) < 5000 := by omega
        obtain ⟨b, off, rfl, d0, d1⟩ := hd.step hb k p hp
        obtain ⟨b2, off2, rfl, e0, e1⟩ := hd2.step hb k q hq
        have d0 := extA_cell d0
        have d1 := extA_cell d1
        have e0 := extA_cell e0
        have e1 := extA_cell e1
        have hne := fun W => ne_due p.2 p.1 q.2 q.1 W
        by_cases he : p = q
        · have hA2 : Hid (∀ j, j < k + 1 → L[j]? = M[j]?) := Lib.hid (fun j hj => by
            by_cases e : j = k
            · subst e; rw [hp, hq, he]
            · exact hA.out j (by omega))
          rw [show (!(decide (p.2 = q.2 ∧ p.1 = q.1))) = false by simp [he]] at hne
          clear hp hq hA he
          go_upto_region 6 with fail
          refine wp_region_extB (by kernel_rfl) (by kernel_rfl) ?_
          repeat
            (first
              | go_big_quiet_skip
              | (go_big_quiet_want
                 go_big_quiet_op
                 first
                   | go_big_quiet_on
                   | (apply Exists.intro
                      refine ⟨fun w' hC => ?_, ?_⟩
                      · (first
                          | with_reducible rfl
                          | fail
                          | (go_simp; done)
                          | (go_simp; with_reducible rfl))
                      go_big_quiet_on)))
          refine wpQuiet_nil ?_
          intro w2 hbn
          replace hb := hb.step hbn
          clear hbn
          go_wp2_with fail
          go_roundw
          case rel => exact ⟨k + 1, by go_num, by omega, hb, hA2⟩
          case measure => simp [intOf]; omega
        · have hf := list_diff hp hq he
          rw [HR.out] at hf
          subst hf
          rw [show (!(decide (p.2 = q.2 ∧ p.1 = q.1))) = true by
            simp only [Bool.not_eq_true', decide_eq_false_iff_not]
            rintro ⟨x1, x2⟩
            exact he (Prod.ext x2 x1)] at hne
          clear hp hq hA he
          go_upto_region 6 with fail
          refine wp_region_extB (by kernel_rfl) (by kernel_rfl) ?_
          repeat
            (first
              | go_big_quiet_skip
              | (go_big_quiet_want
                 go_big_quiet_op
                 first
                   | go_big_quiet_on
                   | (apply Exists.intro
                      refine ⟨fun w' hC => ?_, ?_⟩
                      · (first
                          | with_reducible rfl
                          | fail
                          | (go_simp; done)
                          | (go_simp; with_reducible rfl))
                      go_big_quiet_on)))
          refine wpQuiet_nil ?_
          intro w2 hbn
          replace hb := hb.step hbn
          clear hbn
          go_wp2_with fail
          go_ret
          exact ⟨rfl, hb⟩
      · obtain rfl : k = N := by omega
        have hf : decide (L = M) = true := by
          apply decide_eq_true
          apply List.ext_getElem?
          intro j
          by_cases hj : j < k
          · exact hA.out j hj
          · rw [List.getElem?_eq_none (by rw [HN.out]; omega), List.getElem?_eq_none (by rw [HM.out]; omega)]
        rw [HR.out] at hf
        subst hf
        go_wp2_with fail
        go_ret
        exact ⟨rfl, hb⟩
  · have hf : R = false := by
      rw [← hR]
      apply decide_eq_false
      rintro rfl
      exact hn rfl
    subst hf
    obtain ⟨N, hN⟩ : ∃ N, L.length = N := ⟨_, rfl⟩
    obtain ⟨K, hK⟩ : ∃ N, M.length = N := ⟨_, rfl⟩
    rw [hN, hK] at hn ⊢
    have hn2 : ((N : Int) != (K : Int)) = true := by simp; omega
    clear hN hK hR
    go_enter Try.func24, Try.ntmps24
    go_wp2_with fail
    go_ret
    exact ⟨rfl, hbb⟩
end Go.Proofs.Ytfdfmmmfklodgaa
