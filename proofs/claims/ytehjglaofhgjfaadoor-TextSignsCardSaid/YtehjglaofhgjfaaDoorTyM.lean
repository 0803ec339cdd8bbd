
/- Package text: Named. -/
import Derived.Test.YtehjglaofhgjfaaDoorTyL
namespace Go.Proofs.YtehjglaofhgjfaaDoor
set_option linter.unusedSimpArgs false
set_option linter.unusedVariables false
open Go.RowKit
attribute [local go_sem] Oper.semAt_some
theorem newsV {g : Nat} {W : World} (hg : W.heap.size = g) (t : TypeId) (v : Value) : ∀ j u, [v][j]? = some u → (W.alloc (.cells #[v] t)).cell? ((⟨g, 0, none⟩ : Addr).add j) = some u := by
  intro j u hu
  match j, hu with
  | 0, hu =>
    simp at hu; subst hu
    subst hg
    simp [Addr.add]
theorem ownsRow_mono {W : World} {B B' : Nat} {e : TypeId} {size : Nat} {v : Value} {n : Nat} {xs : List Value} (h : W.ownsRow B e size v n xs) (hB : B' ≤ B) : W.ownsRow B' e size v n xs := by
  refine ⟨h.1, ?_⟩
  rcases h.2 with h | ⟨g, c, cur, hv, hg, r⟩
  · exact .inl h
  · exact .inr ⟨g, c, cur, hv, Nat.le_trans hB hg, r⟩
structure NW (w : World) (gO gM gB gZ : Nat) (ks : List BL) (v : Value) (W : World) : Prop where
  O : Blk W gO 28 [v]
  M : Blk W gM 58 [.map (some gB)]
  own : OwnL W gZ v ks
  set : MapS W gB ks
  hb : From w W
  le : gZ ≤ W.heap.size
theorem NW.ownFrom {w : World} {gO gM gB gZ : Nat} (f : Nat → List BL) (h1 : gO < gZ) (h2 : gM < gZ) (h3 : gB < gZ) (h4 : w.heap.size ≤ gZ) : OwnFrom gZ (fun (k : Nat) W => ∃ v, NW w gO gM gB gZ (f k) v W) := by
  rintro k W W' row ⟨v, ⟨O, M, own, set, hb, le⟩⟩ hg hr
  have key : ∀ j, j < gZ → W'.heap[j]? = W.heap[j]? := fun j hj => hg.block j (by omega) (fun e => by have := (hr j e.symm).1; omega)
  refine ⟨v, (key gO h1).trans O, (key gM h2).trans M, ?_, set.heap (key gB h3), Below.grown hb.out hg (by have := hb.size; omega) (fun j e => by have := (hr j e).1; omega), Nat.le_trans le hg.size⟩
  refine ⟨own.1, ?_⟩
  rcases own.2 with h | ⟨g, c, cur, hv, hgb, hh, r⟩
  · exact .inl h
  · refine .inr ⟨g, c, cur, hv, hgb, (hg.block g (Array.getElem?_eq_some_iff.1 hh).1 (fun e => ?_)).trans hh, r⟩
    obtain ⟨-, o, ho, hoc⟩ := hr g e.symm
    rw [hh] at ho
    cases ho
    cases hoc
set_option maxRecDepth 100000 in
set_option maxHeartbeats 4000000 in
theorem named_any2 (s : ByteArray) (hs : s.size ≤ 1048576) (w : World) :
    Calls Tryd.prog 16 #[.string s] w fun e w' => (∃ v, e = .returned (.tuple #[v, .int .i64 0]) ∧ OwnL w' w.heap.size v (namedL s.data.toList)) ∧ Below w.heap.size w w' := by
  refine callsIn_wide (n := 3).1 ?_
  obtain ⟨i0, hi, hz0, hz1, hz2⟩ := info_parts info_str
  have hsI : ¬ (1048576 : Int) < (s.size : Int) := by omega
  have hmk : ∀ W : World, (Instr.makeMap 58 none).run Tryd.prog W = .ok (.map (some W.heap.size)) (W.alloc (.map #[] 0)) := fun W => rfl
  have hb := From.refl w
  refine callsIn_of_wp_marks Tryd.func16 rfl trivial ?_ rfl
  simp only [Tryd.ntmps16, List.size_toArray, List.length_cons, List.length_nil, Nat.reduceAdd, Nat.reduceSub, Array.replicate_succ, Array.replicate_zero, List.push_toArray, List.append_toArray, List.nil_append, List.cons_append]
  refine (wpIn_wide (n := 3)).2 ?_
  go_upto_region 1 with fail
  obtain ⟨gO, hgO⟩ : ∃ g, (w).heap.size = g := ⟨_, rfl⟩
  have O := Blk.newV hgO 28 #[.slice none 0 0]
  have hbn := (Below.refl (w).heap.size w).alloc (Nat.le_refl _) (.cells #[.slice none 0 0] 28)
  replace hb := hb.step hbn
  clear hbn
  rw [hgO]
  generalize (w).alloc (.cells #[.slice none 0 0] 28) = w1 at *
  go_upto_region 3 with fail
  have hw1 := hb.size
  have hO1 := O.lt
  obtain ⟨gB, hgB⟩ : ∃ g, w1.heap.size = g := ⟨_, rfl⟩
  have S0 := MapS.made w1
  rw [hgB] at S0
  have hbn := (Below.refl w1.heap.size w1).alloc (Nat.le_refl _) (.map #[] 0)
  have hz2' : (w1.alloc (.map #[] 0)).heap.size = gB + 1 := by rw [← hgB]; exact Array.size_push ..
  go_upto_region 4 with fail
  obtain ⟨gM, hgM⟩ : ∃ g, gB + 1 = g := ⟨_, rfl⟩
  rw [hgM] at hz2' ⊢
  have M := Blk.newV hz2' 58 #[.map (some gB)]
  have hbn2 := (Below.refl (w1.alloc (.map #[] 0)).heap.size (w1.alloc (.map #[] 0))).alloc (Nat.le_refl _) (.cells #[.map (some gB)] 58)
  replace O := (O.step hbn).step hbn2
  replace hb := (hb.step hbn).step hbn2
  replace S0 := S0.step hbn2
  clear hbn hbn2 hz2'
  generalize (w1.alloc (.map #[] 0)).alloc (.cells #[.map (some gB)] 58) = w2 at *
  have cN := names_any s w2
  go_wp2_with fail
  refine (cN).mono ?_
  rintro e w3 ⟨rfl, hBx, hbn⟩
  have hM2 := M.lt
  replace O := O.step hbn
  replace M := M.step hbn
  replace hb := hb.step hbn
  replace S0 := S0.step hbn
  have hbl := hBx.lt
  obtain ⟨b, hbE⟩ : ∃ b, w2.heap.size = b := ⟨_, rfl⟩
  rw [hbE] at hBx hbl hM2 ⊢
  obtain ⟨gZ, hgZ⟩ : ∃ g, w3.heap.size = g := ⟨_, rfl⟩
  have hseq := names_xs b gZ s w3 (by omega) (by omega) hBx
  have hxl := nms_len s.data.toList false
  have hxs16 := nms_short s.data.toList false
  rw [← Lib.size_eq] at hxl
  have hname : Hid (nubF [] (nms false s.data.toList) = namedL s.data.toList) := Lib.hid rfl
  generalize nms false s.data.toList = xs at *
  rw [hgZ] at hbl
  have hwO : w.heap.size ≤ gO := by omega
  have hwB : w.heap.size ≤ gB := by omega
  have hOM : gO ≠ gM := by omega
  have hMO : gM ≠ gO := by omega
  have hgOB : gO ≠ gB := by omega
  have hbO : b ≠ gO := by omega
  have hbM : b ≠ gB := by omega
  have hgMB : gM ≠ gB := by omega
  have hwZ : w.heap.size ≤ gZ := by omega
  have hOZ : gO < gZ := by omega
  have hMZ : gM < gZ := by omega
  have hBZ : gB < gZ := by omega
  have N0 : NW w gO gM gB gZ (nubF [] (xs.take 0)) (.slice none 0 0) w3 := ⟨O, M, World.ownsRow_nil _ _ _ _, S0, hb, by omega⟩
  clear O M S0 hb hw1 hO1 hgB hgM hM2 hbE hBx hbn cN
  go_wp2_with fail
  refine (wpIn_wide (n := 3)).1 ?_
  have HSQ := hseq
  rw [← hgZ] at HSQ
  apply wpIn_range_xsI 63 #[.pointer (some ⟨b, 0, none⟩)] rfl (enters_of Tryd.func63 (by kernel_rfl) rfl) (fun k => k = b) HSQ (fun k hk => by omega) (fun _ => rfl)
    (fun k W => ∃ v, NW w gO gM gB gZ (nubF [] (xs.take k)) v W)
    (fun c k W => False)
    (by rw [hgZ]; exact NW.ownFrom (fun k => nubF [] (xs.take k)) hOZ hMZ hBZ hwZ)
    (fun c => ownFrom_pure _ _)
    ⟨_, N0⟩
  case hassign =>
    intro l x W K hK
    dsimp only [strEnc]
    gi_wp2
    exact hK
  case hbody =>
    rintro l k x W hx ⟨v, ⟨O, M, own, set, hb, le⟩⟩ hsW
    clear hseq HSQ N0
    have hk : k < xs.length := (List.getElem?_eq_some_iff.1 hx).1
    have hx16 := hxs16 x (List.mem_of_getElem? hx)
    have hst : nubF [] (xs.take (k + 1)) = addN (nubF [] (xs.take k)) x := by
      rw [List.take_add_one, hx, ← nubF_snoc]; rfl
    have hkl := nubF_len (xs.take k) []
    rw [List.length_take, List.length_nil] at hkl
    obtain ⟨ks, hks⟩ : ∃ ks, nubF [] (xs.take k) = ks := ⟨_, rfl⟩
    rw [hks] at own set hkl hst
    have HST := Lib.hid hst
    clear hst
    have cM := M.cell (j := 0) rfl
    have hlk := set.look x (by unfold maxLen; omega)
    obtain ⟨ao, co, rfl⟩ := own.form
    by_cases hm : x ∈ ks
    · rw [if_pos hm] at hlk
      have hadd : addN ks x = ks := by unfold addN; rw [if_pos hm]
      gi_wp2
      refine ⟨KeepsFrom.refl _ _, Kb.refl _ _, .slice ao ks.length co, ?_⟩
      rw [HST.out, hadd]
      exact ⟨O, M, own, set, hb, le⟩
    · rw [if_neg hm] at hlk
      have hadd : addN ks x = ks ++ [x] := by unfold addN; rw [if_neg hm]
      obtain ⟨W1, hput, set1, hg1⟩ := set.put x (by unfold maxLen; omega) (by unfold maxLen; omega) hm
      have k1 : ∀ j, j ≠ gB → j < W.heap.size → W1.heap[j]? = W.heap[j]? := fun j hj hl => hg1.block j hl (fun e => hj (by cases e; rfl))
      have O1 : Blk W1 gO 28 [.slice ao ks.length co] := (k1 gO hgOB O.lt).trans O
      have M1 : Blk W1 gM 58 [.map (some gB)] := (k1 gM hgMB M.lt).trans M
      have own1 : OwnL W1 gZ (.slice ao ks.length co) ks := by
        refine ⟨own.1, ?_⟩
        rcases own.2 with h | ⟨g, c, cur, hv, hgb, hh, r⟩
        · exact .inl h
        · exact .inr ⟨g, c, cur, hv, hgb, (k1 g (by omega) (Array.getElem?_eq_some_iff.1 hh).1).trans hh, r⟩
      have hb1 : From w W1 := Below.grown hb.out hg1 (by have := hb.size; omega) (fun j e => by cases e; omega)
      have le1 : gZ ≤ W1.heap.size := Nat.le_trans le hg1.size
      have hbb : W1.heap[b]? = W.heap[b]? := k1 b hbM (by omega)
      have hkf := KeepsFrom.of_grownBy (B := w3.heap.size) hg1 (fun j e => by cases e; omega)
      have cO1 := O1.cell (j := 0) rfl
      clear O set own hb
      gi_wp2_with (gi_at_builtin; refine wpListIn_append_own _ rfl _ _ 28 rfl gZ 9 i0 (.string ⟨#[]⟩) 1 16 Tryd.underlying28 hi hz0 hz1 hz2 rfl (by decide) _ _ _ rfl (World.ownsRow.alloc own1 _) ⟨W1.heap.size, 0, none⟩ 1 1 [.string (mkS x)] rfl rfl (newsV rfl 9 (.string (mkS x))) (by simp [Value.oneCell']) (by unfold maxLen; omega) (by omega) (by simp; omega) ?_)
      intro vv w5 hown' hgrow _
      obtain ⟨a2, c2, rfl⟩ : ∃ a c, vv = .slice a (ks.length + 1) c := by
        rcases hown'.2 with ⟨e, e2⟩ | ⟨g', cap', cur, e, -⟩
        · omega
        · exact ⟨_, _, e⟩
      have rowB : ∀ r, Value.ownBlock (.slice ao ks.length co) = some r → gZ ≤ r := fun r e => (World.ownsRow.lt own1 r e).1
      have k2 : ∀ j, j < gZ → w5.heap[j]? = W1.heap[j]? := fun j hj => (hgrow.block j (by simp; omega) (fun e => by have := rowB j e.symm; omega)).trans (Below.heap_alloc W1 _ j (by omega))
      have O5 : Blk w5 gO 28 [.slice ao ks.length co] := (k2 gO hOZ).trans O1
      have M5 : Blk w5 gM 58 [.map (some gB)] := (k2 gM hMZ).trans M1
      have set5 := set1.heap (k2 gB hBZ)
      have cO5 := O5.cell (j := 0) rfl
      have fO5 := O5.frozen 0
      obtain ⟨r1, r2, r3, r4, r5⟩ := Boxed.appended (n₀ := w.heap.size) (B := gO) (t := 28) (e := 9) O1 (by decide) (ownsRow_mono own1 hwZ) (by omega) hwO (ownsRow_mono hown' hwZ) hgrow
      gi_wp2
      have own6 : OwnL (w5.setCell ⟨gO, 0, none⟩ (.slice a2 (ks.length + 1) c2)) gZ (.slice a2 (ks.length + 1) c2) (ks ++ [x]) := by
        have h6 : w5.ownsRow gZ 9 1 (.slice a2 (ks.length + 1) c2) (ks ++ [x]).length (strL (ks ++ [x])) := by
          rw [List.length_append]
          unfold strL
          rw [List.map_append]
          exact hown'
        refine ⟨h6.1, ?_⟩
        rcases h6.2 with h | ⟨g, c, cur, hv, hgb, hh, r⟩
        · exact .inl h
        · exact .inr ⟨g, c, cur, hv, hgb, (Below.heap_setCell w5 ⟨gO, 0, none⟩ _ g (by simp; omega)).trans hh, r⟩
      refine ⟨hkf.trans (r4.from _), ?_, .slice a2 (ks.length + 1) c2, ?_⟩
      · intro j hj
        subst hj
        exact (Below.heap_setCell w5 ⟨gO, 0, none⟩ _ j hbO).trans ((k2 j hbl).trans hbb)
      · rw [HST.out, hadd]
        exact ⟨O5.set 0 _, M5.other hMO 0 _, own6, set5.heap (Below.heap_setCell w5 ⟨gO, 0, none⟩ _ gB (fun e => hgOB e.symm)), Below.trans hb1 r5, by have := r4.size; omega⟩
  case hdone =>
    rintro D W hD ⟨v, ⟨O, M, own, set, hb, le⟩⟩ hK
    clear hseq HSQ N0
    rw [List.take_of_length_le (Nat.le_refl _), hname.out] at own
    obtain ⟨ao, co, rfl⟩ := own.form
    have cO := O.cell (j := 0) rfl
    have fO := O.frozen 0
    go_wp2
    have O9 := O.set 0 (.slice ao (namedL s.data.toList).length co)
    have hDO : gO ≠ D := by omega
    have own9 : OwnL (W.setCell ⟨gO, 0, none⟩ (.slice ao (namedL s.data.toList).length co)) gZ (.slice ao (namedL s.data.toList).length co) (namedL s.data.toList) := by
      refine ⟨own.1, ?_⟩
      rcases own.2 with h | ⟨g, c, cur, hv, hgb, hh, r⟩
      · exact .inl h
      · exact .inr ⟨g, c, cur, hv, hgb, (Below.heap_setCell W ⟨gO, 0, none⟩ _ g (by simp; omega)).trans hh, r⟩
    have hK9 := (Below.heap_setCell W ⟨gO, 0, none⟩ (.slice ao (namedL s.data.toList).length co) D (Ne.symm hDO)).trans hK
    have hb9 : Below w.heap.size w (W.setCell ⟨gO, 0, none⟩ (.slice ao (namedL s.data.toList).length co)) := Below.setCell hb.out (p := ⟨gO, 0, none⟩) hwO _
    clear O cO fO own hK hb
    generalize W.setCell ⟨gO, 0, none⟩ (.slice ao (namedL s.data.toList).length co) = W9 at *
    have c9 := (O9.putObj hK9 rfl (.deferred none)).cell (j := 0) rfl
    refine leaves_col (v := .tuple #[.slice ao (namedL s.data.toList).length co, .int .i64 0]) rfl hK9 ?_ ⟨⟨_, rfl, ?_⟩, ?_⟩
    · simp [results, Tryd.results16, go_sem, c9]
    · refine ⟨own9.1, ?_⟩
      rcases own9.2 with h | ⟨g, c, cur, hv, hgb, hh, r⟩
      · exact .inl h
      · exact .inr ⟨g, c, cur, hv, Nat.le_trans hwZ hgb, (World.putObj_heap_other (fun e => by subst e; rw [hh] at hK9; cases hK9)).trans hh, r⟩
    · exact below_putObj hb9 (by omega) _
  case hstop =>
    rintro D c k W hD hk h
    exact h.elim
end Go.Proofs.YtehjglaofhgjfaaDoor
