
/- Package disk: Names, walked. -/
import Derived.Test.YtceoehjjebkgpaaDlD
namespace Go.Proofs.Ytceoehjjebkgpaa
set_option linter.unusedSimpArgs false
set_option linter.unusedVariables false
open Go.RowKit Go.Maps Go.Sort Go.Shelf
attribute [local go_sem] Oper.semAt_some
theorem strV_snoc (l : List ByteArray) (s : ByteArray) : strV (l ++ [s]) = strV l ++ [.string s] := by simp [strV]
theorem row_cells {W W' : World} {base n : Nat} {e : TypeId} {size : Nat} {v : Value} {xs : List Value} (h : W.ownsRow base e size v n xs) (hc : ∀ (k : Nat) (o : Obj), W.heap[k]? = some o → o.isCells = true → W'.heap[k]? = some o) : W'.ownsRow base e size v n xs := by
  refine ⟨h.1, ?_⟩
  rcases h.2 with h | ⟨g, c, cur, hv, hg, hh, r⟩
  · exact .inl h
  · exact .inr ⟨g, c, cur, hv, hg, hc _ _ hh rfl, r⟩
theorem own_low {W : World} {base base' n : Nat} {e : TypeId} {size : Nat} {v : Value} {xs : List Value} (h : W.ownsRow base e size v n xs) (hb : base' ≤ base) : W.ownsRow base' e size v n xs := row_low h hb
set_option maxRecDepth 100000 in
set_option maxHeartbeats 4000000 in
theorem dnames_any (d mb : Nat) (D : Ds) (L : FMap) (w : World) (h : DkW w d mb D L) (hn : L.length ≤ 1000) (hk : ∀ p ∈ L, okS p.1) :
    Calls Try.prog 18 #[.pointer (some ⟨d, 0, none⟩)] w fun e w' => (∃ v, e = .returned v ∧ StrR w' w.heap.size v ((srt L).map (·.1))) ∧ Below w.heap.size w w' := by
  obtain ⟨i, hi, hz0, hz1, hz2⟩ := info_parts info_strD
  obtain ⟨xs, hxs⟩ : ∃ xs, srt L = xs := ⟨_, rfl⟩
  have hlx : xs.length ≤ 1000 := by rw [← hxs, srt_len]; exact hn
  rw [hxs]
  refine callsIn_wide (n := 3).1 ?_
  have hb := From.refl w
  have hdw := h.lt
  have hmw := h.ltb
  refine callsIn_of_wp_marks Try.func18 rfl trivial ?_ rfl
  simp only [Try.ntmps18, List.size_toArray, List.length_cons, List.length_nil, Nat.reduceAdd, Nat.reduceSub, Array.replicate_succ, Array.replicate_zero, List.push_toArray, List.append_toArray, List.nil_append, List.cons_append]
  gi_upto_region 1 with fail
  obtain ⟨gO, hgO⟩ : ∃ g, (w).heap.size = g := ⟨_, rfl⟩
  have O := Blk.newV hgO 45 #[.slice none 0 0]
  have hbn := (Below.refl (w).heap.size w).alloc (Nat.le_refl _) (.cells #[.slice none 0 0] 45)
  replace hb := hb.step hbn
  replace h := h.step hbn
  clear hbn
  rw [hgO]
  generalize (w).alloc (.cells #[.slice none 0 0] 45) = w1 at *
  have hwO : w.heap.size ≤ gO := by omega
  gi_wp2_with (apply wpIn_label)
  refine ⟨trivial, ?_⟩
  refine (callsIn_wide.2 (dall_any _ rfl _)).mono ?_
  rintro e w3 ⟨⟨b, rfl, hBx, hbb⟩, hbn⟩
  have hO1 := O.lt
  replace hb := hb.step hbn
  replace h := h.step hbn
  replace O := O.step hbn
  have hO3 := O.lt
  have hbO : gO < b := by omega
  obtain ⟨gZ, hgZ⟩ : ∃ g, w3.heap.size = g := ⟨_, rfl⟩
  have hbZ : b < gZ := by rw [← hgZ]; exact hBx.lt
  have hseq := dall_xsO gO b d mb D L w3 hBx h hn hk (O.cell (j := 0) rfl) (by omega) (by omega) (by omega)
  rw [hxs] at hseq
  rw [hgZ] at hO3
  have hwZ : w.heap.size ≤ gZ := by omega
  have N0 : NmI w gO gZ 0 ((xs.map (·.1)).take 0) (.slice none 0 0) w3 := ⟨O, World.ownsRow_nil _ _ _ _, hb, by omega⟩
  have hxs2 := Lib.hid hxs
  clear hbn hBx h hbb hb O hxs
  unfold allF
  gi_wp2_with fail
  apply wpIn_range_xsK 41 #[.pointer (some ⟨b, 0, none⟩)] rfl enters_all (keepsL_O gO (fun k => k = gO)) hseq (Below.refl _ _) (fun _ => rfl)
    (fun k W => ∃ v, NmI w gO gZ k ((xs.map (·.1)).take k) v W)
    (fun _ _ _ => False)
    (by rw [hgZ]; exact NmI.ownFrom (fun k => (xs.map (·.1)).take k) hO3 hwZ)
    (fun c => ownFrom_false _)
    ⟨_, N0⟩
  case hassign =>
    intro l x W K hK
    dsimp only [fEnc, fmV]
    gi_wp2
    exact hK
  case hbody =>
    rintro l k x W hx ⟨v, ⟨O, own, hb, le⟩⟩ hsW
    clear hseq N0
    have hkN : k < xs.length := (List.getElem?_eq_some_iff.1 hx).1
    have hst : (xs.map (·.1)).take (k + 1) = (xs.map (·.1)).take k ++ [x.1] := by
      rw [List.take_add_one, List.getElem?_map, hx]; rfl
    have HST := Lib.hid hst
    clear hst
    obtain ⟨ao, co, rfl, -⟩ := row_form own
    have c0 := O.cell (j := 0) rfl
    obtain ⟨s, hs⟩ : ∃ s, x.1 = s := ⟨_, rfl⟩
    rw [hs] at HST ⊢
    obtain ⟨gT, hgT⟩ : ∃ g, W.heap.size = g := ⟨_, rfl⟩
    have T0 := Blk.newV hgT 9 #[.string s]
    have hown2 : (W.alloc (.cells #[.string s] 9)).ownsRow 0 9 1 (.slice (some ⟨gT, 0, none⟩) 1 1) 1 [.string s] :=
      ⟨rfl, .inr ⟨gT, 1, #[.string s], rfl, Nat.zero_le _, T0, Nat.le_refl _, by decide, rfl, rfl⟩⟩
    have hba := (Below.refl W.heap.size W).alloc (Nat.le_refl _) (.cells #[.string s] 9)
    have hsza : (W.alloc (.cells #[.string s] 9)).heap.size = gT + 1 := by rw [← hgT]; exact Array.size_push ..
    obtain ⟨v', w5, hrun, own5, hgrow, hwhere⟩ := run_append_rows (P := Try.prog) (W.alloc (.cells #[.string s] 9)) gZ 0 45 45 9 i (.string ⟨#[]⟩) 1 16 Try.underlying45 hi hz0 hz1 hz2 rfl (by decide) _ _ _ (own_step own hba) _ _ _ hown2 (by simp [Value.oneCell']) (by unfold maxLen; omega) (by omega) (by omega)
    rw [hsza] at hwhere
    obtain ⟨a2, c2, rfl, -⟩ := row_form own5
    have rowB : ∀ r, Value.ownBlock (.slice ao k co) = some r → gZ ≤ r := fun r e => (row_ge own r e).1
    have O5 : Blk w5 gO 45 [.slice ao k co] := (hgrow.block gO (by omega) (fun e => by have := rowB gO e.symm; omega)).trans (O.step hba)
    have f5 := O5.frozen 0
    have c5 := O5.cell (j := 0) rfl
    have hk5 : ∀ j o, W.heap[j]? = some o → Value.ownBlock (.slice ao k co) ≠ some j → w5.heap[j]? = some o := fun j o hj hne => by
      have hlt := (Array.getElem?_eq_some_iff.1 hj).1
      exact (hgrow.block j (by omega) (fun e => hne e.symm)).trans ((hba.block j hlt).trans hj)
    have hsz5 : gT + 1 ≤ w5.heap.size := by rw [← hsza]; exact hgrow.size
    gi_wp2_with (gi_at_builtin; refine wpListIn_append2 rfl _ _ _ _ rfl rfl rfl hrun ?_)
    have hK : KbO gO (fun k => k = gO) W (w5.setCell ⟨gO, 0, none⟩ (.slice a2 (k + 1) c2)) := by
      refine ⟨fun j o hj hd hne hno => ?_, fun r hr => ?_, by simp; omega⟩
      · refine (Below.heap_setCell w5 ⟨gO, 0, none⟩ _ j hne).trans (hk5 j o hj (fun e => hno ⟨_, c0, e⟩))
      · obtain ⟨u, hu, hur⟩ := hr
        rw [(O5.set 0 (.slice a2 (k + 1) c2)).cell (j := 0) rfl] at hu
        cases hu
        rcases hwhere with e | e
        · exact .inl ⟨_, c0, by rw [← e]; exact hur⟩
        · rw [e] at hur; cases hur; exact .inr (by omega)
    have own9 : (w5.setCell ⟨gO, 0, none⟩ (.slice a2 (k + 1) c2)).ownsRow gZ 9 1 (.slice a2 (k + 1) c2) (k + 1) (strV ((xs.map (·.1)).take (k + 1))) := by
      rw [HST.out, strV_snoc]
      refine row_kx own5 ((Kx.refl [gO] w5).setCell (.inl (by simp)) _) (fun r hr => ?_)
      have := (row_ge own5 r hr).1
      simp; omega
    have hb5 : From w w5 := Below.grown (hb.step hba).out hgrow (by have := hb.size; omega) (fun j e => by have := rowB j e; omega)
    refine ⟨⟨hK.size, fun j o hB hj hc => ?_⟩, fun _ => hK, (.slice a2 (k + 1) c2), O5.set 0 _, own9, hb5.kx ((Kx.refl [gO] w5).setCell (.inl (by simp)) _) (by simp; omega), by simp; omega⟩
    have hne : j ≠ gO := by rintro rfl; rw [show W.heap[_]? = _ from O] at hj; cases hj; cases hc
    refine (Below.heap_setCell w5 ⟨gO, 0, none⟩ _ j hne).trans (hk5 j o hj (fun e => ?_))
    rcases own.2 with ⟨e2, -⟩ | ⟨g, c, cur, hv, hgb, hh, -⟩
    · rw [e2] at e; cases e
    · rw [hv] at e
      cases e
      rw [hh] at hj; cases hj; cases hc
  case hdone =>
    rintro Df W hD ⟨v, ⟨O, own, hb, le⟩⟩ hDf
    clear hseq N0
    rw [List.take_of_length_le (by simp)] at own
    obtain ⟨ao, co, rfl, -⟩ := row_form own
    obtain ⟨nx, hnx⟩ : ∃ n, xs.length = n := ⟨_, rfl⟩
    rw [hnx] at own O
    have c0 := O.cell (j := 0) rfl
    have f0 := O.frozen 0
    have hgOD : gO ≠ Df := by omega
    have HDf := Lib.hid hDf
    clear hDf
    gi_wp2
    have hk1 : Kx [gO] W (W.setCell ⟨gO, 0, none⟩ (.slice ao nx co)) := (Kx.refl _ W).setCell (.inl (by simp)) _
    have O2 := O.set 0 (.slice ao nx co)
    have own2 := row_kx own hk1 (fun r hr => by have := (row_ge own r hr).1; simp; omega)
    have hb9 := hb.kx hk1 (by simp; omega)
    have hDf2 := hk1.obj HDf.out (by simp; omega)
    exact leaves_list gZ [Df] rfl (fun D' h => by simp at h; subst h; exact ⟨by omega, hDf2⟩) (by simp) (v := .slice ao nx co) (fun W' hbW' hcW => by
      have O3 : Blk W' gO 45 _ := hcW _ _ O2 rfl
      have r0 := O3.cell (j := 0) rfl
      refine ⟨by simp [results, Try.results18, go_sem, r0], ⟨_, rfl, ?_⟩, Below.trans hb9.out (hbW'.mono (by omega))⟩
      exact row_strV (row_low (row_cells own2 hcW) hwZ) (by simp [hnx]))
  case hstop =>
    rintro Df c k W hD hk h hDf
    exact h.elim
end Go.Proofs.Ytceoehjjebkgpaa
