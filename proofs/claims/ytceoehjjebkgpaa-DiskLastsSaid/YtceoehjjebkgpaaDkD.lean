
/- Package disk: all goes over the files. -/
import Derived.Test.YtceoehjjebkgpaaDkC
import Derived.Test.YtceoehjjebkgpaaIterD
namespace Go.Proofs.Ytceoehjjebkgpaa
set_option linter.unusedSimpArgs false
set_option linter.unusedVariables false
open Go.RowKit Go.Maps Go.Sort Go.Shelf
attribute [local go_sem] Oper.semAt_some
theorem keys7_c (mb : Option Nat) (W : World) : Calls Try.prog 43 #[.map mb] W fun e w' => e = .returned (.func (.func 50) #[] #[.pointer (some ⟨W.heap.size, 0, none⟩)]) ∧ w' = W.alloc (.cells #[.map mb] 53) :=
  callsIn_wide.1 (keys7_in mb W)
/-- Texts as they lie, in a slice. -/
def StrR (W : World) (base : Nat) (v : Value) (l : List ByteArray) : Prop := ∃ ao cap, v = .slice ao l.length cap ∧ ∀ j s, l[j]? = some s → ∃ g, ao = some ⟨g, 0, none⟩ ∧ base ≤ g ∧ W.cell? ⟨g, j, none⟩ = some (.string s)
theorem KbC.cell {ws : Nat → Prop} {A B : World} (h : KbC ws A B) {g j : Nat} {v : Value} (hc : A.cell? ⟨g, j, none⟩ = some v) (hn : ¬ ws g) : B.cell? ⟨g, j, none⟩ = some v := by
  unfold World.cell? at hc ⊢
  cases hg : A.heap[g]? with
  | none => simp [hg] at hc
  | some o =>
    cases o <;> simp [hg] at hc
    next cs t fz =>
      rw [h g _ hg rfl hn]
      simpa using hc
theorem StrR.kb {ws : Nat → Prop} {A B : World} {base : Nat} {v : Value} {l : List ByteArray} (h : StrR A base v l) (hk : KbC ws A B) (hw : ∀ k, ws k → k < base) : StrR B base v l := by
  obtain ⟨ao, cap, hv, hc⟩ := h
  refine ⟨ao, cap, hv, fun j s hs => ?_⟩
  obtain ⟨g, h1, h2, h3⟩ := hc j s hs
  exact ⟨g, h1, h2, hk.cell h3 (fun hg => by have := hw g hg; omega)⟩
theorem StrR.step {A B : World} {base : Nat} {v : Value} {l : List ByteArray} (h : StrR A base v l) (hb : Below A.heap.size A B) : StrR B base v l := by
  obtain ⟨ao, cap, hv, hc⟩ := h
  refine ⟨ao, cap, hv, fun j s hs => ?_⟩
  obtain ⟨g, h1, h2, h3⟩ := hc j s hs
  exact ⟨g, h1, h2, (hb.cell (World.block_lt_of_cell? A _ h3)).trans h3⟩
theorem row_str {W : World} {base n : Nat} {v : Value} {xs : List BL} {l : List ByteArray} (h : W.ownsRow base 9 1 v n (xs.map encStr)) (hx : xs = l.map nmK) (hn : n = l.length) : StrR W base v l := by
  subst hx hn
  obtain ⟨h1, ⟨rfl, h3⟩ | ⟨g, cap, cur, rfl, hg, hh, r⟩⟩ := id h
  · refine ⟨none, 0, by rw [h3], fun j s hs => ?_⟩
    rw [List.eq_nil_of_length_eq_zero h3] at hs
    simp at hs
  · refine ⟨_, cap, rfl, fun j s hs => ⟨g, rfl, hg, ?_⟩⟩
    have := World.ownsRow.cells h (g := g) rfl j (.string s) (by
      rw [List.getElem?_map, List.getElem?_map, hs]
      obtain ⟨⟨d⟩⟩ := s
      simp [encStr, nmK])
    simpa [Addr.add_lit] using this
theorem srt_len (L : FMap) : (srt L).length = L.length := (srt_perm L).length_eq
theorem sorted7_c (b : Nat) (L : FMap) (w : World) (h : MapD w b L) (hn : L.length ≤ 1000) :
    Calls Try.prog 42 #[.func (.func 50) #[] #[.pointer (some ⟨w.heap.size, 0, none⟩)]] (w.alloc (.cells #[.map (some b)] 53)) fun e w' => (∃ v, e = .returned v ∧ StrR w' w.heap.size v ((srt L).map (·.1))) ∧ Below w.heap.size w w' := by
  obtain ⟨D0, hown, hp, hs⟩ := keys_mapD h
  refine (callsIn_wide.1 (sorted7_in b L.length D0 heldR w hown (by rw [hs]; unfold maxLen; omega) (by rw [hs]; omega))).mono ?_
  rintro e w' ⟨v, ss, rfl, hS, hrow, -, hb⟩
  have hk := srt_keys (hS.trans hp)
  have hl : ss.length = ((srt L).map (·.1)).length := by
    have := (hS.trans hp).length_eq
    simp at this ⊢
    rw [srt_len]; omega
  have hle : w.heap.size ≤ (w.alloc (.cells #[.map (some b)] 53)).heap.size := by simp
  refine ⟨⟨v, rfl, ?_⟩, ((Below.refl _ w).alloc (Nat.le_refl _) _).trans (hb.mono hle)⟩
  have := row_str (l := (srt L).map (·.1)) hrow (by rw [hk, List.map_map]; rfl) hl
  obtain ⟨ao, cap, hv, hc⟩ := this
  refine ⟨ao, cap, hv, fun j s hs => ?_⟩
  obtain ⟨g, h1, h2, h3⟩ := hc j s hs
  exact ⟨g, h1, by omega, h3⟩
theorem zero_file (W : World) : (zeroValue 61).run Try.prog W = .ok (.agg #[.slice none 0 0, .int .i64 0]) W := by kernel_rfl
def fEnc (p : ByteArray × Fm) : Array Value := #[.string p.1, fmV p.2]
def allF (b : Nat) : Value := .func (.func 41) #[] #[.pointer (some ⟨b, 0, none⟩)]
set_option maxRecDepth 100000 in
set_option maxHeartbeats 1000000 in
theorem dall_any (p : Value) (hp1 : p.oneCell' = true) (w : World) : Calls Try.prog 28 #[p] w fun e w' => (∃ b, e = .returned (allF b) ∧ Boxed w' b 25 p ∧ w.heap.size ≤ b) ∧ Below w.heap.size w w' := by
  have hbx := Boxed.new w 25 p
  have hb := (Below.refl w.heap.size w).alloc (Nat.le_refl _) (.cells #[p] 25)
  have hpc : p.cells = #[p] := by cases p <;> first | rfl | cases hp1
  go_enter Try.func28, Try.ntmps28
  go_wp2_with fail
  go_ret
  exact ⟨⟨_, rfl, hbx, Nat.le_refl _⟩, hb⟩
set_option maxRecDepth 100000 in
set_option maxHeartbeats 4000000 in
theorem dall_xs (ws : Nat → Prop) (b d mb : Nat) (D : Ds) (L : FMap) (w : World) (hB : Boxed w b 25 (.pointer (some ⟨d, 0, none⟩))) (h : DkW w d mb D L) (hn : L.length ≤ 1000)
    (hk : ∀ p ∈ L, okS p.1) (hws : ∀ k, ws k → k < w.heap.size) (h1 : ¬ ws b) (h2 : ¬ ws d) (h3 : ¬ ws mb) :
    SeqXs Try.prog 41 #[.pointer (some ⟨b, 0, none⟩)] fEnc (srt L) (KbC ws) w := by
  obtain ⟨xs, hxs⟩ : ∃ xs, srt L = xs := ⟨_, rfl⟩
  have cS := fun W hM => sorted7_c mb L W hM hn
  have hmem : ∀ (k : Nat) x, xs[k]? = some x → x ∈ L := fun k x hx => (srt_perm L).mem_iff.1 (by rw [hxs]; exact List.mem_of_getElem? hx)
  obtain ⟨N, hN⟩ : ∃ N, xs.length = N := ⟨_, rfl⟩
  have hNI : (N : Int) ≤ 1000 := by rw [← hN, ← hxs, srt_len]; omega
  rw [hxs] at cS ⊢
  intro l J Jx W hW hJ hJx hY h0
  have hzW := hW.size
  have hB' := box_below hB hW hB.lt
  have h' := h.step hW
  have c0 := hB'.cell
  have c1 := h'.c1
  have hM := h'.map
  clear hB h
  have HY := Lib.hid hY
  clear hY
  refine callsIn_of_wp Try.func41 rfl trivial ?_ rfl
  simp only [Try.ntmps41, List.size_toArray, List.length_cons, List.length_nil, Nat.reduceAdd, Nat.reduceSub, Array.replicate_succ, Array.replicate_zero, List.push_toArray, List.append_toArray, List.nil_append, List.cons_append]
  gi_wp2_with (apply wpIn_label)
  refine ⟨trivial, ?_⟩
  refine (callsIn_wide.2 (dnone_at d mb _ c1)).mono ?_
  rintro e wx ⟨rfl, rfl⟩
  gi_wp2_with (apply wpIn_label)
  refine ⟨trivial, ?_⟩
  refine (callsIn_wide.2 (keys7_c (some mb) _)).mono ?_
  rintro e wy ⟨rfl, rfl⟩
  gi_wp2_with (apply wpIn_label)
  refine ⟨trivial, ?_⟩
  refine (callsIn_wide.2 (cS _ hM)).mono ?_
  rintro e w2 ⟨⟨v, rfl, hS⟩, hb2⟩
  have hB2 := box_below hB' hb2 hB'.lt
  have hc2 := (hb2.cell (World.block_lt_of_cell? W _ c1)).trans c1
  have hM2 := MapG.step hM hb2
  have hJ2 := abides_below hJ h0 hb2
  obtain ⟨ao, cap, rfl, hC⟩ := hS
  have hlx : (xs.map (·.1)).length = N := by rw [List.length_map, hN]
  rw [hlx]
  have HS : StrR w2 W.heap.size (.slice ao N cap) (xs.map (·.1)) := ⟨ao, cap, by rw [hlx], hC⟩
  clear hB' c0 c1 hM h0 hb2 hC
  gi_wp2_with fail
  gi_loopw [14] (fun i wr => ∃ k : Nat, k ≤ N ∧ i = .int .i64 k ∧ StrR wr W.heap.size (.slice ao N cap) (xs.map (·.1)) ∧ Boxed wr b 25 (.pointer (some ⟨d, 0, none⟩)) ∧ wr.cell? ⟨d, 1, none⟩ = some (.map (some mb)) ∧ MapD wr mb L ∧ J k wr) (fun i _ => N - (intOf i).toNat)
  case atStart => exact ⟨0, by omega, rfl, HS, hB2, hc2, hM2, hJ2⟩
  case round =>
    clear HS hB2 hc2 hM2 hJ2
    obtain ⟨k, hkN, rfl, hSr, hBr, hcr, hMr, hJr⟩ := hrel
    by_cases hlt : k < N
    · obtain ⟨x, hx⟩ : ∃ x, xs[k]? = some x := ⟨xs[k], by simp [hN, hlt]⟩
      have hxm := hmem k x hx
      obtain ⟨ao2, cap2, hv2, hC⟩ := id hSr
      obtain ⟨g, hao, hgb, hcell⟩ := hC k x.1 (by rw [List.getElem?_map, hx]; rfl)
      injection hv2 with e1 e2 e3
      subst e1 hao
      clear e2 e3
      have c0 := hBr.cell
      have hlk := MapG.look1 hMr keyS Try.underlying53 (zero_file wr) x.1 (hk x hxm)
      rw [getG_mem (MapG.nodup hMr) hxm] at hlk
      simp only at hlk
      obtain ⟨fn, tmps, assign, body, hy, hR⟩ := HY.out k _ _ hx hJr
      have HR := Lib.hid hR
      clear hR hJr hxm hC hmem
      have HX := Lib.hid hx
      clear hx
      dsimp only [fEnc] at hy
      have hj0 : (0 : Int) ≤ (k : Int) := by omega
      have hj1 : (k : Int) < (N : Int) := by omega
      gi_wp2_with fail
      refine HR.out.mono ?_
      rintro e W3 (⟨rfl, hJ3, hK3⟩ | ⟨rfl, hJx3⟩)
      · have hS3 := hSr.kb hK3 (fun q hq => by have := hws q hq; omega)
        have hB3 := hK3.box hBr h1
        have hc3 := hK3.cell hcr h2
        have hM3 : MapD W3 mb L := by
          obtain ⟨es, clock, hes, hrest⟩ := hMr
          exact ⟨es, clock, hK3 mb _ hes rfl h3, hrest⟩
        clear hy HR
        gi_wp2
        go_roundw
        case rel => exact ⟨k + 1, by omega, by go_num, hS3, hB3, hc3, hM3, hJ3⟩
        case measure => simp [intOf]; omega
      · clear hy HR
        gi_wp2
        (try simp only [Exit.inBlock, Exit.then])
        refine bodyPost_ret (results_none rfl _ _ _) rfl ?_
        exact ⟨⟨_, rfl⟩, .inr ⟨k, by omega, hJx3⟩⟩
    · obtain rfl : k = N := by omega
      gi_wp2
      (try rw [Exit.noGoto_normal])
      refine bodyPost_end (results_none rfl _ _ _) rfl ?_
      exact ⟨⟨_, rfl⟩, .inl (by rw [hN]; exact hJr)⟩
end Go.Proofs.Ytceoehjjebkgpaa
