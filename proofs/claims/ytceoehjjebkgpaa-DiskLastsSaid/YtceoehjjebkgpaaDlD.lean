
/- Package disk: Names. -/
import Derived.Test.YtceoehjjebkgpaaDlC
import Derived.Test.YtceoehjjebkgpaaIterK
namespace Go.Proofs.Ytceoehjjebkgpaa
set_option linter.unusedSimpArgs false
set_option linter.unusedVariables false
open Go.RowKit Go.Maps Go.Sort Go.Shelf
attribute [local go_sem] Oper.semAt_some
theorem wpListIn_append2 {F : Fence} {n : Nat} {P : Program} {ops : Array Oper} {rest : List Oper} {o : Oper} {a : Act} {w w' : World} {Q : Exit → Act → World → Prop} (hgd : o.guard = none) (s x : Operand) (t tx : TypeId)
    (ho : o.op = .call { callee := .builtin .append, args := #[s, x], argTypes := #[t, tx] }) {v v2 v' : Value} (hs : a.eval s = v) (hx : a.eval x = v2) (hrun : (Builtin.append_ #[t, tx] o.type #[v, v2]).run P w = .ok v' w') (h : wpListIn F n P ops Q rest (a.put o.dst v') w') :
    wpListIn F n P ops Q (o :: rest) a w := by
  refine wpListIn_plain hgd fun K hK => ?_
  unfold Oper.wpIn
  refine ⟨?_, ?_⟩
  · simp [Oper.about, ho, resolve, Target.leads, Sem.run_pure]
  · rw [Oper.semAt_plain F _ _ (by rw [ho]; intro c hc'; cases hc')]
    simp [execOp, ho, resolve, invoke, builtin, hs, hx, hrun, Result.andThen]
    exact hK _ _ h
theorem StrR.kbn {ws : Nat → Prop} {A B : World} {base N cap : Nat} {ao : Option Addr} {l : List ByteArray} (h : StrR A base (.slice ao N cap) l) (hk : KbC ws A B) (hw : ∀ g, ao = some ⟨g, 0, none⟩ → ¬ ws g) : StrR B base (.slice ao N cap) l := by
  obtain ⟨ao2, cap2, hv, hc⟩ := h
  injection hv with e1 e2 e3
  subst e1 e2 e3
  refine ⟨ao, cap, rfl, fun j s hs => ?_⟩
  obtain ⟨g, h1, h2, h3⟩ := hc j s hs
  exact ⟨g, h1, h2, hk.cell h3 (hw g h1)⟩
theorem StrR.lts {A : World} {base N cap : Nat} {ao : Option Addr} {l : List ByteArray} (h : StrR A base (.slice ao N cap) l) (hN : 0 < l.length) : ∃ g, ao = some ⟨g, 0, none⟩ ∧ g < A.heap.size := by
  obtain ⟨ao2, cap2, hv, hc⟩ := h
  injection hv with e1 e2 e3
  subst e1
  obtain ⟨g, h1, -, h3⟩ := hc 0 l[0] (List.getElem?_eq_getElem hN)
  exact ⟨g, h1, World.block_lt_of_cell? A _ h3⟩
theorem KbO.c {g : Nat} {ws : Nat → Prop} {A B : World} (h : KbO g ws A B) : KbC (fun k => ws k ∨ OwnB A g k) A B := fun k o hk hd hn => h.keep k o hk hd (fun e => hn (.inl e)) (fun e => hn (.inr e))
set_option maxRecDepth 100000 in
set_option maxHeartbeats 4000000 in
theorem dall_xsO (gO b d mb : Nat) (D : Ds) (L : FMap) (w : World) (hB : Boxed w b 25 (.pointer (some ⟨d, 0, none⟩))) (h : DkW w d mb D L) (hn : L.length ≤ 1000)
    (hk : ∀ p ∈ L, okS p.1) (hO : w.cell? ⟨gO, 0, none⟩ = some (.slice none 0 0)) (h1 : b ≠ gO) (h2 : d ≠ gO) (h3 : mb ≠ gO) :
    SeqXs Try.prog 41 #[.pointer (some ⟨b, 0, none⟩)] fEnc (srt L) (KpO gO (fun k => k = gO)) w := by
  obtain ⟨xs, hxs⟩ : ∃ xs, srt L = xs := ⟨_, rfl⟩
  have cS := fun W hM => sorted7_c mb L W hM hn
  have hmem : ∀ (k : Nat) x, xs[k]? = some x → x ∈ L := fun k x hx => (srt_perm L).mem_iff.1 (by rw [hxs]; exact List.mem_of_getElem? hx)
  obtain ⟨N, hN⟩ : ∃ N, xs.length = N := ⟨_, rfl⟩
  have hNI : (N : Int) ≤ 1000 := by rw [← hN, ← hxs, srt_len]; omega
  rw [hxs] at cS ⊢
  intro l J Jx W hW hJ hJx hY h0
  have hzW := hW.size
  have hgO := World.block_lt_of_cell? w _ hO
  have hOW := (hW.cell hgO).trans hO
  have hB' := box_below hB hW hB.lt
  have h' := h.step hW
  have c0 := hB'.cell
  have c1 := h'.c1
  have hM := h'.map
  have hbl := hB'.lt
  have hdl := h'.lt
  have hml := h'.ltb
  have hgl : gO < W.heap.size := Nat.lt_of_lt_of_le hgO hzW
  clear hB h hO hgO
  have HY := Lib.hid hY
  clear hY
  refine callsIn_of_wp Try.func41 rfl trivial ?_ rfl
  simp only [Try.ntmps41, List.size_toArray, List.length_cons, List.length_nil, Nat.reduceAdd, Nat.reduceSub, Array.replicate_succ, Array.replicate_zero, List.push_toArray, List.append_toArray, List.nil_append, List.cons_append]
  gi_wp2_with (apply wpIn_label)
  refine ⟨trivial, ?_⟩
  refine (callsIn_wide.2 (dnone_at d mb _ c1)).mono ?_
  rintro e wx ⟨rfl, rfl⟩
  gi_wp2_with (apply wpIn_label)
  refine ⟨trivial, ?_⟩
  refine (callsIn_wide.2 (keys7_c (some mb) _)).mono ?_
  rintro e wy ⟨rfl, rfl⟩
  gi_wp2_with (apply wpIn_label)
  refine ⟨trivial, ?_⟩
  refine (callsIn_wide.2 (cS _ hM)).mono ?_
  rintro e w2 ⟨⟨v, rfl, hS⟩, hb2⟩
  have hB2 := box_below hB' hb2 hB'.lt
  have hc2 := (hb2.cell (World.block_lt_of_cell? W _ c1)).trans c1
  have hM2 := MapG.step hM hb2
  have hJ2 := abides_below hJ h0 hb2
  have hO2 := (hb2.cell hgl).trans hOW
  have hs2 := hb2.size
  obtain ⟨G, hG⟩ : ∃ G, w2.heap.size = G := ⟨_, rfl⟩
  rw [hG] at hs2
  have hno2 : Hid (∀ r, r < G → ¬ OwnB w2 gO r) := Lib.hid (fun r _ ⟨v, hv, hr⟩ => by rw [hO2] at hv; cases hv; cases hr)
  obtain ⟨ao, cap, rfl, hC⟩ := hS
  have hlx : (xs.map (·.1)).length = N := by rw [List.length_map, hN]
  rw [hlx]
  have HS : StrR w2 W.heap.size (.slice ao N cap) (xs.map (·.1)) := ⟨ao, cap, by rw [hlx], hC⟩
  have hrow : Hid (∀ g, 0 < N → ao = some ⟨g, 0, none⟩ → g < G) := Lib.hid (fun g hN0 hg => by
    obtain ⟨g2, e1, e2⟩ := HS.lts (by omega)
    rw [hg] at e1
    cases e1
    omega)
  clear hB' c0 c1 hM h0 hb2 hC hO2 hOW h'
  gi_wp2_with fail
  gi_loopw [14] (fun i wr => ∃ k : Nat, k ≤ N ∧ i = .int .i64 k ∧ StrR wr W.heap.size (.slice ao N cap) (xs.map (·.1)) ∧ Boxed wr b 25 (.pointer (some ⟨d, 0, none⟩)) ∧ wr.cell? ⟨d, 1, none⟩ = some (.map (some mb)) ∧ MapD wr mb L ∧ J k wr ∧ Hid (∀ r, r < G → ¬ OwnB wr gO r) ∧ Hid (G ≤ wr.heap.size)) (fun i _ => N - (intOf i).toNat)
  case atStart => exact ⟨0, by omega, rfl, HS, hB2, hc2, hM2, hJ2, hno2, Lib.hid (by omega)⟩
  case round =>
    clear HS hB2 hc2 hM2 hJ2 hno2
    obtain ⟨k, hkN, rfl, hSr, hBr, hcr, hMr, hJr, hnr, hGr⟩ := hrel
    by_cases hlt : k < N
    · obtain ⟨x, hx⟩ : ∃ x, xs[k]? = some x := ⟨xs[k], by simp [hN, hlt]⟩
      have hxm := hmem k x hx
      obtain ⟨ao2, cap2, hv2, hC⟩ := id hSr
      obtain ⟨g, hao, hgb, hcell⟩ := hC k x.1 (by rw [List.getElem?_map, hx]; rfl)
      injection hv2 with e1 e2 e3
      subst e1
      clear e2 e3
      have c0 := hBr.cell
      have hlk := MapG.look1 hMr keyS Try.underlying53 (zero_file wr) x.1 (hk x hxm)
      rw [getG_mem (MapG.nodup hMr) hxm] at hlk
      simp only at hlk
      obtain ⟨fn, tmps, assign, body, hy, hR⟩ := HY.out k _ _ hx hJr
      have HR := Lib.hid hR
      have hgG := hrow.out g (by omega) hao
      subst hao
      clear hR hJr hxm hC hmem
      have HX := Lib.hid hx
      clear hx
      dsimp only [fEnc] at hy
      have hj0 : (0 : Int) ≤ (k : Int) := by omega
      have hj1 : (k : Int) < (N : Int) := by omega
      gi_wp2_with fail
      refine HR.out.mono ?_
      rintro e W3 (⟨rfl, hJ3, hKp⟩ | ⟨rfl, hJx3⟩)
      · have hK := hKp (by have := hGr.out; omega)
        have hK3 := hK.c
        have hno : ∀ r, r < G → r ≠ gO → ¬ (r = gO ∨ OwnB wr gO r) := fun r hr hne h => h.elim hne (hnr.out r hr)
        have hgO2 : g ≠ gO := by omega
        have hS3 := hSr.kbn hK3 (fun g' e => by cases e; exact hno g hgG hgO2)
        have hB3 := hK3.box hBr (hno b (by omega) h1)
        have hc3 := hK3.cell hcr (hno d (by omega) h2)
        have hM3 : MapD W3 mb L := by
          obtain ⟨es, clock, hes, hrest⟩ := hMr
          exact ⟨es, clock, hK3 mb _ hes rfl (hno mb (by omega) h3), hrest⟩
        have hn3 : Hid (∀ r, r < G → ¬ OwnB W3 gO r) := Lib.hid (fun r hr h => (hK.own r h).elim (hnr.out r hr) (fun h => by have := hGr.out; omega))
        have hG3 : Hid (G ≤ W3.heap.size) := Lib.hid (Nat.le_trans hGr.out hK.size)
        clear hy HR hKp hK hK3 hno
        gi_wp2
        go_roundw
        case rel => exact ⟨k + 1, by omega, by go_num, hS3, hB3, hc3, hM3, hJ3, hn3, hG3⟩
        case measure => simp [intOf]; omega
      · clear hy HR
        gi_wp2
        (try simp only [Exit.inBlock, Exit.then])
        refine bodyPost_ret (results_none rfl _ _ _) rfl ?_
        exact ⟨⟨_, rfl⟩, .inr ⟨k, by omega, hJx3⟩⟩
    · obtain rfl : k = N := by omega
      gi_wp2
      (try rw [Exit.noGoto_normal])
      refine bodyPost_end (results_none rfl _ _ _) rfl ?_
      exact ⟨⟨_, rfl⟩, .inl (by rw [hN]; exact hJr)⟩
theorem info_strD : (Try.prog.info? 9).map (fun i => (i.zero, i.size, i.bytes)) = some (some (.string ⟨#[]⟩), 1, 16) := by kernel_rfl
def strV (l : List ByteArray) : List Value := l.map Value.string
/-- The names told so far. -/
structure NmI (w : World) (gO gZ k : Nat) (l : List ByteArray) (v : Value) (W : World) : Prop where
  O : Blk W gO 45 [v]
  own : W.ownsRow gZ 9 1 v k (strV l)
  hb : From w W
  le : gZ ≤ W.heap.size
theorem NmI.ownFrom {w : World} {gO gZ : Nat} (f : Nat → List ByteArray) (h1 : gO < gZ) (h4 : w.heap.size ≤ gZ) : OwnFrom gZ (fun (k : Nat) W => ∃ v, NmI w gO gZ k (f k) v W) := by
  rintro k W W' row ⟨v, ⟨O, own, hb, le⟩⟩ hg hr
  have key : ∀ j, j < gZ → W'.heap[j]? = W.heap[j]? := fun j hj => hg.block j (by omega) (fun e => by have := (hr j e.symm).1; omega)
  refine ⟨v, (key gO h1).trans O, ?_, Below.grown hb.out hg (by have := hb.size; omega) (fun j e => by have := (hr j e).1; omega), Nat.le_trans le hg.size⟩
  refine ⟨own.1, ?_⟩
  rcases own.2 with h | ⟨g, c, cur, hv, hgb, hh, r⟩
  · exact .inl h
  · refine .inr ⟨g, c, cur, hv, hgb, (hg.block g (Array.getElem?_eq_some_iff.1 hh).1 (fun e => ?_)).trans hh, r⟩
    obtain ⟨-, o, ho, hoc⟩ := hr g e.symm
    rw [hh] at ho
    cases ho
    cases hoc
theorem row_strV {W : World} {base n : Nat} {v : Value} {l : List ByteArray} (h : W.ownsRow base 9 1 v n (strV l)) (hn : n = l.length) : StrR W base v l := by
  subst hn
  obtain ⟨h1, ⟨rfl, h3⟩ | ⟨g, cap, cur, rfl, hg, hh, hle, hm, hs, htk⟩⟩ := id h
  · refine ⟨none, 0, by rw [h3], fun j s hs => ?_⟩
    have := (List.getElem?_eq_some_iff.1 hs).1
    omega
  · refine ⟨_, cap, rfl, fun j s hs => ⟨g, rfl, hg, ?_⟩⟩
    have := World.ownsRow.cells h (g := g) rfl j (.string s) (by simp [strV, hs])
    simpa [Addr.add_lit] using this
end Go.Proofs.Ytceoehjjebkgpaa
