
/- The keys of a map of pairs, in whatever order they come; slices.Collect of them. -/
import Derived.Test.YthhpblchiodahaaGreatDoorIterK
import Derived.Test.YthhpblchiodahaaGreatDoorLnA
import Derived.Sort.MapsRangeIn
import Derived.Maps.RangeWalk
import Derived.Laws.IdiomRangeMap
import Derived.Maps.AppendAt
import Derived.RangeFuncBox
import Derived.Lib.SlMapEqual
import Derived.Deep.LoopGhost
import Derived.OwnWalkIn
import Derived.TacticsInMore
import Derived.LoopNIn
import Derived.LoopIn
import Derived.BigGuardIn
import Derived.OwnWalk
import Derived.Sort.CutIn
namespace Go.Proofs.YthhpblchiodahaaGreatDoor
set_option linter.unusedSimpArgs false
set_option linter.unusedVariables false
open Go.RowKit Go.Maps Go.WideElems
open Go.WideShapes (sorted_perm)
attribute [local go_sem] Oper.semAt_some
theorem MapG.own2 {P : Program} {k : TypeId} {α β : Type} {ek : α → Value} {ev : β → Value} {W : World} {b : Nat} {L : List (α × β)} (h : MapG P k ek ev W b L) (K : Keyed P k) :
    ∃ D : DataW Value, W.ownsMap P k heldR b L.length D ∧ Maps.size D = L.length ∧ (∀ key c kl, keyOf P k key = some kl → (∀ zd, D.atKey kl zd = .held c) → ∃ p ∈ L, key = ek p.1 ∧ c = ev p.2) ∧
      (∀ p ∈ L, ∀ kl, keyOf P k (ek p.1) = some kl → Maps.has D kl = true) ∧ (∀ p ∈ L, ∃ kl, keyOf P k (ek p.1) = some kl) := by
  obtain ⟨es, clock, hb, F, hp, hn⟩ := h
  have hs := hp.length_eq
  simp only [List.length_map, Array.length_toList] at hs
  have hown : W.ownsMap P k heldR b L.length (.map ((es.toList.map (rg P k heldR)).foldr DataW.insert [])) := ⟨es, clock, hb, F, by omega, rfl⟩
  refine ⟨_, hown, ?_, fun key c kl hk hat => ?_, fun p hp2 kl hkl => ?_, fun p hp2 => ?_⟩
  · simp [Maps.size, length_sorted]; omega
  · obtain ⟨es1, he1, hap, hkeys⟩ := World.ownsMap.entries hown K
    rw [he1] at hat
    have hm := Maps.came_mem hap hkeys hat
    have he2 : es1 = (es.toList.map (rg P k heldR)).foldr DataW.insert [] := by injection he1.symm
    rw [he2] at hm
    have hm2 := (sorted_perm _).mem_iff.1 hm
    obtain ⟨x, hx, hrx⟩ := List.mem_map.1 hm2
    obtain ⟨l, h1, h2⟩ := rg_held F hx
    rw [h2] at hrx
    obtain ⟨rfl, h4⟩ := Prod.mk.inj hrx
    have h5 : x.val = c := by injection h4
    have h6 : x.key = key := K.inj h1 hk
    have h7 := hp.mem_iff.1 (List.mem_map.2 ⟨x, hx, rfl⟩)
    obtain ⟨p, hpL, hpe⟩ := List.mem_map.1 h7
    refine ⟨p, hpL, ?_, ?_⟩
    · rw [← h6]; exact (congrArg Prod.fst hpe).symm
    · rw [← h5]; exact (congrArg Prod.snd hpe).symm
  · obtain ⟨x, hx, hxe⟩ := List.mem_map.1 (hp.mem_iff.2 (List.mem_map.2 ⟨p, hp2, rfl⟩))
    obtain ⟨l, h1, h2⟩ := rg_held F hx
    have e1 : x.key = ek p.1 := congrArg Prod.fst hxe
    rw [e1, hkl] at h1
    cases h1
    exact List.any_eq_true.2 ⟨rg P k heldR x, mem_sorted.2 (List.mem_map.2 ⟨x, hx, rfl⟩), by rw [h2]; exact WideAt.sameKey_self (K.key hkl)⟩
  · obtain ⟨x, hx, hxe⟩ := List.mem_map.1 (hp.mem_iff.2 (List.mem_map.2 ⟨p, hp2, rfl⟩))
    obtain ⟨l, h1, h2⟩ := rg_held F hx
    have e1 : x.key = ek p.1 := congrArg Prod.fst hxe
    rw [e1] at h1
    exact ⟨l, h1⟩
/-- The keys that have come, among those that there are. -/
structure Came (P : Program) (k : TypeId) {α : Type} (ek : α → Value) (K0 ss : List α) (left : Lit → Bool) : Prop where
  nd : ss.Nodup
  sub : ∀ z ∈ ss, z ∈ K0
  iff : ∀ z ∈ K0, ∀ kl, keyOf P k (ek z) = some kl → (left kl = true ↔ z ∉ ss)
theorem Came.step {P : Program} {k : TypeId} {α : Type} {ek : α → Value} {K0 ss : List α} {left : Lit → Bool} (h : Came P k ek K0 ss left) (K : Keyed P k) (hinj : ∀ x y, ek x = ek y → x = y) {x : α} {kl : Lit} (hx : x ∈ K0) (hk : keyOf P k (ek x) = some kl) (hl : left kl = true) :
    Came P k ek K0 (ss ++ [x]) (fun z => left z && !z.sameKey kl) := by
  have hxs := (h.iff x hx kl hk).1 hl
  refine ⟨List.nodup_append.2 ⟨h.nd, by simp, fun a ha b hb => by simp at hb; subst hb; exact fun e => hxs (e ▸ ha)⟩, fun z hz => ?_, fun z hz kz hkz => ?_⟩
  · rcases List.mem_append.1 hz with hz | hz
    · exact h.sub z hz
    · rw [List.mem_singleton.1 hz]; exact hx
  · have h1 := h.iff z hz kz hkz
    have h2 : kz.sameKey kl = true ↔ z = x := by
      refine ⟨fun e => ?_, fun e => ?_⟩
      · have := WideAt.sameKey_eq e
        subst this
        exact hinj _ _ (K.inj hkz hk)
      · subst e
        rw [hk] at hkz
        cases hkz
        exact WideAt.sameKey_self (K.key hk)
    simp only [Bool.and_eq_true, Bool.not_eq_true', List.mem_append, List.mem_singleton, not_or]
    rw [h1]
    refine and_congr Iff.rfl ?_
    rw [← h2]
    simp
theorem Came.all {P : Program} {k : TypeId} {α : Type} {ek : α → Value} {K0 ss : List α} {left : Lit → Bool} (h : Came P k ek K0 ss left) (hn : K0.Nodup) (hr : ∀ z ∈ K0, ∃ kl, keyOf P k (ek z) = some kl) (hl : ∀ kl, left kl = false) : ss.Perm K0 := by
  refine (List.perm_ext_iff_of_nodup h.nd hn).2 (fun z => ⟨h.sub z, fun hz => ?_⟩)
  obtain ⟨kl, hk⟩ := hr z hz
  exact Classical.byContradiction fun hm => by
    have := (h.iff z hz kl hk).2 hm
    rw [hl] at this
    cases this
set_option maxRecDepth 100000 in
set_option maxHeartbeats 4000000 in
theorem keysB_gives (Bm b : Nat) (L : HMap) (w : World) (hm : Blk w Bm 60 [.map (some b)]) (hM : MapH w b L) :
    SeqGives Fence.wide 2 Tryz.prog 121 #[.pointer (some ⟨Bm, 0, none⟩)] ekB (fun ss => ss.Perm (L.map (·.1))) L.length w := by
  intro l J W hW hJ hY h0
  have hm' := hm.below hW hm.lt
  have hM' : MapH W b L := by
    have hbl := MapG.lt hM
    exact MapG.heap hM (hW.block b hbl)
  have hnd := MapG.nodup hM'
  obtain ⟨D0, hown, hsz, hent, hhas, hrd⟩ := MapG.own2 hM' keyB.keyed
  obtain ⟨K0, hK0⟩ : ∃ K0, L.map (·.1) = K0 := ⟨_, rfl⟩
  have hhas2 : ∀ z ∈ K0, ∀ kl, keyOf Tryz.prog 66 (ekB z) = some kl → Maps.has D0 kl = true := fun z hz kl hk => by
    rw [← hK0] at hz
    obtain ⟨p, hp, rfl⟩ := List.mem_map.1 hz
    exact hhas p hp kl hk
  have hrd2 : ∀ z ∈ K0, ∃ kl, keyOf Tryz.prog 66 (ekB z) = some kl := fun z hz => by
    rw [← hK0] at hz
    obtain ⟨p, hp, rfl⟩ := List.mem_map.1 hz
    exact hrd p hp
  have hkey : ∀ p ∈ L, p.1 ∈ K0 := fun p hp => by rw [← hK0]; exact List.mem_map.2 ⟨p, hp, rfl⟩
  rw [hK0] at hnd ⊢
  have hKl : K0.length = L.length := by rw [← hK0]; simp
  obtain ⟨N, hN⟩ : ∃ N, L.length = N := ⟨_, rfl⟩
  rw [hN] at hown hsz hY hKl
  have K := keyB.keyed
  have c0 := hm'.cell (j := 0) rfl
  clear hm hM hm' hM' hhas hrd hK0
  have HY := Lib.hid hY
  clear hY
  refine callsIn_of_wp Tryz.func121 rfl trivial ?_ rfl
  simp only [Tryz.ntmps121, List.size_toArray, List.length_cons, List.length_nil, Nat.reduceAdd, Nat.reduceSub, Array.replicate_succ, Array.replicate_zero, List.push_toArray, List.append_toArray, List.nil_append, List.cons_append]
  gi_wp2_with (first
    | (gi_at_range; refine wpListIn_range_own _ rfl _ 60 rfl 66 121 K Tryz.underlying60 heldR b N _ rfl hown ?_; intro w0 hrg0 hg0 hs0)
    | gi_in)
  go_frame
  have hC0 : Came Tryz.prog 66 ekB K0 [] (Maps.has D0) := ⟨List.nodup_nil, fun z h => (by cases h), fun z hz kl hk => ⟨fun _ h => (by cases h), fun _ => hhas2 z hz kl hk⟩⟩
  have hJ0 := hJ [] W w0 none h0 hg0 (fun r e => by cases e)
  clear hhas2 c0 hown h0
  gi_loopw [3] (fun _ wr => ∃ (left : Lit → Bool) (cnt : Nat) (ss : List (Int × Int)), wr.ranges Tryz.prog 66 heldR b W.heap.size N D0 left cnt ∧ ss.length + cnt ≤ N ∧ Hid (Came Tryz.prog 66 ekB K0 ss left) ∧ J ss wr)
    (fun _ wr => wr.rangeLeft b W.heap.size)
  case atStart => exact ⟨_, _, [], hrg0, by simp; omega, Lib.hid hC0, hJ0⟩
  case round =>
    clear hC0 hJ0 hrg0 hs0 hg0
    obtain ⟨left, cnt, ss, hrg, hcs, hC, hJs⟩ := hrel
    gi_wp2_with (first
      | (gi_at_next; refine wpListIn_next_ranges _ rfl _ rfl 66 K heldR id id (fun key _ _ => ⟨key, rfl⟩) (fun v _ _ => ⟨v, rfl⟩) b W.heap.size N _ _ _ rfl hrg ?_ ?_)
      | gi_in)
    · intro hc0 hl0
      gi_wp2
      go_end0
      exact ⟨⟨_, rfl⟩, ss, hC.out.all hnd hrd2 hl0, hJs⟩
    · intro x c kl yd yp w2 cnt2 hkx hlk hv hat hrg2 hlt hg2 hs2 hen
      have hyd : yd = .held c := by unfold heldR at hv; simp at hv; exact hv.1.symm
      have hat2 : ∀ zd, D0.atKey kl zd = .held c := fun zd => by rw [← hyd]; exact hat zd
      obtain ⟨p, hp, hxe, -⟩ := hent x c kl hkx hat2
      (try simp only [id] at hxe hkx)
      subst hxe
      have hC2 := hC.out.step K keyB.inj (hkey p hp) hkx hlk
      have hJ2 : J ss w2 := hJ ss wr w2 (some W.heap.size) hJs hg2 (fun r e => by cases e; exact ⟨Nat.le_refl _, hrg.iter_walk⟩)
      obtain ⟨⟨kr, kp⟩, hke⟩ : ∃ z, p.1 = z := ⟨_, rfl⟩
      rw [hke] at hen hC2 ⊢
      dsimp only [ekB, id] at hen ⊢
      have hb := From.refl w2
      clear hs2 hat hat2 hv hyd hp
      gi_upto_region 3 with fail
      obtain ⟨gX, hgX⟩ : ∃ g, (w2).heap.size = g := ⟨_, rfl⟩
      have X := Blk.newV hgX 66 #[.int .i64 kr, .int .i64 kp]
      have hbn := (Below.refl (w2).heap.size w2).alloc (Nat.le_refl _) (.cells #[.int .i64 kr, .int .i64 kp] 66)
      replace hb := hb.step hbn
      clear hbn
      rw [hgX]
      generalize (w2).alloc (.cells #[.int .i64 kr, .int .i64 kp] 66) = w3 at *
      have hrg3 := hrg2.kept (grown_of_below hb.out) (by simp) (by simp)
      have hJ3 := abides_below hJ hJ2 hb.out
      obtain ⟨fn, tmps, assign, body, hy, hR⟩ := HY.out ss (kr, kp) w3 hJ3 (by omega)
      have HR := Lib.hid hR
      clear hR
      dsimp only [ekB] at hy
      have X_0 := X.cell (j := 0) rfl
      have X_1 := X.cell (j := 1) rfl
      gi_wp2
      refine HR.out.mono ?_
      rintro e W3 ⟨rfl, hJ4, hk4⟩
      gi_wp2
      have hrg4 := hrg3.of_walks hk4
      go_roundw
      case rel => exact ⟨_, cnt2, ss ++ [(kr, kp)], hrg4, by simp; omega, Lib.hid hC2, hJ4⟩
      case measure => rw [hrg4.left_eq, hrg.left_eq]; exact hlt
/-! slices.AppendSeq, slices.Collect of ballots. -/
theorem info_bal : (Tryz.prog.info? 66).map (fun i => (i.zero, i.size, i.bytes)) = some (some (.agg #[.int .i64 0, .int .i64 0]), 2, 16) := by kernel_rfl
def balL (l : List (Int × Int)) : List Value := l.flatMap fun x => [.int .i64 x.1, .int .i64 x.2]
theorem balL_len (l : List (Int × Int)) : (balL l).length = l.length * 2 := by
  induction l with
  | nil => rfl
  | cons a r ih =>
    unfold balL at ih ⊢
    rw [List.flatMap_cons, List.length_append, ih]
    simp; omega
theorem balL_snoc (l : List (Int × Int)) (x : Int × Int) : balL (l ++ [x]) = balL l ++ [.int .i64 x.1, .int .i64 x.2] := by simp [balL]
/-- What has been put by so far. -/
structure BalI (w : World) (gO : Nat) (pre : List (Int × Int)) (v : Value) (W : World) : Prop where
  O : Blk W gO 159 [v]
  own : W.ownsRow (gO + 1) 66 2 v pre.length (balL pre)
  hb : Below gO w W
  le : gO < W.heap.size
theorem BalI.ownFrom {w : World} {gO B : Nat} (hw : gO ≤ w.heap.size) (hB : gO + 1 ≤ B) : OwnFrom B (fun (pre : List (Int × Int)) W => ∃ v, BalI w gO pre v W) := by
  rintro pre W W' row ⟨v, ⟨O, own, hb, le⟩⟩ hg hr
  have hgr := fun r e => (hr r e).1
  refine ⟨v, (hg.block gO le (fun e => by have := hgr gO e.symm; omega)).trans O, ?_, Below.grown hb hg (by have := hb.size; omega) (fun j e => by have := hgr j e; omega), Nat.lt_of_lt_of_le le hg.size⟩
  refine ⟨own.1, ?_⟩
  rcases own.2 with h | ⟨g, c, cur, hv, hgb, hh, r⟩
  · exact .inl h
  · refine .inr ⟨g, c, cur, hv, hgb, (hg.block g (Array.getElem?_eq_some_iff.1 hh).1 (fun e => ?_)).trans hh, r⟩
    obtain ⟨-, o, ho, hoc⟩ := hr g e.symm
    rw [hh] at ho
    cases ho
    cases hoc
theorem kw_grown {W W' : World} {row : Option Nat} (hg : W.grownBy W' row) (hr : ∀ j, row = some j → ∃ cs t fz, W.heap[j]? = some (.cells cs t fz)) : KeepsWalks W W' :=
  KeepsWalks.of_grownBy hg (fun j o hj ho => by
    obtain ⟨cs, t, fz, h⟩ := hr j hj
    rw [h] at ho
    cases ho
    rfl)
theorem kf_grown {B : Nat} {W W' : World} {row : Option Nat} (hg : W.grownBy W' row) (hr : ∀ j, row = some j → ∃ cs t fz, W.heap[j]? = some (.cells cs t fz)) : KeepsFrom B W W' :=
  ⟨hg.size, fun k o hB hk ho => (hg.block k (Array.getElem?_eq_some_iff.1 hk).1 (fun e => by
    obtain ⟨cs, t, fz, h⟩ := hr k e.symm
    rw [hk] at h
    cases h
    cases ho)).trans hk⟩
theorem kf_cell {B g o : Nat} {W : World} {t : TypeId} {cs : List Value} (h : Blk W g t cs) (u : Value) : KeepsFrom B W (W.setCell ⟨g, o, none⟩ u) := (KeepsOthers.setCell W _ _).from _
theorem wpListIn_append2 {F : Fence} {n : Nat} {P : Program} {ops : Array Oper} {rest : List Oper} {o : Oper} {a : Act} {w w' : World} {Q : Exit → Act → World → Prop} (hgd : o.guard = none) (s x : Operand) (t tx : TypeId)
    (ho : o.op = .call { callee := .builtin .append, args := #[s, x], argTypes := #[t, tx] }) {v v2 v' : Value} (hs : a.eval s = v) (hx : a.eval x = v2) (hrun : (Builtin.append_ #[t, tx] o.type #[v, v2]).run P w = .ok v' w') (h : wpListIn F n P ops Q rest (a.put o.dst v') w') :
    wpListIn F n P ops Q (o :: rest) a w := by
  refine wpListIn_plain hgd fun K hK => ?_
  unfold Oper.wpIn
  refine ⟨?_, ?_⟩
  · simp [Oper.about, ho, resolve, Target.leads, Sem.run_pure]
  · rw [Oper.semAt_plain F _ _ (by rw [ho]; intro c hc'; cases hc')]
    simp [execOp, ho, resolve, invoke, builtin, hs, hx, hrun, Result.andThen]
    exact hK _ _ h
set_option maxRecDepth 100000 in
set_option maxHeartbeats 4000000 in
theorem appendB_any (gf : Nat) (lb : Array Value) (eg : ∀ args w, (callFunc gf args).run Tryz.prog w = .ok (.enter gf args) w) (S : List (Int × Int) → Prop) (N : Nat) (hN : N ≤ 1000) (w : World)
    (hseq : SeqGives Fence.wide 2 Tryz.prog gf lb ekB S N w) :
    Calls Tryz.prog 143 #[.slice none 0 0, .func (.func gf) #[] lb] w fun e w' => (∃ v ss, e = .returned v ∧ S ss ∧ w'.ownsRow w.heap.size 66 2 v ss.length (balL ss)) ∧ Below w.heap.size w w' := by
  refine callsIn_wide (n := 3).1 ?_
  obtain ⟨i0, hi, hz0, hz1, hz2⟩ := info_parts info_bal
  obtain ⟨gO, hgO⟩ : ∃ b, w.heap.size = b := ⟨_, rfl⟩
  have O0 := Blk.newV hgO 159 #[.slice none 0 0]
  have hb1 := (Below.refl w.heap.size w).alloc (Nat.le_refl _) (.cells #[.slice none 0 0] 159)
  have hs1 : (w.alloc (.cells #[.slice none 0 0] 159)).heap.size = gO + 1 := by rw [← hgO]; exact Array.size_push ..
  rw [hgO] at hb1 ⊢
  refine callsIn_of_wp_marks Tryz.func143 rfl trivial ?_ rfl
  simp only [Tryz.ntmps143, List.size_toArray, List.length_cons, List.length_nil, Nat.reduceAdd, Nat.reduceSub, Array.replicate_succ, Array.replicate_zero, List.push_toArray, List.append_toArray, List.nil_append, List.cons_append]
  gi_wp2_with fail
  have h0 : BalI w gO [] (.slice none 0 0) (w.alloc (.cells #[.slice none 0 0] 159)) := ⟨O0, World.ownsRow_nil _ _ _ _, hb1, by omega⟩
  apply wpIn_range_gv gf lb rfl eg hseq (by rw [hgO]; exact hb1) rfl
    (fun pre W => ∃ v, BalI w gO pre v W)
    (BalI.ownFrom (by omega) (by omega))
    ⟨_, h0⟩ (ob := fun x => .cells #[.int .i64 x.1, .int .i64 x.2] 66)
  case hassign =>
    intro l d x W K hd hK
    dsimp only [ekB]
    gi_wp2
    exact hK
  case hbody =>
    rintro l d pre ⟨kr, kp⟩ W hpl ⟨v, ⟨O, own, hb, le⟩⟩ hd hWd hsW
    have D0 : Blk W d 66 [.int .i64 kr, .int .i64 kp] := hWd
    obtain ⟨k, hk⟩ : ∃ k, pre.length = k := ⟨_, rfl⟩
    obtain ⟨bl, hbl⟩ : ∃ bl, balL pre = bl := ⟨_, rfl⟩
    have hsn := balL_snoc pre (kr, kp)
    rw [hbl] at hsn
    have HSN := Lib.hid hsn
    have HPL : Hid ((pre ++ [(kr, kp)]).length = k + 1) := Lib.hid (by simp [hk])
    rw [hk, hbl] at own
    rw [hk] at hpl
    clear hseq O0 hb1 h0 hWd hsn
    obtain ⟨ao, co, rfl, -⟩ := row_form own
    have c0 := O.cell (j := 0) rfl
    have d0 := D0.cell (j := 0) rfl
    have d1 := D0.cell (j := 1) rfl
    obtain ⟨gT, hgT⟩ : ∃ g, W.heap.size = g := ⟨_, rfl⟩
    have T0 := Blk.newV hgT 66 #[.int .i64 kr, .int .i64 kp]
    have hown2 : (W.alloc (.cells #[.int .i64 kr, .int .i64 kp] 66)).ownsRow 0 66 2 (.slice (some ⟨gT, 0, none⟩) 1 1) 1 [.int .i64 kr, .int .i64 kp] :=
      ⟨rfl, .inr ⟨gT, 1, #[.int .i64 kr, .int .i64 kp], rfl, Nat.zero_le _, T0, Nat.le_refl _, by decide, rfl, rfl⟩⟩
    have hba := (Below.refl W.heap.size W).alloc (Nat.le_refl _) (.cells #[.int .i64 kr, .int .i64 kp] 66)
    have hsza : (W.alloc (.cells #[.int .i64 kr, .int .i64 kp] 66)).heap.size = gT + 1 := by rw [← hgT]; exact Array.size_push ..
    obtain ⟨v', w5, hrun, own5, hgrow, hwhere⟩ := run_append_rows (P := Tryz.prog) (W.alloc (.cells #[.int .i64 kr, .int .i64 kp] 66)) (gO + 1) 0 159 159 66 i0 (.agg #[.int .i64 0, .int .i64 0]) 2 16 Tryz.underlying159 hi hz0 hz1 hz2 rfl (by decide) _ _ _ (own_step own hba) _ _ _ hown2 (by simp [Value.oneCell']) (by unfold maxLen; omega) (by omega) (by omega)
    obtain ⟨a2, c2, rfl, -⟩ := row_form own5
    have rowB : ∀ r, Value.ownBlock (.slice ao k co) = some r → gO + 1 ≤ r := fun r e => (row_ge own r e).1
    have rowC : ∀ r, Value.ownBlock (.slice ao k co) = some r → ∃ cs t fz, W.heap[r]? = some (.cells cs t fz) := fun r e => by
      rcases own.2 with ⟨e2, -⟩ | ⟨g, c, cur, hv, hgb, hh, -⟩
      · rw [e2] at e; cases e
      · rw [hv] at e; cases e; exact ⟨_, _, _, hh⟩
    have O5 : Blk w5 gO 159 [.slice ao k co] := (hgrow.block gO (by omega) (fun e => by have := rowB gO e.symm; omega)).trans (O.step hba)
    have f5 := O5.frozen 0
    have c5 := O5.cell (j := 0) rfl
    have hsz5 : gT + 1 ≤ w5.heap.size := by rw [← hsza]; exact hgrow.size
    have hgW : ∀ r, Value.ownBlock (.slice ao k co) = some r → ∃ cs t fz, (W.alloc (.cells #[.int .i64 kr, .int .i64 kp] 66)).heap[r]? = some (.cells cs t fz) := fun r e => by
      obtain ⟨cs, t, fz, h⟩ := rowC r e
      exact ⟨cs, t, fz, (hba.block r (Array.getElem?_eq_some_iff.1 h).1).trans h⟩
    have kw5 : KeepsWalks W w5 := (KeepsWalks.alloc _ _).trans (kw_grown hgrow hgW)
    have kf5 : ∀ B, KeepsFrom B W w5 := fun B => (kf_grown (grown_of_below hba) (fun j e => by cases e)).trans (kf_grown hgrow hgW)
    have hb5 : Below gO w w5 := Below.grown (Below.trans hb (hba.mono (by omega))) hgrow (by have := hb.size; omega) (fun j e => by have := rowB j e; omega)
    gi_wp2_with (gi_at_builtin; refine wpListIn_append2 rfl _ _ _ _ rfl rfl rfl hrun ?_)
    have hkx : Kx [gO] w5 (w5.setCell ⟨gO, 0, none⟩ (.slice a2 (k + 1) c2)) := (Kx.refl [gO] w5).setCell (.inl (by simp)) _
    refine ⟨(kf5 _).trans (kf_cell O5 _), kw5.trans (KeepsWalks.setCell _ _ _), _, O5.set 0 _, ?_, Below.trans hb5 (hkx.below (by have := hb5.size; omega) (by simp)), by simp; omega⟩
    rw [HPL.out, HSN.out]
    exact row_kx own5 hkx (fun r hr => by have := (row_ge own5 r hr).1; simp; omega)
  case hdone =>
    rintro D xs W hS hD ⟨v, ⟨O, own, hb, le⟩⟩ hDf
    have HS := Lib.hid hS
    clear hseq O0 hb1 h0 hS
    obtain ⟨k, hk⟩ : ∃ k, xs.length = k := ⟨_, rfl⟩
    rw [hk] at own
    obtain ⟨ao, co, rfl, -⟩ := row_form own
    have c0 := O.cell (j := 0) rfl
    have HDf := Lib.hid hDf
    clear hDf
    gi_wp2
    exact leaves_list gO [D] rfl (fun D' h => by simp at h; subst h; exact ⟨by omega, HDf.out⟩) (by simp) (v := .slice ao k co) (fun W' hbW' hcW => by
      refine ⟨by simp [results, Tryz.results143, go_sem], ⟨_, xs, rfl, HS.out, ?_⟩, hb.trans hbW'⟩
      rw [hk]
      refine row_low ⟨own.1, ?_⟩ (Nat.le_succ gO)
      rcases own.2 with h | ⟨g, c, cur, hv, hg, hh, r⟩
      · exact .inl h
      · exact .inr ⟨g, c, cur, hv, hg, hcW _ _ hh rfl, r⟩)
set_option maxRecDepth 100000 in
set_option maxHeartbeats 1000000 in
theorem collectB_any (gf : Nat) (lb : Array Value) (eg : ∀ args w, (callFunc gf args).run Tryz.prog w = .ok (.enter gf args) w) (S : List (Int × Int) → Prop) (N : Nat) (hN : N ≤ 1000) (w : World)
    (hseq : SeqGives Fence.wide 2 Tryz.prog gf lb ekB S N w) :
    Calls Tryz.prog 119 #[.func (.func gf) #[] lb] w fun e w' => (∃ v ss, e = .returned v ∧ S ss ∧ w'.ownsRow w.heap.size 66 2 v ss.length (balL ss)) ∧ Below w.heap.size w w' := by
  have cA := appendB_any gf lb eg S N hN w hseq
  clear hseq
  go_enter Tryz.func119, Tryz.ntmps119
  go_wp2_with fail
  refine (cA).mono ?_
  rintro e w2 ⟨⟨v, ss, rfl, hS, hR⟩, hb⟩
  go_wp2
  go_ret
  exact ⟨⟨v, ss, rfl, hS, hR⟩, hb⟩
end Go.Proofs.YthhpblchiodahaaGreatDoor
