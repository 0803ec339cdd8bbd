
/- Package disk: bytes.Equal, the closure of Same, maps.EqualFunc (true), Same (true). -/
import Derived.Test.YtceoehjjebkgpaaDkX
import Derived.Test.YtceoehjjebkgpaaDkN
import Derived.Lib.SlMapEqual
import Derived.Maps.RangeWalk
import Derived.Laws.IdiomRangeMap
import Derived.Deep.LoopGhost
namespace Go.Proofs.Ytceoehjjebkgpaa
set_option linter.unusedSimpArgs false
set_option linter.unusedVariables false
open Go.RowKit Go.Maps Go.ChangeMaps Go.MapKept
open Go.WideElems (Fit rd rg pl rd_key rd_val rg_of rd_mk)
open Go.WideShapes (sorted_perm)
/-- In the maps' kit's words. -/
theorem MapG.own {P : Program} {k : TypeId} {α β : Type} {ek : α → Value} {ev : β → Value} {W : World} {b : Nat} {L : List (α × β)} (h : MapG P k ek ev W b L) (K : Keyed P k) :
    ∃ D : DataW Value, W.ownsMap P k heldR b L.length D ∧ (∀ key c kl, keyOf P k key = some kl → (∀ zd, D.atKey kl zd = .held c) → ∃ p ∈ L, key = ek p.1 ∧ c = ev p.2) := by
  obtain ⟨es, clock, hb, F, hp, hn⟩ := h
  have hs := hp.length_eq
  simp only [List.length_map, Array.length_toList] at hs
  have hown : W.ownsMap P k heldR b L.length (.map ((es.toList.map (rg P k heldR)).foldr DataW.insert [])) := ⟨es, clock, hb, F, by omega, rfl⟩
  refine ⟨_, hown, fun key c kl hk hat => ?_⟩
  obtain ⟨es1, he1, hap, hkeys⟩ := World.ownsMap.entries hown K
  rw [he1] at hat
  have hm := Maps.came_mem hap hkeys hat
  have he2 : es1 = (es.toList.map (rg P k heldR)).foldr DataW.insert [] := by injection he1.symm
  rw [he2] at hm
  have hm2 := (sorted_perm _).mem_iff.1 hm
  obtain ⟨x, hx, hrx⟩ := List.mem_map.1 hm2
  obtain ⟨l, h1, h2⟩ := rg_held F hx
  rw [h2] at hrx
  obtain ⟨rfl, h4⟩ := Prod.mk.inj hrx
  have h5 : x.val = c := by injection h4
  have h6 : x.key = key := K.inj h1 hk
  have h7 := hp.mem_iff.1 (List.mem_map.2 ⟨x, hx, rfl⟩)
  obtain ⟨p, hpL, hpe⟩ := List.mem_map.1 h7
  refine ⟨p, hpL, ?_, ?_⟩
  · rw [← h6]; exact (congrArg Prod.fst hpe).symm
  · rw [← h5]; exact (congrArg Prod.snd hpe).symm
theorem bequal_any (ao bo : Option Addr) (x : BL) (c1 c2 : Nat) (w : World) (h1 : BySl w ao x) (h2 : BySl w bo x) :
    Calls Try.prog 36 #[.slice ao x.length c1, .slice bo x.length c2] w fun e w' => e = .returned (.bool true) ∧ w = w' := by
  have k1 := bySl_back h1 c1
  have k2 := bySl_back h2 c2
  obtain ⟨s, hs⟩ : ∃ s, mkS x = s := ⟨_, rfl⟩
  rw [hs] at k1 k2
  go_enter Try.func36, Try.ntmps36
  go_wp2_with fail
  go_ret
  exact ⟨rfl, rfl⟩
/-- Two files that read alike. -/
def SameF (m m2 : Fm) : Prop := m2.b = m.b ∧ m2.s = m.s
set_option maxRecDepth 100000 in
set_option maxHeartbeats 2000000 in
theorem same1_any (m m2 : Fm) (w : World) (h1 : BySl w m.ao m.b) (h2 : BySl w m2.ao m2.b) (hS : SameF m m2) :
    Calls Try.prog 35 #[fmV m, fmV m2] w fun e w' => e = .returned (.bool true) ∧ Below w.heap.size w w' := by
  obtain ⟨ao, cap, x, sr⟩ := m
  obtain ⟨ao2, cap2, x2, sr2⟩ := m2
  obtain ⟨e1, e2⟩ := hS
  simp only at e1 e2 h1 h2
  subst e1 e2
  unfold fmV
  simp only
  have hb := From.refl w
  go_enter Try.func35, Try.ntmps35
  go_upto_region 1 with fail
  obtain ⟨gX, hgX⟩ : ∃ g, (w).heap.size = g := ⟨_, rfl⟩
  have X := Blk.newV hgX 61 #[.slice ao x2.length cap, .int .i64 sr2]
  have hbn := (Below.refl (w).heap.size w).alloc (Nat.le_refl _) (.cells #[.slice ao x2.length cap, .int .i64 sr2] 61)
  replace hb := hb.step hbn
  clear hbn
  rw [hgX]
  have szX := alloc_size hgX (.cells #[.slice ao x2.length cap, .int .i64 sr2] 61)
  generalize (w).alloc (.cells #[.slice ao x2.length cap, .int .i64 sr2] 61) = w1 at *
  obtain ⟨gY, hgY⟩ : ∃ g, (w1).heap.size = g := ⟨_, rfl⟩
  have lt_X_Y := X.lt
  rw [hgY] at lt_X_Y
  have Y := Blk.newV hgY 61 #[.slice ao2 x2.length cap2, .int .i64 sr2]
  have hbn := (Below.refl (w1).heap.size w1).alloc (Nat.le_refl _) (.cells #[.slice ao2 x2.length cap2, .int .i64 sr2] 61)
  replace hb := hb.step hbn
  replace X := X.step hbn
  clear hbn
  have egY : gX + 1 = gY := szX.symm.trans hgY
  rw [egY]
  clear szX
  generalize (w1).alloc (.cells #[.slice ao2 x2.length cap2, .int .i64 sr2] 61) = w2 at *
  have X_0 := X.cell (j := 0) rfl
  have X_1 := X.cell (j := 1) rfl
  have Y_0 := Y.cell (j := 0) rfl
  have Y_1 := Y.cell (j := 1) rfl
  go_wp2_with fail
  refine (bequal_any ao ao2 x2 cap cap2 _ (h1.step hb.out) (h2.step hb.out)).mono ?_
  rintro e w3 ⟨rfl, rfl⟩
  go_wp2_with fail
  go_ret
  exact ⟨rfl, hb.out⟩
theorem dk_grown {W W' : World} {d : Nat} {L : FMap} (h : MapD W d L) (hg : W.grownBy W' none) : MapD W' d L := MapG.heap h (hg.block d (MapG.lt h) (by simp))
theorem bysl_grown {W W' : World} {ao : Option Addr} {b : BL} (h : BySl W ao b) (hg : W.grownBy W' none) : BySl W' ao b := h.step ⟨hg.os, hg.tape, hg.output, hg.size, fun k hk => hg.block k hk (by simp)⟩
theorem below_grown {W W' : World} (hg : W.grownBy W' none) : Below W.heap.size W W' := ⟨hg.os, hg.tape, hg.output, hg.size, fun k hk => hg.block k hk (by simp)⟩
set_option maxRecDepth 100000 in
set_option maxHeartbeats 8000000 in
theorem equalF_any (b1 b2 : Nat) (L1 L2 : FMap) (w : World) (h1 : MapD w b1 L1) (h2 : MapD w b2 L2) (hlen : L1.length = L2.length) (hok : ∀ p ∈ L1, okS p.1) (hc1 : ∀ p ∈ L1, BySl w p.2.ao p.2.b) (hc2 : ∀ p ∈ L2, BySl w p.2.ao p.2.b)
    (hS : ∀ p ∈ L1, ∃ m2, getG L2 p.1 = some m2 ∧ SameF p.2 m2) :
    Calls Try.prog 37 #[.map (some b1), .map (some b2), .func (.func 35) #[] #[]] w fun e w' => e = .returned (.bool true) ∧ Below w.heap.size w w' := by
  have l1 := fun ty => MapG.len h1 Try.underlying53 ty
  have l2 := fun ty => MapG.len h2 Try.underlying53 ty
  rw [← hlen] at l2
  obtain ⟨n, hn⟩ : ∃ n, L1.length = n := ⟨_, rfl⟩
  obtain ⟨D1, hown, hent⟩ := MapG.own h1 keyS.keyed
  rw [hn] at l1 l2 hown
  have K := keyS.keyed
  go_enter Try.func37, Try.ntmps37
  go_wp2_with (first
    | (at_range; refine wpList_range_own _ rfl _ 53 rfl 9 61 K Try.underlying53 heldR b1 n _ rfl hown ?_; intro w0 hrg0 hg0 hs0)
    | fail)
  go_frame
  go_loopw [18] (fun _ wr => ∃ (left : Lit → Bool) (cnt : Nat), wr.ranges Try.prog 9 heldR b1 w.heap.size n D1 left cnt ∧ w.grownBy wr none) (fun _ wr => wr.rangeLeft b1 w.heap.size)
  case atStart => exact ⟨_, _, hrg0, hg0⟩
  case round =>
    obtain ⟨left, cnt, hrg, hgw⟩ := hrel
    go_wp2_with (first
      | (at_next; refine wpList_next_ranges _ rfl _ rfl 9 K heldR id id (fun key _ _ => ⟨key, rfl⟩) (fun v _ _ => ⟨v, rfl⟩) b1 w.heap.size n _ _ _ rfl hrg ?_ ?_)
      | fail)
    · intro _ hl0
      go_wp2_with fail
      go_ret
      exact ⟨rfl, below_grown hgw⟩
    · intro x c kl yd yp w1 cnt1 hkey hlx hv hat hrg1 hlt hg1 hs1 hen
      have hgw1 : w.grownBy w1 none := hgw.andThen hg1 (fun j hj => by cases hj; exact Or.inl (Nat.le_refl _))
      have hyd : yd = .held c := by unfold heldR at hv; simp at hv; exact hv.1.symm
      have hat2 : ∀ zd, D1.atKey kl zd = .held c := fun zd => by rw [← hyd]; exact hat zd
      obtain ⟨⟨s, m⟩, hpm, hx, hc⟩ := hent x c kl hkey hat2
      simp only at hx hc
      subst hx hc
      obtain ⟨m2, hg2, hsf⟩ := hS _ hpm
      have cS := fun W (hW : Below w1.heap.size w1 W) => same1_any m m2 W ((bysl_grown (hc1 _ hpm) hgw1).step hW) ((bysl_grown (hc2 (s, m2) (mem_getG hg2)) hgw1).step hW) hsf
      have h2w := dk_grown h2 hgw1
      have hoks := hok _ hpm
      obtain ⟨ao, cap, y, sr⟩ := m
      obtain ⟨ao2, cap2, y2, sr2⟩ := m2
      unfold fmV at cS hen hv
      simp only at cS hen hv hg2 hoks
      clear hat2 hat hv hyd hpm hsf hs1
      have hb := From.refl w1
      unfold fmV
      simp only
      go_upto_region 6 with fail
      obtain ⟨gX, hgX⟩ : ∃ g, (w1).heap.size = g := ⟨_, rfl⟩
      have X := Blk.newV hgX 61 #[.slice ao y.length cap, .int .i64 sr]
      have hbn := (Below.refl (w1).heap.size w1).alloc (Nat.le_refl _) (.cells #[.slice ao y.length cap, .int .i64 sr] 61)
      replace hb := hb.step hbn
      replace h2w := h2w.step hbn
      clear hbn
      rw [hgX]
      generalize (w1).alloc (.cells #[.slice ao y.length cap, .int .i64 sr] 61) = w2 at *
      have hlk := MapG.look h2w keyS Try.underlying53 (zero_file w2) s hoks
      simp only [hg2] at hlk
      unfold fmV at hlk
      simp only at hlk
      go_upto_region 7 with fail
      clear hlk
      obtain ⟨gY, hgY⟩ : ∃ g, (w2).heap.size = g := ⟨_, rfl⟩
      have lt_X_Y := X.lt
      rw [hgY] at lt_X_Y
      have Y := Blk.newV hgY 61 #[.slice ao2 y2.length cap2, .int .i64 sr2]
      have hbn := (Below.refl (w2).heap.size w2).alloc (Nat.le_refl _) (.cells #[.slice ao2 y2.length cap2, .int .i64 sr2] 61)
      replace hb := hb.step hbn
      replace X := X.step hbn
      clear hbn
      rw [hgY]
      generalize (w2).alloc (.cells #[.slice ao2 y2.length cap2, .int .i64 sr2] 61) = w3 at *
      have X_0 := X.cell (j := 0) rfl
      have X_1 := X.cell (j := 1) rfl
      have Y_0 := Y.cell (j := 0) rfl
      have Y_1 := Y.cell (j := 1) rfl
      go_wp2_with fail
      refine (cS _ hb.out).mono ?_
      rintro e w4 ⟨rfl, hbn⟩
      replace hb := hb.step hbn
      have hg14 := grown_of_below hb.out
      have hrg2 := hrg1.kept hg14 (by simp) (by simp)
      have hgw4 := hgw1.andThen hg14 (fun j hj => by cases hj)
      clear cS X_0 X_1 Y_0 Y_1
      go_wp2_with fail
      go_roundw
      case rel => exact ⟨_, cnt1, hrg2, hgw4⟩
      case measure => rw [hrg2.left_eq, hrg.left_eq]; exact hlt
end Go.Proofs.Ytceoehjjebkgpaa
