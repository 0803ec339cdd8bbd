
/- Package chat: Page. -/
import Derived.Test.YtndechodaegkiaaDoorChH
import Derived.Test.YtndechodaegkiaaDoorIterA
namespace Go.Proofs.YtndechodaegkiaaDoor
open Go.RowKit Go.Shelf
attribute [local go_sem] Oper.semAt_some
def pgE (t : Tk) (f m : Int) : Int := if m < 1 ∨ 64 < m then 2 else if f < 0 ∨ (t.L.length : Int) < f then 4 else 0
def pgL (t : Tk) (f m : Int) : List Ln := if pgE t f m = 0 then (t.L.drop f.toNat).take m.toNat else []
def pgP (w : World) (t : Tk) (f m : Int) (r : Ending) (w' : World) : Prop :=
  (∃ v', r = .returned (.tuple #[v', .int .i64 (pgE t f m)]) ∧ w'.ownsRow w.heap.size 33 6 v' (pgL t f m).length (cellsN (pgL t f m))) ∧ Below w.heap.size w w'
theorem lnL_one {a b c d e : Int} {s : ByteArray} : ∀ u ∈ ([.int .i64 a, .int .i64 b, .int .i64 c, .int .i64 d, .int .i64 e, .string s] : List Value), u.oneCell' = true := by
  intro u hu
  simp at hu
  rcases hu with rfl | rfl | rfl | rfl | rfl | rfl <;> rfl
theorem one_cell {w : World} {b o : Nat} {u : Value} (h : w.cell? ⟨b, o, none⟩ = some u) {w' : World} (hb : Below w.heap.size w w') : w'.cell? ⟨b, o, none⟩ = some u := cells_kept hb h
set_option maxRecDepth 100000 in
set_option maxHeartbeats 2000000 in
theorem page_no (base g : Nat) (v : Value) (t : Tk) (f m : Int) (w : World) (h : TkW w base g v t) (hE : pgE t f m ≠ 0) :
    Calls Tryd.prog 18 #[.pointer (some ⟨g, 0, none⟩), .int .i64 f, .int .i64 m] w (pgP w t f m) := by
  have hb1 := (Below.refl w.heap.size w).alloc (Nat.le_refl _) (.cells #[.int .i64 m] 3)
  have h1 := h.step hb1
  have hm := h1.made
  obtain ⟨a, c, rfl⟩ := h.sl
  have cv := h1.blk.cell (j := 0) rfl
  unfold pgP
  have hL : pgL t f m = [] := by unfold pgL; rw [if_neg hE]
  rw [hL]
  by_cases hm2 : m < 1 ∨ 64 < m
  · have e : pgE t f m = 2 := by unfold pgE; rw [if_pos hm2]
    rw [e]
    clear hE e
    go_enter Tryd.func18, Tryd.ntmps18
    go_wp2_with fail
    refine wp_scope_straight ?_
    go_wp2_with fail
    refine (none_any g true _ hm).mono ?_
    rintro e w1 ⟨rfl, rfl⟩
    by_cases h0 : m < 1
    · clear hm2
      go_wp2
      (try simp only [Exit.noGoto])
      go_returns
      exact ⟨⟨_, rfl, World.ownsRow_nil _ _ _ _⟩, hb1⟩
    · have h2 : 64 < m := by omega
      clear hm2
      go_wp2
      (try simp only [Exit.noGoto])
      go_returns
      exact ⟨⟨_, rfl, World.ownsRow_nil _ _ _ _⟩, hb1⟩
  · have hf : f < 0 ∨ (t.L.length : Int) < f := by
      apply Classical.byContradiction
      intro h3
      exact hE (by unfold pgE; rw [if_neg hm2, if_neg h3])
    have e : pgE t f m = 4 := by unfold pgE; rw [if_neg hm2, if_pos hf]
    rw [e]
    clear hE e
    have m1 : ¬ m < 1 := by omega
    have m2 : ¬ 64 < m := by omega
    clear hm2
    have hfew := h.few
    have htop := h.top
    generalize t.L.length = n at *
    have hn1 : (n : Int) ≤ 4096 := by omega
    go_enter Tryd.func18, Tryd.ntmps18
    go_wp2_with fail
    refine wp_scope_straight ?_
    go_wp2_with fail
    refine (none_any g true _ hm).mono ?_
    rintro e w1 ⟨rfl, rfl⟩
    by_cases h0 : f < 0
    · clear hf
      go_wp2
      (try simp only [Exit.noGoto])
      go_returns
      exact ⟨⟨_, rfl, World.ownsRow_nil _ _ _ _⟩, hb1⟩
    · have h2 : (n : Int) < f := by omega
      clear hf
      go_wp2
      (try simp only [Exit.noGoto])
      go_returns
      exact ⟨⟨_, rfl, World.ownsRow_nil _ _ _ _⟩, hb1⟩
set_option maxRecDepth 100000 in
set_option maxHeartbeats 4000000 in
theorem page_yes (base g : Nat) (v : Value) (t : Tk) (f m : Int) (w : World) (h : TkW w base g v t) (hE : pgE t f m = 0) :
    Calls Tryd.prog 18 #[.pointer (some ⟨g, 0, none⟩), .int .i64 f, .int .i64 m] w (pgP w t f m) := by
  refine callsIn_wide (n := 3).1 ?_
  obtain ⟨i0, hi, hz0, hz1, hz2⟩ := info_parts info_line
  have hb1 := (Below.refl w.heap.size w).alloc (Nat.le_refl _) (.cells #[.int .i64 m] 3)
  have h1 := h.step hb1
  have hm := h1.made
  have hfew := h.few
  have htop := h.top
  have hlt := h.lt
  have hrow := h.row
  obtain ⟨a, c, rfl⟩ := h.sl
  have cv := h1.blk.cell (j := 0) rfl
  unfold pgP
  have hL : pgL t f m = (t.L.drop f.toNat).take m.toNat := by unfold pgL; rw [if_pos hE]
  rw [hL, hE]
  obtain ⟨hm1, hm2⟩ : 1 ≤ m ∧ m ≤ 64 := by
    unfold pgE at hE; split at hE
    · cases hE
    · omega
  obtain ⟨hf1, hf2⟩ : 0 ≤ f ∧ f ≤ t.L.length := by
    unfold pgE at hE; split at hE
    · cases hE
    · split at hE
      · cases hE
      · omega
  clear hE hL
  obtain ⟨l, rfl⟩ := Int.eq_ofNat_of_zero_le hf1
  obtain ⟨q, rfl⟩ := Int.eq_ofNat_of_zero_le (by omega : 0 ≤ m)
  rw [Int.toNat_natCast, Int.toNat_natCast]
  obtain ⟨n, hn⟩ : ∃ n, t.L.length = n := ⟨_, rfl⟩
  rw [hn] at hrow cv hf2 hfew hlt
  have hXL : (t.L.drop l).length = n - l := by simp [hn]
  have hn1 : (n : Int) ≤ 4096 := by omega
  obtain ⟨xs, hxs⟩ : ∃ xs, t.L.drop l = xs := ⟨_, rfl⟩
  rw [hxs] at hXL ⊢
  refine callsIn_of_wp_marks Tryd.func18 rfl trivial ?_ rfl
  simp only [Tryd.ntmps18, List.size_toArray, List.length_cons, List.length_nil, Nat.reduceAdd, Nat.reduceSub, Array.replicate_succ, Array.replicate_zero, List.push_toArray, List.append_toArray, List.nil_append, List.cons_append]
  gi_wp2_with fail
  refine wpIn_scope_wide ?_
  gi_wp2_with (apply wpIn_label)
  refine ⟨trivial, ?_⟩
  refine (callsIn_wide.2 (none_any g true _ hm)).mono ?_
  rintro e w1 ⟨rfl, rfl⟩
  gi_wp2_with fail
  apply wpIn_label
  have hln : l ≤ n := by omega
  have cv2 := one_cell cv ((Below.refl _ _).alloc (Nat.le_refl _) (.cells #[.slice none 0 0] 44))
  clear cv
  obtain ⟨ao, hao⟩ : ∃ ao, (if c = l then a else Option.map (fun x => x.add (l * 6)) a) = ao := ⟨_, rfl⟩
  have hL0 : HasL w ao xs := by
    have hcn : n ≤ c := by
      rcases hrow.2 with ⟨e, e2⟩ | ⟨g', cap', cur, e, _, _, hc, _⟩
      · omega
      · cases e; exact hc
    rw [← hao, ← hxs]
    exact hasL_row hrow hn l hln c hcn
  obtain ⟨b0, hb0⟩ : ∃ b, w.heap.size = b := ⟨_, rfl⟩
  have B0 : Boxed ((w.alloc (.cells #[.int .i64 q] 3)).alloc (.cells #[.slice none 0 0] 44)) b0 3 (.int .i64 q) := (boxed_newA hb0 3 _).alloc _
  have B1 : Boxed ((w.alloc (.cells #[.int .i64 q] 3)).alloc (.cells #[.slice none 0 0] 44)) (b0 + 1) 44 (.slice none 0 0) := boxed_newA (alloc_size hb0 _) 44 _
  have hb2 := hb1.alloc hb1.size (.cells #[.slice none 0 0] 44)
  have hao' := hao
  have HAO := Lib.hid hao'
  clear hao'
  gi_wp2_with fail
  have hao' := HAO.out
  clear cv2 hb1 h1 hm hao HAO
  rw [hb0] at hb2
  generalize (w.alloc (.cells #[.int .i64 q] 3)).alloc (.cells #[.slice none 0 0] 44) = W1 at *
  refine ⟨trivial, ?_⟩
  refine (callsIn_wide.2 (values_any _ (n - l) ⟨_, _, rfl⟩ _)).mono ?_
  rintro e w2 ⟨rfl, B2, b2⟩
  have C0 := box_step B0 b2
  have C1 := box_step B1 b2
  have hgt := B1.lt
  have hb3 := hb2.trans (b2.mono (by omega))
  have hL2 := hL0.step (by rw [hb0]; exact hb3)
  have hseq := values_xs W1.heap.size ao (c - l) xs w2 (by rw [hXL]; exact B2) hL2 (by omega)
  have hS : ∀ k, rowS ao k → k < b0 := by
    rintro k ⟨off, e⟩
    rw [← hao'] at e
    have e2 : (Value.slice a n c).ownBlock = some k := by
      rcases hrow.2 with ⟨e3, _⟩ | ⟨g', cap', cur, e3, _⟩
      · cases e3
        split at e <;> cases e
      · cases e3
        split at e
        · cases e; rfl
        · simp [Addr.add_lit] at e
          simp [Value.ownBlock, e.1]
    have := hlt k (by simp [e2])
    omega
  have hS' := hS
  clear hao' hL0 hlt hrow
  have hXN : xs.length ≤ 5000 := by omega
  unfold LnF
  gi_wp2_with fail
  have hb2s := b2.size
  apply wpIn_range_xsA 56 #[.pointer (some ⟨W1.heap.size, 0, none⟩)] rfl (enters_of Tryd.func56 (by kernel_rfl) rfl) (rowS ao) hseq (fun k hk => by have := hS k hk; omega) (Below.refl _ _) (fun _ => rfl)
    (fun k W => (∃ v, Boxed W (b0 + 1) 44 v ∧ W.ownsRow b0 33 6 v k (cellsN (xs.take k)) ∧ True) ∧ Boxed W b0 3 (.int .i64 q) ∧ Below b0 w W ∧ k ≤ q)
    (fun c k W => (∃ v, Boxed W (b0 + 1) 44 v ∧ W.ownsRow b0 33 6 v q (cellsN (xs.take q)) ∧ True) ∧ Below b0 w W ∧ (c = .exit 1 ∧ k = q + 1))
    (((holdsRow_own b0 (b0 + 1) 44 33 6 (fun k => k) (fun k => cellsN (xs.take k)) (fun _ _ => True)).from _).and (((boxed_own _ _ _).from _).and ((ownFrom_below (by omega) (by omega)).and (ownFrom_pure _ _))))
    (fun c => ((holdsRow_own b0 (b0 + 1) 44 33 6 (fun _ => q) (fun _ => cellsN (xs.take q)) (fun _ _ => True)).from _).and ((ownFrom_below (by omega) (by omega)).and (ownFrom_pure _ _)))
    ⟨⟨_, C1, World.ownsRow_nil _ _ _ _, trivial⟩, C0, hb3, by omega⟩ (ob := fun x => .cells #[.int .i64 x.i, .int .i64 x.sl, .int .i64 x.e.k, .int .i64 x.e.m, .int .i64 x.e.n, .string x.e.s] 33)
  case hassign =>
    intro l d x W K hd hK
    dsimp only [lnEnc, lnV, lnL, enL]
    gi_wp2
    exact hK
  case hbody =>
    rintro l k d x W hx ⟨⟨v, D1, hown, -⟩, D0, hbW, hkq⟩ hd hWd hsW
    have hXB : Blk W d 33 [.int .i64 x.i, .int .i64 x.sl, .int .i64 x.e.k, .int .i64 x.e.m, .int .i64 x.e.n, .string x.e.s] := hWd
    have x0 := hXB.cell (j := 0) rfl
    have x1 := hXB.cell (j := 1) rfl
    have x2 := hXB.cell (j := 2) rfl
    have x3 := hXB.cell (j := 3) rfl
    have x4 := hXB.cell (j := 4) rfl
    have x5 := hXB.cell (j := 5) rfl
    have hk : k < xs.length := (List.getElem?_eq_some_iff.1 hx).1
    obtain ⟨a', c', rfl⟩ : ∃ a' c', v = .slice a' k c' := by
      rcases hown.2 with ⟨e, e2⟩ | ⟨g', cap', cur, e, -⟩
      · exact ⟨none, 0, by rw [e, e2]⟩
      · exact ⟨_, _, e⟩
    have c0 := D0.cell
    have c1 := D1.cell
    have f1 := D1.frozen
    clear hWd hXB hseq hL2 hS B2 b2 C0 C1 B0 B1 hb2 hb3 h
    by_cases hq : k = q
    · subst hq
      gi_wp2
      exact ⟨(KeepsOthers.refl W).from _, ⟨_, D1, hown, trivial⟩, hbW, rfl, rfl⟩
    · gi_wp2_with (gi_at_builtin; refine wpListIn_append_own _ rfl _ _ 44 rfl b0 33 i0 (.agg #[.int .i64 0, .int .i64 0, .int .i64 0, .int .i64 0, .int .i64 0, .string ⟨#[]⟩]) 6 56 Tryd.underlying44 hi hz0 hz1 hz2 rfl (by decide) _ _ _ rfl (hown.alloc _) ⟨W.heap.size, 0, none⟩ 1 1 [.int .i64 x.i, .int .i64 x.sl, .int .i64 x.e.k, .int .i64 x.e.m, .int .i64 x.e.n, .string x.e.s] rfl rfl (Blk.new' rfl 33 [.int .i64 x.i, .int .i64 x.sl, .int .i64 x.e.k, .int .i64 x.e.m, .int .i64 x.e.n, .string x.e.s]).news lnL_one (by unfold maxLen; omega) (by omega) (by have := hbW.size; simp; omega) ?_)
      intro v' w1 hown' hgrow _
      obtain ⟨r1, r2, r3, r4, r5⟩ := Boxed.appended D1 (by decide) hown (by have := hbW.size; omega) (by omega) hown' hgrow
      have hv' : cellsN (xs.take k) ++ [.int .i64 x.i, .int .i64 x.sl, .int .i64 x.e.k, .int .i64 x.e.m, .int .i64 x.e.n, .string x.e.s] = cellsN (xs.take (k + 1)) := by
        rw [List.take_add_one, hx]; simp [cellsN, lnL, enL]
      rw [hv'] at r3
      obtain ⟨a2, c2, rfl⟩ := ownsRow_succ hown'
      have D0' := box_set_other ((D0.alloc _).kept hgrow (D0.not_row (by decide) hown)) (by omega : b0 ≠ b0 + 1) 0 (.slice (some ⟨a2, 0, none⟩) (k + 1) c2)
      have g1 := r1.cell
      have e1 := r1.frozen
      gi_wp2
      exact ⟨r4.from _, (Kb.refl _ _).below r5 hS', ⟨_, r2, r3, trivial⟩, D0', hbW.trans r5, by omega⟩
  case hdone =>
    rintro D W hD ⟨⟨v, D1, hown, -⟩, D0, hbW, hkq⟩ hK
    have c1 := D1.cell
    clear hseq hL2 hS B2 b2 C0 C1 B0 B1 hb2 hb3 h
    obtain ⟨a', c', rfl⟩ : ∃ a' c', v = .slice a' xs.length c' := by
      rcases hown.2 with ⟨e, e2⟩ | ⟨g', cap', cur, e, -⟩
      · exact ⟨none, 0, by rw [e, e2]⟩
      · exact ⟨_, _, e⟩
    rw [List.take_of_length_le (Nat.le_refl _)] at hown
    have htake : xs.take q = xs := List.take_of_length_le hkq
    rw [← htake] at hown
    have hD' : b0 ≤ D := by omega
    clear hXL htake
    gi_wp2
    simp only [Exit.noGoto]
    refine leaves_col (v := .tuple #[.slice a' xs.length c', .int .i64 0]) rfl hK (by simp [results, Tryd.results18, go_sem]) ⟨⟨_, rfl, ?_⟩, ?_⟩
    · rw [hb0]
      have htake : xs.take q = xs := List.take_of_length_le hkq
      have := ownsRow_putObj hown (.deferred none) hK rfl
      rw [htake] at this ⊢
      exact this
    · rw [hb0]
      exact below_putObj hbW hD' _
  case hstop =>
    rintro D c k W hD hk ⟨⟨v, D1, hown, -⟩, hbW, rfl, hkq⟩ hK
    have c1 := D1.cell
    clear hseq hL2 hS B2 b2 C0 C1 B0 B1 hb2 hb3 h
    have hkq' : (xs.take q).length = q := by rw [List.length_take]; omega
    obtain ⟨a', c', rfl⟩ : ∃ a' c', v = .slice a' q c' := by
      rcases hown.2 with ⟨e, e2⟩ | ⟨g', cap', cur, e, -⟩
      · exact ⟨none, 0, by rw [e, e2]⟩
      · exact ⟨_, _, e⟩
    have hD' : b0 ≤ D := by omega
    clear hXL
    gi_wp2
    simp only [Exit.noGoto]
    refine leaves_col (v := .tuple #[.slice a' q c', .int .i64 0]) rfl hK (by simp [results, Tryd.results18, go_sem]) ⟨⟨_, rfl, ?_⟩, ?_⟩
    · rw [hb0, hkq']
      exact ownsRow_putObj hown _ hK rfl
    · rw [hb0]
      exact below_putObj hbW hD' _
theorem page_any (base g : Nat) (v : Value) (t : Tk) (f m : Int) (w : World) (h : TkW w base g v t) :
    Calls Tryd.prog 18 #[.pointer (some ⟨g, 0, none⟩), .int .i64 f, .int .i64 m] w (pgP w t f m) := by
  by_cases hE : pgE t f m = 0
  · exact page_yes base g v t f m w h hE
  · exact page_no base g v t f m w h hE
end Go.Proofs.YtndechodaegkiaaDoor
