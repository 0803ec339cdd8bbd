
/- 'BallotAbove': the walk. -/
import Derived.Test.YtkohpfkgdigaiaaBaR
import Derived.OwnWalk
import Derived.Deep.OwnRows
namespace Go.Proofs.Ytkohpfkgdigaiaa
open Go.RowKit

theorem HasA.cells {w : World} {a : Addr} {xs : List Bl} (h : HasA w a xs) : ∀ j u, (cellsB xs)[j]? = some u → w.cell? (a.add j) = some u := by
  intro j u hu
  have hj : j < (cellsB xs).length := (List.getElem?_eq_some_iff.1 hu).1
  rw [cellsB_len] at hj
  obtain ⟨k, rfl | rfl⟩ : ∃ k, j = k * 2 ∨ j = k * 2 + 1 := ⟨j / 2, by omega⟩
  · have hk : k < xs.length := by omega
    rw [(cellsB_get xs k).1, List.getElem?_eq_getElem hk] at hu
    rw [(h k hk).1]; simpa using hu
  · have hk : k < xs.length := by omega
    rw [(cellsB_get xs k).2, List.getElem?_eq_getElem hk] at hu
    rw [← Addr.add_add, (h k hk).2]; simpa using hu
theorem cellsB_one (xs : List Bl) : ∀ u ∈ cellsB xs, u.oneCell' = true := by
  intro u hu
  simp only [cellsB, List.mem_flatMap] at hu
  obtain ⟨b, -, hb⟩ := hu
  simp at hb
  rcases hb with rfl | rfl <;> rfl
theorem own_empty (w : World) (e : TypeId) (size : Nat) : (w.alloc (.cells #[] e)).ownsRow w.heap.size e size (.slice (some ⟨w.heap.size, 0, none⟩) 0 0) 0 [] :=
  ⟨by simp, .inr ⟨w.heap.size, 0, #[], rfl, Nat.le_refl _, World.alloc_heap_new w _, Nat.le_refl _, Nat.zero_le _, by simp, by simp⟩⟩
theorem HasA.below {w w1 : World} {a : Addr} {xs : List Bl} (h : HasA w a xs) (hb : Below w.heap.size w w1) : HasA w1 a xs := h.step hb
theorem HasB.pre {w : World} {g : Nat} {xs ys : List Bl} (h : HasB w g (xs ++ ys)) : HasB w g xs := by
  intro k hk
  have := h k (by rw [List.length_append]; omega)
  rwa [List.getElem_append_left hk] at this
theorem refAbove_S (c p : Int) (a : Addr) (cap n : Nat) (xs : List Bl) (hn : xs.length = n) (hm : n ≤ 900) (w : World) (hx : HasA w a xs) :
    Calls Try.prog 21 #[.int .i64 c, .int .i64 p, .slice (some a) n cap] w fun e w' => e = .returned (.tuple #[.agg #[.int .i64 (aboveR c p xs), .int .i64 (aboveP c p xs)], .int .i64 (aboveE c p xs)]) ∧ Below w.heap.size w w' := by
  cases hc : chkB c 0 p
  · have hE : aboveE c p xs = 2 := by simp [aboveE, hc]
    have hR : aboveR c p xs = 0 := by simp [aboveR, hE]
    have hP : aboveP c p xs = 0 := by simp [aboveP, hE]
    rw [hE, hR, hP]
    exact refAbove_no c p _ w hc
  · have hr : rightB c = true := by unfold chkB at hc; simp at hc; exact hc.1
    exact refAbove_some c p a cap n xs hn hm hr (by rw [← chk_place hr]; exact hc) w hx
set_option maxRecDepth 100000 in
set_option maxHeartbeats 2000000 in
theorem BallotAbove_some (c p : Int) (a : Addr) (cap n : Nat) (xs : List Bl) (hn : xs.length = n) (hm : n ≤ 20) (w : World) (hx : HasA w a xs) :
    Calls Try.prog 5 #[.int .i64 c, .int .i64 p, .slice (some a) n cap] w fun e w' => e = .returned (.bool true) ∧ Below w.heap.size w w' := by
  obtain ⟨i0, hi, hz0, hz1, hz2⟩ := info_parts info_ballot
  have hlen : (cellsB xs).length = n * 2 := by rw [cellsB_len, hn]
  have h1c := cellsB_one xs
  have HX := Lib.hid hx
  have HN := Lib.hid hn
  clear hx hn
  have hm' : (n : Int) ≤ 20 := by omega
  go_enter Try.func5, Try.ntmps5
  go_wp2_with (at_builtin; refine wpList_append_own _ rfl _ _ 40 rfl w.heap.size 23 i0 (.agg #[.int .i64 0, .int .i64 0]) 2 16 Try.underlying40 hi hz0 hz1 hz2 rfl (by decide) _ _ _ rfl (own_empty w 23 2) a n cap (cellsB xs) rfl hlen (fun j u hu => (HX.out.step ((Below.refl _ _).alloc (Nat.le_refl _) _)).cells j u hu) h1c (by unfold maxLen; omega) (by omega) (by simp) ?_)
  intro v1 w1 hown1 hgrow1 _
  have hb1 : Below w.heap.size w w1 := ((Below.refl _ _).alloc (Nat.le_refl _) _).grown hgrow1 (by simp) (fun k e => by simp [Value.ownBlock] at e; omega)
  go_wp2_with (at_builtin; refine wpList_append_lies _ rfl _ _ 40 rfl w.heap.size 23 i0 (.agg #[.int .i64 0, .int .i64 0]) 2 16 Try.underlying40 hi hz0 hz1 hz2 rfl (by decide) v1 n (cellsB xs) rfl (hown1.alloc _) ⟨w1.heap.size, 0, none⟩ 1 1 [.int .i64 77, .int .i64 0] rfl rfl (Blk.new w1 23 [.int .i64 77, .int .i64 0]).news (by simp [Value.oneCell']) (by omega) (by unfold maxLen; omega) (by omega) (by have := hb1.size; simp; omega) _ rfl ?_)
  intro g cap2 w2 hown2 hgrow2 hat hlt
  have hb2 : Below w.heap.size w w2 := (hb1.alloc hb1.size _).grown hgrow2 (by have := hb1.size; simp; omega) (fun k e => (hown1.lt k e).1)
  have hcap : n + 1 ≤ cap2 ∧ w.heap.size ≤ g := by
    rcases hown2.2 with ⟨h, -⟩ | ⟨g', c', cur, h, hg', -, hc', -⟩
    · cases h
    · cases h; exact ⟨hc', hg'⟩
  have hB : HasB w2 g (xs ++ [(77, 0)]) := hasB_of_row (by rw [← cellsB_app]; exact hown2) (by simp [HN.out])
  clear hown1 hown2 hgrow1 hgrow2 hat
  obtain ⟨hcap, hgw⟩ := hcap
  have hcap' : (n : Int) ≤ (cap2 : Int) := by omega
  have hn0 : (0 : Int) ≤ (n : Int) := by omega
  clear hb1 h1c hlen
  have hS : SlB w2 (.slice (some ⟨g, 0, none⟩) n cap2) xs := .inr ⟨g, cap2, by rw [HN.out], by rw [HN.out]; omega, hB.pre, hlt⟩
  obtain ⟨aR, hR⟩ : ∃ x, aboveR c p xs = x := ⟨_, rfl⟩
  obtain ⟨aP, hP⟩ : ∃ x, aboveP c p xs = x := ⟨_, rfl⟩
  obtain ⟨aE, hE⟩ : ∃ x, aboveE c p xs = x := ⟨_, rfl⟩
  have hA := above_any c p _ xs (by rw [HN.out]; omega) w2 hS
  have hD := fun W (hW : HasA W a xs) => refAbove_S c p a cap n xs HN.out (by omega) W hW
  rw [hR, hP, hE] at hA
  rw [hR, hP, hE] at hD
  clear hR hP hE hS
  have HA := Lib.hid hA
  clear hA
  have HD := Lib.hid hD
  clear hD
  have HB := Lib.hid hB
  clear hB
  have hxw2 := HX.out.below hb2
  go_wp2_with fail
  refine (HA.out).mono ?_
  rintro e w3 ⟨rfl, b3⟩
  have HXw := Lib.hid (((HasA.step hxw2 b3)).step ((Below.refl _ _).alloc (Nat.le_refl _) (.cells #[.int .i64 aR, .int .i64 aP] 23)))
  clear hxw2
  go_wp2_with fail
  refine (HD.out _ HXw.out).mono ?_
  rintro e w4 ⟨rfl, b4⟩
  have hbb := hb2.trans (b3.mono hb2.size)
  have hbb2 := hbb.alloc hbb.size (.cells #[.int .i64 aR, .int .i64 aP] 23)
  have hbb3 := hbb2.trans (b4.mono hbb2.size)
  have X : Blk w4 w3.heap.size 23 [.int .i64 aR, .int .i64 aP] := (Blk.new w3 _ _).step b4
  have HB4 := Lib.hid ((((HB.out.step b3)).step ((Below.refl _ _).alloc (Nat.le_refl _) (.cells #[.int .i64 aR, .int .i64 aP] 23))).step b4)
  have HX4 := Lib.hid (HasA.step HXw.out b4)
  clear b3 b4 hbb hbb2 HXw hb2 hlt
  go_wp2_with fail
  obtain ⟨W0, hW0⟩ : ∃ W0, w4.alloc (.cells #[.int .i64 aR, .int .i64 aP] 23) = W0 := ⟨_, rfl⟩
  have hb0 : Below w.heap.size w W0 := hW0 ▸ hbb3.alloc hbb3.size _
  have X0 : Blk W0 w3.heap.size 23 [.int .i64 aR, .int .i64 aP] := hW0 ▸ X.alloc _
  have Y0 : Blk W0 w4.heap.size 23 [.int .i64 aR, .int .i64 aP] := hW0 ▸ Blk.new w4 _ _
  have HB0 : Hid (HasB W0 g (xs ++ [(77, 0)])) := Lib.hid (hW0 ▸ HB4.out.step ((Below.refl _ _).alloc (Nat.le_refl _) _))
  have HX0 : Hid (HasA W0 a xs) := Lib.hid (hW0 ▸ HX4.out.step ((Below.refl _ _).alloc (Nat.le_refl _) _))
  rw [hW0]
  clear hW0 hbb3 X HB4 HX4 HB HA HD
  go_loopw [12] (fun i wr => ∃ k : Nat, k ≤ n ∧ i = .int .i64 k ∧ Ext W0 wr) (fun i _ => n - (intOf i).toNat)
  case atStart => exact ⟨0, by omega, rfl, Below.refl _ _⟩
  case round =>
    obtain ⟨k, hk, rfl, hx⟩ := hrel
    by_cases hlt : k < n
    · have hlt' : k < xs.length := by rw [HN.out]; exact hlt
      obtain ⟨c0, c1⟩ := HX0.out.step hx k hlt'
      obtain ⟨d0, d1⟩ := HB0.out.pre.step hx k hlt'
      change wr.cell? ⟨(a.add (k * 2)).block, (a.add (k * 2)).off + 1, none⟩ = _ at c1
      obtain ⟨xr, hr⟩ : ∃ r, xs[k].1 = r := ⟨_, rfl⟩
      obtain ⟨xp, hp⟩ : ∃ p, xs[k].2 = p := ⟨_, rfl⟩
      rw [hr] at c0 d0
      rw [hp] at c1 d1
      clear hr hp
      have hk0 : (0 : Int) ≤ (k : Int) := by omega
      have hk1 : (k : Int) < (n : Int) := by omega
      have e0 := ext_cellA c0
      have e1 := ext_cellA c1
      have e2 := ext_cell d0
      have e3 := ext_cell d1
      clear c0 c1 d0 d1
      go_wp2_with fail
      refine wp_region_ext (by kernel_rfl) (by kernel_rfl) ?_
      repeat
        (first
          | go_big_quiet_skip
          | (go_big_quiet_want
             go_big_quiet_op
             first
               | go_big_quiet_on
               | (apply Exists.intro
                  refine ⟨fun w' hC => ?_, ?_⟩
                  · (first
                      | with_reducible rfl
                      | fail
                      | (go_simp; done)
                      | (go_simp; with_reducible rfl))
                  go_big_quiet_on)))
      refine wpQuiet_nil ?_
      intro wq hq
      clear e0 e1 e2 e3
      go_wp2
      go_roundw
      case rel => exact ⟨k + 1, by omega, by go_num, hx.call hq⟩
      case measure => simp [intOf]; omega
    · obtain rfl : k = n := by omega
      have X1 := X0.step hx
      have Y1 := Y0.step hx
      have hB1 := HB0.out.step hx k (by rw [List.length_append, HN.out]; simp)
      have he : (xs ++ [((77 : Int), (0 : Int))])[k]'(by rw [List.length_append, HN.out]; simp) = (77, 0) := by simp [← HN.out]
      rw [he] at hB1
      have d7 := hB1.1
      clear he hB1
      have c0 := X1.cell (j := 0) rfl
      have c1 := X1.cell (j := 1) rfl
      have c2 := Y1.cell (j := 0) rfl
      have c3 := Y1.cell (j := 1) rfl
      have hcap2 : (k : Int) + 1 ≤ (cap2 : Int) := by omega
      have hb9 := hb0.trans (Below.mono hx hb0.size)
      go_wp2_with fail
      refine (num_any _ _).mono ?_
      rintro e w' ⟨rfl, rfl⟩
      go_wp2_with fail
      refine (works_any _).mono ?_
      rintro e w9 ⟨rfl, b9⟩
      go_wp2_with fail
      go_returns
      exact ⟨rfl, hb9.trans (b9.mono hb9.size)⟩
end Go.Proofs.Ytkohpfkgdigaiaa
