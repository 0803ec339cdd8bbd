
/- The statements' num, same. -/
import Derived.Test.YtehjglaofhgjfaaDoorTyL
import Derived.Deep.QuietTactic
import Derived.BigQuiet
import Derived.Test.YtehjglaofhgjfaaDoorTxD
namespace Go.Proofs.YtehjglaofhgjfaaDoor
set_option linter.unusedSimpArgs false
set_option linter.unusedVariables false
open Go.RowKit
theorem num3_any (r : Int) (w : World) : Calls Tryd.prog 13 #[.int .i64 r] w fun e w' => e = .returned (.int .i64 r) ∧ w = w' := by
  go_enter Tryd.func13, Tryd.ntmps13
  go_wp2
  go_ret
  exact ⟨rfl, rfl⟩
/-- A slice of texts, read. -/
def StrS (W : World) (v : Value) (l : List BL) : Prop := ∃ ao cap, v = .slice ao l.length cap ∧ ∀ j x, l[j]? = some x → ∃ g, ao = some ⟨g, 0, none⟩ ∧ W.cell? ⟨g, j, none⟩ = some (.string (mkS x))
theorem StrS.step {W W' : World} {v : Value} {l : List BL} (h : StrS W v l) (hb : Below W.heap.size W W') : StrS W' v l := by
  obtain ⟨ao, cap, hv, hc⟩ := h
  refine ⟨ao, cap, hv, fun j x hx => ?_⟩
  obtain ⟨g, hg, hcc⟩ := hc j x hx
  exact ⟨g, hg, (hb.cell (World.block_lt_of_cell? W _ hcc)).trans hcc⟩
theorem OwnL.strS {W : World} {base : Nat} {v : Value} {l : List BL} (h : OwnL W base v l) : StrS W v l := by
  rcases h.2 with ⟨rfl, h0⟩ | ⟨g, cap, cur, rfl, hg, hh, r⟩
  · have : l = [] := List.length_eq_zero_iff.1 h0
    subst this
    exact ⟨none, 0, rfl, fun j x hx => by simp at hx⟩
  · refine ⟨_, cap, rfl, fun j x hx => ⟨g, rfl, ?_⟩⟩
    have := World.ownsRow.cells h (g := g) rfl j (.string (mkS x)) (by unfold strL; rw [List.getElem?_map, hx]; rfl)
    simpa [Addr.add_lit] using this
theorem Blk.strS {W : World} {g : Nat} {l : List BL} (h : Blk W g 9 (strL l)) (c : Nat) : StrS W (.slice (some ⟨g, 0, none⟩) l.length c) l :=
  ⟨_, c, rfl, fun j x hx => ⟨g, rfl, h.cell (by unfold strL; rw [List.getElem?_map, hx]; rfl)⟩⟩
theorem take_ext {la lb : List BL} (h : la.length = lb.length) (ht : ∀ j, j < la.length → la[j]? = lb[j]?) : la = lb := by
  apply List.ext_getElem? 
  intro j
  by_cases hj : j < la.length
  · exact ht j hj
  · rw [List.getElem?_eq_none (by omega), List.getElem?_eq_none (by omega)]
set_option maxRecDepth 100000 in
set_option maxHeartbeats 1000000 in
theorem same3_any (va vb : Value) (la lb : List BL) (w : World) (ha : StrS w va la) (hb : StrS w vb lb) (hL : la.length ≤ 9000000) :
    Calls Tryd.prog 17 #[va, vb] w fun e w' => e = .returned (.bool (decide (la = lb))) ∧ Below w.heap.size w w' := by
  obtain ⟨ao, ca, rfl, hca⟩ := id ha
  obtain ⟨bo, cb, rfl, hcb⟩ := id hb
  obtain ⟨n, hn⟩ : ∃ n, la.length = n := ⟨_, rfl⟩
  obtain ⟨m, hm⟩ : ∃ m, lb.length = m := ⟨_, rfl⟩
  have HA := Lib.hid hca
  have HB := Lib.hid hcb
  clear hca hcb ha hb
  rw [hn] at hL
  rw [hn, hm]
  by_cases hnm : n = m
  · subst hnm
    obtain ⟨R, hR⟩ : ∃ R, decide (la = lb) = R := ⟨_, rfl⟩
    rw [hR]
    go_enter Tryd.func17, Tryd.ntmps17
    go_wp2_with fail
    go_loopw [5] (fun v wr => ∃ i : Nat, v = .int .i64 i ∧ i ≤ n ∧ Hid (∀ j, j < i → la[j]? = lb[j]?) ∧ Below w.heap.size w wr) (fun v _ => n - (intOf v).toNat)
    case atStart => exact ⟨0, rfl, by omega, Lib.hid (fun j h => by omega), Below.refl _ _⟩
    case round =>
      obtain ⟨i, rfl, hi, hE, hbw⟩ := hrel
      by_cases hlt : i < n
      · obtain ⟨x, hx⟩ : ∃ x, la[i]? = some x := ⟨_, List.getElem?_eq_getElem (by omega)⟩
        obtain ⟨y, hy⟩ : ∃ y, lb[i]? = some y := ⟨_, List.getElem?_eq_getElem (by omega)⟩
        obtain ⟨ga, rfl, ca1⟩ := HA.out i x hx
        obtain ⟨gb, rfl, cb1⟩ := HB.out i y hy
        have ca2 := (hbw.cell (World.block_lt_of_cell? w _ ca1)).trans ca1
        have cb2 := (hbw.cell (World.block_lt_of_cell? w _ cb1)).trans cb1
        have ca3 : ∀ q, (wr.drewN q).cell? ⟨ga, i, none⟩ = some (.string (mkS x)) := fun q => ((below_dn (Below.refl wr.heap.size wr) q).cell (World.block_lt_of_cell? wr _ ca2)).trans ca2
        have cb3 : ∀ q, (wr.drewN q).cell? ⟨gb, i, none⟩ = some (.string (mkS y)) := fun q => ((below_dn (Below.refl wr.heap.size wr) q).cell (World.block_lt_of_cell? wr _ cb2)).trans cb2
        have i0 : (0 : Int) ≤ (i : Int) := by omega
        have i1 : (i : Int) < (n : Int) := by omega
        have i2 : i < n := hlt
        clear ca1 cb1
        have bN : ∀ q, Below w.heap.size w (wr.drewN q) := fun q => below_dn hbw q
        by_cases hxy : x = y
        · subst hxy
          have e1 : ((mkS x).toList == (mkS x).toList) = true := beq_self_eq_true _
          go_upto_region 6 with fail
          go_quiet (fail)
          go_wp2_with fail
          go_roundw
          · refine ⟨i + 1, by simp, by omega, Lib.hid (fun j h => ?_), bN nq⟩
            rcases Nat.lt_succ_iff_lt_or_eq.1 h with h | rfl
            · exact hE.out j h
            · rw [hx, hy]
          · simp [intOf]; omega
        · have e1 : ((mkS x).toList == (mkS y).toList) = false := by
            rw [beq_eq_false_iff_ne]; exact fun e => hxy (by rw [Lib.toList_data, Lib.toList_data, mkS_data, mkS_data] at e; exact e)
          have hRf : R = false := by
            rw [← hR, decide_eq_false_iff_not]
            rintro rfl
            rw [hx] at hy
            exact hxy (Option.some.inj hy)
          subst hRf
          go_upto_region 6 with fail
          go_quiet (fail)
          go_wp2_with fail
          go_ret
          exact ⟨rfl, bN nq⟩
      · have hin : i = n := by omega
        subst hin
        have hRt : R = true := by
          rw [← hR, decide_eq_true_iff]
          exact take_ext (by rw [hn, hm]) (fun j h => hE.out j (by omega))
        subst hRt
        clear hn hm hE hR
        go_wp2_with fail
        go_ret
        exact ⟨rfl, hbw⟩
  · have hRf : decide (la = lb) = false := by
      rw [decide_eq_false_iff_not]
      rintro rfl
      exact hnm (by rw [← hn, ← hm])
    rw [hRf]
    have hz : ((n : Int) = (m : Int)) = False := by simp only [eq_iff_iff, iff_false]; omega
    have hz2 : ((n : Int) != (m : Int)) = true := by simp; omega
    clear hn hm HA HB hRf
    go_enter Tryd.func17, Tryd.ntmps17
    go_wp2_with fail
    go_ret
    exact ⟨rfl, Below.refl _ _⟩
end Go.Proofs.YtehjglaofhgjfaaDoor
