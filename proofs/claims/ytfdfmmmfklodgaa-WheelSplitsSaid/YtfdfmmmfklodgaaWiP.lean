
/- WheelSplits: the walk. -/
import Derived.Test.YtfdfmmmfklodgaaWiO
namespace Go.Proofs.Ytfdfmmmfklodgaa
set_option linter.unusedSimpArgs false
set_option linter.unusedVariables false
open Go.RowKit
theorem Tw.kx {w0 W W' : World} {rs ws xs ys : List Nat} {ga gb : Nat} {n1 n2 : Int} {L1 L2 : List (Int × Int)} (h : Tw w0 rs W xs ga n1 L1 ys gb n2 L2) (hk : Kx ws W W') (hw : ∀ z, z ∈ ws → w0.heap.size ≤ z ∧ z ∉ xs ∧ z ∉ ys) : Tw w0 rs W' xs ga n1 L1 ys gb n2 L2 :=
  ⟨h.1.kx hk (fun z hz => (hw z hz).1), fun r hr => Nat.lt_of_lt_of_le (h.2.1 r hr) hk.size, ⟨h.2.2.1.1.kx hk (fun x hx hz => (hw x hz).2.1 hx), h.2.2.1.2⟩, ⟨h.2.2.2.1.1.kx hk (fun y hy hz => (hw y hz).2.2 hy), h.2.2.2.1.2⟩, h.2.2.2.2.1, h.2.2.2.2.2⟩
theorem own_not {v v3 : Value} {rs xs : List Nat} {B : Nat} (hob : v3.ownBlock = v.ownBlock ∨ v3.ownBlock = some B) (hl : ∀ y, y ∈ xs → y < B) (hn : ∀ y, y ∈ xs → y ∉ rs ++ v.ownBlock.toList) (x : Nat) (hx : x ∈ v3.ownBlock.toList) : x ∉ xs := by
  intro hm
  rcases hob with e | e
  · rw [e] at hx
    exact hn x hm (List.mem_append.2 (.inr hx))
  · rw [e] at hx
    simp at hx
    have := hl x hm
    omega
theorem adv_T0 {L : List (Int × Int)} (hG : GoodW 0 L) (t : Int) (t0 : 0 ≤ t) (t1 : t ≤ 10000) : advE 0 t = 0 ∧ advN 0 t = t ∧ advL 0 L t = rstT L t ∧ advO 0 L t = dueT L t := by
  obtain ⟨a1, a2, a3, a4⟩ := adv_T hG.ord 0 t (by omega) (by omega) t0 t1
  rw [rstT_zero hG] at a3 a4
  rw [dueT_zero hG, List.nil_append] at a4
  rw [Int.zero_add] at a2 a3 a4
  exact ⟨a1, a2, a3, a4⟩
set_option maxRecDepth 100000 in
set_option maxHeartbeats 8000000 in
theorem splits_some (ao bo : Option Addr) (n m c1 c2 : Nat) (l r : List Int) (w : World) (hl : l.length = n) (hr : r.length = m) (hA : HasZ w ao l) (hB : HasZ w bo r) (hn : n ≤ 30) (hm : m ≤ 30) :
    Calls Try.prog 7 #[.slice ao n c1, .slice bo m c2] w (WorksP w) := by
  have n0 : (0 : Int) ≤ (n : Int) := by omega
  have m0 : (0 : Int) ≤ (m : Int) := by omega
  have n1 : (n : Int) ≤ 30 := by omega
  have m1 : (m : Int) ≤ 30 := by omega
  have Hl := Lib.hid hl
  clear hl
  have Hr := Lib.hid hr
  clear hr
  go_enter Try.func7, Try.ntmps7
  go_wp2_with fail
  refine (new_any w).mono ?_
  rintro e w1 ⟨⟨ga, ba, xs, rfl, hW1, hx⟩, hb1⟩
  go_wp2_with fail
  refine (new_any w1).mono ?_
  rintro e w2 ⟨⟨gb, bb, ys, rfl, hW2, hy⟩, hb2⟩
  have hT : Tw w [] w2 xs ga 0 [] ys gb 0 [] := ⟨From.step hb1 hb2, fun _ h => (by cases h), ⟨⟨_, _, hW1.step hb2⟩, good0⟩, ⟨⟨_, _, hW2⟩, good0⟩, fun x hm => ⟨hx x hm, fun h => (by cases h), fun h => by have := hy x h; have := hW1.lt x hm; omega⟩, fun y hm => ⟨by have := hy y hm; have := Below.size hb1; omega, fun h => (by cases h)⟩⟩
  clear hW1 hW2 hx hy hb1 hb2
  go_wp2_with fail
  go_loopw [7] (fun u wr => ∃ (k : Nat) (L : List (Int × Int)) (xs ys : List Nat), u = .int .i64 k ∧ k ≤ n ∧ Sp l k L ∧ (∀ j t, j < k → l[j]? = some t → 1 ≤ t ∧ t ≤ 3000) ∧ Tw w [] wr xs ga 0 L ys gb 0 L) (fun u _ => n - (intOf u).toNat)
  case atStart => exact ⟨0, [], xs, ys, rfl, by omega, Sp.nil l, fun j t h => (by omega), hT⟩
  clear hT
  clear xs ys
  case' round =>
    obtain ⟨k, L, xs, ys, rfl, hk, hS, hz, hT⟩ := hrel
    have k0 : (0 : Int) ≤ (k : Int) := by omega
    by_cases hlt : k < n
    · have k1 : (k : Int) < (n : Int) := by omega
      obtain ⟨z, hzk⟩ : ∃ z, l[k]? = some z := ⟨_, List.getElem?_eq_getElem (by have := Hl.out; omega)⟩
      have HZ := Lib.hid hzk
      obtain ⟨b, off, rfl, q0⟩ := hA.step hT.1.out k z hzk
      by_cases z1 : z < 1
      · clear hzk hz hS
        go_wp2_with fail
        refine (works_any _).mono ?_
        rintro e w9 ⟨rfl, hb9⟩
        go_wp2_with fail
        go_ret
        exact ⟨rfl, hT.1.step hb9⟩
      · by_cases z2 : 3000 < z
        · clear hzk hz hS
          go_wp2_with fail
          refine (works_any _).mono ?_
          rintro e w9 ⟨rfl, hb9⟩
          go_wp2_with fail
          go_ret
          exact ⟨rfl, hT.1.step hb9⟩
        · obtain ⟨e0, ea, hS2⟩ := hS.set hzk (by omega) (by omega) (by omega)
          have hz2 : ∀ j t, j < k + 1 → l[j]? = some t → 1 ≤ t ∧ t ≤ 3000 := fun j t hj ht => by
            by_cases e : j = k
            · subst e
              rw [hzk] at ht
              cases ht
              omega
            · exact hz j t (by omega) ht
          have cs := tw_set hT k z (wf_of (by omega) (by omega)) (L' := setL 0 L k z) rfl ea e0
          have cs2 := fun W xs2 (h : Tw w [] W xs2 ga 0 (setL 0 L k z) ys gb 0 L) => tw_set h.swap k z (wf_of (by omega) (by omega)) (L' := setL 0 L k z) rfl ea e0
          clear e0 ea hzk hz hS
          generalize setL 0 L k z = L2 at *
          go_wp2_with fail
          refine (cs).mono ?_
          rintro e w3 ⟨rfl, xs2, hT2⟩
          clear cs q0 hT
          obtain ⟨_, _, he, q0⟩ := hA.step hT2.1.out k z HZ.out
          cases he
          go_wp2_with fail
          refine (cs2 _ _ hT2).mono ?_
          rintro e w4 ⟨rfl, ys2, hT3⟩
          clear cs2 q0 hT2
          obtain ⟨_, _, he, q0⟩ := hA.step hT3.1.out k z HZ.out
          cases he
          go_wp2_with fail
          refine (num_any _ _).mono ?_
          rintro e _ ⟨rfl, rfl⟩
          go_wp2_with fail
          refine (num_any _ _).mono ?_
          rintro e _ ⟨rfl, rfl⟩
          go_wp2_with fail
          go_roundw
          case rel => exact ⟨k + 1, L2, xs2, ys2, by go_num, by omega, hS2, hz2, hT3.swap⟩
          case measure => simp [intOf]; omega
    · obtain rfl : n = k := by omega
      have hG := hT.2.2.1.2
      have hord := hG.ord
      have hlen := hG.len
      have hR0 : RowD wr w.heap.size (.slice none 0 0) (dueT L 0) := by rw [dueT_zero hG]; exact World.ownsRow_nil _ _ _ _
      have hT0 : Tw w (Value.slice none 0 0).ownBlock.toList wr xs ga 0 (rstT L 0) ys gb 0 L := by
        rw [rstT_zero hG]
        exact hT
      clear hT
      go_upto_region 14 with fail
      go_wp2_with fail
      go_loopw [12, 13, 14] (fun u12 u13 u wr => ∃ (j : Nat) (t : Int) (xs : List Nat), u = .int .i64 j ∧ j ≤ m ∧ u13 = .int .i64 t ∧ 0 ≤ t ∧ t ≤ 200 * (j : Int) ∧ RowD wr w.heap.size u12 (dueT L t) ∧ Tw w u12.ownBlock.toList wr xs ga t (rstT L t) ys gb 0 L) (fun _ _ u _ => m - (intOf u).toNat)
      case atStart => exact ⟨0, 0, xs, rfl, by omega, rfl, by omega, by omega, hR0, hT0⟩
      clear hR0 hT0
      clear xs
      case' round =>
        obtain ⟨j, t, xs, rfl, hj, rfl, t0, t1, hR, hT⟩ := hrel
        have j0 : (0 : Int) ≤ (j : Int) := by omega
        by_cases hlt2 : j < m
        · have j1 : (j : Int) < (m : Int) := by omega
          obtain ⟨z, hzj⟩ : ∃ z, r[j]? = some z := ⟨_, List.getElem?_eq_getElem (by have := Hr.out; omega)⟩
          have HZ := Lib.hid hzj
          obtain ⟨b, off, rfl, q0⟩ := hB.step hT.1.out j z hzj
          by_cases z1 : z < 0
          · clear hzj hS hz
            go_wp2_with fail
            refine (works_any _).mono ?_
            rintro e w9 ⟨rfl, hb9⟩
            go_wp2_with fail
            go_ret
            exact ⟨rfl, hT.1.step hb9⟩
          · by_cases z2 : 200 < z
            · clear hzj hS hz
              go_wp2_with fail
              refine (works_any _).mono ?_
              rintro e w9 ⟨rfl, hb9⟩
              go_wp2_with fail
              go_ret
              exact ⟨rfl, hT.1.step hb9⟩
            · obtain ⟨a1, a2, a3, a4⟩ := adv_T hord t z t0 (by omega) (by omega) (by omega)
              have cs := tw_adv hT z (L' := rstT L (t + z)) (O' := advO t (rstT L t) z) a3 rfl a2 a1
              have hlenD : (dueT L (t + z)).length ≤ L.length := List.length_filter_le _ _
              rw [← a4, List.length_append] at hlenD
              generalize advO t (rstT L t) z = O2 at *
              go_wp2_with fail
              refine (cs).mono ?_
              rintro e w3 ⟨ar, cr, xs2, rfl, hR2, hT2, ⟨zs, hkz, hzz⟩⟩
              replace hR := hR.kx hkz (fun q hq => hzz q (Option.mem_toList.2 hq))
              clear cs q0 hT hkz hzz zs a1 a2 a3
              obtain ⟨_, _, he, q0⟩ := hB.step hT2.1.out j z HZ.out
              cases he
              have hbb : b < w.heap.size := by
                obtain ⟨b', off', h1, h2⟩ := hB j z HZ.out
                cases h1
                exact World.block_lt_of_cell? w _ h2
              obtain ⟨N2, hN2⟩ : ∃ N, O2.length = N := ⟨_, rfl⟩
              rw [hN2] at hR2 hT2 ⊢
              obtain ⟨vl, hvl⟩ : ∃ v, Value.slice ar N2 cr = v := ⟨_, rfl⟩
              rw [hvl] at hR2 hT2 ⊢
              go_wp2_with fail
              refine (num_any _ _).mono ?_
              rintro e _ ⟨rfl, rfl⟩
              go_upto_region 22 with fail
              have cS : ∀ W' : World, W'.cell? ⟨b, off + j, none⟩ = some (.int .i64 z) → W'.cell? ⟨b, off + j, none⟩ = some (.int .i64 z) := fun _ h => h
              have hbase := hT2.1.size
              have hS0 := q0
              have hwz : IntKind.i64.wrap (t + z) = t + z := IntWalk.i64_in _ (by omega)
              have hlenO : (dueT L t).length + O2.length ≤ 100000 := by omega
              refine wp_region_held (S := fun W' : World => W'.cell? ⟨b, off + j, none⟩ = some (.int .i64 z)) (by kernel_rfl) ?_
              have hst : Below (w3).heap.size w3 { w3 with drawn := (w3).drawn + 1 } := ⟨rfl, rfl, rfl, Nat.le_refl _, fun _ _ => rfl⟩
              have hS : (fun W' : World => W'.cell? ⟨b, off + j, none⟩ = some (.int .i64 z)) { w3 with drawn := (w3).drawn + 1 } := by first | exact ⟨rfl, rfl, rfl, Nat.le_refl _, fun _ _ _ => rfl⟩ | exact ⟨rfl, rfl, rfl, Nat.le_refl _, fun _ _ => rfl⟩ | exact hS0
              replace hT2 := hT2.step hst
              replace hR := hR.step hst
              replace hR2 := hR2.step hst
              clear hst
              generalize ({ w3 with drawn := (w3).drawn + 1 } : World) = wq at *
              refine wpAnyH_take (i := 0) (v := ?_) rfl (by kernel_rfl) (by kernel_rfl) (by kernel_rfl) (fun _ _ _ h => h) (Or.inl ⟨by kernel_rfl, ?_⟩) hS ?_
              rotate_left
              · intro W hSW
                have y0 := cS _ hSW
                go_simp
                try with_reducible rfl
              dsimp only [Act.put]
              refine wpAnyH_take (i := 1) (v := ?_) rfl (by kernel_rfl) (by kernel_rfl) (by kernel_rfl) (fun _ _ _ h => h) (Or.inl ⟨by kernel_rfl, ?_⟩) hS ?_
              rotate_left
              · intro W hSW
                have y0 := cS _ hSW
                go_simp
                try with_reducible rfl
              dsimp only [Act.put]
              refine wpAnyH_take (i := 3) (v := ?_) rfl (by kernel_rfl) (by kernel_rfl) (by kernel_rfl) (fun _ _ _ h => h) (Or.inl ⟨by kernel_rfl, ?_⟩) hS ?_
              rotate_left
              · intro W hSW
                have y0 := cS _ hSW
                go_simp
                try with_reducible rfl
              dsimp only [Act.put]
              refine wpAnyH_take (i := 4) (v := ?_) rfl (by kernel_rfl) (by kernel_rfl) (by kernel_rfl) (fun _ _ _ h => h) (Or.inl ⟨by kernel_rfl, ?_⟩) hS ?_
              rotate_left
              · intro W hSW
                have y0 := cS _ hSW
                go_simp
                try with_reducible rfl
              dsimp only [Act.put]
              refine wpAnyH_take (i := 5) (v := ?_) rfl (by kernel_rfl) (by kernel_rfl) (by kernel_rfl) (fun _ _ _ h => h) (Or.inl ⟨by kernel_rfl, ?_⟩) hS ?_
              rotate_left
              · intro W hSW
                have y0 := cS _ hSW
                go_simp
                try with_reducible rfl
              dsimp only [Act.put]
              refine wpAnyH_take (i := 6) (v := ?_) rfl (by kernel_rfl) (by kernel_rfl) (by kernel_rfl) (fun _ _ _ h => h) (Or.inl ⟨by kernel_rfl, ?_⟩) hS ?_
              rotate_left
              · intro W hSW
                have y0 := cS _ hSW
                go_simp
                try with_reducible rfl
              dsimp only [Act.put]
              refine wpAnyH_take (i := 7) (v := ?_) rfl (by kernel_rfl) (by kernel_rfl) (by kernel_rfl) (fun _ _ _ h => h) (Or.inl ⟨by kernel_rfl, ?_⟩) hS ?_
              rotate_left
              · intro W hSW
                have y0 := cS _ hSW
                go_simp
                try with_reducible rfl
              dsimp only [Act.put]
              refine wpAnyH_take (i := 8) (v := ?_) rfl (by kernel_rfl) (by kernel_rfl) (by kernel_rfl) (fun _ _ _ h => h) (Or.inl ⟨by kernel_rfl, ?_⟩) hS ?_
              rotate_left
              · intro W hSW
                have y0 := cS _ hSW
                go_simp
                try with_reducible rfl
              dsimp only [Act.put]
              obtain ⟨v3, wd, ra, hRd, hkd, hob⟩ := hR.app hR2 hlenO hT2.1.size 26
              refine wpAnyH_ready (rs := [2]) (by kernel_rfl) (by simp) ?_
              refine AllReadyH.cons rfl (fun K hK => ?_) AllReadyH.nil
              have hTd := hT2.kx hkd (fun x hx => ⟨(hR.ge x (Option.mem_toList.1 hx)).1, fun hm => (hT2.2.2.2.2.1 x hm).2.1 (List.mem_append.2 (.inr hx)), fun hm => (hT2.2.2.2.2.2 x hm).2 (List.mem_append.2 (.inr hx))⟩)
              have hTe : Tw w v3.ownBlock.toList wd xs2 ga (t + z) (rstT L (t + z)) ys gb 0 L := hTd.rows (fun x hx => ⟨(hRd.ge x (Option.mem_toList.1 hx)).2, own_not hob (fun y hy => hT2.2.2.1.1.lt y hy) (fun y hy => (hT2.2.2.2.2.1 y hy).2.1) x hx, own_not hob (fun y hy => hT2.2.2.2.1.1.lt y hy) (fun y hy => (hT2.2.2.2.2.2 y hy).2) x hx⟩)
              refine step_append_run (v := u12) (v2 := vl) rfl (.tmp 126) (.tmp 127) 26 rfl (by kernel_rfl) (by kernel_rfl) ra ?_
              refine hK.out _ _ ((kx_all hS (fun hm => by have := (hR.ge b (Option.mem_toList.1 hm)).1; omega)) _ hkd) (fun hS => ?_)
              rw [a4] at hRd
              clear hkd hob ra hT2 hTd hR2 hR
              clear hK K
              refine wpAnyH_ready (rs := [9]) (by kernel_rfl) (by simp) ?_
              refine AllReadyH.cons rfl (fun K hK => ?_) AllReadyH.nil
              go_simp
              refine hK.out _ _ hS (fun hS => ?_)
              clear hK K
              refine wpAnyH_ready (rs := [10]) (by kernel_rfl) (by simp) ?_
              refine AllReadyH.cons rfl (fun K hK => ?_) AllReadyH.nil
              go_simp
              refine hK.out _ _ hS (fun hS => ?_)
              clear hK K
              refine wpAnyH_done (by kernel_rfl) ?_ _
              go_wp2_with fail
              go_roundw
              case rel => exact ⟨j + 1, t + z, xs2, by go_num, by omega, by go_num, by omega, by omega, hRd, hTe⟩
              case measure => simp [intOf]; omega
        · obtain rfl : m = j := by omega
          obtain ⟨a1, a2, a3, a4⟩ := adv_T0 hG t t0 (by omega)
          have cs := fun W xs2 (h : Tw w u12.ownBlock.toList W ys gb 0 L xs2 ga t (rstT L t)) => tw_adv h t (L' := rstT L t) (O' := dueT L t) a3 a4 a2 a1
          obtain ⟨ar, cr, rfl, -⟩ := row_form hR
          have hDL : ∀ p, p ∈ dueT L t ↔ p ∈ L ∧ p.2 ≤ t := fun p => by unfold dueT; simp
          have hDn : ((dueT L t).map (·.1)).Nodup := hG.nodup.sublist ((List.filter_sublist).map _)
          have hDl : (dueT L t).length ≤ n := by
            have h1 : (dueT L t).length ≤ L.length := List.length_filter_le _ _
            have h2 := hS.1
            omega
          clear a1 a2 a3 a4
          generalize dueT L t = D at *
          obtain ⟨N, hN⟩ : ∃ N, D.length = N := ⟨_, rfl⟩
          rw [hN] at cs hR hT hDl ⊢
          have HN := Lib.hid hN
          clear hN
          go_wp2_with fail
          refine (cs _ _ hT.swap).mono ?_
          rintro e w3 ⟨a2, c2, ys2, rfl, hR2, hT2, ⟨zs, hkz, hzz⟩⟩
          replace hR := hR.kx hkz (fun q hq => hzz q (Option.mem_toList.2 hq))
          clear cs hT hkz hzz zs
          go_wp2_with fail
          refine (num_any _ _).mono ?_
          rintro e _ ⟨rfl, rfl⟩
          have cS := fun W (h : RowD W w.heap.size (.slice ar N cr) D) (h2 : RowD W wr.heap.size (.slice a2 N c2) D) => by
            have := sameList_any wr.heap.size w.heap.size a2 c2 D ar cr D W (by rw [HN.out]; exact h2) (by rw [HN.out]; exact h) (by rw [HN.out]; omega) (by rw [HN.out]; omega)
            rw [HN.out, show decide (D = D) = true by simp] at this
            exact this
          go_wp2_with fail
          refine (cS _ hR hR2).mono ?_
          rintro e w4 ⟨rfl, hb4⟩
          replace hR := hR.step hb4
          replace hT2 := hT2.step hb4
          have cE := fun W xs1 xs2 (h1 : WhV W xs1 ga t (rstT L t)) (h2 : WhV W xs2 gb t (rstT L t)) => by
            have := same_any xs1 ga t (rstT L t) xs2 gb t (rstT L t) W h1 h2 hT2.2.2.2.1.2 hT2.2.2.1.2
            rw [sameW_self] at this
            exact this
          clear cS hb4 hR2
          go_wp2_with fail
          refine (cE _ _ _ hT2.2.2.2.1.1 hT2.2.2.1.1).mono ?_
          rintro e w5 ⟨rfl, hb5⟩
          replace hR := hR.step hb5
          replace hT2 := hT2.step hb5
          have hF := hT2.1
          clear cE hb5 hT2
          have hd := (show RowD w5 w.heap.size (.slice ar D.length cr) D by rw [HN.out]; exact hR).has.2.1
          have hkey : ∀ (i : Nat) (z : Int), l[i]? = some z → ((i : Int) ∈ D.map (·.1) ↔ z ≤ t) := fun i z hzi => by
            rw [List.mem_map]
            constructor
            · rintro ⟨p, hp, e⟩
              obtain ⟨h1, h2⟩ := (hDL p).1 hp
              obtain ⟨i2, z2, -, h3, rfl⟩ := (hS.2 p).1 h1
              simp only at e h2
              obtain rfl : i2 = i := by omega
              rw [hzi] at h3
              cases h3
              exact h2
            · intro h
              have hin : i < l.length := (List.getElem?_eq_some_iff.1 hzi).1
              exact ⟨((i : Int), z), (hDL _).2 ⟨(hS.2 _).2 ⟨i, z, by have := Hl.out; omega, hzi, rfl⟩, h⟩, rfl⟩
          have hsame : ∀ (i : Nat) (z : Int) (p : Int × Int), l[i]? = some z → p ∈ D → p.1 = (i : Int) → p.2 = z := fun i z p hzi hp e => by
            obtain ⟨i2, z2, -, h3, rfl⟩ := (hS.2 p).1 ((hDL p).1 hp).1
            simp only at e ⊢
            obtain rfl : i2 = i := by omega
            rw [hzi] at h3
            cases h3
            rfl
          have hlow : ∀ p, p ∈ D → 0 ≤ p.1 ∧ p.1 < (n : Int) := fun p hp => by
            obtain ⟨i2, z2, hi2, h3, rfl⟩ := (hS.2 p).1 ((hDL p).1 hp).1
            simp only
            omega
          have hb0 := below_zero (fun p hp => (hlow p hp).1)
          have hbn := below_all (k := n) (fun p hp => (hlow p hp).2)
          have HK := Lib.hid hkey
          clear hkey
          have HS := Lib.hid hsame
          clear hsame
          have HDn := Lib.hid hDn
          clear hDn
          have Hb0 := Lib.hid hb0
          clear hb0
          have Hbn := Lib.hid hbn
          clear hbn
          clear hR hlow hDL hS hz hG hord
          go_upto_region 27 with fail
          go_wp2_with fail
          go_loopw [19, 20] (fun u19 u20 wr2 => ∃ i : Nat, u20 = .int .i64 i ∧ i ≤ n ∧ u19 = .int .i64 (below D i : Nat) ∧ From w5 wr2) (fun _ u _ => n - (intOf u).toNat)
          case atStart => exact ⟨0, rfl, by omega, by rw [Hb0.out]; rfl, From.refl _⟩
          case' round =>
            obtain ⟨i, rfl, hi, rfl, hb5⟩ := hrel
            have i0 : (0 : Int) ≤ (i : Int) := by omega
            by_cases hlt3 : i < n
            · have i1 : (i : Int) < (n : Int) := by omega
              obtain ⟨z, hzi⟩ : ∃ z, l[i]? = some z := ⟨_, List.getElem?_eq_getElem (by have := Hl.out; omega)⟩
              obtain ⟨b, off, rfl, q0⟩ := hA.step (hF.step hb5).out i z hzi
              have HZ := Lib.hid hzi
              clear hzi
              obtain ⟨B, hB0⟩ : ∃ B, below D i = B := ⟨_, rfl⟩
              have hB1 : B ≤ N := by rw [← hB0, ← HN.out]; exact List.length_filter_le _ _
              rw [hB0]
              have HB0 := Lib.hid hB0
              clear hB0
              go_upto_region 31 with fail
              go_wp2_with fail
              go_loopw [21, 22] (fun u21 u22 wr3 => ∃ k : Nat, u22 = .int .i64 k ∧ k ≤ N ∧ u21 = .int .i64 (times (D.take k) i : Nat) ∧ From w5 wr3) (fun _ u _ => N - (intOf u).toNat)
              case atStart => exact ⟨0, rfl, by omega, rfl, hb5⟩
              clear q0 hb5
              case' round =>
                obtain ⟨k, rfl, hk, rfl, hb5⟩ := hrel
                have k0 : (0 : Int) ≤ (k : Int) := by omega
                obtain ⟨T, hT⟩ : ∃ T, times (D.take k) i = T := ⟨_, rfl⟩
                have hT1 : T ≤ k := by
                  rw [← hT]
                  exact Nat.le_trans (List.length_filter_le _ _) (List.length_take_le _ _)
                by_cases hlt4 : k < N
                · have k1 : (k : Int) < (N : Int) := by omega
                  obtain ⟨p, hp⟩ : ∃ p, D[k]? = some p := ⟨_, List.getElem?_eq_getElem (by have := HN.out; omega)⟩
                  obtain ⟨_, _, he, q0⟩ := hA.step (hF.step hb5).out i z HZ.out
                  cases he
                  obtain ⟨b2, off2, rfl, d0, d1⟩ := hd.step hb5 k p hp
                  have hs := times_succ D i k p hp
                  rw [hT] at hs ⊢
                  have hm := List.mem_of_getElem? hp
                  obtain ⟨x, y⟩ := p
                  simp only at d0 d1 hs hm
                  by_cases e : x = (i : Int)
                  · obtain rfl := HS.out i z _ HZ.out hm e
                    simp only at d0 q0
                    rw [if_pos e] at hs
                    have Hs := Lib.hid hs
                    clear hs
                    clear hp hm
                    subst e
                    go_upto_region 36 with fail
                    replace d0 := extA_cell d0
                    replace d1 := extA_cell d1
                    replace q0 := extA_cell q0
                    refine wp_region_extB (by kernel_rfl) (by kernel_rfl) ?_
                    repeat
                      (first
                        | go_big_quiet_skip
                        | (go_big_quiet_want
                           go_big_quiet_op
                           first
                             | go_big_quiet_on
                             | (apply Exists.intro
                                refine ⟨fun w' hC => ?_, ?_⟩
                                · (first
                                    | with_reducible rfl
                                    | fail
                                    | (go_simp; done)
                                    | (go_simp; with_reducible rfl))
                                go_big_quiet_on)))
                    refine wpQuiet_nil ?_
                    intro w6 hbn
                    replace hb5 := hb5.step hbn
                    clear hbn
                    go_wp2_with fail
                    go_roundw
                    case rel => exact ⟨k + 1, by go_num, by omega, by rw [Hs.out]; go_num, hb5⟩
                    case measure => simp [intOf]; omega
                  · rw [if_neg e] at hs
                    have Hs := Lib.hid hs
                    clear hs
                    clear hp hm
                    go_wp2_with fail
                    go_roundw
                    case rel => exact ⟨k + 1, by go_num, by omega, by rw [Hs.out], hb5⟩
                    case measure => simp [intOf]; omega
                · obtain rfl : N = k := by omega
                  rw [hT]
                  obtain ⟨_, _, he, q0⟩ := hA.step (hF.step hb5).out i z HZ.out
                  cases he
                  have hT2 : T = if (i : Int) ∈ D.map (·.1) then 1 else 0 := by
                    rw [← hT, List.take_of_length_le (by rw [HN.out]; exact Nat.le_refl _)]
                    exact times_one HDn.out _
                  have hs : below D (i + 1) = B + T := by rw [below_succ, HB0.out, ← hT, List.take_of_length_le (by rw [HN.out]; exact Nat.le_refl _)]
                  by_cases hzt : z ≤ t
                  · rw [if_pos ((HK.out i z HZ.out).2 hzt)] at hT2
                    subst hT2
                    have Hs := Lib.hid hs
                    clear hs
                    clear hT
                    go_wp2_with fail
                    go_roundw
                    case rel => exact ⟨i + 1, by go_num, by omega, by rw [Hs.out]; go_num, hb5⟩
                    case measure => simp [intOf]; omega
                  · rw [if_neg (fun h => hzt ((HK.out i z HZ.out).1 h))] at hT2
                    subst hT2
                    have Hs := Lib.hid hs
                    clear hs
                    clear hT
                    go_wp2_with fail
                    go_roundw
                    case rel => exact ⟨i + 1, by go_num, by omega, by rw [Hs.out]; go_num, hb5⟩
                    case measure => simp [intOf]; omega
            · obtain rfl : n = i := by omega
              rw [Hbn.out, HN.out]
              go_wp2_with fail
              refine (works_any _).mono ?_
              rintro e w9 ⟨rfl, hb9⟩
              go_wp2_with fail
              go_ret
              exact ⟨rfl, (hF.step hb5).step hb9⟩
set_option maxRecDepth 100000 in
set_option maxHeartbeats 1000000 in
theorem WheelSplits_walk (ao : Option Addr) (n c1 : Nat) (bo : Option Addr) (m c2 : Nat) (w : World) (hA : ∃ l : List Int, l.length = n ∧ HasZ w ao l ∧ (∀ z, z ∈ l → wf64 z) ∧ n ≤ 9223372036854775807) (hB : ∃ l : List Int, l.length = m ∧ HasZ w bo l ∧ (∀ z, z ∈ l → wf64 z) ∧ m ≤ 9223372036854775807) :
    Calls Try.prog 7 #[.slice ao n c1, .slice bo m c2] w (WorksP w) := by
  obtain ⟨l, hl, hA, -, hn⟩ := hA
  obtain ⟨r, hr, hB, -, hm⟩ := hB
  by_cases h1 : n ≤ 30
  · by_cases h2 : m ≤ 30
    · exact splits_some ao bo n m c1 c2 l r w hl hr hA hB h1 h2
    · have n0 : (0 : Int) ≤ (n : Int) := by omega
      have n1 : (n : Int) ≤ 30 := by omega
      have m1 : 30 < (m : Int) := by omega
      have m2 : (m : Int) ≤ 9223372036854775807 := by omega
      go_enter Try.func7, Try.ntmps7
      go_wp2_with fail
      refine (works_any _).mono ?_
      rintro e w9 ⟨rfl, hb9⟩
      go_wp2_with fail
      go_ret
      exact ⟨rfl, hb9⟩
  · have n1 : 30 < (n : Int) := by omega
    have n2 : (n : Int) ≤ 9223372036854775807 := by omega
    go_enter Try.func7, Try.ntmps7
    go_wp2_with fail
    refine (works_any _).mono ?_
    rintro e w9 ⟨rfl, hb9⟩
    go_wp2_with fail
    go_ret
    exact ⟨rfl, hb9⟩
end Go.Proofs.Ytfdfmmmfklodgaa
