
/- WheelFar. -/
import Derived.Test.YtfdfmmmfklodgaaOpW
import Derived.Test.YtfdfmmmfklodgaaWiF
namespace Go.Proofs.Ytfdfmmmfklodgaa
set_option linter.unusedSimpArgs false
set_option linter.unusedVariables false
open Go.RowKit
set_option maxRecDepth 100000 in
set_option maxHeartbeats 8000000 in
theorem far_some (ao bo : Option Addr) (n m c1 c2 : Nat) (l r : List Int) (w : World) (hl : l.length = n) (hr : r.length = m) (hA : HasZ w ao l) (hB : HasZ w bo r) (hn : n ≤ 8) (hm : m ≤ 8) :
    Calls Try.prog 3 #[.slice ao n c1, .slice bo m c2] w (WorksP w) := by
  have n0 : (0 : Int) ≤ (n : Int) := by omega
  have m0 : (0 : Int) ≤ (m : Int) := by omega
  have n1 : (n : Int) ≤ 8 := by omega
  have m1 : (m : Int) ≤ 8 := by omega
  have Hl := Lib.hid hl
  clear hl
  have Hr := Lib.hid hr
  clear hr
  go_enter Try.func3, Try.ntmps3
  go_wp2_with fail
  refine (new_any w).mono ?_
  rintro e w1 ⟨⟨g, ba, xs, rfl, hW, hxs⟩, hb⟩
  replace hb : From w w1 := hb
  have hV : WhV w1 xs g 0 [] := ⟨_, _, hW⟩
  clear hW
  have hw1 := hb.size
  have hlt := hV.lt
  go_upto_region 4 with fail
  obtain ⟨gX, hgX⟩ : ∃ g, (w1).heap.size = g := ⟨_, rfl⟩
  have X := Blk.newV hgX 28 #[.int .i64 0, .slice none 0 0]
  have hbn := (Below.refl (w1).heap.size w1).alloc (Nat.le_refl _) (.cells #[.int .i64 0, .slice none 0 0] 28)
  replace hb := hb.step hbn
  replace hV := hV.step hbn
  clear hbn
  rw [hgX]
  generalize (w1).alloc (.cells #[.int .i64 0, .slice none 0 0] 28) = w2 at *
  have hP : PairW w2 xs g 0 [] none 0 := ⟨hV, good0, World.ownsRow_nil _ _ _ _, fun k hk => by cases hk⟩
  have hwX : w.heap.size ≤ gX := by omega
  have hAb : AboveL w.heap.size xs gX gX := ⟨fun x hx => hxs x hx, fun hm => by have := hlt _ hm; omega, fun hm => by have := hlt _ hm; omega⟩
  clear hw1 hlt hxs hgX
  go_wp2_with fail
  go_loopw [7] (fun u wr => ∃ (k : Nat) (now : Int) (L : List (Int × Int)) (a : Option Addr) (c : Nat) (xs : List Nat), u = .int .i64 k ∧ k ≤ n ∧ PairW wr xs g now L a c ∧ AboveL w.heap.size xs gX gX ∧ Blk wr gX 28 [.int .i64 now, .slice a L.length c] ∧ From w wr) (fun u _ => n - (intOf u).toNat)
  case atStart => exact ⟨0, 0, [], none, 0, xs, rfl, by omega, hP, hAb, X, hb⟩
  clear hP hAb X hb hV
  clear xs
  case' round =>
    obtain ⟨k, now, L, a, c, xs, rfl, hk, hP, hAb, X, hb⟩ := hrel
    have hPl := hP.1.lt
    have HAb := Lib.hid hAb
    clear hAb
    have HPl := Lib.hid hPl
    clear hPl
    have k0 : (0 : Int) ≤ (k : Int) := by omega
    by_cases hlt : k < n
    · have k1 : (k : Int) < (n : Int) := by omega
      obtain ⟨z, hz⟩ : ∃ z, l[k]? = some z := ⟨_, List.getElem?_eq_getElem (by have := Hl.out; omega)⟩
      have hzl := Lib.hid (hA k z hz)
      obtain ⟨b, off, rfl, hz0⟩ := hA.step hb.out k z hz
      have hbl : b < w.heap.size := by
        obtain ⟨b', off', h1, h2⟩ := hzl.out
        cases h1
        exact World.block_lt_of_cell? w _ h2
      clear hzl hz
      have q0 := kx_all (ws := xs) hz0 (fun hm => by have := HAb.out.1 _ hm; omega)
      obtain ⟨N, hN⟩ : ∃ N, L.length = N := ⟨_, rfl⟩
      have cT := fun W (h : PairW W xs g now L a c) => act_any xs g now L a c 0 k z (wf_of (by omega) (by omega)) W h
      rw [hN] at cT X
      have x0 := kx_all (ws := xs) (X.cell (j := 0) rfl) HAb.out.2.1
      have x1 := kx_all (ws := xs) (X.cell (j := 1) rfl) HAb.out.2.1
      clear hz0 hN
      go_upto_region 7 with fail
      refine wp_region_held (S := Kx xs wr) (by kernel_rfl) ?_
      have hst : Below (wr).heap.size wr { wr with drawn := (wr).drawn + 1 } := ⟨rfl, rfl, rfl, Nat.le_refl _, fun _ _ => rfl⟩
      have hS : (Kx xs wr) { wr with drawn := (wr).drawn + 1 } := by first | exact ⟨rfl, rfl, rfl, Nat.le_refl _, fun _ _ _ => rfl⟩ | exact ⟨rfl, rfl, rfl, Nat.le_refl _, fun _ _ => rfl⟩ | exact hS0
      replace hP := hP.step hst
      replace X := X.step hst
      replace hb := hb.step hst
      clear hst
      generalize ({ wr with drawn := (wr).drawn + 1 } : World) = wq at *
      refine wpAnyH_take (i := 0) (v := ?_) rfl (by kernel_rfl) (by kernel_rfl) (by kernel_rfl) (fun _ _ _ h => h) (Or.inl ⟨by kernel_rfl, ?_⟩) hS ?_
      rotate_left
      · intro W hSW
        have y0 := x0 _ hSW
        have y1 := x1 _ hSW
        have y2 := q0 _ hSW
        go_simp
        try with_reducible rfl
      dsimp only [Act.put]
      refine wpAnyH_take (i := 1) (v := ?_) rfl (by kernel_rfl) (by kernel_rfl) (by kernel_rfl) (fun _ _ _ h => h) (Or.inl ⟨by kernel_rfl, ?_⟩) hS ?_
      rotate_left
      · intro W hSW
        have y0 := x0 _ hSW
        have y1 := x1 _ hSW
        have y2 := q0 _ hSW
        go_simp
        try with_reducible rfl
      dsimp only [Act.put]
      refine wpAnyH_take (i := 2) (v := ?_) rfl (by kernel_rfl) (by kernel_rfl) (by kernel_rfl) (fun _ _ _ h => h) (Or.inl ⟨by kernel_rfl, ?_⟩) hS ?_
      rotate_left
      · intro W hSW
        have y0 := x0 _ hSW
        have y1 := x1 _ hSW
        have y2 := q0 _ hSW
        go_simp
        try with_reducible rfl
      dsimp only [Act.put]
      refine wpAnyH_take (i := 3) (v := ?_) rfl (by kernel_rfl) (by kernel_rfl) (by kernel_rfl) (fun _ _ _ h => h) (Or.inl ⟨by kernel_rfl, ?_⟩) hS ?_
      rotate_left
      · intro W hSW
        have y0 := x0 _ hSW
        have y1 := x1 _ hSW
        have y2 := q0 _ hSW
        go_simp
        try with_reducible rfl
      dsimp only [Act.put]
      refine wpAnyH_take (i := 4) (v := ?_) rfl (by kernel_rfl) (by kernel_rfl) (by kernel_rfl) (fun _ _ _ h => h) (Or.inl ⟨by kernel_rfl, ?_⟩) hS ?_
      rotate_left
      · intro W hSW
        have y0 := x0 _ hSW
        have y1 := x1 _ hSW
        have y2 := q0 _ hSW
        go_simp
        try with_reducible rfl
      dsimp only [Act.put]
      refine wpAnyH_take (i := 5) (v := ?_) rfl (by kernel_rfl) (by kernel_rfl) (by kernel_rfl) (fun _ _ _ h => h) (Or.inl ⟨by kernel_rfl, ?_⟩) hS ?_
      rotate_left
      · intro W hSW
        have y0 := x0 _ hSW
        have y1 := x1 _ hSW
        have y2 := q0 _ hSW
        go_simp
        try with_reducible rfl
      dsimp only [Act.put]
      refine wpAnyH_take (i := 6) (v := ?_) rfl (by kernel_rfl) (by kernel_rfl) (by kernel_rfl) (fun _ _ _ h => h) (Or.inl ⟨by kernel_rfl, ?_⟩) hS ?_
      rotate_left
      · intro W hSW
        have y0 := x0 _ hSW
        have y1 := x1 _ hSW
        have y2 := q0 _ hSW
        go_simp
        try with_reducible rfl
      dsimp only [Act.put]
      refine wpAnyH_take (i := 7) (v := ?_) rfl (by kernel_rfl) (by kernel_rfl) (by kernel_rfl) (fun _ _ _ h => h) (Or.inl ⟨by kernel_rfl, ?_⟩) hS ?_
      rotate_left
      · intro W hSW
        have y0 := x0 _ hSW
        have y1 := x1 _ hSW
        have y2 := q0 _ hSW
        go_simp
        try with_reducible rfl
      dsimp only [Act.put]
      refine wpAnyH_ready (rs := [8, 12]) (by kernel_rfl) (by simp) ?_
      refine AllReadyH.cons rfl (fun K hK => ?_) (AllReadyH.cons rfl (fun K hK => ?_) AllReadyH.nil)
      ·
        go_simp
        refine (cT _ hP).mono ?_
        rintro e wz ⟨now2, L2, a2, c2, xs2, rfl, hP2, hgr, hk2⟩
        have hAb2 := HAb.out.grow hgr (by have := hb.size; omega) X.lt X.lt
        replace X := X.kx hk2 HAb.out.2.1
        replace hb := hb.kx hk2 HAb.out.1
        refine hK.out _ _ (hS.trans hk2) (fun hS => ?_)
        obtain ⟨N2, hN2⟩ : ∃ N2, L2.length = N2 := ⟨_, rfl⟩
        rw [hN2]
        clear hgr hk2 hP
        clear hK K
        refine wpAnyH_take (i := 9) (v := ?_) rfl (by kernel_rfl) (by kernel_rfl) (by kernel_rfl) (fun _ _ _ h => h) (Or.inl ⟨by kernel_rfl, ?_⟩) hS ?_
        rotate_left
        · intro W hSW
          go_simp
          try with_reducible rfl
        dsimp only [Act.put]
        refine wpAnyH_take (i := 10) (v := ?_) rfl (by kernel_rfl) (by kernel_rfl) (by kernel_rfl) (fun _ _ _ h => h) (Or.inl ⟨by kernel_rfl, ?_⟩) hS ?_
        rotate_left
        · intro W hSW
          go_simp
          try with_reducible rfl
        dsimp only [Act.put]
        refine wpAnyH_take (i := 11) (v := ?_) rfl (by kernel_rfl) (by kernel_rfl) (by kernel_rfl) (fun _ _ _ h => h) (Or.inl ⟨by kernel_rfl, ?_⟩) hS ?_
        rotate_left
        · intro W hSW
          go_simp
          try with_reducible rfl
        dsimp only [Act.put]
        refine wpAnyH_ready (rs := [12]) (by kernel_rfl) (by simp) ?_
        refine AllReadyH.cons rfl (fun K hK => ?_) AllReadyH.nil
        go_simp
        obtain ⟨gT, hgT⟩ : ∃ gT, wz.heap.size = gT := ⟨_, rfl⟩
        have T := Blk.newV hgT 28 #[.int .i64 0, .slice none 0 0]
        have hba := (Below.refl wz.heap.size wz).alloc (Nat.le_refl _) (.cells #[.int .i64 0, .slice none 0 0] 28)
        have hwT : w.heap.size ≤ gT := by have := hb.size; omega
        have hrT : wr.heap.size ≤ gT := by have := hS.size; omega
        have hXT : gX < gT := by have := X.lt; omega
        replace X := X.step hba
        replace hb := hb.step hba
        have hTx : gT ∉ xs2 := fun hm => by have := hP2.1.lt _ hm; omega
        replace hP2 := hP2.step hba
        refine hK.out _ _ (hS.step hba) (fun hS => ?_)
        rw [hgT]
        generalize wz.alloc (.cells #[.int .i64 0, .slice none 0 0] 28) = wa at *
        clear hgT hba
        clear hK K
        have t0 := T.cell (j := 0) rfl
        have t1 := T.cell (j := 1) rfl
        have f0 := T.frozen 0
        have f1 := T.frozen 1
        refine wpAnyH_ready (rs := [13]) (by kernel_rfl) (by simp) ?_
        refine AllReadyH.cons rfl (fun K hK => ?_) AllReadyH.nil
        go_simp
        have T2 := (T.set 0 (.int .i64 now2)).set 1 (.slice a2 N2 c2)
        have hkk : Kx [gT] wa ((wa.setCell ⟨gT, 0, none⟩ (.int .i64 now2)).setCell ⟨gT, 1, none⟩ (.slice a2 N2 c2)) := ((Kx.refl _ _).setCell (.inl (by simp)) _).setCell (.inl (by simp)) _
        have hnx := hP2.2.2.1.ne_blk T (by decide)
        replace hP2 := hP2.kx hkk (fun x hx hm => by simp at hm; subst hm; exact hTx hx) (fun j hj hm => by simp at hm; subst hm; exact hnx hj)
        replace X := X.kx hkk (by simp; omega)
        replace hb := hb.kx hkk (fun x hx => by simp at hx; omega)
        refine hK.out _ _ (hS.kx hkk (fun x hx => .inr (by simp at hx; omega))) (fun hS => ?_)
        clear hkk hnx T
        generalize (wa.setCell ⟨gT, 0, none⟩ (.int .i64 now2)).setCell ⟨gT, 1, none⟩ (.slice a2 N2 c2) = ws at *
        simp only [List.set] at T2
        clear t0 t1 f0 f1
        clear hK K
        refine wpAnyH_ready (rs := [14]) (by kernel_rfl) (by simp) ?_
        refine AllReadyH.cons rfl (fun K hK => ?_) AllReadyH.nil
        go_simp
        refine hK.out _ _ hS (fun hS => ?_)
        clear hK K
        refine wpAnyH_done (by kernel_rfl) ?_ _
        clear hS x0 x1 q0
        have t0 := T2.cell (j := 0) rfl
        have t1 := T2.cell (j := 1) rfl
        have x0 := X.cell (j := 0) rfl
        have x1 := X.cell (j := 1) rfl
        have f0 := X.frozen 0
        have f1 := X.frozen 1
        go_upto_region 9 with fail
        have X2 := (X.set 0 (.int .i64 now2)).set 1 (.slice a2 N2 c2)
        have hkk : Kx [gX] ws ((ws.setCell ⟨gX, 0, none⟩ (.int .i64 now2)).setCell ⟨gX, 1, none⟩ (.slice a2 N2 c2)) := ((Kx.refl _ _).setCell (.inl (by simp)) _).setCell (.inl (by simp)) _
        have hnx := hP2.2.2.1.ne_blk X (by decide)
        replace hP2 := hP2.kx hkk (fun x hx hm => by simp at hm; subst hm; exact hAb2.2.1 hx) (fun j hj hm => by simp at hm; subst hm; exact hnx hj)
        replace hb := hb.kx hkk (fun x hx => by simp at hx; omega)
        clear hkk hnx X
        generalize (ws.setCell ⟨gX, 0, none⟩ (.int .i64 now2)).setCell ⟨gX, 1, none⟩ (.slice a2 N2 c2) = w9 at *
        simp only [List.set] at X2
        go_wp2_with fail
        go_roundw
        case rel => exact ⟨k + 1, now2, L2, a2, c2, xs2, by go_num, by omega, hP2, hAb2, by rw [hN2]; exact X2, hb⟩
        case measure => simp [intOf]; omega
      ·
        go_simp
        obtain ⟨gT, hgT⟩ : ∃ gT, wq.heap.size = gT := ⟨_, rfl⟩
        have T := Blk.newV hgT 28 #[.int .i64 0, .slice none 0 0]
        have hba := (Below.refl wq.heap.size wq).alloc (Nat.le_refl _) (.cells #[.int .i64 0, .slice none 0 0] 28)
        have hwT : w.heap.size ≤ gT := by have := hb.size; omega
        have hrT : wr.heap.size ≤ gT := by have := hS.size; omega
        have hXT : gX < gT := by have := X.lt; omega
        replace X := X.step hba
        replace hb := hb.step hba
        have hTx : gT ∉ xs := fun hm => by have := hP.1.lt _ hm; omega
        replace hP := hP.step hba
        refine hK.out _ _ (hS.step hba) (fun hS => ?_)
        rw [hgT]
        generalize wq.alloc (.cells #[.int .i64 0, .slice none 0 0] 28) = wa at *
        clear hgT hba
        have hTl := T.lt
        clear hK K
        refine wpAnyH_ready (rs := [8]) (by kernel_rfl) (by simp) ?_
        refine AllReadyH.cons rfl (fun K hK => ?_) AllReadyH.nil
        go_simp
        refine (cT _ hP).mono ?_
        rintro e wz ⟨now2, L2, a2, c2, xs2, rfl, hP2, hgr, hk2⟩
        have hAb2 := HAb.out.grow hgr (by have := hb.size; omega) X.lt X.lt
        replace X := X.kx hk2 HAb.out.2.1
        replace hb := hb.kx hk2 HAb.out.1
        replace T := T.kx hk2 hTx
        replace hTx := hgr.not hTx hTl
        refine hK.out _ _ (hS.trans hk2) (fun hS => ?_)
        obtain ⟨N2, hN2⟩ : ∃ N2, L2.length = N2 := ⟨_, rfl⟩
        rw [hN2]
        clear hgr hk2 hP
        clear hK K
        refine wpAnyH_take (i := 9) (v := ?_) rfl (by kernel_rfl) (by kernel_rfl) (by kernel_rfl) (fun _ _ _ h => h) (Or.inl ⟨by kernel_rfl, ?_⟩) hS ?_
        rotate_left
        · intro W hSW
          go_simp
          try with_reducible rfl
        dsimp only [Act.put]
        refine wpAnyH_take (i := 10) (v := ?_) rfl (by kernel_rfl) (by kernel_rfl) (by kernel_rfl) (fun _ _ _ h => h) (Or.inl ⟨by kernel_rfl, ?_⟩) hS ?_
        rotate_left
        · intro W hSW
          go_simp
          try with_reducible rfl
        dsimp only [Act.put]
        refine wpAnyH_take (i := 11) (v := ?_) rfl (by kernel_rfl) (by kernel_rfl) (by kernel_rfl) (fun _ _ _ h => h) (Or.inl ⟨by kernel_rfl, ?_⟩) hS ?_
        rotate_left
        · intro W hSW
          go_simp
          try with_reducible rfl
        dsimp only [Act.put]
        have t0 := T.cell (j := 0) rfl
        have t1 := T.cell (j := 1) rfl
        have f0 := T.frozen 0
        have f1 := T.frozen 1
        refine wpAnyH_ready (rs := [13]) (by kernel_rfl) (by simp) ?_
        refine AllReadyH.cons rfl (fun K hK => ?_) AllReadyH.nil
        go_simp
        have T2 := (T.set 0 (.int .i64 now2)).set 1 (.slice a2 N2 c2)
        have hkk : Kx [gT] wz ((wz.setCell ⟨gT, 0, none⟩ (.int .i64 now2)).setCell ⟨gT, 1, none⟩ (.slice a2 N2 c2)) := ((Kx.refl _ _).setCell (.inl (by simp)) _).setCell (.inl (by simp)) _
        have hnx := hP2.2.2.1.ne_blk T (by decide)
        replace hP2 := hP2.kx hkk (fun x hx hm => by simp at hm; subst hm; exact hTx hx) (fun j hj hm => by simp at hm; subst hm; exact hnx hj)
        replace X := X.kx hkk (by simp; omega)
        replace hb := hb.kx hkk (fun x hx => by simp at hx; omega)
        refine hK.out _ _ (hS.kx hkk (fun x hx => .inr (by simp at hx; omega))) (fun hS => ?_)
        clear hkk hnx T
        generalize (wz.setCell ⟨gT, 0, none⟩ (.int .i64 now2)).setCell ⟨gT, 1, none⟩ (.slice a2 N2 c2) = ws at *
        simp only [List.set] at T2
        clear t0 t1 f0 f1
        clear hK K
        refine wpAnyH_ready (rs := [14]) (by kernel_rfl) (by simp) ?_
        refine AllReadyH.cons rfl (fun K hK => ?_) AllReadyH.nil
        go_simp
        refine hK.out _ _ hS (fun hS => ?_)
        clear hK K
        refine wpAnyH_done (by kernel_rfl) ?_ _
        clear hS x0 x1 q0
        have t0 := T2.cell (j := 0) rfl
        have t1 := T2.cell (j := 1) rfl
        have x0 := X.cell (j := 0) rfl
        have x1 := X.cell (j := 1) rfl
        have f0 := X.frozen 0
        have f1 := X.frozen 1
        go_upto_region 9 with fail
        have X2 := (X.set 0 (.int .i64 now2)).set 1 (.slice a2 N2 c2)
        have hkk : Kx [gX] ws ((ws.setCell ⟨gX, 0, none⟩ (.int .i64 now2)).setCell ⟨gX, 1, none⟩ (.slice a2 N2 c2)) := ((Kx.refl _ _).setCell (.inl (by simp)) _).setCell (.inl (by simp)) _
        have hnx := hP2.2.2.1.ne_blk X (by decide)
        replace hP2 := hP2.kx hkk (fun x hx hm => by simp at hm; subst hm; exact hAb2.2.1 hx) (fun j hj hm => by simp at hm; subst hm; exact hnx hj)
        replace hb := hb.kx hkk (fun x hx => by simp at hx; omega)
        clear hkk hnx X
        generalize (ws.setCell ⟨gX, 0, none⟩ (.int .i64 now2)).setCell ⟨gX, 1, none⟩ (.slice a2 N2 c2) = w9 at *
        simp only [List.set] at X2
        go_wp2_with fail
        go_roundw
        case rel => exact ⟨k + 1, now2, L2, a2, c2, xs2, by go_num, by omega, hP2, hAb2, by rw [hN2]; exact X2, hb⟩
        case measure => simp [intOf]; omega
    · obtain rfl : k = n := by omega
      go_upto_region 11 with fail
      have hX0 := X
      clear hX0
      go_wp2_with fail
      go_loopw [10] (fun u wr => ∃ (k : Nat) (now : Int) (L : List (Int × Int)) (a : Option Addr) (c : Nat) (xs : List Nat), u = .int .i64 k ∧ k ≤ m ∧ PairW wr xs g now L a c ∧ AboveL w.heap.size xs gX gX ∧ Blk wr gX 28 [.int .i64 now, .slice a L.length c] ∧ From w wr) (fun u _ => m - (intOf u).toNat)
      case atStart => exact ⟨0, now, L, a, c, xs, rfl, by omega, hP, HAb.out, X, hb⟩
      clear hP HAb HPl X hb
      clear xs a L now c
      case' round =>
        obtain ⟨k, now, L, a, c, xs, rfl, hk, hP, hAb, X, hb⟩ := hrel
        have hPl := hP.1.lt
        have HAb := Lib.hid hAb
        clear hAb
        have HPl := Lib.hid hPl
        clear hPl
        have k0 : (0 : Int) ≤ (k : Int) := by omega
        by_cases hlt : k < m
        · have k1 : (k : Int) < (m : Int) := by omega
          obtain ⟨z, hz⟩ : ∃ z, r[k]? = some z := ⟨_, List.getElem?_eq_getElem (by have := Hr.out; omega)⟩
          have hzl := Lib.hid (hB k z hz)
          obtain ⟨b, off, rfl, hz0⟩ := hB.step hb.out k z hz
          have hbl : b < w.heap.size := by
            obtain ⟨b', off', h1, h2⟩ := hzl.out
            cases h1
            exact World.block_lt_of_cell? w _ h2
          clear hzl hz
          have q0 := kx_all (ws := xs) hz0 (fun hm => by have := HAb.out.1 _ hm; omega)
          obtain ⟨N, hN⟩ : ∃ N, L.length = N := ⟨_, rfl⟩
          have cT := fun W (h : PairW W xs g now L a c) => act_any xs g now L a c 2 0 z (wf_of (by omega) (by omega)) W h
          rw [hN] at cT X
          have x0 := kx_all (ws := xs) (X.cell (j := 0) rfl) HAb.out.2.1
          have x1 := kx_all (ws := xs) (X.cell (j := 1) rfl) HAb.out.2.1
          clear hz0 hN
          go_upto_region 14 with fail
          refine wp_region_held (S := Kx xs wr) (by kernel_rfl) ?_
          have hst : Below (wr).heap.size wr { wr with drawn := (wr).drawn + 1 } := ⟨rfl, rfl, rfl, Nat.le_refl _, fun _ _ => rfl⟩
          have hS : (Kx xs wr) { wr with drawn := (wr).drawn + 1 } := by first | exact ⟨rfl, rfl, rfl, Nat.le_refl _, fun _ _ _ => rfl⟩ | exact ⟨rfl, rfl, rfl, Nat.le_refl _, fun _ _ => rfl⟩ | exact hS0
          replace hP := hP.step hst
          replace X := X.step hst
          replace hb := hb.step hst
          clear hst
          generalize ({ wr with drawn := (wr).drawn + 1 } : World) = wq at *
          refine wpAnyH_take (i := 0) (v := ?_) rfl (by kernel_rfl) (by kernel_rfl) (by kernel_rfl) (fun _ _ _ h => h) (Or.inl ⟨by kernel_rfl, ?_⟩) hS ?_
          rotate_left
          · intro W hSW
            have y0 := x0 _ hSW
            have y1 := x1 _ hSW
            have y2 := q0 _ hSW
            go_simp
            try with_reducible rfl
          dsimp only [Act.put]
          refine wpAnyH_take (i := 1) (v := ?_) rfl (by kernel_rfl) (by kernel_rfl) (by kernel_rfl) (fun _ _ _ h => h) (Or.inl ⟨by kernel_rfl, ?_⟩) hS ?_
          rotate_left
          · intro W hSW
            have y0 := x0 _ hSW
            have y1 := x1 _ hSW
            have y2 := q0 _ hSW
            go_simp
            try with_reducible rfl
          dsimp only [Act.put]
          refine wpAnyH_take (i := 2) (v := ?_) rfl (by kernel_rfl) (by kernel_rfl) (by kernel_rfl) (fun _ _ _ h => h) (Or.inl ⟨by kernel_rfl, ?_⟩) hS ?_
          rotate_left
          · intro W hSW
            have y0 := x0 _ hSW
            have y1 := x1 _ hSW
            have y2 := q0 _ hSW
            go_simp
            try with_reducible rfl
          dsimp only [Act.put]
          refine wpAnyH_take (i := 3) (v := ?_) rfl (by kernel_rfl) (by kernel_rfl) (by kernel_rfl) (fun _ _ _ h => h) (Or.inl ⟨by kernel_rfl, ?_⟩) hS ?_
          rotate_left
          · intro W hSW
            have y0 := x0 _ hSW
            have y1 := x1 _ hSW
            have y2 := q0 _ hSW
            go_simp
            try with_reducible rfl
          dsimp only [Act.put]
          refine wpAnyH_take (i := 4) (v := ?_) rfl (by kernel_rfl) (by kernel_rfl) (by kernel_rfl) (fun _ _ _ h => h) (Or.inl ⟨by kernel_rfl, ?_⟩) hS ?_
          rotate_left
          · intro W hSW
            have y0 := x0 _ hSW
            have y1 := x1 _ hSW
            have y2 := q0 _ hSW
            go_simp
            try with_reducible rfl
          dsimp only [Act.put]
          refine wpAnyH_take (i := 5) (v := ?_) rfl (by kernel_rfl) (by kernel_rfl) (by kernel_rfl) (fun _ _ _ h => h) (Or.inl ⟨by kernel_rfl, ?_⟩) hS ?_
          rotate_left
          · intro W hSW
            have y0 := x0 _ hSW
            have y1 := x1 _ hSW
            have y2 := q0 _ hSW
            go_simp
            try with_reducible rfl
          dsimp only [Act.put]
          refine wpAnyH_take (i := 6) (v := ?_) rfl (by kernel_rfl) (by kernel_rfl) (by kernel_rfl) (fun _ _ _ h => h) (Or.inl ⟨by kernel_rfl, ?_⟩) hS ?_
          rotate_left
          · intro W hSW
            have y0 := x0 _ hSW
            have y1 := x1 _ hSW
            have y2 := q0 _ hSW
            go_simp
            try with_reducible rfl
          dsimp only [Act.put]
          refine wpAnyH_ready (rs := [7, 11]) (by kernel_rfl) (by simp) ?_
          refine AllReadyH.cons rfl (fun K hK => ?_) (AllReadyH.cons rfl (fun K hK => ?_) AllReadyH.nil)
          ·
            go_simp
            refine (cT _ hP).mono ?_
            rintro e wz ⟨now2, L2, a2, c2, xs2, rfl, hP2, hgr, hk2⟩
            have hAb2 := HAb.out.grow hgr (by have := hb.size; omega) X.lt X.lt
            replace X := X.kx hk2 HAb.out.2.1
            replace hb := hb.kx hk2 HAb.out.1
            refine hK.out _ _ (hS.trans hk2) (fun hS => ?_)
            obtain ⟨N2, hN2⟩ : ∃ N2, L2.length = N2 := ⟨_, rfl⟩
            rw [hN2]
            clear hgr hk2 hP
            clear hK K
            refine wpAnyH_take (i := 8) (v := ?_) rfl (by kernel_rfl) (by kernel_rfl) (by kernel_rfl) (fun _ _ _ h => h) (Or.inl ⟨by kernel_rfl, ?_⟩) hS ?_
            rotate_left
            · intro W hSW
              go_simp
              try with_reducible rfl
            dsimp only [Act.put]
            refine wpAnyH_take (i := 9) (v := ?_) rfl (by kernel_rfl) (by kernel_rfl) (by kernel_rfl) (fun _ _ _ h => h) (Or.inl ⟨by kernel_rfl, ?_⟩) hS ?_
            rotate_left
            · intro W hSW
              go_simp
              try with_reducible rfl
            dsimp only [Act.put]
            refine wpAnyH_take (i := 10) (v := ?_) rfl (by kernel_rfl) (by kernel_rfl) (by kernel_rfl) (fun _ _ _ h => h) (Or.inl ⟨by kernel_rfl, ?_⟩) hS ?_
            rotate_left
            · intro W hSW
              go_simp
              try with_reducible rfl
            dsimp only [Act.put]
            refine wpAnyH_ready (rs := [11]) (by kernel_rfl) (by simp) ?_
            refine AllReadyH.cons rfl (fun K hK => ?_) AllReadyH.nil
            go_simp
            obtain ⟨gT, hgT⟩ : ∃ gT, wz.heap.size = gT := ⟨_, rfl⟩
            have T := Blk.newV hgT 28 #[.int .i64 0, .slice none 0 0]
            have hba := (Below.refl wz.heap.size wz).alloc (Nat.le_refl _) (.cells #[.int .i64 0, .slice none 0 0] 28)
            have hwT : w.heap.size ≤ gT := by have := hb.size; omega
            have hrT : wr.heap.size ≤ gT := by have := hS.size; omega
            have hXT : gX < gT := by have := X.lt; omega
            replace X := X.step hba
            replace hb := hb.step hba
            have hTx : gT ∉ xs2 := fun hm => by have := hP2.1.lt _ hm; omega
            replace hP2 := hP2.step hba
            refine hK.out _ _ (hS.step hba) (fun hS => ?_)
            rw [hgT]
            generalize wz.alloc (.cells #[.int .i64 0, .slice none 0 0] 28) = wa at *
            clear hgT hba
            clear hK K
            have t0 := T.cell (j := 0) rfl
            have t1 := T.cell (j := 1) rfl
            have f0 := T.frozen 0
            have f1 := T.frozen 1
            refine wpAnyH_ready (rs := [12]) (by kernel_rfl) (by simp) ?_
            refine AllReadyH.cons rfl (fun K hK => ?_) AllReadyH.nil
            go_simp
            have T2 := (T.set 0 (.int .i64 now2)).set 1 (.slice a2 N2 c2)
            have hkk : Kx [gT] wa ((wa.setCell ⟨gT, 0, none⟩ (.int .i64 now2)).setCell ⟨gT, 1, none⟩ (.slice a2 N2 c2)) := ((Kx.refl _ _).setCell (.inl (by simp)) _).setCell (.inl (by simp)) _
            have hnx := hP2.2.2.1.ne_blk T (by decide)
            replace hP2 := hP2.kx hkk (fun x hx hm => by simp at hm; subst hm; exact hTx hx) (fun j hj hm => by simp at hm; subst hm; exact hnx hj)
            replace X := X.kx hkk (by simp; omega)
            replace hb := hb.kx hkk (fun x hx => by simp at hx; omega)
            refine hK.out _ _ (hS.kx hkk (fun x hx => .inr (by simp at hx; omega))) (fun hS => ?_)
            clear hkk hnx T
            generalize (wa.setCell ⟨gT, 0, none⟩ (.int .i64 now2)).setCell ⟨gT, 1, none⟩ (.slice a2 N2 c2) = ws at *
            simp only [List.set] at T2
            clear t0 t1 f0 f1
            clear hK K
            refine wpAnyH_ready (rs := [13]) (by kernel_rfl) (by simp) ?_
            refine AllReadyH.cons rfl (fun K hK => ?_) AllReadyH.nil
            go_simp
            refine hK.out _ _ hS (fun hS => ?_)
            clear hK K
            refine wpAnyH_done (by kernel_rfl) ?_ _
            clear hS x0 x1 q0
            have t0 := T2.cell (j := 0) rfl
            have t1 := T2.cell (j := 1) rfl
            have x0 := X.cell (j := 0) rfl
            have x1 := X.cell (j := 1) rfl
            have f0 := X.frozen 0
            have f1 := X.frozen 1
            go_upto_region 16 with fail
            have X2 := (X.set 0 (.int .i64 now2)).set 1 (.slice a2 N2 c2)
            have hkk : Kx [gX] ws ((ws.setCell ⟨gX, 0, none⟩ (.int .i64 now2)).setCell ⟨gX, 1, none⟩ (.slice a2 N2 c2)) := ((Kx.refl _ _).setCell (.inl (by simp)) _).setCell (.inl (by simp)) _
            have hnx := hP2.2.2.1.ne_blk X (by decide)
            replace hP2 := hP2.kx hkk (fun x hx hm => by simp at hm; subst hm; exact hAb2.2.1 hx) (fun j hj hm => by simp at hm; subst hm; exact hnx hj)
            replace hb := hb.kx hkk (fun x hx => by simp at hx; omega)
            clear hkk hnx X
            generalize (ws.setCell ⟨gX, 0, none⟩ (.int .i64 now2)).setCell ⟨gX, 1, none⟩ (.slice a2 N2 c2) = w9 at *
            simp only [List.set] at X2
            have cI := fun W (h : PairW W xs2 g now2 L2 a2 c2) => is_any xs2 g now2 a2 c2 L2 W h.1 h.2.1 h.2.2.1
            rw [hN2] at cI
            clear x0 x1 f0 f1 t0 t1
            have x0 := X2.cell (j := 0) rfl
            have x1 := X2.cell (j := 1) rfl
            go_wp2_with fail
            refine (cI _ hP2).mono ?_
            rintro e wb ⟨rfl, hbn⟩
            replace hP2 := hP2.step hbn
            replace X2 := X2.step hbn
            replace hb := hb.step hbn
            clear hbn
            go_wp2_with fail
            go_roundw
            case rel => exact ⟨k + 1, now2, L2, a2, c2, xs2, by go_num, by omega, hP2, hAb2, by rw [hN2]; exact X2, hb⟩
            case measure => simp [intOf]; omega
          ·
            go_simp
            obtain ⟨gT, hgT⟩ : ∃ gT, wq.heap.size = gT := ⟨_, rfl⟩
            have T := Blk.newV hgT 28 #[.int .i64 0, .slice none 0 0]
            have hba := (Below.refl wq.heap.size wq).alloc (Nat.le_refl _) (.cells #[.int .i64 0, .slice none 0 0] 28)
            have hwT : w.heap.size ≤ gT := by have := hb.size; omega
            have hrT : wr.heap.size ≤ gT := by have := hS.size; omega
            have hXT : gX < gT := by have := X.lt; omega
            replace X := X.step hba
            replace hb := hb.step hba
            have hTx : gT ∉ xs := fun hm => by have := hP.1.lt _ hm; omega
            replace hP := hP.step hba
            refine hK.out _ _ (hS.step hba) (fun hS => ?_)
            rw [hgT]
            generalize wq.alloc (.cells #[.int .i64 0, .slice none 0 0] 28) = wa at *
            clear hgT hba
            have hTl := T.lt
            clear hK K
            refine wpAnyH_ready (rs := [7]) (by kernel_rfl) (by simp) ?_
            refine AllReadyH.cons rfl (fun K hK => ?_) AllReadyH.nil
            go_simp
            refine (cT _ hP).mono ?_
            rintro e wz ⟨now2, L2, a2, c2, xs2, rfl, hP2, hgr, hk2⟩
            have hAb2 := HAb.out.grow hgr (by have := hb.size; omega) X.lt X.lt
            replace X := X.kx hk2 HAb.out.2.1
            replace hb := hb.kx hk2 HAb.out.1
            replace T := T.kx hk2 hTx
            replace hTx := hgr.not hTx hTl
            refine hK.out _ _ (hS.trans hk2) (fun hS => ?_)
            obtain ⟨N2, hN2⟩ : ∃ N2, L2.length = N2 := ⟨_, rfl⟩
            rw [hN2]
            clear hgr hk2 hP
            clear hK K
            refine wpAnyH_take (i := 8) (v := ?_) rfl (by kernel_rfl) (by kernel_rfl) (by kernel_rfl) (fun _ _ _ h => h) (Or.inl ⟨by kernel_rfl, ?_⟩) hS ?_
            rotate_left
            · intro W hSW
              go_simp
              try with_reducible rfl
            dsimp only [Act.put]
            refine wpAnyH_take (i := 9) (v := ?_) rfl (by kernel_rfl) (by kernel_rfl) (by kernel_rfl) (fun _ _ _ h => h) (Or.inl ⟨by kernel_rfl, ?_⟩) hS ?_
            rotate_left
            · intro W hSW
              go_simp
              try with_reducible rfl
            dsimp only [Act.put]
            refine wpAnyH_take (i := 10) (v := ?_) rfl (by kernel_rfl) (by kernel_rfl) (by kernel_rfl) (fun _ _ _ h => h) (Or.inl ⟨by kernel_rfl, ?_⟩) hS ?_
            rotate_left
            · intro W hSW
              go_simp
              try with_reducible rfl
            dsimp only [Act.put]
            have t0 := T.cell (j := 0) rfl
            have t1 := T.cell (j := 1) rfl
            have f0 := T.frozen 0
            have f1 := T.frozen 1
            refine wpAnyH_ready (rs := [12]) (by kernel_rfl) (by simp) ?_
            refine AllReadyH.cons rfl (fun K hK => ?_) AllReadyH.nil
            go_simp
            have T2 := (T.set 0 (.int .i64 now2)).set 1 (.slice a2 N2 c2)
            have hkk : Kx [gT] wz ((wz.setCell ⟨gT, 0, none⟩ (.int .i64 now2)).setCell ⟨gT, 1, none⟩ (.slice a2 N2 c2)) := ((Kx.refl _ _).setCell (.inl (by simp)) _).setCell (.inl (by simp)) _
            have hnx := hP2.2.2.1.ne_blk T (by decide)
            replace hP2 := hP2.kx hkk (fun x hx hm => by simp at hm; subst hm; exact hTx hx) (fun j hj hm => by simp at hm; subst hm; exact hnx hj)
            replace X := X.kx hkk (by simp; omega)
            replace hb := hb.kx hkk (fun x hx => by simp at hx; omega)
            refine hK.out _ _ (hS.kx hkk (fun x hx => .inr (by simp at hx; omega))) (fun hS => ?_)
            clear hkk hnx T
            generalize (wz.setCell ⟨gT, 0, none⟩ (.int .i64 now2)).setCell ⟨gT, 1, none⟩ (.slice a2 N2 c2) = ws at *
            simp only [List.set] at T2
            clear t0 t1 f0 f1
            clear hK K
            refine wpAnyH_ready (rs := [13]) (by kernel_rfl) (by simp) ?_
            refine AllReadyH.cons rfl (fun K hK => ?_) AllReadyH.nil
            go_simp
            refine hK.out _ _ hS (fun hS => ?_)
            clear hK K
            refine wpAnyH_done (by kernel_rfl) ?_ _
            clear hS x0 x1 q0
            have t0 := T2.cell (j := 0) rfl
            have t1 := T2.cell (j := 1) rfl
            have x0 := X.cell (j := 0) rfl
            have x1 := X.cell (j := 1) rfl
            have f0 := X.frozen 0
            have f1 := X.frozen 1
            go_upto_region 16 with fail
            have X2 := (X.set 0 (.int .i64 now2)).set 1 (.slice a2 N2 c2)
            have hkk : Kx [gX] ws ((ws.setCell ⟨gX, 0, none⟩ (.int .i64 now2)).setCell ⟨gX, 1, none⟩ (.slice a2 N2 c2)) := ((Kx.refl _ _).setCell (.inl (by simp)) _).setCell (.inl (by simp)) _
            have hnx := hP2.2.2.1.ne_blk X (by decide)
            replace hP2 := hP2.kx hkk (fun x hx hm => by simp at hm; subst hm; exact hAb2.2.1 hx) (fun j hj hm => by simp at hm; subst hm; exact hnx hj)
            replace hb := hb.kx hkk (fun x hx => by simp at hx; omega)
            clear hkk hnx X
            generalize (ws.setCell ⟨gX, 0, none⟩ (.int .i64 now2)).setCell ⟨gX, 1, none⟩ (.slice a2 N2 c2) = w9 at *
            simp only [List.set] at X2
            have cI := fun W (h : PairW W xs2 g now2 L2 a2 c2) => is_any xs2 g now2 a2 c2 L2 W h.1 h.2.1 h.2.2.1
            rw [hN2] at cI
            clear x0 x1 f0 f1 t0 t1
            have x0 := X2.cell (j := 0) rfl
            have x1 := X2.cell (j := 1) rfl
            go_wp2_with fail
            refine (cI _ hP2).mono ?_
            rintro e wb ⟨rfl, hbn⟩
            replace hP2 := hP2.step hbn
            replace X2 := X2.step hbn
            replace hb := hb.step hbn
            clear hbn
            go_wp2_with fail
            go_roundw
            case rel => exact ⟨k + 1, now2, L2, a2, c2, xs2, by go_num, by omega, hP2, hAb2, by rw [hN2]; exact X2, hb⟩
            case measure => simp [intOf]; omega
        · obtain rfl : k = m := by omega
          go_wp2_with fail
          refine (works_any _).mono ?_
          rintro e w9 ⟨rfl, hb9⟩
          go_wp2_with fail
          go_ret
          exact ⟨rfl, hb.step hb9⟩
theorem WheelFar_walk (ao : Option Addr) (n c1 : Nat) (bo : Option Addr) (m c2 : Nat) (w : World) (hA : ∃ l : List Int, l.length = n ∧ HasZ w ao l ∧ (∀ z, z ∈ l → wf64 z) ∧ n ≤ 9223372036854775807) (hB : ∃ l : List Int, l.length = m ∧ HasZ w bo l ∧ (∀ z, z ∈ l → wf64 z) ∧ m ≤ 9223372036854775807) :
    Calls Try.prog 3 #[.slice ao n c1, .slice bo m c2] w (WorksP w) := by
  obtain ⟨l, hl, hA, -, hn⟩ := hA
  obtain ⟨r, hr, hB, -, hm⟩ := hB
  by_cases h1 : n ≤ 8
  · by_cases h2 : m ≤ 8
    · exact far_some ao bo n m c1 c2 l r w hl hr hA hB h1 h2
    · clear hA hB hl hr
      have m1 : (8 : Int) < (m : Int) := by omega
      have n1 : (n : Int) ≤ 8 := by omega
      go_enter Try.func3, Try.ntmps3
      go_wp2_with fail
      refine (works_any _).mono ?_
      rintro e w1 ⟨rfl, hb⟩
      go_wp2_with fail
      go_ret
      exact ⟨rfl, hb⟩
  · clear hA hB hl hr
    have n1 : (8 : Int) < (n : Int) := by omega
    go_enter Try.func3, Try.ntmps3
    go_wp2_with fail
    refine (works_any _).mono ?_
    rintro e w1 ⟨rfl, hb⟩
    go_wp2_with fail
    go_ret
    exact ⟨rfl, hb⟩
end Go.Proofs.Ytfdfmmmfklodgaa
