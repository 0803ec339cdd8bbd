
/- Package proposer: what is done with what a place accepts, refuses. -/
import Derived.Test.YtcahkcbenanfnaaGreatDoorPrH
namespace Go.Proofs.YtcahkcbenanfnaaGreatDoor
set_option linter.unusedSimpArgs false
set_option linter.unusedVariables false
open Go.RowKit

def takeA (A : Prp) (i : Nat) : Prp := if wonP A.c (A.ac.set i true) then { A with ac := A.ac.set i true, ph := 3 } else { A with ac := A.ac.set i true }
def lostA (A : Prp) (x y : Int) : Prp := { A with ph := 4, ur := x, up := y }
set_option maxRecDepth 100000 in
set_option maxHeartbeats 4000000 in
theorem take2_false (bp bi g i : Nat) (A B : Prp) (w : World) (hP : PW w g A) (hp : Blk w bp 30 [.pointer (some ⟨g, 0, none⟩)]) (hi : Blk w bi 3 [.int .i64 i])
    (hr : rightB A.c = true) (hi9 : i < 9) (hpn : bp ∉ [g]) (hin : bi ∉ [g]) (hBe : { A with ac := A.ac.set i true } = B) (hw : wonP B.c B.ac = false) :
    Calls Tryz.prog 56 #[.pointer (some ⟨bp, 0, none⟩), .pointer (some ⟨bi, 0, none⟩)] w fun e w' => e = .returned (.tuple #[]) ∧ PW w' g (B) ∧ Kx [g] w w' := by
  have i0 : (0 : Int) ≤ (i : Int) := by omega
  have i9 : (i : Int) < 9 := by omega
  have hk := Kx.refl [g] w
  have p0 := extA_cell (hp.cell (j := 0) rfl)
  have q0 := extA_cell (hi.cell (j := 0) rfl)
  go_enter Tryz.func56, Tryz.ntmps56
  go_upto_region 0 with fail
  refine wp_region_head (C := ExtA w) 6 (by kernel_rfl) (by decide) (by kernel_rfl) ⟨rfl, rfl, rfl, Nat.le_refl _, fun _ _ => rfl⟩ ?_
  simp only [List.take_succ_cons, List.take_zero]
  repeat
    (first
      | go_big_quiet_skip
      | (go_big_quiet_want
         go_big_quiet_op
         first
           | go_big_quiet_on
           | (apply Exists.intro
              refine ⟨fun w' hC9 => ?_, ?_⟩
              · (first
                  | with_reducible rfl
                  | fail
                  | (go_simp; done)
                  | (go_simp; with_reducible rfl))
              go_big_quiet_on)))
  refine wpQuiet_nil ?_
  intro wq hq
  replace hP := hP.step hq
  replace hp := hp.step hq
  replace hi := hi.step hq
  replace hk := hk.step hq
  change wpAny _ _ _ _ (0 + 1) _ _ _
  have cq := hP.aac i hi9
  have fq := hP.1.frozen (14 + i)
  refine wpAny_ready (rs := [6]) (by kernel_rfl) (by simp) ?_
  refine AllReady.cons rfl (fun K hK => ?_) AllReady.nil
  go_simp
  have hk1 : Kx [g] wq (wq.setCell ⟨g, 14 + i, none⟩ (.bool true)) := (Kx.refl [g] wq).setCell (p := ⟨g, 14 + i, none⟩) (.inl (by simp)) _
  replace hP := hP.setAc i hi9
  replace hp := hp.kx hk1 hpn
  replace hi := hi.kx hk1 hin
  replace hk := hk.trans hk1
  refine hK _ _ ?_
  generalize wq.setCell ⟨g, 14 + i, none⟩ (.bool true) = w2 at *
  rw [hBe] at hP
  have hrB : rightB B.c = true := by rw [← hBe]; exact hr
  clear hk1 cq fq p0 q0 hq
  clear hK K
  refine wpAny_done (by kernel_rfl) ?_ _
  have hP1 := hP.2.2
  obtain ⟨d0, d1, d2, d3, d4, d5, d6, d7, d8, hd⟩ := nine hP1
  have e0 := extA_cell (show w2.cell? ⟨g, 14, none⟩ = some (.bool d0) by have := hP.aac 0 (by omega); rw [hd] at this; exact this)
  have e1 := extA_cell (show w2.cell? ⟨g, 15, none⟩ = some (.bool d1) by have := hP.aac 1 (by omega); rw [hd] at this; exact this)
  have e2 := extA_cell (show w2.cell? ⟨g, 16, none⟩ = some (.bool d2) by have := hP.aac 2 (by omega); rw [hd] at this; exact this)
  have e3 := extA_cell (show w2.cell? ⟨g, 17, none⟩ = some (.bool d3) by have := hP.aac 3 (by omega); rw [hd] at this; exact this)
  have e4 := extA_cell (show w2.cell? ⟨g, 18, none⟩ = some (.bool d4) by have := hP.aac 4 (by omega); rw [hd] at this; exact this)
  have e5 := extA_cell (show w2.cell? ⟨g, 19, none⟩ = some (.bool d5) by have := hP.aac 5 (by omega); rw [hd] at this; exact this)
  have e6 := extA_cell (show w2.cell? ⟨g, 20, none⟩ = some (.bool d6) by have := hP.aac 6 (by omega); rw [hd] at this; exact this)
  have e7 := extA_cell (show w2.cell? ⟨g, 21, none⟩ = some (.bool d7) by have := hP.aac 7 (by omega); rw [hd] at this; exact this)
  have e8 := extA_cell (show w2.cell? ⟨g, 22, none⟩ = some (.bool d8) by have := hP.aac 8 (by omega); rw [hd] at this; exact this)
  have c31 := extA_cell hP.cc
  have cW := fun W hW => won15_any g B.c B.ac hP1 W hW hrB
  rw [hw, hd] at cW
  unfold setV at cW
  simp only [List.map_cons, List.map_nil] at cW
  have p0 := hp.cell (j := 0) rfl
  go_upto_region 1 with fail
  replace p0 := extA_cell (hp.cell (j := 0) rfl)
  refine wp_region_extB (by kernel_rfl) (by kernel_rfl) ?_
  repeat
    (first
      | go_big_quiet_skip
      | (go_big_quiet_want
         go_big_quiet_op
         first
           | go_big_quiet_on
           | (apply Exists.intro
              refine ⟨fun w' hC9 => ?_, ?_⟩
              · (first
                  | with_reducible rfl
                  | (go_at_call 54; refine (cW _ (c31 _ hC9)).mono ?_; rintro e w2 ⟨rfl, hb9⟩; exact ⟨rfl, extA_then hC9 hb9⟩)
                  | (go_simp; done)
                  | (go_simp; with_reducible rfl))
              go_big_quiet_on)))
  refine wpQuiet_nil ?_
  intro w4 hq
  replace hP := hP.step hq
  replace hp := hp.step hq
  replace hi := hi.step hq
  replace hk := hk.step hq
  clear hq e0 e1 e2 e3 e4 e5 e6 e7 e8 c31 cW p0
  have p0 := hp.cell (j := 0) rfl
  have x0 := hP.x0
  have f0 := hP.f0
  go_wp2_with fail
  go_returns
  exact ⟨rfl, hP, hk⟩
def doneA (B : Prp) : Prp := { B with ph := 3 }
set_option maxRecDepth 100000 in
set_option maxHeartbeats 4000000 in
theorem take2_true (bp bi g i : Nat) (A B : Prp) (w : World) (hP : PW w g A) (hp : Blk w bp 30 [.pointer (some ⟨g, 0, none⟩)]) (hi : Blk w bi 3 [.int .i64 i])
    (hr : rightB A.c = true) (hi9 : i < 9) (hpn : bp ∉ [g]) (hin : bi ∉ [g]) (hBe : { A with ac := A.ac.set i true } = B) (hw : wonP B.c B.ac = true) :
    Calls Tryz.prog 56 #[.pointer (some ⟨bp, 0, none⟩), .pointer (some ⟨bi, 0, none⟩)] w fun e w' => e = .returned (.tuple #[]) ∧ PW w' g (doneA B) ∧ Kx [g] w w' := by
  have i0 : (0 : Int) ≤ (i : Int) := by omega
  have i9 : (i : Int) < 9 := by omega
  have hk := Kx.refl [g] w
  have p0 := extA_cell (hp.cell (j := 0) rfl)
  have q0 := extA_cell (hi.cell (j := 0) rfl)
  go_enter Tryz.func56, Tryz.ntmps56
  go_upto_region 0 with fail
  refine wp_region_head (C := ExtA w) 6 (by kernel_rfl) (by decide) (by kernel_rfl) ⟨rfl, rfl, rfl, Nat.le_refl _, fun _ _ => rfl⟩ ?_
  simp only [List.take_succ_cons, List.take_zero]
  repeat
    (first
      | go_big_quiet_skip
      | (go_big_quiet_want
         go_big_quiet_op
         first
           | go_big_quiet_on
           | (apply Exists.intro
              refine ⟨fun w' hC9 => ?_, ?_⟩
              · (first
                  | with_reducible rfl
                  | fail
                  | (go_simp; done)
                  | (go_simp; with_reducible rfl))
              go_big_quiet_on)))
  refine wpQuiet_nil ?_
  intro wq hq
  replace hP := hP.step hq
  replace hp := hp.step hq
  replace hi := hi.step hq
  replace hk := hk.step hq
  change wpAny _ _ _ _ (0 + 1) _ _ _
  have cq := hP.aac i hi9
  have fq := hP.1.frozen (14 + i)
  refine wpAny_ready (rs := [6]) (by kernel_rfl) (by simp) ?_
  refine AllReady.cons rfl (fun K hK => ?_) AllReady.nil
  go_simp
  have hk1 : Kx [g] wq (wq.setCell ⟨g, 14 + i, none⟩ (.bool true)) := (Kx.refl [g] wq).setCell (p := ⟨g, 14 + i, none⟩) (.inl (by simp)) _
  replace hP := hP.setAc i hi9
  replace hp := hp.kx hk1 hpn
  replace hi := hi.kx hk1 hin
  replace hk := hk.trans hk1
  refine hK _ _ ?_
  generalize wq.setCell ⟨g, 14 + i, none⟩ (.bool true) = w2 at *
  rw [hBe] at hP
  have hrB : rightB B.c = true := by rw [← hBe]; exact hr
  clear hk1 cq fq p0 q0 hq
  clear hK K
  refine wpAny_done (by kernel_rfl) ?_ _
  have hP1 := hP.2.2
  obtain ⟨d0, d1, d2, d3, d4, d5, d6, d7, d8, hd⟩ := nine hP1
  have e0 := extA_cell (show w2.cell? ⟨g, 14, none⟩ = some (.bool d0) by have := hP.aac 0 (by omega); rw [hd] at this; exact this)
  have e1 := extA_cell (show w2.cell? ⟨g, 15, none⟩ = some (.bool d1) by have := hP.aac 1 (by omega); rw [hd] at this; exact this)
  have e2 := extA_cell (show w2.cell? ⟨g, 16, none⟩ = some (.bool d2) by have := hP.aac 2 (by omega); rw [hd] at this; exact this)
  have e3 := extA_cell (show w2.cell? ⟨g, 17, none⟩ = some (.bool d3) by have := hP.aac 3 (by omega); rw [hd] at this; exact this)
  have e4 := extA_cell (show w2.cell? ⟨g, 18, none⟩ = some (.bool d4) by have := hP.aac 4 (by omega); rw [hd] at this; exact this)
  have e5 := extA_cell (show w2.cell? ⟨g, 19, none⟩ = some (.bool d5) by have := hP.aac 5 (by omega); rw [hd] at this; exact this)
  have e6 := extA_cell (show w2.cell? ⟨g, 20, none⟩ = some (.bool d6) by have := hP.aac 6 (by omega); rw [hd] at this; exact this)
  have e7 := extA_cell (show w2.cell? ⟨g, 21, none⟩ = some (.bool d7) by have := hP.aac 7 (by omega); rw [hd] at this; exact this)
  have e8 := extA_cell (show w2.cell? ⟨g, 22, none⟩ = some (.bool d8) by have := hP.aac 8 (by omega); rw [hd] at this; exact this)
  have c31 := extA_cell hP.cc
  have cW := fun W hW => won15_any g B.c B.ac hP1 W hW hrB
  rw [hw, hd] at cW
  unfold setV at cW
  simp only [List.map_cons, List.map_nil] at cW
  have p0 := hp.cell (j := 0) rfl
  go_upto_region 1 with fail
  replace p0 := extA_cell (hp.cell (j := 0) rfl)
  refine wp_region_extB (by kernel_rfl) (by kernel_rfl) ?_
  repeat
    (first
      | go_big_quiet_skip
      | (go_big_quiet_want
         go_big_quiet_op
         first
           | go_big_quiet_on
           | (apply Exists.intro
              refine ⟨fun w' hC9 => ?_, ?_⟩
              · (first
                  | with_reducible rfl
                  | (go_at_call 54; refine (cW _ (c31 _ hC9)).mono ?_; rintro e w2 ⟨rfl, hb9⟩; exact ⟨rfl, extA_then hC9 hb9⟩)
                  | (go_simp; done)
                  | (go_simp; with_reducible rfl))
              go_big_quiet_on)))
  refine wpQuiet_nil ?_
  intro w4 hq
  replace hP := hP.step hq
  replace hp := hp.step hq
  replace hi := hi.step hq
  replace hk := hk.step hq
  clear hq e0 e1 e2 e3 e4 e5 e6 e7 e8 c31 cW p0
  have p0 := hp.cell (j := 0) rfl
  have x0 := hP.x0
  have f0 := hP.f0
  have hk1 : Kx [g] w4 (w4.setCell ⟨g, 0, none⟩ (.int .i64 3)) := (Kx.refl [g] w4).setCell (p := ⟨g, 0, none⟩) (.inl (by simp)) _
  replace hP := hP.setPh 3
  replace hk := hk.trans hk1
  go_wp2_with fail
  generalize w4.setCell ⟨g, 0, none⟩ (.int .i64 3) = w5 at *
  go_returns
  exact ⟨rfl, hP, hk⟩
theorem take2_any (bp bi g i : Nat) (A : Prp) (w : World) (hP : PW w g A) (hp : Blk w bp 30 [.pointer (some ⟨g, 0, none⟩)]) (hi : Blk w bi 3 [.int .i64 i])
    (hr : rightB A.c = true) (hi9 : i < 9) (hpn : bp ∉ [g]) (hin : bi ∉ [g]) :
    Calls Tryz.prog 56 #[.pointer (some ⟨bp, 0, none⟩), .pointer (some ⟨bi, 0, none⟩)] w fun e w' => e = .returned (.tuple #[]) ∧ PW w' g (takeA A i) ∧ Kx [g] w w' := by
  unfold takeA
  cases hw : wonP A.c (A.ac.set i true)
  · exact take2_false bp bi g i A _ w hP hp hi hr hi9 hpn hin rfl hw
  · exact take2_true bp bi g i A _ w hP hp hi hr hi9 hpn hin rfl hw
set_option maxRecDepth 100000 in
set_option maxHeartbeats 4000000 in
theorem lost1_any (bp bb g : Nat) (A : Prp) (x y : Int) (w : World) (hP : PW w g A) (hp : Blk w bp 30 [.pointer (some ⟨g, 0, none⟩)]) (hb : Blk w bb 23 [.int .i64 x, .int .i64 y])
    (hpn : bp ∉ [g]) (hbn : bb ∉ [g]) :
    Calls Tryz.prog 57 #[.pointer (some ⟨bb, 0, none⟩), .pointer (some ⟨bp, 0, none⟩)] w fun e w' => e = .returned (.tuple #[]) ∧ PW w' g (lostA A x y) ∧ Kx [g] w w' := by
  have hk := Kx.refl [g] w
  have p0 := kx_all (hp.cell (j := 0) rfl) hpn
  have b0 := kx_all (hb.cell (j := 0) rfl) hbn
  have b1 := kx_all (hb.cell (j := 1) rfl) hbn
  go_enter Tryz.func57, Tryz.ntmps57
  go_upto_region 0 with fail
  refine wp_region_held (S := Kx [g] w) (by kernel_rfl) ?_
  have hst : Below (w).heap.size w { w with drawn := (w).drawn + 1 } := ⟨rfl, rfl, rfl, Nat.le_refl _, fun _ _ => rfl⟩
  have hS : (Kx [g] w) { w with drawn := (w).drawn + 1 } := by first | exact ⟨rfl, rfl, rfl, Nat.le_refl _, fun _ _ _ => rfl⟩ | exact ⟨rfl, rfl, rfl, Nat.le_refl _, fun _ _ => rfl⟩ | exact hS0
  replace hP := hP.step hst
  replace hk := hk.step hst
  clear hst
  generalize ({ w with drawn := (w).drawn + 1 } : World) = wq at *
  refine wpAnyH_take (i := 0) (v := ?_) rfl (by kernel_rfl) (by kernel_rfl) (by kernel_rfl) (fun _ _ _ h => h) (Or.inl ⟨by kernel_rfl, ?_⟩) hS ?_
  rotate_left
  · intro W hSW
    have y0 := p0 _ hSW
    have y1 := b0 _ hSW
    have y2 := b1 _ hSW
    go_simp
    try with_reducible rfl
  dsimp only [Act.put]
  refine wpAnyH_take (i := 1) (v := ?_) rfl (by kernel_rfl) (by kernel_rfl) (by kernel_rfl) (fun _ _ _ h => h) (Or.inl ⟨by kernel_rfl, ?_⟩) hS ?_
  rotate_left
  · intro W hSW
    have y0 := p0 _ hSW
    have y1 := b0 _ hSW
    have y2 := b1 _ hSW
    go_simp
    try with_reducible rfl
  dsimp only [Act.put]
  refine wpAnyH_take (i := 2) (v := ?_) rfl (by kernel_rfl) (by kernel_rfl) (by kernel_rfl) (fun _ _ _ h => h) (Or.inl ⟨by kernel_rfl, ?_⟩) hS ?_
  rotate_left
  · intro W hSW
    have y0 := p0 _ hSW
    have y1 := b0 _ hSW
    have y2 := b1 _ hSW
    go_simp
    try with_reducible rfl
  dsimp only [Act.put]
  refine wpAnyH_take (i := 3) (v := ?_) rfl (by kernel_rfl) (by kernel_rfl) (by kernel_rfl) (fun _ _ _ h => h) (Or.inl ⟨by kernel_rfl, ?_⟩) hS ?_
  rotate_left
  · intro W hSW
    have y0 := p0 _ hSW
    have y1 := b0 _ hSW
    have y2 := b1 _ hSW
    go_simp
    try with_reducible rfl
  dsimp only [Act.put]
  refine wpAnyH_take (i := 4) (v := ?_) rfl (by kernel_rfl) (by kernel_rfl) (by kernel_rfl) (fun _ _ _ h => h) (Or.inl ⟨by kernel_rfl, ?_⟩) hS ?_
  rotate_left
  · intro W hSW
    have y0 := p0 _ hSW
    have y1 := b0 _ hSW
    have y2 := b1 _ hSW
    go_simp
    try with_reducible rfl
  dsimp only [Act.put]
  refine wpAnyH_take (i := 5) (v := ?_) rfl (by kernel_rfl) (by kernel_rfl) (by kernel_rfl) (fun _ _ _ h => h) (Or.inl ⟨by kernel_rfl, ?_⟩) hS ?_
  rotate_left
  · intro W hSW
    have y0 := p0 _ hSW
    have y1 := b0 _ hSW
    have y2 := b1 _ hSW
    go_simp
    try with_reducible rfl
  dsimp only [Act.put]
  have x0 := hP.x0
  have f0 := hP.f0
  refine wpAnyH_ready (rs := [6]) (by kernel_rfl) (by simp) ?_
  refine AllReadyH.cons rfl (fun K hK => ?_) AllReadyH.nil
  go_simp
  have hk1 : Kx [g] wq (wq.setCell ⟨g, 0, none⟩ (.int .i64 4)) := (Kx.refl [g] wq).setCell (p := ⟨g, 0, none⟩) (.inl (by simp)) _
  replace hP := hP.setPh 4
  replace hk := hk.trans hk1
  refine hK.out _ _ (hS.trans hk1) (fun hS => ?_)
  generalize wq.setCell ⟨g, 0, none⟩ (.int .i64 4) = w5 at *
  clear hk1 x0 f0
  clear hK K
  refine wpAnyH_take (i := 7) (v := ?_) rfl (by kernel_rfl) (by kernel_rfl) (by kernel_rfl) (fun _ _ _ h => h) (Or.inl ⟨by kernel_rfl, ?_⟩) hS ?_
  rotate_left
  · intro W hSW
    go_simp
    try with_reducible rfl
  dsimp only [Act.put]
  refine wpAnyH_take (i := 8) (v := ?_) rfl (by kernel_rfl) (by kernel_rfl) (by kernel_rfl) (fun _ _ _ h => h) (Or.inl ⟨by kernel_rfl, ?_⟩) hS ?_
  rotate_left
  · intro W hSW
    go_simp
    try with_reducible rfl
  dsimp only [Act.put]
  refine wpAnyH_take (i := 9) (v := ?_) rfl (by kernel_rfl) (by kernel_rfl) (by kernel_rfl) (fun _ _ _ h => h) (Or.inl ⟨by kernel_rfl, ?_⟩) hS ?_
  rotate_left
  · intro W hSW
    go_simp
    try with_reducible rfl
  dsimp only [Act.put]
  have x29 := hP.x29
  have x30 := hP.x30
  dsimp only at x29 x30
  have f29 := hP.f29
  have f30 := hP.f30
  refine wpAnyH_ready (rs := [10]) (by kernel_rfl) (by simp) ?_
  refine AllReadyH.cons rfl (fun K hK => ?_) AllReadyH.nil
  go_simp
  have hk1 : Kx [g] w5 ((w5.setCell ⟨g, 29, none⟩ (.int .i64 x)).setCell ⟨g, 30, none⟩ (.int .i64 y)) := Kx.setCells [.int .i64 x, .int .i64 y] 29 w5 (Kx.refl [g] w5) (.inl (by simp))
  replace hP := hP.setUp x y
  replace hk := hk.trans hk1
  refine hK.out _ _ (hS.trans hk1) (fun hS => ?_)
  generalize ((w5.setCell ⟨g, 29, none⟩ (.int .i64 x)).setCell ⟨g, 30, none⟩ (.int .i64 y)) = w6 at *
  clear hk1 x29 x30 f29 f30
  clear hK K
  refine wpAnyH_done (by kernel_rfl) ?_ _
  go_wp2_with fail
  go_returns
  exact ⟨rfl, hP, hk⟩
theorem allP_at (v : Bool) (b : Nat) (bs : List Bool) (n : Nat) (hn : bs.length = n) (hn9 : n ≤ 9) (w : World) (hB : Blk w b 4 (bs.map Value.bool)) (hv : bs.all id = v) :
    Calls Tryz.prog 46 #[.slice (some ⟨b, 0, none⟩) n n] w fun e w' => e = .returned (.bool v) ∧ w = w' := hv ▸ allP_any b bs n hn hn9 w hB
end Go.Proofs.YtcahkcbenanfnaaGreatDoor
