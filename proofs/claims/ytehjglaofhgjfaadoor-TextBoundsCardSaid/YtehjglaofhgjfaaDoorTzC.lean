
/- TextBounds: the bounds of texts, and one past them. -/
import Derived.Test.YtehjglaofhgjfaaDoorTzA
import Derived.Deep.OwnRows
namespace Go.Proofs.YtehjglaofhgjfaaDoor
set_option linter.unusedSimpArgs false
set_option linter.unusedVariables false
open Go.RowKit
theorem info_u8 : (Tryd.prog.info? 5).map (fun i => (i.zero, i.size, i.bytes)) = some (some (.int .u8 0), 1, 1) := by kernel_rfl
def xsB (n i : Nat) : BL := List.replicate i 120 ++ List.replicate (n - i) 0
theorem xsB_len (n i : Nat) (h : i ≤ n) : (xsB n i).length = n := by unfold xsB; rw [List.length_append, List.length_replicate, List.length_replicate]; omega
theorem xsB_set (n i : Nat) (h : i < n) : (xsB n i).set i 120 = xsB n (i + 1) := by
  unfold xsB
  rw [List.set_append_right _ _ (by rw [List.length_replicate]; omega), List.length_replicate, Nat.sub_self, show n - i = (n - (i + 1)) + 1 by omega, List.replicate_succ, List.set_cons_zero, List.replicate_succ', List.append_assoc]
  rfl
theorem xsB_end (n : Nat) : xsB n n = List.replicate n 120 := by unfold xsB; rw [Nat.sub_self]; simp
theorem made_byR (W : World) (n : Nat) : ByR (W.alloc (.cells (madeCells #[.int .u8 0] n) 5)) W.heap.size (xsB n 0) := by
  refine ⟨[], (0, 0), ?_, .inr rfl⟩
  rw [World.alloc_heap_new]
  have : madeCells #[.int .u8 0] n = (List.map encB (xsB n 0) ++ []).toArray := by
    unfold xsB
    apply Array.toList_inj.1
    simp [madeCells, encB]
    apply List.ext_getElem
    · simp
    · intro j h1 h2
      simp [Nat.mod_one]
  rw [this]
theorem ByR.pre {W : World} {g : Nat} {l : BL} (h : ByR W g l) (k : Nat) : ByR W g (l.take k) := by
  obtain ⟨p, fz, h, q⟩ := h
  refine ⟨(l.drop k).map encB ++ p, fz, ?_, ?_⟩
  · rw [← List.append_assoc, ← List.map_append, List.take_append_drop]; exact h
  · rcases q with q | q
    · exact .inl (Nat.le_trans (by rw [List.length_take]; omega) q)
    · exact .inr q
theorem back_x {W : World} {g n : Nat} (h : ByR W g (xsB n n)) (k : Nat) (hk : k ≤ n) (cap : Nat) : (convert 42 9 (.slice (some ⟨g, 0, none⟩) k cap)).run Tryd.prog W = .ok (.string (mkS (List.replicate k 120))) W := by
  rw [xsB_end] at h
  have h2 := (h.pre k).back cap
  rw [List.take_replicate, List.length_replicate, Nat.min_eq_left hk] at h2
  exact h2
theorem chk200 : chkT (mkS (List.replicate 200 120)) = 0 := by rw [chk_eq]; kernel_rfl
theorem chk201 : chkT (mkS (List.replicate 201 120)) = 3 := by rw [chk_eq]; kernel_rfl
def bN1 : Nat := 1048577
def bN0 : Nat := 1048576
set_option maxRecDepth 100000 in
set_option maxHeartbeats 4000000 in
theorem TextBounds_walk (w : World) (hT : Tabs w) (hM : MaxL w) : Calls Tryd.prog 7 #[] w fun e w' => e = .returned (.bool true) ∧ Below w.heap.size w w' := by
  obtain ⟨i0, hi0, hz0, hz1, hz2⟩ := info_parts info_u8
  have hb := From.refl w
  go_enter Tryd.func7, Tryd.ntmps7
  go_upto_region 1 with fail
  go_wp2_with (refine wpList_make_row _ rfl _ _ 42 rfl 5 i0 (.int .u8 0) Tryd.underlying42 hi0 hz0 hz1 rfl .i64 .i64 1048577 rfl rfl (by rw [hz2]; omega) (by omega) ?_)
  have hB0 := made_byR w 1048577
  have hb1 : Below w.heap.size w (w.alloc (.cells (madeCells #[.int .u8 0] 1048577) 5)) := (Below.refl _ _).alloc (Nat.le_refl _) _
  generalize w.alloc (.cells (madeCells #[.int .u8 0] 1048577) 5) = w1 at *
  obtain ⟨g, hg⟩ : ∃ g, w.heap.size = g := ⟨_, rfl⟩
  rw [hg] at hB0 hb1 ⊢
  have HB0 := Lib.hid hB0
  clear hB0
  go_loopw [2] (fun v wr => ∃ i : Nat, v = .int .i64 i ∧ i ≤ 1048577 ∧ Hid (ByR wr g (xsB 1048577 i)) ∧ Below g w wr) (fun v _ => 1048577 - (intOf v).toNat)
  case atStart => exact ⟨0, rfl, by omega, HB0, hb1⟩
  case round =>
    obtain ⟨i, rfl, hi, hBi, hbw⟩ := hrel
    clear HB0 hb1
    have i0' : (0 : Int) ≤ (i : Int) := by omega
    have i9 : (i : Int) ≤ 1048577 := by omega
    by_cases hlt : i < 1048577
    · have i1 : (i : Int) < 1048577 := by omega
      have hlen := xsB_len 1048577 i hi
      obtain ⟨b0, hb0⟩ : ∃ b, (xsB 1048577 i)[i]? = some b := ⟨_, List.getElem?_eq_getElem (by omega)⟩
      have hcell := hBi.out.cell hb0
      have hfz := hBi.out.frozen (j := i) (by omega)
      have hB2 := hBi.out.set i (by omega) 120
      rw [xsB_set _ _ hlt, show (((120 : UInt8).toNat : Nat) : Int) = 120 from rfl] at hB2
      have hbw2 : Below g w (wr.setCell ⟨g, i, none⟩ (.int .u8 120)) := hbw.setCell (Nat.le_refl _) _
      have HB2 := Lib.hid hB2
      clear hB2
      clear hBi hlen hb0
      go_wp2_with fail
      go_roundw
      case rel => exact ⟨i + 1, by go_num, by omega, HB2, hbw2⟩
      case measure => (simp [intOf] <;> omega)
    · have i1 : ¬ (i : Int) < 1048577 := by omega
      have hB := hBi.out
      rw [show i = 1048577 by omega] at hB
      have hb : From w wr := by
        show Below w.heap.size w wr
        rw [hg]; exact hbw
      replace hT : Tabs wr := hT.step hb
      replace hM : MaxL wr := hM.step hb
      obtain ⟨A1, HA1⟩ : ∃ A, Hid (mkS (List.replicate 1048576 120) = A) := ⟨_, Lib.hid rfl⟩
      obtain ⟨A2, HA2⟩ : ∃ A, Hid (mkS (List.replicate 1048577 120) = A) := ⟨_, Lib.hid rfl⟩
      obtain ⟨A3, HA3⟩ : ∃ A, Hid (mkS (List.replicate 200 120) = A) := ⟨_, Lib.hid rfl⟩
      obtain ⟨A4, HA4⟩ : ∃ A, Hid (mkS (List.replicate 201 120) = A) := ⟨_, Lib.hid rfl⟩
      have z1 : A1.size ≤ 1048576 := by rw [← HA1.out, mkS_size, List.length_replicate]; omega
      have z2 : 1048576 < A2.size := by rw [← HA2.out, mkS_size, List.length_replicate]; omega
      have z3 : A3.size ≤ 9223372036854775807 := by rw [← HA3.out, mkS_size, List.length_replicate]; omega
      have z4 : A4.size ≤ 9223372036854775807 := by rw [← HA4.out, mkS_size, List.length_replicate]; omega
      have F1 : ∀ W, ByR W g (xsB 1048577 1048577) → (convert 42 9 (.slice (some ⟨g, 0, none⟩) 1048576 1048577)).run Tryd.prog W = .ok (.string A1) W := fun W h => HA1.out ▸ back_x h 1048576 (by omega) 1048577
      have F2 : ∀ W, ByR W g (xsB 1048577 1048577) → (convert 42 9 (.slice (some ⟨g, 0, none⟩) 1048577 1048577)).run Tryd.prog W = .ok (.string A2) W := fun W h => HA2.out ▸ back_x h 1048577 (by omega) 1048577
      have F3 : ∀ W, ByR W g (xsB 1048577 1048577) → (convert 42 9 (.slice (some ⟨g, 0, none⟩) 200 1048577)).run Tryd.prog W = .ok (.string A3) W := fun W h => HA3.out ▸ back_x h 200 (by omega) 1048577
      have F4 : ∀ W, ByR W g (xsB 1048577 1048577) → (convert 42 9 (.slice (some ⟨g, 0, none⟩) 201 1048577)).run Tryd.prog W = .ok (.string A4) W := fun W h => HA4.out ▸ back_x h 201 (by omega) 1048577
      have cN1 := fun W => named_any2 A1 z1 W
      have cN2 := fun W => named_long A2 z2 W
      have cL := fun W => lines_long A2 z2 W
      have cC3 : ∀ W, Tabs W → Calls Tryd.prog 14 #[.string A3] W fun e w' => e = .returned (.int .i64 0) ∧ Below W.heap.size W w' := fun W hT => by
        have h := textCheck_any A3 z3 W hT
        rw [← HA3.out, chk200, HA3.out] at h
        exact h
      have cC4 : ∀ W, Tabs W → Calls Tryd.prog 14 #[.string A4] W fun e w' => e = .returned (.int .i64 3) ∧ Below W.heap.size W w' := fun W hT => by
        have h := textCheck_any A4 z4 W hT
        rw [← HA4.out, chk201, HA4.out] at h
        exact h
      clear hBi hbw hg z1 z2 z3 z4 HA1 HA2 HA3 HA4 hi i9 hlt
      have f := F1 _ hB
      go_wp2_with fail
      refine (cN1 _).mono ?_
      rintro e w3 ⟨⟨v1, rfl, -⟩, hbn⟩
      replace hb := hb.step hbn
      replace hT := hT.step hbn
      replace hM := hM.step hbn
      replace hB := hB.step hbn
      clear hbn
      clear f
      have f := F2 _ hB
      go_wp2_with fail
      refine (cN2 _).mono ?_
      rintro e w4 ⟨rfl, hbn⟩
      replace hb := hb.step hbn
      replace hT := hT.step hbn
      replace hM := hM.step hbn
      replace hB := hB.step hbn
      clear hbn
      clear f
      have f := F2 _ hB
      go_wp2_with fail
      refine (cL _).mono ?_
      rintro e w5 ⟨rfl, hbn⟩
      replace hb := hb.step hbn
      replace hT := hT.step hbn
      replace hM := hM.step hbn
      replace hB := hB.step hbn
      clear hbn
      clear f
      have f := F3 _ hB
      go_wp2_with fail
      refine (cC3 _ hT).mono ?_
      rintro e w6 ⟨rfl, hbn⟩
      replace hb := hb.step hbn
      replace hT := hT.step hbn
      replace hM := hM.step hbn
      replace hB := hB.step hbn
      clear hbn
      clear f
      have f := F4 _ hB
      go_wp2_with fail
      refine (num3_any _ _).mono ?_
      rintro e wx ⟨rfl, rfl⟩
      go_wp2_with fail
      refine (cC4 _ hT).mono ?_
      rintro e w7 ⟨rfl, hbn⟩
      replace hb := hb.step hbn
      replace hT := hT.step hbn
      replace hM := hM.step hbn
      replace hB := hB.step hbn
      clear hbn
      clear f
      go_wp2_with fail
      refine (num3_any _ _).mono ?_
      rintro e wx ⟨rfl, rfl⟩
      go_wp2_with fail
      refine (num3_any _ _).mono ?_
      rintro e wx ⟨rfl, rfl⟩
      go_wp2_with fail
      refine (num3_any _ _).mono ?_
      rintro e wx ⟨rfl, rfl⟩
      go_wp2_with fail
      refine (num3_any _ _).mono ?_
      rintro e wx ⟨rfl, rfl⟩
      clear hB F1 F2 F3 F4 cN1 cN2 cL cC3 cC4
      go_wp2_with fail
      refine (works3_any _ hT hM).mono ?_
      rintro e w8 ⟨rfl, hbn⟩
      replace hb := hb.step hbn
      go_wp2_with fail
      go_ret
      exact ⟨rfl, by first | exact hb | (rw [← hg]; exact hb)⟩
end Go.Proofs.YtehjglaofhgjfaaDoor
