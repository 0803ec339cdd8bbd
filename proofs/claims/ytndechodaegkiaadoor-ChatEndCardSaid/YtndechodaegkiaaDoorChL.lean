
/- ChatEnd: the walk. -/
import Derived.Test.YtndechodaegkiaaDoorChW
namespace Go.Proofs.YtndechodaegkiaaDoor
open Go.RowKit
theorem new_none (N g : Nat) (w : World) (hB : Blk w g 26 (cellsE (List.replicate N nE))) (hT : Tabs w) (hN : N ≤ 5000) :
    Calls Tryd.prog 11 #[.slice (some ⟨g, 0, none⟩) N N] w (newP w (List.replicate N nE)) := by
  have h := new_any (List.replicate N nE) (some ⟨g, 0, none⟩) N w (hasE_blk hB) hT (fun e he => by rw [(List.mem_replicate.1 he).2]; decide) (by rw [List.length_replicate]; exact hN)
  rwa [List.length_replicate] at h
theorem fillE_get (N j : Nat) (h : j < N) : (fillE N j)[j]? = some zE := by
  rw [List.getElem?_eq_getElem (by simp [fillE]; omega)]
  simp [fillE]
def edT : Tk := ⟨4096, [], List.replicate 16 z0⟩
theorem ed_new : newF tk0 0 (List.replicate 4096 nE) = (edT, 0) := newF_none 4096 0 tk0 rfl (by decide)
theorem ed_apply : apT edT 4096 nE = edT ∧ apB edT 4096 nE = false ∧ apE edT 4096 nE = 320 ∧ apX edT 4096 nE = zL := ⟨by kernel_rfl, by kernel_rfl, by kernel_rfl, by kernel_rfl⟩
set_option maxRecDepth 100000 in
set_option maxHeartbeats 4000000 in
theorem end0 (w : World) (hT : Tabs w) : Calls Tryd.prog 3 #[.int .i64 0] w fun r w' => r = .returned (.bool true) ∧ Below w.heap.size w w' := by
  have hM : (Instr.makeSlice 23 (.int .i64 4096) (.int .i64 4096)).run Tryd.prog w = .ok (.slice (some ⟨w.heap.size, 0, none⟩) 4096 4096) (w.alloc (.cells (cellsE (fillE 4096 0)).toArray 26)) := run_make_entries 4096 (by decide) w
  have X0 := Blk.newA' (W := w) rfl 26 (cellsE (fillE 4096 0)).toArray
  have hb0 := (Below.refl w.heap.size w).alloc (Nat.le_refl _) (.cells (cellsE (fillE 4096 0)).toArray 26)
  go_enter Tryd.func3, Tryd.ntmps3
  go_wp2_with fail
  generalize w.alloc (.cells (cellsE (fillE 4096 0)).toArray 26) = W at *
  clear hM
  obtain ⟨g, hg⟩ : ∃ g, w.heap.size = g := ⟨_, rfl⟩
  rw [hg] at X0 hb0
  go_loopw [4] (fun i wr => ∃ j : Nat, i = .int .i64 j ∧ Blk wr g 26 (cellsE (fillE 4096 j)) ∧ Below g w wr ∧ j ≤ 4096) (fun i _ => 4096 - (intOf i).toNat)
  case atStart => exact ⟨0, rfl, X0, hb0, by decide⟩
  case round =>
    obtain ⟨j, rfl, X, hb, hj⟩ := hrel
    clear X0 hb0
    by_cases hlt : j < 4096
    · have hge := fillE_get 4096 j hlt
      have key : ∀ i u, i < 4 → (enL zE)[i]? = some u → wr.cell? ⟨g, j * 4 + i, none⟩ = some u := fun i u hi hu => X.cell (by rw [cellsE_get _ _ _ hi, hge]; exact hu)
      have q0 := key 0 _ (by decide) rfl
      have q1 := key 1 _ (by decide) rfl
      have q2 := key 2 _ (by decide) rfl
      have q3 := key 3 _ (by decide) rfl
      rw [Nat.add_zero] at q0
      have f0 := X.frozen (j * 4)
      have f1 := X.frozen (j * 4 + 1)
      have f2 := X.frozen (j * 4 + 2)
      have f3 := X.frozen (j * 4 + 3)
      have hj0 : (0 : Int) ≤ (j : Int) := by omega
      have hj1 : (j : Int) < 4096 := by omega
      clear key
      go_wp2
      go_roundw
      case rel =>
        have X2 := (((X.set (j * 4) (.int .i64 1)).set (j * 4 + 1) (.int .i64 0)).set (j * 4 + 2) (.int .i64 0)).set (j * 4 + 3) (.string ⟨#[]⟩)
        have e2 := cellsE_set (fillE 4096 j) j nE (by simp [fillE]; omega)
        rw [fillE_set] at e2
        exact ⟨j + 1, by go_num, e2 ▸ X2, (((hb.setCell (p := ⟨g, j * 4, none⟩) (Nat.le_refl _) _).setCell (p := ⟨g, j * 4 + 1, none⟩) (Nat.le_refl _) _).setCell (p := ⟨g, j * 4 + 2, none⟩) (Nat.le_refl _) _).setCell (p := ⟨g, j * 4 + 3, none⟩) (Nat.le_refl _) _, by omega⟩
      case measure => simp [intOf]; omega
    · obtain rfl : j = 4096 := by omega
      rw [fillE_all] at X
      clear hj hlt
      have hTr : Tabs wr := hT.step (by rw [hg]; exact hb)
      have cN : Calls Tryd.prog 11 #[.slice (some ⟨g, 0, none⟩) 4096 4096] wr fun r w' => (∃ k v, r = .returned (.tuple #[.pointer (some ⟨k, 0, none⟩), .int .i64 0]) ∧ TkW w' wr.heap.size k v edT ∧ wr.heap.size ≤ k) ∧ Below wr.heap.size wr w' := by
        have h := new_none 4096 g wr X hTr (by decide)
        unfold newP at h
        rwa [ed_new] at h
      go_wp2_with fail
      refine (cN).mono ?_
      rintro e w2 ⟨⟨k, v, rfl, hW, hk⟩, hb2⟩
      clear cN
      have hx := hasE_blk (X.step hb2) 0 nE (by simp)
      obtain ⟨b', off', e', q0, q1, q2, q3⟩ := hx
      obtain ⟨rfl, rfl⟩ : g = b' ∧ 0 = off' := by cases e'; exact ⟨rfl, rfl⟩
      clear e'
      simp only [Nat.zero_mul, Nat.zero_add, nE] at q0 q1 q2 q3
      have hT2 := hTr.step hb2
      have hs2 := hb2.size
      have hbs := hb.size
      have hb3 : Below g w w2 := hb.trans (hb2.mono (by have := X.lt; omega))
      have cA : Calls Tryd.prog 13 #[.pointer (some ⟨k, 0, none⟩), .int .i64 4096, .agg #[.int .i64 1, .int .i64 0, .int .i64 0, .string ⟨#[]⟩]] w2 fun r w' => r = .returned (.tuple #[.agg #[.int .i64 0, .int .i64 0, .int .i64 0, .int .i64 0, .int .i64 0, .string ⟨#[]⟩], .bool false, .int .i64 320]) ∧
          ∃ v', TkW w' wr.heap.size k v' edT ∧ Kx (k :: v.ownBlock.toList) w2 w' ∧ (v'.ownBlock = v.ownBlock ∨ ∃ j, v'.ownBlock = some j ∧ w2.heap.size ≤ j) := by
        have h := apply_any wr.heap.size k v edT 4096 nE w2 hW hT2 hs2 (by decide)
        obtain ⟨h1, h2, h3, h4⟩ := ed_apply
        rw [h1, h2, h3, h4] at h
        exact h
      go_wp2_with fail
      refine (cA).mono ?_
      rintro e w3 ⟨rfl, v3, hW3, hK3, -⟩
      clear cA
      have hge := hW.ge_base hk
      have hXl := X.lt
      have hb4 : Below g w w3 := hb3.trans (hK3.below (by omega) (fun x hx => by have := hge x hx; omega))
      have hs3 : g ≤ w3.heap.size := by have := hK3.size; omega
      clear hK3 hge hW q0 q1 q2 q3 X hb hb2 hb3 hTr
      have hb5 := hb4.alloc hs3 (.cells #[.int .i64 0, .int .i64 0, .int .i64 0, .int .i64 0, .int .i64 0, .string ⟨#[]⟩] 33)
      have hW5 := hW3.step ((Below.refl _ _).alloc (Nat.le_refl _) (.cells #[.int .i64 0, .int .i64 0, .int .i64 0, .int .i64 0, .int .i64 0, .string ⟨#[]⟩] 33))
      have hT5 : Tabs (w3.alloc (.cells #[.int .i64 0, .int .i64 0, .int .i64 0, .int .i64 0, .int .i64 0, .string ⟨#[]⟩] 33)) := hT.step (by rw [hg]; exact hb5)
      have hs5 := hb5.size
      go_wp2_with fail
      refine (num_any 0 _).mono ?_
      rintro e w' ⟨rfl, rfl⟩
      have cS : Calls Tryd.prog 14 #[.pointer (some ⟨k, 0, none⟩)] (w3.alloc (.cells #[.int .i64 0, .int .i64 0, .int .i64 0, .int .i64 0, .int .i64 0, .string ⟨#[]⟩] 33)) fun e w' => e = .returned (.int .i64 4096) ∧ (w3.alloc (.cells #[.int .i64 0, .int .i64 0, .int .i64 0, .int .i64 0, .int .i64 0, .string ⟨#[]⟩] 33)) = w' := slot_any _ k v3 edT _ hW5
      go_wp2_with fail
      refine (cS).mono ?_
      rintro e w' ⟨rfl, rfl⟩
      go_wp2_with fail
      refine (num_any 320 _).mono ?_
      rintro e w' ⟨rfl, rfl⟩
      go_wp2_with fail
      refine (works_any _ hT5).mono ?_
      rintro e w6 ⟨rfl, hb6⟩
      go_wp2
      go_ret
      exact ⟨rfl, by rw [hg]; exact hb5.trans (hb6.mono (by omega))⟩
set_option maxRecDepth 100000 in
set_option maxHeartbeats 4000000 in
theorem end1 (w : World) (hT : Tabs w) : Calls Tryd.prog 3 #[.int .i64 1] w fun r w' => r = .returned (.bool true) ∧ Below w.heap.size w w' := by
  have hM : (Instr.makeSlice 23 (.int .i64 4097) (.int .i64 4097)).run Tryd.prog w = .ok (.slice (some ⟨w.heap.size, 0, none⟩) 4097 4097) (w.alloc (.cells (cellsE (fillE 4097 0)).toArray 26)) := run_make_entries 4097 (by decide) w
  have X0 := Blk.newA' (W := w) rfl 26 (cellsE (fillE 4097 0)).toArray
  have hb0 := (Below.refl w.heap.size w).alloc (Nat.le_refl _) (.cells (cellsE (fillE 4097 0)).toArray 26)
  go_enter Tryd.func3, Tryd.ntmps3
  go_wp2_with fail
  generalize w.alloc (.cells (cellsE (fillE 4097 0)).toArray 26) = W at *
  clear hM
  obtain ⟨g, hg⟩ : ∃ g, w.heap.size = g := ⟨_, rfl⟩
  rw [hg] at X0 hb0
  go_loopw [4] (fun i wr => ∃ j : Nat, i = .int .i64 j ∧ Blk wr g 26 (cellsE (fillE 4097 j)) ∧ Below g w wr ∧ j ≤ 4097) (fun i _ => 4097 - (intOf i).toNat)
  case atStart => exact ⟨0, rfl, X0, hb0, by decide⟩
  case round =>
    obtain ⟨j, rfl, X, hb, hj⟩ := hrel
    clear X0 hb0
    by_cases hlt : j < 4097
    · have hge := fillE_get 4097 j hlt
      have key : ∀ i u, i < 4 → (enL zE)[i]? = some u → wr.cell? ⟨g, j * 4 + i, none⟩ = some u := fun i u hi hu => X.cell (by rw [cellsE_get _ _ _ hi, hge]; exact hu)
      have q0 := key 0 _ (by decide) rfl
      have q1 := key 1 _ (by decide) rfl
      have q2 := key 2 _ (by decide) rfl
      have q3 := key 3 _ (by decide) rfl
      rw [Nat.add_zero] at q0
      have f0 := X.frozen (j * 4)
      have f1 := X.frozen (j * 4 + 1)
      have f2 := X.frozen (j * 4 + 2)
      have f3 := X.frozen (j * 4 + 3)
      have hj0 : (0 : Int) ≤ (j : Int) := by omega
      have hj1 : (j : Int) < 4097 := by omega
      clear key
      go_wp2
      go_roundw
      case rel =>
        have X2 := (((X.set (j * 4) (.int .i64 1)).set (j * 4 + 1) (.int .i64 0)).set (j * 4 + 2) (.int .i64 0)).set (j * 4 + 3) (.string ⟨#[]⟩)
        have e2 := cellsE_set (fillE 4097 j) j nE (by simp [fillE]; omega)
        rw [fillE_set] at e2
        exact ⟨j + 1, by go_num, e2 ▸ X2, (((hb.setCell (p := ⟨g, j * 4, none⟩) (Nat.le_refl _) _).setCell (p := ⟨g, j * 4 + 1, none⟩) (Nat.le_refl _) _).setCell (p := ⟨g, j * 4 + 2, none⟩) (Nat.le_refl _) _).setCell (p := ⟨g, j * 4 + 3, none⟩) (Nat.le_refl _) _, by omega⟩
      case measure => simp [intOf]; omega
    · obtain rfl : j = 4097 := by omega
      rw [fillE_all] at X
      clear hj hlt
      have hTr : Tabs wr := hT.step (by rw [hg]; exact hb)
      have cN : Calls Tryd.prog 11 #[.slice (some ⟨g, 0, none⟩) 4097 4097] wr fun r w' => r = .returned (.tuple #[.pointer none, .int .i64 320]) ∧ Below wr.heap.size wr w' := by
        have h := new_none 4097 g wr X hTr (by decide)
        unfold newP at h
        have e : (newF tk0 0 (List.replicate 4097 nE)).2 = 320 := newF_over 4097 0 tk0 rfl (by decide) (by decide)
        rwa [e] at h
      go_wp2_with fail
      refine (cN).mono ?_
      rintro e w2 ⟨rfl, hb2⟩
      clear cN
      have hT2 := hTr.step hb2
      have hXl := X.lt
      have hb3 : Below g w w2 := hb.trans (hb2.mono (by omega))
      have hs2 := hb2.size
      clear X hb hb2
      go_wp2_with fail
      refine (num_any 320 _).mono ?_
      rintro e w' ⟨rfl, rfl⟩
      go_wp2_with fail
      refine (works_any _ hT2).mono ?_
      rintro e w6 ⟨rfl, hb6⟩
      go_wp2
      go_ret
      exact ⟨rfl, by rw [hg]; exact hb3.trans (hb6.mono (by omega))⟩
set_option maxRecDepth 100000 in
set_option maxHeartbeats 4000000 in
theorem end2 (w : World) (hT : Tabs w) : Calls Tryd.prog 3 #[.int .i64 2] w fun r w' => r = .returned (.bool true) ∧ Below w.heap.size w w' := by
  have hM : (Instr.makeSlice 23 (.int .i64 4098) (.int .i64 4098)).run Tryd.prog w = .ok (.slice (some ⟨w.heap.size, 0, none⟩) 4098 4098) (w.alloc (.cells (cellsE (fillE 4098 0)).toArray 26)) := run_make_entries 4098 (by decide) w
  have X0 := Blk.newA' (W := w) rfl 26 (cellsE (fillE 4098 0)).toArray
  have hb0 := (Below.refl w.heap.size w).alloc (Nat.le_refl _) (.cells (cellsE (fillE 4098 0)).toArray 26)
  go_enter Tryd.func3, Tryd.ntmps3
  go_wp2_with fail
  generalize w.alloc (.cells (cellsE (fillE 4098 0)).toArray 26) = W at *
  clear hM
  obtain ⟨g, hg⟩ : ∃ g, w.heap.size = g := ⟨_, rfl⟩
  rw [hg] at X0 hb0
  go_loopw [4] (fun i wr => ∃ j : Nat, i = .int .i64 j ∧ Blk wr g 26 (cellsE (fillE 4098 j)) ∧ Below g w wr ∧ j ≤ 4098) (fun i _ => 4098 - (intOf i).toNat)
  case atStart => exact ⟨0, rfl, X0, hb0, by decide⟩
  case round =>
    obtain ⟨j, rfl, X, hb, hj⟩ := hrel
    clear X0 hb0
    by_cases hlt : j < 4098
    · have hge := fillE_get 4098 j hlt
      have key : ∀ i u, i < 4 → (enL zE)[i]? = some u → wr.cell? ⟨g, j * 4 + i, none⟩ = some u := fun i u hi hu => X.cell (by rw [cellsE_get _ _ _ hi, hge]; exact hu)
      have q0 := key 0 _ (by decide) rfl
      have q1 := key 1 _ (by decide) rfl
      have q2 := key 2 _ (by decide) rfl
      have q3 := key 3 _ (by decide) rfl
      rw [Nat.add_zero] at q0
      have f0 := X.frozen (j * 4)
      have f1 := X.frozen (j * 4 + 1)
      have f2 := X.frozen (j * 4 + 2)
      have f3 := X.frozen (j * 4 + 3)
      have hj0 : (0 : Int) ≤ (j : Int) := by omega
      have hj1 : (j : Int) < 4098 := by omega
      clear key
      go_wp2
      go_roundw
      case rel =>
        have X2 := (((X.set (j * 4) (.int .i64 1)).set (j * 4 + 1) (.int .i64 0)).set (j * 4 + 2) (.int .i64 0)).set (j * 4 + 3) (.string ⟨#[]⟩)
        have e2 := cellsE_set (fillE 4098 j) j nE (by simp [fillE]; omega)
        rw [fillE_set] at e2
        exact ⟨j + 1, by go_num, e2 ▸ X2, (((hb.setCell (p := ⟨g, j * 4, none⟩) (Nat.le_refl _) _).setCell (p := ⟨g, j * 4 + 1, none⟩) (Nat.le_refl _) _).setCell (p := ⟨g, j * 4 + 2, none⟩) (Nat.le_refl _) _).setCell (p := ⟨g, j * 4 + 3, none⟩) (Nat.le_refl _) _, by omega⟩
      case measure => simp [intOf]; omega
    · obtain rfl : j = 4098 := by omega
      rw [fillE_all] at X
      clear hj hlt
      have hTr : Tabs wr := hT.step (by rw [hg]; exact hb)
      have cN : Calls Tryd.prog 11 #[.slice (some ⟨g, 0, none⟩) 4098 4098] wr fun r w' => r = .returned (.tuple #[.pointer none, .int .i64 320]) ∧ Below wr.heap.size wr w' := by
        have h := new_none 4098 g wr X hTr (by decide)
        unfold newP at h
        have e : (newF tk0 0 (List.replicate 4098 nE)).2 = 320 := newF_over 4098 0 tk0 rfl (by decide) (by decide)
        rwa [e] at h
      go_wp2_with fail
      refine (cN).mono ?_
      rintro e w2 ⟨rfl, hb2⟩
      clear cN
      have hT2 := hTr.step hb2
      have hXl := X.lt
      have hb3 : Below g w w2 := hb.trans (hb2.mono (by omega))
      have hs2 := hb2.size
      clear X hb hb2
      go_wp2_with fail
      refine (num_any 320 _).mono ?_
      rintro e w' ⟨rfl, rfl⟩
      go_wp2_with fail
      refine (works_any _ hT2).mono ?_
      rintro e w6 ⟨rfl, hb6⟩
      go_wp2
      go_ret
      exact ⟨rfl, by rw [hg]; exact hb3.trans (hb6.mono (by omega))⟩
set_option maxRecDepth 100000 in
set_option maxHeartbeats 4000000 in
theorem end3 (w : World) (hT : Tabs w) : Calls Tryd.prog 3 #[.int .i64 3] w fun r w' => r = .returned (.bool true) ∧ Below w.heap.size w w' := by
  have hM : (Instr.makeSlice 23 (.int .i64 4099) (.int .i64 4099)).run Tryd.prog w = .ok (.slice (some ⟨w.heap.size, 0, none⟩) 4099 4099) (w.alloc (.cells (cellsE (fillE 4099 0)).toArray 26)) := run_make_entries 4099 (by decide) w
  have X0 := Blk.newA' (W := w) rfl 26 (cellsE (fillE 4099 0)).toArray
  have hb0 := (Below.refl w.heap.size w).alloc (Nat.le_refl _) (.cells (cellsE (fillE 4099 0)).toArray 26)
  go_enter Tryd.func3, Tryd.ntmps3
  go_wp2_with fail
  generalize w.alloc (.cells (cellsE (fillE 4099 0)).toArray 26) = W at *
  clear hM
  obtain ⟨g, hg⟩ : ∃ g, w.heap.size = g := ⟨_, rfl⟩
  rw [hg] at X0 hb0
  go_loopw [4] (fun i wr => ∃ j : Nat, i = .int .i64 j ∧ Blk wr g 26 (cellsE (fillE 4099 j)) ∧ Below g w wr ∧ j ≤ 4099) (fun i _ => 4099 - (intOf i).toNat)
  case atStart => exact ⟨0, rfl, X0, hb0, by decide⟩
  case round =>
    obtain ⟨j, rfl, X, hb, hj⟩ := hrel
    clear X0 hb0
    by_cases hlt : j < 4099
    · have hge := fillE_get 4099 j hlt
      have key : ∀ i u, i < 4 → (enL zE)[i]? = some u → wr.cell? ⟨g, j * 4 + i, none⟩ = some u := fun i u hi hu => X.cell (by rw [cellsE_get _ _ _ hi, hge]; exact hu)
      have q0 := key 0 _ (by decide) rfl
      have q1 := key 1 _ (by decide) rfl
      have q2 := key 2 _ (by decide) rfl
      have q3 := key 3 _ (by decide) rfl
      rw [Nat.add_zero] at q0
      have f0 := X.frozen (j * 4)
      have f1 := X.frozen (j * 4 + 1)
      have f2 := X.frozen (j * 4 + 2)
      have f3 := X.frozen (j * 4 + 3)
      have hj0 : (0 : Int) ≤ (j : Int) := by omega
      have hj1 : (j : Int) < 4099 := by omega
      clear key
      go_wp2
      go_roundw
      case rel =>
        have X2 := (((X.set (j * 4) (.int .i64 1)).set (j * 4 + 1) (.int .i64 0)).set (j * 4 + 2) (.int .i64 0)).set (j * 4 + 3) (.string ⟨#[]⟩)
        have e2 := cellsE_set (fillE 4099 j) j nE (by simp [fillE]; omega)
        rw [fillE_set] at e2
        exact ⟨j + 1, by go_num, e2 ▸ X2, (((hb.setCell (p := ⟨g, j * 4, none⟩) (Nat.le_refl _) _).setCell (p := ⟨g, j * 4 + 1, none⟩) (Nat.le_refl _) _).setCell (p := ⟨g, j * 4 + 2, none⟩) (Nat.le_refl _) _).setCell (p := ⟨g, j * 4 + 3, none⟩) (Nat.le_refl _) _, by omega⟩
      case measure => simp [intOf]; omega
    · obtain rfl : j = 4099 := by omega
      rw [fillE_all] at X
      clear hj hlt
      have hTr : Tabs wr := hT.step (by rw [hg]; exact hb)
      have cN : Calls Tryd.prog 11 #[.slice (some ⟨g, 0, none⟩) 4099 4099] wr fun r w' => r = .returned (.tuple #[.pointer none, .int .i64 320]) ∧ Below wr.heap.size wr w' := by
        have h := new_none 4099 g wr X hTr (by decide)
        unfold newP at h
        have e : (newF tk0 0 (List.replicate 4099 nE)).2 = 320 := newF_over 4099 0 tk0 rfl (by decide) (by decide)
        rwa [e] at h
      go_wp2_with fail
      refine (cN).mono ?_
      rintro e w2 ⟨rfl, hb2⟩
      clear cN
      have hT2 := hTr.step hb2
      have hXl := X.lt
      have hb3 : Below g w w2 := hb.trans (hb2.mono (by omega))
      have hs2 := hb2.size
      clear X hb hb2
      go_wp2_with fail
      refine (num_any 320 _).mono ?_
      rintro e w' ⟨rfl, rfl⟩
      go_wp2_with fail
      refine (works_any _ hT2).mono ?_
      rintro e w6 ⟨rfl, hb6⟩
      go_wp2
      go_ret
      exact ⟨rfl, by rw [hg]; exact hb3.trans (hb6.mono (by omega))⟩
set_option maxRecDepth 100000 in
set_option maxHeartbeats 400000 in
theorem ChatEnd_walk (m : Int) (w : World) (hT : Tabs w) : Calls Tryd.prog 3 #[.int .i64 m] w fun r w' => r = .returned (.bool true) ∧ Below w.heap.size w w' := by
  by_cases h0 : m < 0
  ·
    go_enter Tryd.func3, Tryd.ntmps3
    go_wp2_with fail
    refine (works_any _ hT).mono ?_
    rintro e w2 ⟨rfl, hb⟩
    go_wp2
    go_ret
    exact ⟨rfl, hb⟩
  · by_cases h3 : 3 < m
    ·
      go_enter Tryd.func3, Tryd.ntmps3
      go_wp2_with fail
      refine (works_any _ hT).mono ?_
      rintro e w2 ⟨rfl, hb⟩
      go_wp2
      go_ret
      exact ⟨rfl, hb⟩
    · obtain rfl | rfl | rfl | rfl : m = 0 ∨ m = 1 ∨ m = 2 ∨ m = 3 := by omega
      · exact end0 w hT
      · exact end1 w hT
      · exact end2 w hT
      · exact end3 w hT
end Go.Proofs.YtndechodaegkiaaDoor
