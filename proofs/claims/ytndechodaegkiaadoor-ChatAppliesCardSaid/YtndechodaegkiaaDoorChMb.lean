
/- Package chat: Members. -/
import Derived.Test.YtndechodaegkiaaDoorChT
import Derived.Deep.MidRow
namespace Go.Proofs.YtndechodaegkiaaDoor
open Go.RowKit
def stsL (M : List St) : List Value := M.flatMap stL
theorem stsL_len (M : List St) : (stsL M).length = M.length * 3 := by have := memL_len M; unfold stsL; omega
theorem stsL_one (M : List St) : ∀ u ∈ stsL M, u.oneCell' = true := by
  intro u hu
  simp only [stsL, List.mem_flatMap] at hu
  obtain ⟨x, _, hx⟩ := hu
  simp only [stL, List.mem_cons, List.mem_nil_iff, or_false] at hx
  rcases hx with rfl | rfl | rfl <;> rfl
theorem TkW.sts {W : World} {base g : Nat} {v : Value} {t : Tk} (h : TkW W base g v t) : W.rangeAt g 2 (stsL t.M) := by
  intro j u hj
  refine h.blk.cell ?_
  unfold talkL
  rw [show 2 + j = j + 1 + 1 by omega, List.getElem?_cons_succ, List.getElem?_cons_succ, List.getElem?_append_left (by exact (List.getElem?_eq_some_iff.1 hj).1)]
  exact hj
theorem Blk.setCells {b : Nat} {t : TypeId} : ∀ (vs : List Value) (o : Nat) (W : World) (cs : List Value), Blk W b t cs → o + vs.length ≤ cs.length → Blk (W.setCells b o vs) b t (cs.take o ++ vs ++ cs.drop (o + vs.length))
  | [], o, W, cs, h, _ => by simpa [World.setCells] using h
  | v :: r, o, W, cs, h, hl => by
    simp only [List.length_cons] at hl
    have h2 := Blk.setCells r (o + 1) _ _ (h.set o v) (by rw [List.length_set]; omega)
    have e : (cs.set o v).take (o + 1) ++ r ++ (cs.set o v).drop (o + 1 + r.length) = cs.take o ++ (v :: r) ++ cs.drop (o + (v :: r).length) := by
      have ho : o < cs.length := by omega
      rw [List.take_set, List.drop_set_of_lt (by omega)]
      rw [List.take_add_one]
      simp only [List.getElem?_eq_getElem ho, Option.toList_some, List.length_cons]
      rw [List.set_append_right _ _ (by rw [List.length_take]; omega)]
      simp [List.length_take, Nat.min_eq_left (by omega : o ≤ cs.length), show o + 1 + r.length = o + (r.length + 1) by omega]
    rw [← e]
    exact h2
theorem Below.setCells {B b : Nat} {w : World} : ∀ (vs : List Value) (o : Nat) (W : World), Below B w W → B ≤ b → Below B w (W.setCells b o vs)
  | [], _, _, h, _ => h
  | v :: r, o, _, h, hb => Below.setCells r (o + 1) _ (h.setCell (p := ⟨b, o, none⟩) hb v) hb
theorem Blk.there {W : World} {b : Nat} {t : TypeId} {cs : List Value} (h : Blk W b t cs) (n : Nat) (hn : n ≤ cs.length) : W.there b 0 n := fun j hj => by
  rw [Nat.zero_add]
  exact ⟨by rw [h.cell (List.getElem?_eq_getElem (by omega : j < cs.length))]; rfl, h.frozen j⟩
theorem Blk.range {W : World} {b : Nat} {t : TypeId} {cs : List Value} (h : Blk W b t cs) : W.rangeAt b 0 cs := fun j u hj => by
  rw [Nat.zero_add]; exact h.cell hj
theorem info_sts : (Tryd.prog.info? 77).map (·.size) = some 48 := by kernel_rfl
def z48 : List Value := List.replicate 16 z0 |>.flatMap stL
theorem run_st (W : World) (B : Nat) (cs : List Value) (ht : W.there B 0 cs.length) (h1 : ∀ u ∈ cs, u.oneCell' = true) : (storeCells ⟨B, 0, none⟩ cs 0).run Tryd.prog W = .ok () (W.setCells B 0 cs) := by
  have := run_storeCells_cells (P := Tryd.prog) B 0 cs 0 W (fun j hj => by simpa using (ht j hj).1) (fun j hj => by simpa using (ht j hj).2) h1
  simpa using this
set_option maxRecDepth 100000 in
set_option maxHeartbeats 1000000 in
theorem mem1_any (base g : Nat) (v : Value) (t : Tk) (w : World) (h : TkW w base g v t) :
    Calls Tryd.prog 43 #[.pointer (some ⟨g, 0, none⟩)] w fun r w' => r = .returned (.agg (stsL t.M).toArray) ∧ Below w.heap.size w w' := by
  have hlen : (stsL t.M).length = 48 := by rw [stsL_len, h.len]
  go_enter Tryd.func43, Tryd.ntmps43
  go_upto_region 1 with fail
  obtain ⟨B, hB⟩ : ∃ B, w.heap.size = B := ⟨_, rfl⟩
  generalize hWe : World.alloc w _ = W
  have hb1 : Below w.heap.size w W := by rw [← hWe]; exact (Below.refl _ w).alloc (Nat.le_refl _) _
  have XR : Blk W B 77 z48 := by rw [← hWe]; exact Blk.newA' hB 77 z48.toArray
  have hR := (h.step hb1).sts
  clear hWe
  have hi1 : (Tryd.prog.info? 77).map (·.size) = some (stsL t.M).length := by rw [hlen]; exact info_sts
  have hTh : W.there B 0 (stsL t.M).length := by rw [hlen]; exact XR.there 48 (by decide)
  have hst := run_st W B (stsL t.M) hTh (stsL_one t.M)
  have XR2 : Blk (W.setCells B 0 (stsL t.M)) B 77 (stsL t.M) := by
    have X := Blk.setCells (stsL t.M) 0 W z48 XR (by rw [hlen]; decide)
    rw [List.take_zero, List.nil_append, Nat.zero_add, List.drop_eq_nil_of_le (by rw [hlen]; decide), List.append_nil] at X
    exact X
  have hb2 := Below.setCells (stsL t.M) 0 W hb1 (by omega : w.heap.size ≤ B)
  go_wp2_with (first
    | (refine wpList_load_mid rfl 77 (.tmp 5) rfl g 2 (by rfl) (stsL t.M) _ hR Tryd.underlying77 rfl hi1 ?_))
  (try simp only [Exit.inBlock, Exit.then])
  refine bodyPost_ret (v := .agg (stsL t.M).toArray) ?_ rfl ⟨rfl, hb2⟩
  rw [results_cell1 rfl]
  simp only [asAddr, Array.getD]
  exact run_loadVar_mid _ B 0 77 (stsL t.M) _ XR2.range Tryd.underlying77 rfl hi1
set_option maxRecDepth 100000 in
set_option maxHeartbeats 1000000 in
theorem toldM_any (base g : Nat) (v : Value) (t : Tk) (w : World) (h : TkW w base g v t) :
    Calls Tryd.prog 42 #[.pointer (some ⟨g, 0, none⟩), .func (.func 43) #[] #[]] w fun r w' => r = .returned (.agg (stsL t.M).toArray) ∧ Below w.heap.size w w' := by
  have hlen : (stsL t.M).length = 48 := by rw [stsL_len, h.len]
  go_enter Tryd.func42, Tryd.ntmps42
  go_upto_region 1 with fail
  obtain ⟨B, hB⟩ : ∃ B, w.heap.size = B := ⟨_, rfl⟩
  generalize hWe : World.alloc w _ = W0
  have hb0 : Below w.heap.size w W0 := by rw [← hWe]; exact (Below.refl _ w).alloc (Nat.le_refl _) _
  have XR0 : Blk W0 B 77 z48 := by rw [← hWe]; exact Blk.newA' hB 77 z48.toArray
  have h1 := h.step hb0
  clear hWe
  go_wp2_with fail
  refine (none_any g true W0 h1.made).mono ?_
  rintro e w1 ⟨rfl, rfl⟩
  go_wp2_with fail
  refine (mem1_any base g v t W0 h1).mono ?_
  rintro e W ⟨rfl, hbm⟩
  have XR := XR0.step hbm
  have hb1 := hb0.trans (hbm.mono hb0.size)
  have hi1 : (Tryd.prog.info? 77).map (·.size) = some (stsL t.M).length := by rw [hlen]; exact info_sts
  have hTh : W.there B 0 (stsL t.M).length := by rw [hlen]; exact XR.there 48 (by decide)
  have hst := run_st W B (stsL t.M) hTh (stsL_one t.M)
  have XR2 : Blk (W.setCells B 0 (stsL t.M)) B 77 (stsL t.M) := by
    have X := Blk.setCells (stsL t.M) 0 W z48 XR (by rw [hlen]; decide)
    rw [List.take_zero, List.nil_append, Nat.zero_add, List.drop_eq_nil_of_le (by rw [hlen]; decide), List.append_nil] at X
    exact X
  have hb2 := Below.setCells (stsL t.M) 0 W hb1 (by omega : w.heap.size ≤ B)
  go_wp2
  (try simp only [Exit.inBlock, Exit.then])
  refine bodyPost_ret (v := .agg (stsL t.M).toArray) ?_ rfl ⟨rfl, hb2⟩
  rw [results_cell1 rfl]
  simp only [asAddr, Array.getD]
  exact run_loadVar_mid _ B 0 77 (stsL t.M) _ XR2.range Tryd.underlying77 rfl hi1
def MbF (b : Nat) : Value := .func (.func 44) #[] #[.pointer (some ⟨b, 0, none⟩)]
set_option maxRecDepth 100000 in
set_option maxHeartbeats 1000000 in
theorem members_any (base g : Nat) (v : Value) (t : Tk) (w : World) (h : TkW w base g v t) :
    Calls Tryd.prog 21 #[.pointer (some ⟨g, 0, none⟩)] w fun r w' => (∃ b, r = .returned (MbF b) ∧ Blk w' b 77 (stsL t.M) ∧ w.heap.size ≤ b) ∧ Below w.heap.size w w' := by
  have hlen : (stsL t.M).length = 48 := by rw [stsL_len, h.len]
  unfold MbF
  go_enter Tryd.func21, Tryd.ntmps21
  go_wp2_with fail
  refine (toldM_any base g v t w h).mono ?_
  rintro e w1 ⟨rfl, hb0⟩
  obtain ⟨B, hB⟩ : ∃ B, w1.heap.size = B := ⟨_, rfl⟩
  have XR : Blk (w1.alloc (.cells #[.bool false, .int .i64 0, .int .i64 0, .bool false, .int .i64 0, .int .i64 0, .bool false, .int .i64 0, .int .i64 0, .bool false, .int .i64 0, .int .i64 0, .bool false, .int .i64 0, .int .i64 0, .bool false, .int .i64 0, .int .i64 0, .bool false, .int .i64 0, .int .i64 0, .bool false, .int .i64 0, .int .i64 0, .bool false, .int .i64 0, .int .i64 0, .bool false, .int .i64 0, .int .i64 0, .bool false, .int .i64 0, .int .i64 0, .bool false, .int .i64 0, .int .i64 0, .bool false, .int .i64 0, .int .i64 0, .bool false, .int .i64 0, .int .i64 0, .bool false, .int .i64 0, .int .i64 0, .bool false, .int .i64 0, .int .i64 0] 77)) B 77 z48 := Blk.newA' hB 77 z48.toArray
  have hb1 := hb0.alloc hb0.size (.cells #[.bool false, .int .i64 0, .int .i64 0, .bool false, .int .i64 0, .int .i64 0, .bool false, .int .i64 0, .int .i64 0, .bool false, .int .i64 0, .int .i64 0, .bool false, .int .i64 0, .int .i64 0, .bool false, .int .i64 0, .int .i64 0, .bool false, .int .i64 0, .int .i64 0, .bool false, .int .i64 0, .int .i64 0, .bool false, .int .i64 0, .int .i64 0, .bool false, .int .i64 0, .int .i64 0, .bool false, .int .i64 0, .int .i64 0, .bool false, .int .i64 0, .int .i64 0, .bool false, .int .i64 0, .int .i64 0, .bool false, .int .i64 0, .int .i64 0, .bool false, .int .i64 0, .int .i64 0, .bool false, .int .i64 0, .int .i64 0] 77)
  have hBw : w.heap.size ≤ B := by have := hb0.size; omega
  have hTh : (w1.alloc (.cells #[.bool false, .int .i64 0, .int .i64 0, .bool false, .int .i64 0, .int .i64 0, .bool false, .int .i64 0, .int .i64 0, .bool false, .int .i64 0, .int .i64 0, .bool false, .int .i64 0, .int .i64 0, .bool false, .int .i64 0, .int .i64 0, .bool false, .int .i64 0, .int .i64 0, .bool false, .int .i64 0, .int .i64 0, .bool false, .int .i64 0, .int .i64 0, .bool false, .int .i64 0, .int .i64 0, .bool false, .int .i64 0, .int .i64 0, .bool false, .int .i64 0, .int .i64 0, .bool false, .int .i64 0, .int .i64 0, .bool false, .int .i64 0, .int .i64 0, .bool false, .int .i64 0, .int .i64 0, .bool false, .int .i64 0, .int .i64 0] 77)).there B 0 (stsL t.M).length := by rw [hlen]; exact XR.there 48 (by decide)
  have hst := run_st _ B (stsL t.M) hTh (stsL_one t.M)
  have XR2 : Blk ((w1.alloc (.cells #[.bool false, .int .i64 0, .int .i64 0, .bool false, .int .i64 0, .int .i64 0, .bool false, .int .i64 0, .int .i64 0, .bool false, .int .i64 0, .int .i64 0, .bool false, .int .i64 0, .int .i64 0, .bool false, .int .i64 0, .int .i64 0, .bool false, .int .i64 0, .int .i64 0, .bool false, .int .i64 0, .int .i64 0, .bool false, .int .i64 0, .int .i64 0, .bool false, .int .i64 0, .int .i64 0, .bool false, .int .i64 0, .int .i64 0, .bool false, .int .i64 0, .int .i64 0, .bool false, .int .i64 0, .int .i64 0, .bool false, .int .i64 0, .int .i64 0, .bool false, .int .i64 0, .int .i64 0, .bool false, .int .i64 0, .int .i64 0] 77)).setCells B 0 (stsL t.M)) B 77 (stsL t.M) := by
    have X := Blk.setCells (stsL t.M) 0 _ z48 XR (by rw [hlen]; decide)
    rw [List.take_zero, List.nil_append, Nat.zero_add, List.drop_eq_nil_of_le (by rw [hlen]; decide), List.append_nil] at X
    exact X
  have hb2 := Below.setCells (stsL t.M) 0 _ hb1 hBw
  clear XR hb1 hTh
  go_wp2
  go_ret
  exact ⟨⟨B, rfl, XR2, hBw⟩, hb2⟩
theorem run_index_st (M : List St) (k : Nat) (s : St) (hk : M[k]? = some s) (hM : M.length = 16) (w : World) :
    (Instr.index 77 (.agg (stsL M).toArray) (.int .i64 k)).run Tryd.prog w = .ok (.agg #[.bool s.inn, .int .i64 s.j, .int .i64 s.l]) w := by
  have hlt : k < 16 := by rw [← hM]; exact (List.getElem?_eq_some_iff.1 hk).1
  have hn : (0 : Int) ≤ (k : Int) ∧ (k : Int) < ((16 : Nat) : Int) := by omega
  have hx : ((stsL M).toArray.extract (k * 3) (k * 3 + 3)) = #[.bool s.inn, .int .i64 s.j, .int .i64 s.l] := by
    apply Array.ext'
    apply List.ext_getElem?
    intro i
    obtain ⟨h0, h1, h2⟩ := memL_get M k
    rw [hk] at h0 h1 h2
    rw [Nat.mul_comm] at h0 h1 h2
    by_cases hi : i < 3
    · have hlen := stsL_len M
      obtain rfl | rfl | rfl : i = 0 ∨ i = 1 ∨ i = 2 := by omega
      · simpa [stsL] using h0
      · simpa [stsL] using h1
      · simpa [stsL] using h2
    · rw [List.getElem?_eq_none (by simp; omega), List.getElem?_eq_none (by simp; omega)]
  have hag : (isAgg 64).run Tryd.prog w = .ok true w := by kernel_rfl
  have hsz : (sizeOf 64).run Tryd.prog w = .ok 3 w := by kernel_rfl
  have hp : (part 64 (stsL M).toArray (k * 3)).run Tryd.prog w = .ok (.agg #[.bool s.inn, .int .i64 s.j, .int .i64 s.l]) w := by
    unfold part
    rw [Sem.run_bind, hag]
    simp only [Result.andThen_ok, if_true, Sem.run_bind, hsz, Sem.run_pure]
    rw [hx]
  simp only [Instr.index, asIntOf, Sem.run_bind, Sem.run_pure, Result.andThen_ok, run_underlying Tryd.underlying77]
  rw [if_pos hn, Sem.run_bind, hsz]
  simp only [Result.andThen_ok, Int.toNat_natCast]
  exact hp
end Go.Proofs.YtndechodaegkiaaDoor
