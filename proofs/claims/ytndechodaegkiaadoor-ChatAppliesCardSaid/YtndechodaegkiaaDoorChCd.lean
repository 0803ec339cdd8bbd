
/- Package chat: Copy, Same; the document's Same. -/
import Derived.Test.YtndechodaegkiaaDoorChCc
namespace Go.Proofs.YtndechodaegkiaaDoor
open Go.RowKit
theorem row_kx {ws : List Nat} {W W' : World} {base n : Nat} {e : TypeId} {size : Nat} {v : Value} {xs : List Value} (h : W.ownsRow base e size v n xs) (hK : Kx ws W W') (hw : ∀ k, v.ownBlock = some k → k ∉ ws) : W'.ownsRow base e size v n xs := by
  refine ⟨h.1, ?_⟩
  rcases h.2 with h0 | ⟨g, cap, cur, rfl, hg, hh, hle, hcap, hsz2, htake⟩
  · exact .inl h0
  · exact .inr ⟨g, cap, cur, rfl, hg, (hK.block g (Array.getElem?_eq_some_iff.1 hh).1 (hw g rfl)).trans hh, hle, hcap, hsz2, htake⟩
theorem TkW.kx {ws : List Nat} {W W' : World} {base g : Nat} {v : Value} {t : Tk} (h : TkW W base g v t) (hK : Kx ws W W') (hw : ∀ x, x ∈ g :: v.ownBlock.toList → x ∉ ws) : TkW W' base g v t :=
  ⟨hK.blk h.blk (hw g (by simp)), row_kx h.row hK (fun k hk => hw k (by simp [hk])), h.len, h.few, h.top⟩
theorem DW.kx {ws : List Nat} {W W' : World} {base : Nat} {sv : Value} {L : List Ln} (h : DW W base sv L) (hK : Kx ws W W') (hw : ∀ k, sv.ownBlock = some k → k ∉ ws) : DW W' base sv L := ⟨row_kx h.row hK hw, h.nil⟩
set_option maxRecDepth 100000 in
set_option maxHeartbeats 2000000 in
theorem copyC_any (base g : Nat) (v : Value) (t : Tk) (w : World) (h : TkW w base g v t) :
    Calls Tryd.prog 27 #[.pointer (some ⟨g, 0, none⟩)] w fun e w' => (∃ o v2, e = .returned (.pointer (some ⟨o, 0, none⟩)) ∧ TkW w' w.heap.size o v2 t ∧ w.heap.size ≤ o) ∧ Below w.heap.size w w' := by
  have hlen := talkL_len h
  have hfew : t.L.length ≤ 5000 := by have := h.few; have := h.top; omega
  obtain ⟨B, hB⟩ : ∃ B, w.heap.size = B := ⟨_, rfl⟩
  have hR := h.blk.range
  have hi1 : (Tryd.prog.info? 79).map (·.size) = some (talkL v t).length := by rw [hlen]; exact info_talk
  have XR : Blk (w.alloc (.cells #[.slice none 0 0, .int .i64 0, .bool false, .int .i64 0, .int .i64 0, .bool false, .int .i64 0, .int .i64 0, .bool false, .int .i64 0, .int .i64 0, .bool false, .int .i64 0, .int .i64 0, .bool false, .int .i64 0, .int .i64 0, .bool false, .int .i64 0, .int .i64 0, .bool false, .int .i64 0, .int .i64 0, .bool false, .int .i64 0, .int .i64 0, .bool false, .int .i64 0, .int .i64 0, .bool false, .int .i64 0, .int .i64 0, .bool false, .int .i64 0, .int .i64 0, .bool false, .int .i64 0, .int .i64 0, .bool false, .int .i64 0, .int .i64 0, .bool false, .int .i64 0, .int .i64 0, .bool false, .int .i64 0, .int .i64 0, .bool false, .int .i64 0, .int .i64 0, .bool false] 79)) B 79 #[.slice none 0 0, .int .i64 0, .bool false, .int .i64 0, .int .i64 0, .bool false, .int .i64 0, .int .i64 0, .bool false, .int .i64 0, .int .i64 0, .bool false, .int .i64 0, .int .i64 0, .bool false, .int .i64 0, .int .i64 0, .bool false, .int .i64 0, .int .i64 0, .bool false, .int .i64 0, .int .i64 0, .bool false, .int .i64 0, .int .i64 0, .bool false, .int .i64 0, .int .i64 0, .bool false, .int .i64 0, .int .i64 0, .bool false, .int .i64 0, .int .i64 0, .bool false, .int .i64 0, .int .i64 0, .bool false, .int .i64 0, .int .i64 0, .bool false, .int .i64 0, .int .i64 0, .bool false, .int .i64 0, .int .i64 0, .bool false, .int .i64 0, .int .i64 0, .bool false].toList := Blk.newA' hB 79 #[.slice none 0 0, .int .i64 0, .bool false, .int .i64 0, .int .i64 0, .bool false, .int .i64 0, .int .i64 0, .bool false, .int .i64 0, .int .i64 0, .bool false, .int .i64 0, .int .i64 0, .bool false, .int .i64 0, .int .i64 0, .bool false, .int .i64 0, .int .i64 0, .bool false, .int .i64 0, .int .i64 0, .bool false, .int .i64 0, .int .i64 0, .bool false, .int .i64 0, .int .i64 0, .bool false, .int .i64 0, .int .i64 0, .bool false, .int .i64 0, .int .i64 0, .bool false, .int .i64 0, .int .i64 0, .bool false, .int .i64 0, .int .i64 0, .bool false, .int .i64 0, .int .i64 0, .bool false, .int .i64 0, .int .i64 0, .bool false, .int .i64 0, .int .i64 0, .bool false]
  have hb1 := (Below.refl w.heap.size w).alloc (Nat.le_refl _) (.cells #[.slice none 0 0, .int .i64 0, .bool false, .int .i64 0, .int .i64 0, .bool false, .int .i64 0, .int .i64 0, .bool false, .int .i64 0, .int .i64 0, .bool false, .int .i64 0, .int .i64 0, .bool false, .int .i64 0, .int .i64 0, .bool false, .int .i64 0, .int .i64 0, .bool false, .int .i64 0, .int .i64 0, .bool false, .int .i64 0, .int .i64 0, .bool false, .int .i64 0, .int .i64 0, .bool false, .int .i64 0, .int .i64 0, .bool false, .int .i64 0, .int .i64 0, .bool false, .int .i64 0, .int .i64 0, .bool false, .int .i64 0, .int .i64 0, .bool false, .int .i64 0, .int .i64 0, .bool false, .int .i64 0, .int .i64 0, .bool false, .int .i64 0, .int .i64 0, .bool false] 79)
  have hTh : (w.alloc (.cells #[.slice none 0 0, .int .i64 0, .bool false, .int .i64 0, .int .i64 0, .bool false, .int .i64 0, .int .i64 0, .bool false, .int .i64 0, .int .i64 0, .bool false, .int .i64 0, .int .i64 0, .bool false, .int .i64 0, .int .i64 0, .bool false, .int .i64 0, .int .i64 0, .bool false, .int .i64 0, .int .i64 0, .bool false, .int .i64 0, .int .i64 0, .bool false, .int .i64 0, .int .i64 0, .bool false, .int .i64 0, .int .i64 0, .bool false, .int .i64 0, .int .i64 0, .bool false, .int .i64 0, .int .i64 0, .bool false, .int .i64 0, .int .i64 0, .bool false, .int .i64 0, .int .i64 0, .bool false, .int .i64 0, .int .i64 0, .bool false, .int .i64 0, .int .i64 0, .bool false] 79)).there B 0 (talkL v t).length := by rw [hlen]; exact XR.there 51 (by decide)
  have hst := run_st _ B (talkL v t) hTh (talkL_one h)
  have XR2 : Blk ((w.alloc (.cells #[.slice none 0 0, .int .i64 0, .bool false, .int .i64 0, .int .i64 0, .bool false, .int .i64 0, .int .i64 0, .bool false, .int .i64 0, .int .i64 0, .bool false, .int .i64 0, .int .i64 0, .bool false, .int .i64 0, .int .i64 0, .bool false, .int .i64 0, .int .i64 0, .bool false, .int .i64 0, .int .i64 0, .bool false, .int .i64 0, .int .i64 0, .bool false, .int .i64 0, .int .i64 0, .bool false, .int .i64 0, .int .i64 0, .bool false, .int .i64 0, .int .i64 0, .bool false, .int .i64 0, .int .i64 0, .bool false, .int .i64 0, .int .i64 0, .bool false, .int .i64 0, .int .i64 0, .bool false, .int .i64 0, .int .i64 0, .bool false, .int .i64 0, .int .i64 0, .bool false] 79)).setCells B 0 (talkL v t)) B 79 (talkL v t) := by
    have X := Blk.setCells (talkL v t) 0 _ _ XR (by rw [hlen]; decide)
    rw [List.take_zero, List.nil_append, Nat.zero_add, List.drop_eq_nil_of_le (by rw [hlen]; decide), List.append_nil] at X
    exact X
  have hb2 := Below.setCells (talkL v t) 0 _ hb1 (by omega : w.heap.size ≤ B)
  have hR1 : (w.alloc (.cells #[.slice none 0 0, .int .i64 0, .bool false, .int .i64 0, .int .i64 0, .bool false, .int .i64 0, .int .i64 0, .bool false, .int .i64 0, .int .i64 0, .bool false, .int .i64 0, .int .i64 0, .bool false, .int .i64 0, .int .i64 0, .bool false, .int .i64 0, .int .i64 0, .bool false, .int .i64 0, .int .i64 0, .bool false, .int .i64 0, .int .i64 0, .bool false, .int .i64 0, .int .i64 0, .bool false, .int .i64 0, .int .i64 0, .bool false, .int .i64 0, .int .i64 0, .bool false, .int .i64 0, .int .i64 0, .bool false, .int .i64 0, .int .i64 0, .bool false, .int .i64 0, .int .i64 0, .bool false, .int .i64 0, .int .i64 0, .bool false, .int .i64 0, .int .i64 0, .bool false] 79)).rangeAt g 0 (talkL v t) := (h.step hb1).blk.range
  clear XR hb1 hTh
  rw [hB]
  go_enter Tryd.func27, Tryd.ntmps27
  go_wp2_with fail
  refine (none_any g true _ h.made).mono ?_
  rintro e w1 ⟨rfl, rfl⟩
  go_upto_region 4 with (first
    | (refine wpList_load_mid rfl 79 (.tmp 7) rfl g 0 (by rfl) (talkL v t) _ hR Tryd.underlying79 rfl hi1 ?_)
    | (refine wpList_load_mid rfl 79 (.tmp 7) rfl g 0 (by rfl) (talkL v t) _ hR1 Tryd.underlying79 rfl hi1 ?_))
  clear hst hR hR1 hi1
  generalize (w.alloc (.cells #[.slice none 0 0, .int .i64 0, .bool false, .int .i64 0, .int .i64 0, .bool false, .int .i64 0, .int .i64 0, .bool false, .int .i64 0, .int .i64 0, .bool false, .int .i64 0, .int .i64 0, .bool false, .int .i64 0, .int .i64 0, .bool false, .int .i64 0, .int .i64 0, .bool false, .int .i64 0, .int .i64 0, .bool false, .int .i64 0, .int .i64 0, .bool false, .int .i64 0, .int .i64 0, .bool false, .int .i64 0, .int .i64 0, .bool false, .int .i64 0, .int .i64 0, .bool false, .int .i64 0, .int .i64 0, .bool false, .int .i64 0, .int .i64 0, .bool false, .int .i64 0, .int .i64 0, .bool false, .int .i64 0, .int .i64 0, .bool false, .int .i64 0, .int .i64 0, .bool false] 79)).setCells B 0 (talkL v t) = W at *
  have h1 := h.step hb2
  have c0 := h1.blk.cell (j := 0) rfl
  go_wp2_with fail
  refine (clone_any base t.L v _ h1.row hfew).mono ?_
  rintro e W2 ⟨⟨v2, rfl, hrow⟩, hb3⟩
  obtain ⟨a2, c2, rfl⟩ : ∃ a c, v2 = .slice a t.L.length c := by
    rcases hrow.2 with ⟨e, e2⟩ | ⟨g', cap', cur, e, -⟩
    · exact ⟨none, 0, by rw [e, e2]⟩
    · exact ⟨_, _, e⟩
  have XR3 := XR2.step hb3
  have hBW : B < W.heap.size := XR2.lt
  clear XR2 c0 h1
  have d0 := XR3.cell (j := 0) rfl
  have f0 := XR3.frozen 0
  have hb4 : Below w.heap.size w W2 := hb2.trans (hb3.mono hb2.size)
  go_wp2
  go_ret
  refine ⟨⟨B, _, rfl, ⟨XR3.set 0 (.slice a2 t.L.length c2), row_low (row_far hrow (p := ⟨B, 0, none⟩) hBW _) (by omega), h.len, h.few, h.top⟩, by omega⟩, ?_⟩
  exact hB ▸ hb4.setCell (p := ⟨B, 0, none⟩) (by show w.heap.size ≤ B; omega) _
theorem ite_ok {p : Prop} [Decidable p] {b : Bool} {w : World} : (if p then (Result.ok (Value.bool b) w : Result Value) else Result.ok (Value.bool false) w) = Result.ok (Value.bool (decide p && b)) w := by
  by_cases h : p <;> simp [h]
set_option maxRecDepth 100000 in
set_option maxHeartbeats 1000000 in
theorem eq_sts (M N : List St) (hM : M.length = 16) (hN : N.length = 16) (w : World) : (binOp .eql 77 (.agg (stsL M).toArray) (.agg (stsL N).toArray)).run Tryd.prog w = .ok (.bool (stsB M N)) w := by
  match M, hM with
  | [a0, a1, a2, a3, a4, a5, a6, a7, a8, a9, a10, a11, a12, a13, a14, a15], _ =>
    match N, hN with
    | [b0, b1, b2, b3, b4, b5, b6, b7, b8, b9, b10, b11, b12, b13, b14, b15], _ =>
      simp only [stsL, stL, List.flatMap_cons, List.flatMap_nil, List.cons_append, List.nil_append, List.append_nil]
      go_simp
      obtain ⟨i, hi⟩ : ∃ i, Tryd.prog.info? 64 = some i := ⟨_, rfl⟩
      have hA := fun xs ys => run_equalIn_array (w := w) 9999 xs ys Tryd.underlying77 hi
      simp only [Nat.reduceAdd] at hA
      rw [hA]
      simp only [show List.range 16 = [0, 1, 2, 3, 4, 5, 6, 7, 8, 9, 10, 11, 12, 13, 14, 15] from rfl, Op.eqItems, show Tryd.prog.cellsOf 64 = 3 from by kernel_rfl]
      go_simp
      simp only [ite_ok]
      simp only [stsB, stB, Bool.and_assoc]
set_option maxRecDepth 100000 in
set_option maxHeartbeats 1000000 in
theorem refSame_any (A B : Tk) (a a2 : Option Addr) (c c2 : Nat) (w : World) (hA : HasL w a A.L) (hB : HasL w a2 B.L) (hn : A.L.length ≤ 5000) (hm : B.L.length ≤ 5000) :
    Calls Tryd.prog 30 #[.agg #[.int .i64 A.sl, .slice a A.L.length c], .agg #[.int .i64 B.sl, .slice a2 B.L.length c2]] w fun r w' => r = .returned (.bool (sameT A B)) ∧ Below w.heap.size w w' := by
  obtain ⟨sA, LA, MA⟩ := A
  obtain ⟨sB, LB, MB⟩ := B
  unfold sameT
  simp only at hA hB hn hm ⊢
  have cS := fun W hA hB => sameLinesG_any LA LB a a2 c c2 W hA hB hn hm
  generalize lnsB LA LB = V at cS
  obtain ⟨n, hnn⟩ : ∃ n, LA.length = n := ⟨_, rfl⟩
  obtain ⟨m, hmm⟩ : ∃ m, LB.length = m := ⟨_, rfl⟩
  rw [hnn, hmm] at cS ⊢
  have hb := From.refl w
  by_cases h : sA = sB
  · subst h
    have hd : decide (sA = sA) = true := by simp
    rw [hd, Bool.true_and]
    clear hd
    go_enter Tryd.func30, Tryd.ntmps30
    go_upto_region 1 with fail
    obtain ⟨gP, hgP⟩ : ∃ g, (w).heap.size = g := ⟨_, rfl⟩
    have P := Blk.newV hgP 49 #[.int .i64 sA, .slice a n c]
    have hbn := (Below.refl (w).heap.size w).alloc (Nat.le_refl _) (.cells #[.int .i64 sA, .slice a n c] 49)
    replace hb := hb.step hbn
    clear hbn
    rw [hgP]
    have szP := alloc_size hgP (.cells #[.int .i64 sA, .slice a n c] 49)
    generalize (w).alloc (.cells #[.int .i64 sA, .slice a n c] 49) = w1 at *
    obtain ⟨gX, hgX⟩ : ∃ g, (w1).heap.size = g := ⟨_, rfl⟩
    have lt_P_X := P.lt
    rw [hgX] at lt_P_X
    have X := Blk.newV hgX 49 #[.int .i64 sA, .slice a2 m c2]
    have hbn := (Below.refl (w1).heap.size w1).alloc (Nat.le_refl _) (.cells #[.int .i64 sA, .slice a2 m c2] 49)
    replace hb := hb.step hbn
    replace P := P.step hbn
    clear hbn
    have egX : gP + 1 = gX := szP.symm.trans hgX
    rw [egX]
    clear szP
    generalize (w1).alloc (.cells #[.int .i64 sA, .slice a2 m c2] 49) = w2 at *
    have P_0 := P.cell (j := 0) rfl
    have P_1 := P.cell (j := 1) rfl
    have X_0 := X.cell (j := 0) rfl
    have X_1 := X.cell (j := 1) rfl
    go_wp2_with fail
    refine (cS _ (hA.step hb.out) (hB.step hb.out)).mono ?_
    rintro e w3 ⟨rfl, hbn⟩
    replace hb := hb.step hbn
    replace P := P.step hbn
    replace P_0 := P.cell (j := 0) rfl
    replace P_1 := P.cell (j := 1) rfl
    replace X := X.step hbn
    replace X_0 := X.cell (j := 0) rfl
    replace X_1 := X.cell (j := 1) rfl
    clear hbn
    go_wp2
    go_ret
    exact ⟨rfl, hb⟩
  · have hd : decide (sA = sB) = false := by simp [h]
    rw [hd, Bool.false_and]
    have hd2 : ((sA : Int) == (sB : Int)) = false := by simp; omega
    clear hd cS
    go_enter Tryd.func30, Tryd.ntmps30
    go_upto_region 1 with fail
    obtain ⟨gP, hgP⟩ : ∃ g, (w).heap.size = g := ⟨_, rfl⟩
    have P := Blk.newV hgP 49 #[.int .i64 sA, .slice a n c]
    have hbn := (Below.refl (w).heap.size w).alloc (Nat.le_refl _) (.cells #[.int .i64 sA, .slice a n c] 49)
    replace hb := hb.step hbn
    clear hbn
    rw [hgP]
    have szP := alloc_size hgP (.cells #[.int .i64 sA, .slice a n c] 49)
    generalize (w).alloc (.cells #[.int .i64 sA, .slice a n c] 49) = w1 at *
    obtain ⟨gX, hgX⟩ : ∃ g, (w1).heap.size = g := ⟨_, rfl⟩
    have lt_P_X := P.lt
    rw [hgX] at lt_P_X
    have X := Blk.newV hgX 49 #[.int .i64 sB, .slice a2 m c2]
    have hbn := (Below.refl (w1).heap.size w1).alloc (Nat.le_refl _) (.cells #[.int .i64 sB, .slice a2 m c2] 49)
    replace hb := hb.step hbn
    replace P := P.step hbn
    clear hbn
    have egX : gP + 1 = gX := szP.symm.trans hgX
    rw [egX]
    clear szP
    generalize (w1).alloc (.cells #[.int .i64 sB, .slice a2 m c2] 49) = w2 at *
    have P_0 := P.cell (j := 0) rfl
    have P_1 := P.cell (j := 1) rfl
    have X_0 := X.cell (j := 0) rfl
    have X_1 := X.cell (j := 1) rfl
    go_wp2
    go_ret
    exact ⟨rfl, hgP ▸ hb.out⟩
end Go.Proofs.YtndechodaegkiaaDoor
