
/- The statements of the wheel: num, is. -/
import Derived.Test.YtfdfmmmfklodgaaWiB
import Derived.Test.YtfdfmmmfklodgaaRnd
import Derived.Sort.CutIn
namespace Go.Proofs.Ytfdfmmmfklodgaa
set_option linter.unusedSimpArgs false
set_option linter.unusedVariables false
open Go.RowKit
attribute [local go_sem] Oper.semAt_some
theorem num_any (x : Int) (w : World) : Calls Try.prog 15 #[.int .i64 x] w fun e w' => e = .returned (.int .i64 x) ∧ w = w' := by
  go_enter Try.func15, Try.ntmps15
  go_wp2_with fail
  go_ret
  exact ⟨rfl, rfl⟩
theorem eql_seq (fn : Fn) (x y : Array Value) (w : World) : (binOp .eql 47 (.func fn x y) .nilFunc).run Try.prog w = .ok (.bool false) w := by kernel_rfl
theorem WhV.step {W W' : World} {xs : List Nat} {g : Nat} {now : Int} {L : List (Int × Int)} (h : WhV W xs g now L) (hb : Below W.heap.size W W') : WhV W' xs g now L := by
  obtain ⟨sb, ba, h⟩ := h
  exact ⟨sb, ba, h.step hb⟩
theorem WhV.kx {W W' : World} {xs ys : List Nat} {g : Nat} {now : Int} {L : List (Int × Int)} (h : WhV W xs g now L) (hk : Kx ys W W') (hy : ∀ x, x ∈ xs → x ∉ ys) : WhV W' xs g now L := by
  obtain ⟨sb, ba, h⟩ := h
  exact ⟨sb, ba, h.kx hk hy⟩
theorem WhV.lt {W : World} {xs : List Nat} {g : Nat} {now : Int} {L : List (Int × Int)} (h : WhV W xs g now L) : ∀ x, x ∈ xs → x < W.heap.size := by
  obtain ⟨sb, ba, h⟩ := h
  exact h.lt
theorem len_any (xs : List Nat) (g : Nat) (now : Int) (L : List (Int × Int)) (w : World) (h : WhV w xs g now L) : Calls Try.prog 17 #[.pointer (some ⟨g, 0, none⟩)] w fun e w' => e = .returned (.int .i64 L.length) ∧ w = w' := by
  obtain ⟨sb, ba, h⟩ := h
  exact len_wh xs g now L sb ba w h
theorem now_any (xs : List Nat) (g : Nat) (now : Int) (L : List (Int × Int)) (w : World) (h : WhV w xs g now L) : Calls Try.prog 29 #[.pointer (some ⟨g, 0, none⟩)] w fun e w' => e = .returned (.int .i64 now) ∧ w = w' := by
  obtain ⟨sb, ba, h⟩ := h
  exact now_wh xs g now L sb ba w h
theorem at_any (xs : List Nat) (g : Nat) (now : Int) (L : List (Int × Int)) (id : Int) (hid : wf64 id) (w : World) (h : WhV w xs g now L) : Calls Try.prog 21 #[.pointer (some ⟨g, 0, none⟩), .int .i64 id] w fun e w' => e = .returned (.tuple #[.int .i64 ((getF L id).getD 0), .bool (getF L id).isSome]) ∧ w = w' := by
  obtain ⟨sb, ba, h⟩ := h
  exact at_wh xs g now L sb ba id hid w h
theorem next_any (xs : List Nat) (g : Nat) (now : Int) (L : List (Int × Int)) (w : World) (h : WhV w xs g now L) (hG : GoodW now L) : Calls Try.prog 28 #[.pointer (some ⟨g, 0, none⟩)] w fun e w' => e = .returned (nextV L) ∧ Below w.heap.size w w' :=
  next_of _ L (by have := hG.len; omega) w (fun W hW => allF_any xs g now L W (h.step hW) hG)
/-- What is to be done at the end stands in block D. -/
def Dfr (D : Nat) (W : World) : Prop := W.heap[D]? = some (.deferred (some []))
theorem Dfr.step {D : Nat} {W W' : World} (h : Dfr D W) (hb : Below W.heap.size W W') : Dfr D W' := (hb.block D (Array.getElem?_eq_some_iff.1 h).1).trans h
theorem Dfr.kx {D : Nat} {ws : List Nat} {W W' : World} (h : Dfr D W) (hk : Kx ws W W') (hw : D ∉ ws) : Dfr D W' := (hk.block D (Array.getElem?_eq_some_iff.1 h).1 hw).trans h
theorem keeps_below {W W' : World} (h : Below W.heap.size W W') : KeepsOthers W W' := ⟨h.size, fun k o hk _ => (h.block k (Array.getElem?_eq_some_iff.1 hk).1).trans hk⟩
set_option maxRecDepth 100000 in
set_option maxHeartbeats 4000000 in
theorem is_any (xs : List Nat) (g : Nat) (now : Int) (a : Option Addr) (c : Nat) (L : List (Int × Int)) (w : World) (h : WhV w xs g now L) (hG : GoodW now L) (hR : RowD w 0 (.slice a L.length c) L) :
    Calls Try.prog 13 #[.pointer (some ⟨g, 0, none⟩), .agg #[.int .i64 now, .slice a L.length c]] w fun e w' => e = .returned (.bool true) ∧ Below w.heap.size w w' := by
  refine callsIn_wide (n := 3).1 ?_
  have hl : L.length ≤ 4096 := hG.len
  have hge := Lib.hid hR.ge
  have cN := fun W hW => next_any xs g now L W hW hG
  have cL := fun W hW => len_any xs g now L W hW
  have cA := fun W hW => allF_any xs g now L W hW hG
  have cX := fun W b ao c h1 h2 => all_xs b ao c L W h1 h2 (by omega)
  obtain ⟨N, hN⟩ : ∃ N, L.length = N := ⟨_, rfl⟩
  rw [hN] at hR hge hl cL cX ⊢
  have heq := eql_seq
  have HN := Lib.hid hN
  clear hN
  have hb := From.refl w
  have hxw := Lib.hid h.lt
  refine callsIn_of_wp_marks Try.func13 rfl trivial ?_ rfl
  simp only [Try.ntmps13, List.size_toArray, List.length_cons, List.length_nil, Nat.reduceAdd, Nat.reduceSub, Array.replicate_succ, Array.replicate_zero, List.push_toArray, List.append_toArray, List.nil_append, List.cons_append]
  refine (wpIn_wide (n := 3)).2 ?_
  go_upto_region 1 with fail
  obtain ⟨gX, hgX⟩ : ∃ g, (w).heap.size = g := ⟨_, rfl⟩
  have X := Blk.newV hgX 28 #[.int .i64 now, .slice a N c]
  have hbn := (Below.refl (w).heap.size w).alloc (Nat.le_refl _) (.cells #[.int .i64 now, .slice a N c] 28)
  replace hb := hb.step hbn
  replace h := h.step hbn
  replace hR := hR.step hbn
  clear hbn
  rw [hgX]
  have szX := alloc_size hgX (.cells #[.int .i64 now, .slice a N c] 28)
  generalize (w).alloc (.cells #[.int .i64 now, .slice a N c] 28) = w1 at *
  obtain ⟨gQ, hgQ⟩ : ∃ g, (w1).heap.size = g := ⟨_, rfl⟩
  have lt_X_Q := X.lt
  rw [hgQ] at lt_X_Q
  have Q := Blk.newV hgQ 4 #[.bool false]
  have hbn := (Below.refl (w1).heap.size w1).alloc (Nat.le_refl _) (.cells #[.bool false] 4)
  replace hb := hb.step hbn
  replace h := h.step hbn
  replace hR := hR.step hbn
  replace X := X.step hbn
  clear hbn
  have egQ : gX + 1 = gQ := szX.symm.trans hgQ
  rw [egQ]
  clear szX
  generalize (w1).alloc (.cells #[.bool false] 4) = w2 at *
  go_upto_region 2 with fail
  obtain ⟨gI, hgI⟩ : ∃ g, (w2).heap.size = g := ⟨_, rfl⟩
  have lt_X_I := X.lt
  rw [hgI] at lt_X_I
  have lt_Q_I := Q.lt
  rw [hgI] at lt_Q_I
  have I := Blk.newV hgI 3 #[.int .i64 0]
  have hbn := (Below.refl (w2).heap.size w2).alloc (Nat.le_refl _) (.cells #[.int .i64 0] 3)
  replace hb := hb.step hbn
  replace h := h.step hbn
  replace hR := hR.step hbn
  replace X := X.step hbn
  replace Q := Q.step hbn
  clear hbn
  rw [hgI]
  generalize (w2).alloc (.cells #[.int .i64 0] 3) = w3 at *
  go_wp2_with fail
  refine (cA _ h).mono ?_
  rintro e w4 ⟨b1, rfl, -, hbn⟩
  unfold DueF
  replace hb := hb.step hbn
  replace h := h.step hbn
  replace hR := hR.step hbn
  replace X := X.step hbn
  replace Q := Q.step hbn
  replace I := I.step hbn
  clear hbn
  have hI5 : gI < w4.heap.size := I.lt
  go_wp2_with fail
  refine (cA _ h).mono ?_
  rintro e w5 ⟨b, rfl, ⟨ao, c2, hBx, hHas, hbb, hrow⟩, hbn⟩
  unfold DueF
  replace X := X.step hbn
  replace Q := Q.step hbn
  replace I := I.step hbn
  replace hb := hb.step hbn
  replace h := h.step hbn
  replace hR := hR.step hbn
  clear cA
  rw [HN.out] at hBx
  have hseq := cX w5 b ao c2 hBx hHas
  have hrl := row_lt hrow
  have hrI : ¬ rowS ao gI := by
    rintro ⟨off, e⟩
    have := (hrow gI off e).1
    omega
  have hXI : gX < gI := lt_X_I
  have hQI : gQ < gI := lt_Q_I
  have hwX : w.heap.size ≤ gX := by omega
  have hwQ : w.heap.size ≤ gQ := by omega
  have hb5' := Lib.hid hb
  clear cX hBx hHas hrow hbb hbn hgX hgQ hgI lt_X_Q egQ lt_X_I lt_Q_I
  go_wp2_with fail
  refine (wpIn_wide (n := 3)).1 ?_
  apply wpIn_range_xsA 37 #[.pointer (some ⟨b, 0, none⟩)] rfl enters_All (rowS ao) hseq hrl (Below.refl _ _) (fun _ => rfl)
    (fun k W => Kx [gI] w5 W ∧ Blk W gI 3 [.int .i64 k])
    (fun _ _ _ => False)
    ((ownFrom_kx _ _).and ((blk_own gI 3 (fun k : Nat => [.int .i64 k])).from _))
    (fun _ _ _ _ _ h _ _ => h)
    ⟨Kx.refl _ _, I⟩ (ob := fun x => .cells #[.int .i64 x.2, .int .i64 x.1] 50)
  case hassign =>
    intro l d x W K hd hK
    dsimp only [dueEnc]
    gi_wp2
    exact hK
  case hbody =>
    rintro l k d x W hx ⟨hK, I2⟩ hd hWd hsW
    have hXB : Blk W d 50 [.int .i64 x.2, .int .i64 x.1] := hWd
    have X2 := X.kx hK (by simp; omega)
    have hR2 := hR.kx hK (fun j hj hm => by have := (hge.out j hj).2; simp at hm; omega)
    have hkN : k < N := by have := (List.getElem?_eq_some_iff.1 hx).1; have := HN.out; omega
    obtain ⟨b3, off, rfl, d0, d1⟩ := hR2.has.2.1 k x hx
    have d0 := extA_cell d0
    have d1 := extA_cell d1
    have x0 := extA_cell (X2.cell (j := 1) rfl)
    have x1 := extA_cell (hXB.cell (j := 0) rfl)
    have x2 := extA_cell (hXB.cell (j := 1) rfl)
    have i0 := extA_cell (I2.cell (j := 0) rfl)
    have hne := fun W => ne_due x.2 x.1 x.2 x.1 W
    rw [show (!(decide (x.2 = x.2 ∧ x.1 = x.1))) = false by simp] at hne
    have k0 : (0 : Int) ≤ (k : Int) := by omega
    have k1 : (k : Int) < (N : Int) := by omega
    have k2 : (k : Int) ≤ 5000 := by omega
    have kb : decide (N ≤ k) = false := by simp; omega
    have HX := Lib.hid hx
    clear hWd hXB hx hR hR2 hseq h X Q I cN cL X2
    gi_upto_region 6 with fail
    refine wpIn_region_extR (by kernel_rfl) (by kernel_rfl) (by kernel_rfl) ?_
    repeat
      (first
        | go_big_quiet_skip
        | (go_big_quiet_want
           go_big_quiet_op
           first
             | go_big_quiet_on
             | (apply Exists.intro
                refine ⟨fun w' hC => ?_, ?_⟩
                · (first
                    | with_reducible rfl
                    | fail
                    | (go_simp; done)
                    | (go_simp; with_reducible rfl))
                go_big_quiet_on)))
    refine wpQuiet_nil ?_
    intro w9 hbn
    have I3 := I2.step hbn
    have i1 := I3.cell (j := 0) rfl
    have f1 := I3.frozen 0
    clear d0 d1 x0 x1 x2 i0 hne
    gi_wp2
    have hkk : Kx [gI] w9 (w9.setCell ⟨gI, 0, none⟩ (.int .i64 (k + 1))) := (Kx.refl _ _).setCell (.inl (by simp)) _
    have I4 := I3.set 0 (.int .i64 ((k + 1 : Nat) : Int))
    exact ⟨((keeps_below hbn).trans (KeepsOthers.setCell _ _ _)).from _, ((Kb.refl _ _).below hbn (fun j hj => by have := hrl j hj; omega)).setCell hrI _, (hK.step hbn).trans hkk, I4⟩
  case hstop =>
    rintro D c k W hD hk h
    exact h.elim
  case hdone =>
    rintro D W hD ⟨hK, I2⟩ hDf0
    replace X := X.kx hK (by simp; omega)
    replace Q := Q.kx hK (by simp; omega)
    replace hR := hR.kx hK (fun j hj hm => by have := (hge.out j hj).2; simp at hm; omega)
    replace h := h.kx hK (fun x hx hm => by have := hxw.out x hx; simp at hm; omega)
    replace hb := hb.kx hK (fun x hx => by simp at hx; omega)
    rw [HN.out] at I2
    have hb5 := hb5'.out
    clear hseq hrl hrI hK I
    have hDw : w.heap.size ≤ D := by have := hb5.size; omega
    have hDf : W.heap[D]? = some (.deferred (some [])) := hDf0
    have hDd : Dfr D W := hDf0
    have hnx : ∃ (sB : Bool) (p : Int × Int), nextV L = .tuple #[.agg #[.int .i64 p.2, .int .i64 p.1], .bool sB] ∧ ((sB = false ∧ N = 0 ∧ p = (0, 0)) ∨ (sB = true ∧ 0 < N ∧ L[0]? = some p)) := by
      have hn := HN.out
      cases L with
      | nil => exact ⟨false, (0, 0), rfl, .inl ⟨rfl, by simpa using hn.symm, rfl⟩⟩
      | cons q r => exact ⟨true, q, rfl, .inr ⟨rfl, by simp at hn; omega, rfl⟩⟩
    obtain ⟨sB, p, hnv, hnx⟩ := hnx
    rw [hnv] at cN
    obtain ⟨p1, p2⟩ := p
    simp only at cN
    clear hDf0 hDf hnv hD hb5
    gi_wp2_with fail
    go_wp2_with fail
    refine (cN _ h).mono ?_
    rintro e w6 ⟨rfl, hbn⟩
    replace X := X.step hbn
    replace Q := Q.step hbn
    replace I2 := I2.step hbn
    replace hb := hb.step hbn
    replace h := h.step hbn
    replace hR := hR.step hbn
    replace hDd := hDd.step hbn
    clear hbn
    go_upto_region 10 with fail
    obtain ⟨gP, hgP⟩ : ∃ g, (w6).heap.size = g := ⟨_, rfl⟩
    have lt_X_P := X.lt
    rw [hgP] at lt_X_P
    have lt_Q_P := Q.lt
    rw [hgP] at lt_Q_P
    have lt_I2_P := I2.lt
    rw [hgP] at lt_I2_P
    have P := Blk.newV hgP 50 #[.int .i64 p2, .int .i64 p1]
    have hbn := (Below.refl (w6).heap.size w6).alloc (Nat.le_refl _) (.cells #[.int .i64 p2, .int .i64 p1] 50)
    replace X := X.step hbn
    replace Q := Q.step hbn
    replace I2 := I2.step hbn
    replace hb := hb.step hbn
    replace h := h.step hbn
    replace hR := hR.step hbn
    replace hDd := hDd.step hbn
    clear hbn
    rw [hgP]
    generalize (w6).alloc (.cells #[.int .i64 p2, .int .i64 p1] 50) = w7 at *
    have x0 := extA_cell (X.cell (j := 0) rfl)
    have x1 := extA_cell (X.cell (j := 1) rfl)
    have i0 := extA_cell (I2.cell (j := 0) rfl)
    have hP7 := P.lt
    clear cN hgP lt_X_P lt_Q_P lt_I2_P
    have cW := fun W => now_any xs g now L W
    rcases hnx with ⟨rfl, hN0, hp⟩ | ⟨rfl, hN0, hp⟩
    · subst hN0
      cases hp
      refine wp_region_extB (by kernel_rfl) (by kernel_rfl) ?_
      repeat
        (first
          | go_big_quiet_skip
          | (go_big_quiet_want
             go_big_quiet_op
             first
               | go_big_quiet_on
               | (apply Exists.intro
                  refine ⟨fun w' hC => ?_, ?_⟩
                  · (first
                      | with_reducible rfl
                      | (go_at_call 17; refine (cL _ (h.step hC)).mono ?_; rintro e w2 ⟨rfl, rfl⟩; exact ⟨rfl, hC⟩) | (go_at_call 29; refine (cW _ (h.step hC)).mono ?_; rintro e w2 ⟨rfl, rfl⟩; exact ⟨rfl, hC⟩)
                      | (go_simp; done)
                      | (go_simp; with_reducible rfl))
                  go_big_quiet_on)))
      refine wpQuiet_nil ?_
      intro w8 hbn
      replace X := X.step hbn
      replace Q := Q.step hbn
      replace P := P.step hbn
      replace hb := hb.step hbn
      replace hDd := hDd.step hbn
      clear hbn x0 x1 i0 cL cW
      have x1 := extA_cell (X.cell (j := 1) rfl)
      have q0 := extA_cell (P.cell (j := 0) rfl)
      have q1 := extA_cell (P.cell (j := 1) rfl)
      have he1 := fun W => eq_due 0 0 0 0 W
      simp only [and_self, decide_true] at he1
      go_upto_region 12 with fail
      have hQ8 := Q.lt
      refine wp_region_head (C := ExtA w8) 18 (by kernel_rfl) (by decide) (by kernel_rfl) ⟨rfl, rfl, rfl, Nat.le_refl _, fun _ _ => rfl⟩ ?_
      simp only [List.take_succ_cons, List.take_zero]
      repeat
        (first
          | go_big_quiet_skip
          | (go_big_quiet_want
             go_big_quiet_op
             first
               | go_big_quiet_on
               | (apply Exists.intro
                  refine ⟨fun w' hC => ?_, ?_⟩
                  · (first
                      | with_reducible rfl
                      | fail
                      | (go_simp; done)
                      | (go_simp; with_reducible rfl))
                  go_big_quiet_on)))
      refine wpQuiet_nil ?_
      intro wq hq
      have Qq := Q.step hq
      have hbq := hb.step hq
      have hDdq := hDd.step hq
      change wpAny _ _ _ _ (0 + 1) _ _ _
      have q0 := Qq.cell (j := 0) rfl
      have f0 := Qq.frozen 0
      refine wpAny_ready (rs := [18]) (by kernel_rfl) (by simp) ?_
      refine AllReady.cons rfl (fun K hK => ?_) AllReady.nil
      go_simp
      refine hK _ _ ?_
      clear hK K
      refine wpAny_done (by kernel_rfl) ?_ _
      have G1 := Qq.set 0 (.bool true)
      have hb9 := hbq.out.setCell (p := ⟨gQ, 0, none⟩) (by show w.heap.size ≤ gQ; omega) (.bool true)
      have hD10 := (KeepsOthers.setCell wq ⟨gQ, 0, none⟩ (.bool true)).same D _ hDdq rfl
      go_wp2
      exact leaves_list w.heap.size [D] rfl (fun D' h => by simp at h; subst h; exact ⟨hDw, hD10⟩) (by simp) (v := .bool true) (fun W' hbW hcW => by
        have G1' : Blk W' gQ 4 [.bool true] := hcW _ _ G1 rfl
        have r10 := G1'.cell (j := 0) rfl
        exact ⟨by simp [results, Try.results13, go_sem, r10], rfl, hb9.trans hbW⟩)
    · obtain ⟨b3, off, rfl, d0, d1⟩ := hR.has.2.1 0 (p1, p2) hp
      have d0 := extA_cell d0
      have d1 := extA_cell d1
      simp only [Nat.zero_mul, Nat.add_zero] at d0 d1
      have n0 : (0 : Int) < (N : Int) := by omega
      have n1 : decide (0 < N) = true := by simpa using hN0
      refine wp_region_extB (by kernel_rfl) (by kernel_rfl) ?_
      repeat
        (first
          | go_big_quiet_skip
          | (go_big_quiet_want
             go_big_quiet_op
             first
               | go_big_quiet_on
               | (apply Exists.intro
                  refine ⟨fun w' hC => ?_, ?_⟩
                  · (first
                      | with_reducible rfl
                      | (go_at_call 17; refine (cL _ (h.step hC)).mono ?_; rintro e w2 ⟨rfl, rfl⟩; exact ⟨rfl, hC⟩) | (go_at_call 29; refine (cW _ (h.step hC)).mono ?_; rintro e w2 ⟨rfl, rfl⟩; exact ⟨rfl, hC⟩)
                      | (go_simp; done)
                      | (go_simp; with_reducible rfl))
                  go_big_quiet_on)))
      refine wpQuiet_nil ?_
      intro w8 hbn
      have d2 := d0 _ hbn
      have d3 := d1 _ hbn
      have d0 := extA_cell d2
      have d1 := extA_cell d3
      replace X := X.step hbn
      replace Q := Q.step hbn
      replace P := P.step hbn
      replace hb := hb.step hbn
      replace hDd := hDd.step hbn
      clear hbn x0 x1 i0 cL cW
      have x1 := extA_cell (X.cell (j := 1) rfl)
      have q0 := extA_cell (P.cell (j := 0) rfl)
      have q1 := extA_cell (P.cell (j := 1) rfl)
      have he1 := fun W => eq_due p2 p1 p2 p1 W
      simp only [and_self, decide_true] at he1
      go_upto_region 12 with fail
      have hQ8 := Q.lt
      refine wp_region_head (C := ExtA w8) 18 (by kernel_rfl) (by decide) (by kernel_rfl) ⟨rfl, rfl, rfl, Nat.le_refl _, fun _ _ => rfl⟩ ?_
      simp only [List.take_succ_cons, List.take_zero]
      repeat
        (first
          | go_big_quiet_skip
          | (go_big_quiet_want
             go_big_quiet_op
             first
               | go_big_quiet_on
               | (apply Exists.intro
                  refine ⟨fun w' hC => ?_, ?_⟩
                  · (first
                      | with_reducible rfl
                      | fail
                      | (go_simp; done)
                      | (go_simp; with_reducible rfl))
                  go_big_quiet_on)))
      refine wpQuiet_nil ?_
      intro wq hq
      have Qq := Q.step hq
      have hbq := hb.step hq
      have hDdq := hDd.step hq
      change wpAny _ _ _ _ (0 + 1) _ _ _
      have q0 := Qq.cell (j := 0) rfl
      have f0 := Qq.frozen 0
      refine wpAny_ready (rs := [18]) (by kernel_rfl) (by simp) ?_
      refine AllReady.cons rfl (fun K hK => ?_) AllReady.nil
      go_simp
      refine hK _ _ ?_
      clear hK K
      refine wpAny_done (by kernel_rfl) ?_ _
      have G1 := Qq.set 0 (.bool true)
      have hb9 := hbq.out.setCell (p := ⟨gQ, 0, none⟩) (by show w.heap.size ≤ gQ; omega) (.bool true)
      have hD10 := (KeepsOthers.setCell wq ⟨gQ, 0, none⟩ (.bool true)).same D _ hDdq rfl
      go_wp2
      exact leaves_list w.heap.size [D] rfl (fun D' h => by simp at h; subst h; exact ⟨hDw, hD10⟩) (by simp) (v := .bool true) (fun W' hbW hcW => by
        have G1' : Blk W' gQ 4 [.bool true] := hcW _ _ G1 rfl
        have r10 := G1'.cell (j := 0) rfl
        exact ⟨by simp [results, Try.results13, go_sem, r10], rfl, hb9.trans hbW⟩)
end Go.Proofs.Ytfdfmmmfklodgaa
