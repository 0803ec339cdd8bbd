
/- TextHolds: the stage's theorem (walk, first part). -/
import Derived.Test.YtehjglaofhgjfaaDoorTzE
import Derived.Test.YtehjglaofhgjfaaDoorTzF
import Derived.Test.YtehjglaofhgjfaaDoorTyZ
namespace Go.Proofs.YtehjglaofhgjfaaDoor
set_option linter.unusedSimpArgs false
set_option linter.unusedVariables false
open Go.RowKit
attribute [local go_sem] Oper.semAt_some
/-- Where the sign ahead of the k-th begins. -/
def lastP (l : BL) (k : Nat) : Nat := match k with | 0 => 0 | k + 1 => posF k l
theorem posF_inc (l : BL) (k : Nat) (h : k < lenB l) : posF k l < posF (k + 1) l := by
  have hl := posF_lt k l h
  have hne : l.drop (posF k l) ≠ [] := by
    intro e
    have := congrArg List.length e
    rw [List.length_drop] at this
    simp at this
    omega
  have hw := Lib.decodeL_width (l.drop (posF k l))
  rw [posF_succ, if_neg hne]
  omega
def Cnt2 (w0 : World) (gL gN : Nat) (l : BL) (k : Nat) (W : World) : Prop := Kx [gL, gN] w0 W ∧ Blk W gL 3 [.int .i64 (lastP l k : Nat)] ∧ Blk W gN 3 [.int .i64 k]
theorem Cnt2.ownFrom {w0 : World} {gL gN : Nat} {l : BL} (h1 : gL < w0.heap.size) (h2 : gN < w0.heap.size) : OwnFrom w0.heap.size (Cnt2 w0 gL gN l) := by
  rintro k W W' row ⟨hK, hL, hN⟩ hgr hr
  exact ⟨hK.grown hgr (fun j e => .inr (hr j e).1), (hgr.block gL hL.lt (fun e => by have := (hr gL e.symm).1; omega)).trans hL, (hgr.block gN hN.lt (fun e => by have := (hr gN e.symm).1; omega)).trans hN⟩
theorem Cnt2.next {w0 : World} {gL gN : Nat} {l : BL} {k : Nat} {W : World} (h : Cnt2 w0 gL gN l k W) (hne : gL ≠ gN) : Cnt2 w0 gL gN l (k + 1) ((W.setCell ⟨gL, 0, none⟩ (.int .i64 (posF k l : Nat))).setCell ⟨gN, 0, none⟩ (.int .i64 ((k : Int) + 1))) :=
  ⟨(h.1.setCell (.inl (by simp)) _).setCell (.inl (by simp)) _, (h.2.1.set 0 _).other hne 0 _, (h.2.2.other (Ne.symm hne) 0 _).set 0 _⟩
theorem wp_region_extA {P : Program} {id : Nat} {Q : Exit → Act → World → Prop} {a : Act} {w : World} {l : List Oper} (hm : P.follows .mixedOrders = true) (hB : Region.lexB .any l.toArray = true)
    (h : wpQuiet P l.toArray (ExtA w) (fun a' => ∀ w', ExtA w w' → Q .normal a' w') l a) : (Code.region id l.toArray true).wp P Q a w :=
  wp_region_quiet (C := ExtA w) hm hB ⟨rfl, rfl, rfl, Nat.le_refl _, fun _ _ => rfl⟩ (by simpa using h)
theorem dec4 (l : BL) : (Lib.decodeL l).2 ≤ 4 := by
  rw [Lib.decodeL_N]
  unfold Lib.decodeN
  repeat' split
  all_goals simp
theorem len4 : ∀ (k : Nat) (l : BL), l.length ≤ k → l.length ≤ 4 * lenB l
  | 0, l, h => by omega
  | k + 1, l, h => by
    by_cases hl : l = []
    · subst hl; simp
    · have h1 := lenB_step l hl
      have h2 := drop_lt l hl
      have h3 := len4 k (l.drop (Lib.decodeL l).2) (by omega)
      have h4 := dec4 l
      rw [List.length_drop] at h3
      omega
theorem flat_len : ∀ (ls : List BL) (M : Nat), (∀ x ∈ ls, x.length ≤ M) → ls.flatten.length ≤ M * ls.length
  | [], M, h => by simp
  | x :: t, M, h => by
    have h1 := h x (by simp)
    have h2 := flat_len t M (fun y hy => h y (by simp [hy]))
    rw [List.flatten_cons, List.length_append, List.length_cons, Nat.mul_add]
    omega
theorem qB_len (c : UInt8) : (qB c).length ≤ 4 := by
  unfold qB
  split
  · simp
  · split <;> simp
theorem flat_qB (l : BL) : (l.flatMap qB).length ≤ 4 * l.length := by
  induction l with
  | nil => simp
  | cons c t ih =>
    rw [List.flatMap_cons, List.length_append, List.length_cons]
    have := qB_len c
    omega
theorem unq_quote (s : ByteArray) (hs : s.size ≤ 300) (w : World) : Calls Tryd.prog 22 #[.string (quoteS s)] w fun e w' => e = .returned (.tuple #[.string s, .int .i64 0]) ∧ Below w.heap.size w w' := by
  have hz : (quoteS s).size ≤ 1000000 := by
    unfold quoteS
    rw [mkS_size]
    unfold quoteL
    have := flat_qB s.data.toList
    rw [← Lib.size_eq] at this
    simp
    simp at this
    omega
  have h := unquote_any (quoteS s) _ rfl hz w
  have h1 : resP (quoteS s).data.toList = some s.data.toList := by unfold quoteS; rw [mkS_data, resP_quote]
  unfold unqV unqE at h
  rw [h1] at h
  simp only [mkS_self, Option.isSome_some, if_true] at h
  exact h
theorem foldS_foldS (s : ByteArray) : foldS (foldS s) = foldS s := by
  unfold foldS
  rw [mkS_data, foldL_foldL]
theorem solid_succ (l : BL) (i : Nat) (c : UInt8) (h : l[i]? = some c) : solid (l.take (i + 1)) = solid (l.take i) ++ (if c = 32 then [] else [c]) := by
  obtain ⟨hi, rfl⟩ := List.getElem?_eq_some_iff.1 h
  unfold solid
  rw [List.take_succ_eq_append_getElem hi, List.filter_append]
  congr 1
  by_cases hc : l[i] = 32 <;> simp [hc]
theorem solid_len (l : BL) : (solid l).length ≤ l.length := List.length_filter_le _ _
set_option maxRecDepth 100000 in
set_option maxHeartbeats 4000000 in
theorem TextHolds_walk (s : ByteArray) (width : Int) (w : World) (hT : Tabs w) (hM : MaxL w) (hs : s.size ≤ 9223372036854775807) (hn : -9223372036854775808 ≤ width ∧ width ≤ 9223372036854775807) :
    Calls Tryd.prog 11 #[.string s, .int .i64 width] w fun e w' => e = .returned (.bool true) ∧ Below w.heap.size w w' := by
  refine callsIn_wide (n := 3).1 ?_
  have hb := From.refl w
  refine callsIn_of_wp_marks Tryd.func11 rfl trivial ?_ rfl
  simp only [Tryd.ntmps11, List.size_toArray, List.length_cons, List.length_nil, Nat.reduceAdd, Nat.reduceSub, Array.replicate_succ, Array.replicate_zero, List.push_toArray, List.append_toArray, List.nil_append, List.cons_append]
  refine (wpIn_wide (n := 3)).2 ?_
  go_upto_region 1 with fail
  obtain ⟨gR, hgR⟩ : ∃ g, (w).heap.size = g := ⟨_, rfl⟩
  have R := Blk.newV hgR 4 #[.bool false]
  have hbn := (Below.refl (w).heap.size w).alloc (Nat.le_refl _) (.cells #[.bool false] 4)
  replace hb := hb.step hbn
  clear hbn
  rw [hgR]
  generalize (w).alloc (.cells #[.bool false] 4) = w1 at *
  by_cases hin : 300 < s.size ∨ width < 1 ∨ 200 < width
  · by_cases a1 : 300 < s.size
    · have a1' : (300 : Int) < (s.size : Int) := by omega
      clear hin
      go_wp2_with fail
      refine (works3_any _ (hT.step hb) (hM.step hb)).mono ?_
      rintro e w2 ⟨rfl, hbn⟩
      replace hb := hb.step hbn
      replace R := R.step hbn
      clear hbn
      have fR := R.frozen 0
      have cR := R.cell (j := 0) rfl
      go_wp2_with fail
      have R9 := R.set 0 (.bool true)
      have c9 : (w2.setCell ⟨gR, 0, none⟩ (.bool true)).cell? ⟨gR, 0, none⟩ = some (.bool true) := R9.cell (j := 0) rfl
      have hb9 : Below gR w (w2.setCell ⟨gR, 0, none⟩ (.bool true)) := Below.setCell (hgR ▸ hb.out) (p := ⟨gR, 0, none⟩) (Nat.le_refl _) _
      clear R9 R cR fR hb
      generalize w2.setCell ⟨gR, 0, none⟩ (.bool true) = W9 at *
      refine leaves_nil (v := .bool true) rfl ?_ ⟨rfl, by first | exact hb9 | (rw [hgR]; exact hb9)⟩
      simp [results, Tryd.results11, go_sem, c9]
    · have a1' : ¬ (300 : Int) < (s.size : Int) := by omega
      by_cases a2 : width < 1
      · clear hin
        go_wp2_with fail
        refine (works3_any _ (hT.step hb) (hM.step hb)).mono ?_
        rintro e w2 ⟨rfl, hbn⟩
        replace hb := hb.step hbn
        replace R := R.step hbn
        clear hbn
        have fR := R.frozen 0
        have cR := R.cell (j := 0) rfl
        go_wp2_with fail
        have R9 := R.set 0 (.bool true)
        have c9 : (w2.setCell ⟨gR, 0, none⟩ (.bool true)).cell? ⟨gR, 0, none⟩ = some (.bool true) := R9.cell (j := 0) rfl
        have hb9 : Below gR w (w2.setCell ⟨gR, 0, none⟩ (.bool true)) := Below.setCell (hgR ▸ hb.out) (p := ⟨gR, 0, none⟩) (Nat.le_refl _) _
        clear R9 R cR fR hb
        generalize w2.setCell ⟨gR, 0, none⟩ (.bool true) = W9 at *
        refine leaves_nil (v := .bool true) rfl ?_ ⟨rfl, by first | exact hb9 | (rw [hgR]; exact hb9)⟩
        simp [results, Tryd.results11, go_sem, c9]
      · have a3 : 200 < width := by omega
        clear hin
        go_wp2_with fail
        refine (works3_any _ (hT.step hb) (hM.step hb)).mono ?_
        rintro e w2 ⟨rfl, hbn⟩
        replace hb := hb.step hbn
        replace R := R.step hbn
        clear hbn
        have fR := R.frozen 0
        have cR := R.cell (j := 0) rfl
        go_wp2_with fail
        have R9 := R.set 0 (.bool true)
        have c9 : (w2.setCell ⟨gR, 0, none⟩ (.bool true)).cell? ⟨gR, 0, none⟩ = some (.bool true) := R9.cell (j := 0) rfl
        have hb9 : Below gR w (w2.setCell ⟨gR, 0, none⟩ (.bool true)) := Below.setCell (hgR ▸ hb.out) (p := ⟨gR, 0, none⟩) (Nat.le_refl _) _
        clear R9 R cR fR hb
        generalize w2.setCell ⟨gR, 0, none⟩ (.bool true) = W9 at *
        refine leaves_nil (v := .bool true) rfl ?_ ⟨rfl, by first | exact hb9 | (rw [hgR]; exact hb9)⟩
        simp [results, Tryd.results11, go_sem, c9]
  · have g1 : ¬ (300 : Int) < (s.size : Int) := by omega
    have g2 : ¬ width < 1 := by omega
    have g3 : ¬ 200 < width := by omega
    have hs3 : s.size ≤ 300 := by omega
    obtain ⟨Wd, rfl⟩ : ∃ n : Nat, width = n := ⟨width.toNat, by omega⟩
    go_upto_region 3 with fail
    go_upto_region 4 with fail
    obtain ⟨gL, hgL⟩ : ∃ g, w1.heap.size = g := ⟨_, rfl⟩
    have Lb := Blk.newV hgL 3 #[.int .i64 0]
    have hbn := (Below.refl w1.heap.size w1).alloc (Nat.le_refl _) (.cells #[.int .i64 0] 3)
    have hsz : (w1.alloc (.cells #[.int .i64 0] 3)).heap.size = gL + 1 := by rw [← hgL]; exact Array.size_push ..
    have hRL : gR < gL := hgL ▸ R.lt
    rw [hgL]
    replace hb := hb.step hbn
    replace R := R.step hbn
    clear hbn
    generalize w1.alloc (.cells #[.int .i64 0] 3) = w2 at *
    clear hgL
    obtain ⟨gN, hgN⟩ : ∃ g, gL + 1 = g := ⟨_, rfl⟩
    rw [hgN] at hsz ⊢
    have Nb := Blk.newV hsz 3 #[.int .i64 0]
    have hbn := (Below.refl w2.heap.size w2).alloc (Nat.le_refl _) (.cells #[.int .i64 0] 3)
    replace hb := hb.step hbn
    replace R := R.step hbn
    replace Lb := Lb.step hbn
    have hLN : gL < gN := by omega
    clear hbn hgN hsz
    generalize w2.alloc (.cells #[.int .i64 0] 3) = w3 at *
    have heq : ∀ (f : Fn) (a c : Array Value) (W : World), (binOp .eql 46 (.func f a c) .nilFunc).run Tryd.prog W = .ok (.bool false) W := fun _ _ _ _ => rfl
    go_wp2_with fail
    refine (each_any s _).mono ?_
    rintro e w6 ⟨rfl, -, hbn⟩
    replace hb := hb.step hbn
    replace R := R.step hbn
    replace Lb := Lb.step hbn
    replace Nb := Nb.step hbn
    have hN6 := Nb.lt
    clear hbn
    go_wp2_with fail
    refine (each_any s _).mono ?_
    rintro e w7 ⟨rfl, hBx, hbn⟩
    replace hb := hb.step hbn
    replace R := R.step hbn
    replace Lb := Lb.step hbn
    replace Nb := Nb.step hbn
    clear hbn
    obtain ⟨b, hbE⟩ : ∃ b, w6.heap.size = b := ⟨_, rfl⟩
    have hNb : gN < b := hbE ▸ hN6
    rw [hbE] at hBx ⊢
    have HSQ := each_xs b w7.heap.size s w7 (by omega) (Nat.le_refl _) hBx
    go_wp2_with fail
    have hbW : b < w7.heap.size := hBx.lt
    have hI0 : Cnt2 w7 gL gN s.data.toList 0 w7 := ⟨Kx.refl _ _, Lb, Nb⟩
    have hLw : gL < w7.heap.size := Lb.lt
    have hNw : gN < w7.heap.size := Nb.lt
    have hxl := signsL_len s
    have hxp := signsL_pos s
    have hll : lenB s.data.toList ≤ 300 := by have := lenB_le s.data.toList; rw [← Lib.size_eq] at this; omega
    refine (wpIn_wide (n := 3)).1 ?_
    apply wpIn_range_xsI 53 #[.pointer (some ⟨b, 0, none⟩)] rfl (enters_of Tryd.func53 (by kernel_rfl) rfl) (fun k => k = b) HSQ (fun k hk => by omega) (fun _ => rfl)
      (Cnt2 w7 gL gN s.data.toList)
      (fun c k W => False)
      (Cnt2.ownFrom hLw hNw)
      (fun c => ownFrom_pure _ _)
      hI0
    case hassign =>
      intro l x W K hK
      dsimp only [sgEnc]
      gi_wp2
      exact hK
    case hbody =>
      rintro ll k x W hx hC hsW
      have hk : k < lenB s.data.toList := by rw [← hxl]; exact (List.getElem?_eq_some_iff.1 hx).1
      have hx1 := hxp k x hx
      have hN := hC.next (show gL ≠ gN by omega)
      rw [← hx1] at hN
      have cL := hC.2.1.cell (j := 0) rfl
      have fL := hC.2.1.frozen 0
      have cN := hC.2.2.cell (j := 0) rfl
      have fN := hC.2.2.frozen 0
      have k0 : (0 : Int) ≤ (k : Int) := by omega
      have k2 : (k : Int) < 1000 := by omega
      have hLNe : gL ≠ gN := by omega
      have hNLe : gN ≠ gL := by omega
      obtain ⟨P, hP⟩ : ∃ P, lastP s.data.toList k = P := ⟨_, rfl⟩
      rw [hP] at cL
      have hkb : ∀ u v, Kb (fun k => k = b) W ((W.setCell ⟨gL, 0, none⟩ u).setCell ⟨gN, 0, none⟩ v) := fun u v j hj => (Below.heap_setCell _ ⟨gN, 0, none⟩ _ j (by simp; omega)).trans (Below.heap_setCell W ⟨gL, 0, none⟩ _ j (by simp; omega))
      have hkf : ∀ u v, KeepsFrom w7.heap.size W ((W.setCell ⟨gL, 0, none⟩ u).setCell ⟨gN, 0, none⟩ v) := fun u v => (keeps_set hLw u).trans (keeps_set hNw v)
      have cN2 : ∀ u, (W.setCell ⟨gL, 0, none⟩ u).cell? ⟨gN, 0, none⟩ = some (.int .i64 k) := fun u => (hC.2.2.other hNLe 0 u).cell (j := 0) rfl
      rcases Nat.eq_zero_or_pos k with h0 | h0
      · subst h0
        have hP0 : P = 0 := hP.symm
        subst hP0
        have m1 : ¬ (x.1 : Int) < 0 := by omega
        clear HSQ hI0 hC hP hx1 hxp
        gi_wp2
        have e : ((0 : Nat) : Int) + 1 = 1 := rfl
        rw [e] at hN
        exact ⟨hkf _ _, hkb _ _, hN⟩
      · obtain ⟨k', rfl⟩ : ∃ k', k = k' + 1 := ⟨k - 1, by omega⟩
        have hinc := posF_inc s.data.toList k' (by omega)
        rw [← hx1] at hinc
        have hP2 : P < x.1 := by rw [← hP]; exact hinc
        have m1 : ¬ (x.1 : Int) < (P : Int) := by omega
        have m2 : ((x.1 : Int) == (P : Int)) = false := by rw [beq_eq_false_iff_ne]; omega
        have m3 : (0 : Int) < ((k' + 1 : Nat) : Int) := by omega
        clear HSQ hI0 hC hP hx1 hxp hinc
        gi_wp2
        have e : ((k' + 1 : Nat) : Int) + 1 = (k' : Int) + 1 + 1 := by omega
        rw [e] at hN
        exact ⟨hkf _ _, hkb _ _, hN⟩
    case hdone =>
      rintro D W hD hC hK
      clear HSQ hI0 hin hn hs
      rw [hxl] at hC
      obtain ⟨hK7, -, N7⟩ := hC
      have hT0 := hT
      have hM0 := hM
      have hb7 : From w W := hb.kx hK7 (fun x hx => by simp at hx; omega)
      have R7 := hK7.blk R (by simp; omega)
      have cN := N7.cell (j := 0) rfl
      have hRD : gR < D := by omega
      have hT7 := hT.step hb7
      have hM7 := hM.step hb7
      have hND : gN < D := by omega
      clear hK7 hb R Lb Nb hBx hxl hxp hT hM
      obtain ⟨L, hL⟩ : ∃ L, lenB s.data.toList = L := ⟨_, rfl⟩
      rw [hL] at cN N7 hll
      have cN0 := extA_cell cN
      have cLen : ∀ W', Calls Tryd.prog 27 #[.string s] W' fun e w' => e = .returned (.int .i64 (L : Nat)) ∧ Below W'.heap.size W' w' := fun W' => hL ▸ len_any s (by omega) W'
      have cCut : ∀ W', Calls Tryd.prog 28 #[.string s, .int .i64 (L : Nat)] W' fun e w' => e = .returned (.string s) ∧ Below W'.heap.size W' w' := fun W' => by
        have h := cut_any s L (by omega) W'
        rw [cutV_all _ s (by rw [signsL_len, hL]; exact Int.le_refl _)] at h
        exact h
      have e1 : (s.toList != s.toList) = false := by simp
      have e2 : ((L : Int) != (L : Int)) = false := by simp
      go_upto_region 12 with fail
      go_cut [72] from 38 (fun v wx => v = .bool false ∧ ExtA W wx)
      case first =>
        by_cases hz0 : s.size = 0
        · have m1 : ¬ (0 : Int) < (s.size : Int) := by omega
          have m5 : decide (0 < s.size) = false := decide_eq_false (by omega)
          clear m1 hz0
          refine wp_region_extA (by kernel_rfl) (by kernel_rfl) ?_
          repeat
            (first
              | go_big_quiet_skip
              | (go_big_quiet_want
                 go_big_quiet_op
                 first
                   | go_big_quiet_on
                   | (apply Exists.intro
                      refine ⟨fun w' hC9 => ?_, ?_⟩
                      · (first
                          | with_reducible rfl
                          | (go_at_call 27; refine (cLen _).mono ?_; rintro e w2 ⟨rfl, hb9⟩; exact ⟨rfl, extA_then hC9 hb9⟩) | (go_at_call 28; refine (cCut _).mono ?_; rintro e w2 ⟨rfl, hb9⟩; exact ⟨rfl, extA_then hC9 hb9⟩)
                          | (go_simp; done)
                          | (go_simp; with_reducible rfl))
                      go_big_quiet_on)))
          refine wpQuiet_nil ?_
          intro wq hq
          go_wp2_with fail
          go_meet
          case rel => exact ⟨rfl, hq⟩
        · have m1 : (0 : Int) < (s.size : Int) := by omega
          have m2 : decide ((0 : Int) < (s.size : Int)) = true := decide_eq_true m1
          have m4 : 0 < s.size := by omega
          have m5 : decide (0 < s.size) = true := decide_eq_true m4
          have hL0 : 0 < L := by rw [← hL]; exact lenB_pos _ (fun e => hz0 (by rw [Lib.size_eq, e]; rfl))
          have m3 : ((L : Int) == 0) = false := by rw [beq_eq_false_iff_ne]; omega
          refine wp_region_extA (by kernel_rfl) (by kernel_rfl) ?_
          repeat
            (first
              | go_big_quiet_skip
              | (go_big_quiet_want
                 go_big_quiet_op
                 first
                   | go_big_quiet_on
                   | (apply Exists.intro
                      refine ⟨fun w' hC9 => ?_, ?_⟩
                      · (first
                          | with_reducible rfl
                          | (go_at_call 27; refine (cLen _).mono ?_; rintro e w2 ⟨rfl, hb9⟩; exact ⟨rfl, extA_then hC9 hb9⟩) | (go_at_call 28; refine (cCut _).mono ?_; rintro e w2 ⟨rfl, hb9⟩; exact ⟨rfl, extA_then hC9 hb9⟩)
                          | (go_simp; done)
                          | (go_simp; with_reducible rfl))
                      go_big_quiet_on)))
          refine wpQuiet_nil ?_
          intro wq hq
          go_wp2_with fail
          go_meet
          case rel => exact ⟨rfl, hq⟩
      case rest =>
        obtain ⟨rfl, hq⟩ := hcut
        replace hK := (Below.block hq D (Array.getElem?_eq_some_iff.1 hK).1).trans hK
        replace hb7 := hb7.step hq
        replace R7 := R7.step hq
        replace hT7 := hT7.step hq
        replace hM7 := hM7.step hq
        clear hq cN0 cLen cCut cN N7
        have cQ := quote_any s _ rfl (by omega) wc
        have cU := fun W => unq_quote s hs3 W
        have cF := fun W => fold_any s _ rfl (by omega) W
        have cF2 := fun W => fold_any (foldS s) s.size (foldS_size s) (by omega) W
        rw [foldS_foldS] at cF2
        go_wp2_with fail
        refine (cQ).mono ?_
        rintro e w8 ⟨rfl, hbn⟩
        replace hK := (hbn.block D (Array.getElem?_eq_some_iff.1 hK).1).trans hK
        replace hb7 := hb7.step hbn
        replace R7 := R7.step hbn
        replace hT7 := hT7.step hbn
        replace hM7 := hM7.step hbn
        clear hbn
        go_wp2_with fail
        refine (cU _).mono ?_
        rintro e w9 ⟨rfl, hbn⟩
        replace hK := (hbn.block D (Array.getElem?_eq_some_iff.1 hK).1).trans hK
        replace hb7 := hb7.step hbn
        replace R7 := R7.step hbn
        replace hT7 := hT7.step hbn
        replace hM7 := hM7.step hbn
        clear hbn
        go_wp2_with fail
        refine (cF _).mono ?_
        rintro e w10 ⟨rfl, hbn⟩
        replace hK := (hbn.block D (Array.getElem?_eq_some_iff.1 hK).1).trans hK
        replace hb7 := hb7.step hbn
        replace R7 := R7.step hbn
        replace hT7 := hT7.step hbn
        replace hM7 := hM7.step hbn
        clear hbn
        go_wp2_with fail
        refine (num3_any _ _).mono ?_
        rintro e wx ⟨rfl, rfl⟩
        have e3 : ((foldS s).toList != (foldS s).toList) = false := by simp
        have e1 : (s.toList != s.toList) = false := by simp
        go_wp2_with fail
        refine (cF2 _).mono ?_
        rintro e w11 ⟨rfl, hbn⟩
        replace hK := (hbn.block D (Array.getElem?_eq_some_iff.1 hK).1).trans hK
        replace hb7 := hb7.step hbn
        replace R7 := R7.step hbn
        replace hT7 := hT7.step hbn
        replace hM7 := hM7.step hbn
        clear hbn
        have cC := textCheck_any s (by omega) w11 hT7
        rw [chk_eq] at cC
        go_wp2_with fail
        refine (cC).mono ?_
        rintro e w12 ⟨rfl, hbn⟩
        replace hK := (hbn.block D (Array.getElem?_eq_some_iff.1 hK).1).trans hK
        replace hb7 := hb7.step hbn
        replace R7 := R7.step hbn
        replace hT7 := hT7.step hbn
        replace hM7 := hM7.step hbn
        clear hbn
        clear cC
        go_wp2_with fail
        refine (num3_any _ _).mono ?_
        rintro e wx ⟨rfl, rfl⟩
        have cC := textCheck_any (foldS s) (by rw [foldS_size]; omega) w12 hT7
        rw [chk_eq, refChk_fold] at cC
        go_wp2_with fail
        refine (cC).mono ?_
        rintro e w13 ⟨rfl, hbn⟩
        replace hK := (hbn.block D (Array.getElem?_eq_some_iff.1 hK).1).trans hK
        replace hb7 := hb7.step hbn
        replace R7 := R7.step hbn
        replace hT7 := hT7.step hbn
        replace hM7 := hM7.step hbn
        clear hbn
        clear cC
        go_wp2_with fail
        refine (num3_any _ _).mono ?_
        rintro e wx ⟨rfl, rfl⟩
        obtain ⟨lok1, lok2⟩ := linesL_ok Wd (by omega) s.data.toList
        have hll9 := linesL_len Wd s (by omega) hs3
        go_wp2_with fail
        refine (lines_any s Wd hs3 (by omega) (by omega) _ hM7).mono ?_
        rintro e w14 ⟨⟨v, rfl, hO⟩, hbn⟩
        replace hK := (hbn.block D (Array.getElem?_eq_some_iff.1 hK).1).trans hK
        replace hb7 := hb7.step hbn
        replace R7 := R7.step hbn
        replace hT7 := hT7.step hbn
        replace hM7 := hM7.step hbn
        clear hbn
        obtain ⟨ao, cap, rfl, hcs⟩ := hO.strS
        generalize linesL Wd s.data.toList = ls at *
        obtain ⟨N, hN⟩ : ∃ N, ls.length = N := ⟨_, rfl⟩
        rw [hN]
        clear hO
        have hSS : StrS w14 (.slice ao N cap) ls := hN ▸ ⟨ao, cap, rfl, hcs⟩
        clear hcs cF cF2 cU cQ
        go_upto_block 2 with fail
        go_cut [13] from 14 (fun v wx => v = .string (mkS ls.flatten) ∧ Below w14.heap.size w14 wx)
        case first =>
          go_wp2_with fail
          go_loopw [13, 14] (fun v j wx => ∃ i : Nat, j = .int .i64 i ∧ i ≤ N ∧ v = .string (mkS (ls.take i).flatten) ∧ Below w14.heap.size w14 wx) (fun _ j _ => N - (intOf j).toNat)
          case atStart => exact ⟨0, rfl, by omega, by simp [mkS], Below.refl _ _⟩
          case round =>
            obtain ⟨i, rfl, hi, rfl, hbw⟩ := hrel
            clear hK hb7 R7 hT7 hM7
            by_cases hlt : i < N
            · obtain ⟨x, hx⟩ : ∃ x, ls[i]? = some x := ⟨_, List.getElem?_eq_getElem (by omega)⟩
              obtain ⟨x1, x2⟩ := lok1 x (List.mem_of_getElem? hx)
              have x4 := len4 x.length x (Nat.le_refl _)
              obtain ⟨ao', cap', hv, hcs⟩ := hSS
              obtain ⟨g, hg, hcell⟩ := hcs i x hx
              cases hv
              subst hg
              have hfl := flat_len (ls.take i) 800 (fun y hy => by
                obtain ⟨-, y2⟩ := lok1 y (List.mem_of_mem_take hy)
                have := len4 y.length y (Nat.le_refl _)
                omega)
              rw [List.length_take] at hfl
              obtain ⟨F, hF⟩ : ∃ F, (ls.take i).flatten = F := ⟨_, rfl⟩
              rw [hF] at hfl
              have hcat : mkS F ++ mkS x = mkS (ls.take (i + 1)).flatten := by
                rw [mkS_app, ← hF, List.take_add_one, hx]; simp
              have zF : (mkS F).size = F.length := mkS_size F
              have zx : (mkS x).size = x.length := mkS_size x
              have cLn := fun W => len_any (mkS x) (by rw [mkS_size]; omega) W
              rw [mkS_data] at cLn
              have i0' : (0 : Int) ≤ (i : Int) := by omega
              have i1' : (i : Int) < (ls.length : Int) := by omega
              have y1 : (lenB x : Int) ≤ (Wd : Int) := by omega
              have y2 : ¬ (Wd : Int) < (lenB x : Int) := by omega
              have y3 : ¬ (lenB x : Int) < 1 := by omega
              have hlF : F.length ≤ 9000000000 := by omega
              have hlx : x.length ≤ 800 := by omega
              have cell0 : ∀ W', Below w14.heap.size w14 W' → W'.cell? ⟨g, i, none⟩ = some (.string (mkS x)) := fun W' h => (h.cell (World.block_lt_of_cell? w14 _ hcell)).trans hcell
              have ca := cell0 _ hbw
              go_wp2_with fail
              refine (cLn _).mono ?_
              rintro e wa ⟨rfl, hbn⟩
              replace hbw := hbw.trans (hbn.mono hbw.size)
              clear hbn ca
              have ca := cell0 _ hbw
              go_wp2_with fail
              refine (cLn _).mono ?_
              rintro e wb ⟨rfl, hbn⟩
              replace hbw := hbw.trans (hbn.mono hbw.size)
              clear hbn ca
              have ca := cell0 _ hbw
              clear hcs hcell cell0 cLn hfl hF
              go_wp2_with fail
              go_roundw
              case rel => exact ⟨i + 1, by go_num, by omega, by first | rw [hcat] | (simp only [hcat]), hbw⟩
              case measure => simp [intOf]; omega
            · obtain rfl : i = N := by omega
              rw [List.take_of_length_le (by omega)]
              go_wp2_with fail
              go_meet
              case rel => exact ⟨rfl, hbw⟩
        case rest =>
          obtain ⟨rfl, hbn⟩ := hcut
          replace hK := (hbn.block D (Array.getElem?_eq_some_iff.1 hK).1).trans hK
          replace hb7 := hb7.step hbn
          replace R7 := R7.step hbn
          replace hT7 := hT7.step hbn
          replace hM7 := hM7.step hbn
          clear hbn
          have hfl := flat_len ls 800 (fun y hy => by
            obtain ⟨-, y2⟩ := lok1 y hy
            have := len4 y.length y (Nat.le_refl _)
            omega)
          rw [hN] at hfl
          have hAL : N ≤ 9000000 := by omega
          obtain ⟨A, hA⟩ : ∃ A, ls.flatten = A := ⟨_, rfl⟩
          rw [hA] at lok2 hfl ⊢
          have hm : A.length ≤ 8000000000 := by omega
          obtain ⟨m9, hm9⟩ : ∃ n, A.length = n := ⟨_, rfl⟩
          have hzA : (mkS A).size = m9 := by rw [mkS_size, hm9]
          have hdA : (mkS A).data.toList = A := mkS_data A
          obtain ⟨SA, hSA⟩ : ∃ x, mkS A = x := ⟨_, rfl⟩
          rw [hSA] at hzA hdA ⊢
          obtain ⟨n9, hn9⟩ : ∃ n, s.size = n := ⟨_, rfl⟩
          obtain ⟨l9, hl9⟩ : ∃ l, s.data.toList = l := ⟨_, rfl⟩
          have hln : l9.length = n9 := by rw [← hl9, ← hn9, Lib.size_eq]
          have hLK := Lib.hid lok2
          rw [hl9] at hLK
          have hn3 : n9 ≤ 300 := by omega
          clear lok1 lok2 hSS hA hSA hfl
          go_wp2_with fail
          go_loopw [15, 17] (fun o v wr => ∃ i : Nat, v = .int .i64 i ∧ i ≤ n9 ∧ o = .string (mkS (solid (l9.take i))) ∧ wr = wc) (fun _ v _ => n9 - (intOf v).toNat)
          case atStart => exact ⟨0, rfl, by omega, by simp [solid, mkS], by first | rfl | trivial⟩
          case round =>
            obtain ⟨i, rfl, hi, rfl, hw⟩ := hrel
            subst hw
            by_cases hlt : i < n9
            · obtain ⟨c, hc⟩ : ∃ c, l9[i]? = some c := ⟨_, List.getElem?_eq_getElem (by omega)⟩
              have hc0 : s.data.toList[i]? = some c := by rw [hl9]; exact hc
              have hs1 : (mkS [c]).size = 1 := rfl
              obtain ⟨Z, hZ⟩ : ∃ Z, (mkS (solid (l9.take i))).size = Z := ⟨_, rfl⟩
              have hZ2 : Z ≤ 8000000000 := by
                have := solid_len (l9.take i)
                rw [List.length_take] at this
                rw [← hZ, mkS_size]
                omega
              have hlt2 : i < s.size := by omega
              have hgi := get_at s i c hc0 hlt2
              have hex := ext_one s i c hc0
              have i0 : (0 : Int) ≤ (i : Int) := by omega
              have i1 : (i : Int) < (n9 : Int) := by omega
              have i2 : (i : Int) < 1000000000000 := by omega
              have hsucc := solid_succ l9 i c hc
              have hgm : (s[i]'hlt2).toNat = c.toNat := by rw [hgi]
              clear hgi hc hc0 hzA hdA
              by_cases h1 : c = 32
              · rw [if_pos h1, List.append_nil] at hsucc
                subst h1
                have hgn : (s[i]'hlt2).toNat = 32 := hgm
                clear hgm hex
                go_wp2_with fail
                go_roundw
                case rel => exact ⟨i + 1, by go_num, by omega, by rw [hsucc], by first | rfl | trivial⟩
                case measure => simp [intOf]; omega
              · rw [if_neg h1] at hsucc
                have h2 : ¬ c.toNat = 32 := fun e => h1 (UInt8.toNat_inj.1 e)
                have ha1 : mkS (solid (l9.take i)) ++ mkS [c] = mkS (solid (l9.take (i + 1))) := by rw [mkS_app, ← hsucc]
                obtain ⟨m, hm⟩ : ∃ m, c.toNat = m := ⟨_, rfl⟩
                rw [hm] at hgm h2
                have n1 : ((m : Int) != 32) = true := by rw [bne_iff_ne]; omega
                clear hsucc h2 h1 hm
                go_wp2_with fail
                go_roundw
                case rel => exact ⟨i + 1, by go_num, by omega, by first | rw [ha1] | (simp only [ha1]), by first | rfl | trivial⟩
                case measure => simp [intOf]; omega
            · obtain rfl : i = n9 := by omega
              rw [List.take_of_length_le (by omega)]
              go_wp2_with fail
              obtain ⟨n8, hn8⟩ : ∃ n, l9.length = n := ⟨_, rfl⟩
              obtain ⟨wf, hwf⟩ : ∃ x, x = wr := ⟨_, rfl⟩
              rw [← hwf] at hK hb7 R7 hT7 hM7 ⊢
              clear hn9 hln hn3 hi hlt hn8 hwf
              go_loopw [16, 18] (fun o v wr => ∃ i : Nat, v = .int .i64 i ∧ i ≤ m9 ∧ o = .string (mkS (solid (A.take i))) ∧ wr = wf) (fun _ v _ => m9 - (intOf v).toNat)
              case atStart => exact ⟨0, rfl, by omega, by simp [solid, mkS], by first | rfl | trivial⟩
              case round =>
                obtain ⟨i, rfl, hi, rfl, hw⟩ := hrel
                subst hw
                by_cases hlt : i < m9
                · obtain ⟨c, hc⟩ : ∃ c, A[i]? = some c := ⟨_, List.getElem?_eq_getElem (by omega)⟩
                  have hc0 : SA.data.toList[i]? = some c := by rw [hdA]; exact hc
                  have hs1 : (mkS [c]).size = 1 := rfl
                  obtain ⟨Z, hZ⟩ : ∃ Z, (mkS (solid (A.take i))).size = Z := ⟨_, rfl⟩
                  have hZ2 : Z ≤ 8000000000 := by
                    have := solid_len (A.take i)
                    rw [List.length_take] at this
                    rw [← hZ, mkS_size]
                    omega
                  have hlt2 : i < SA.size := by omega
                  have hgi := get_at SA i c hc0 hlt2
                  have hex := ext_one SA i c hc0
                  have i0 : (0 : Int) ≤ (i : Int) := by omega
                  have i1 : (i : Int) < (m9 : Int) := by omega
                  have i2 : (i : Int) < 1000000000000 := by omega
                  have hsucc := solid_succ A i c hc
                  have hgm : (SA[i]'hlt2).toNat = c.toNat := by rw [hgi]
                  clear hgi hc hc0 hK hb7 R7 hT7 hM7
                  by_cases h1 : c = 32
                  · rw [if_pos h1, List.append_nil] at hsucc
                    subst h1
                    have hgn : (SA[i]'hlt2).toNat = 32 := hgm
                    clear hgm hex
                    go_wp2_with fail
                    go_roundw
                    case rel => exact ⟨i + 1, by go_num, by omega, by rw [hsucc], by first | rfl | trivial⟩
                    case measure => simp [intOf]; omega
                  · rw [if_neg h1] at hsucc
                    have h2 : ¬ c.toNat = 32 := fun e => h1 (UInt8.toNat_inj.1 e)
                    have ha1 : mkS (solid (A.take i)) ++ mkS [c] = mkS (solid (A.take (i + 1))) := by rw [mkS_app, ← hsucc]
                    obtain ⟨m, hm⟩ : ∃ m, c.toNat = m := ⟨_, rfl⟩
                    rw [hm] at hgm h2
                    have n1 : ((m : Int) != 32) = true := by rw [bne_iff_ne]; omega
                    clear hsucc h2 h1 hm
                    go_wp2_with fail
                    go_roundw
                    case rel => exact ⟨i + 1, by go_num, by omega, by first | rw [ha1] | (simp only [ha1]), by first | rfl | trivial⟩
                    case measure => simp [intOf]; omega
                · obtain rfl : i = m9 := by omega
                  rw [List.take_of_length_le (by omega), hLK.out]
                  have e1 : ((mkS (solid l9)).toList == (mkS (solid l9)).toList) = true := beq_self_eq_true _
                  clear hLK hdA
                  go_wp2_with fail
                  refine (num3_any _ _).mono ?_
                  rintro e wx ⟨rfl, rfl⟩
                  go_wp2_with fail
                  refine (works3_any _ hT7 hM7).mono ?_
                  rintro e w20 ⟨rfl, hbn⟩
                  replace hK := (hbn.block D (Array.getElem?_eq_some_iff.1 hK).1).trans hK
                  replace hb7 := hb7.step hbn
                  replace R7 := R7.step hbn
                  replace hT7 := hT7.step hbn
                  replace hM7 := hM7.step hbn
                  clear hbn
                  have fR := R7.frozen 0
                  have cRR := R7.cell (j := 0) rfl
                  have R9 := R7.set 0 (.bool true)
                  have hKs : (w20.setCell ⟨gR, 0, none⟩ (.bool true)).heap[D]? = some (.deferred (some [])) := (Below.heap_setCell w20 ⟨gR, 0, none⟩ (.bool true) D (by simp; omega)).trans hK
                  have hb9 : Below gR w (w20.setCell ⟨gR, 0, none⟩ (.bool true)) := Below.setCell (hgR ▸ hb7.out) (p := ⟨gR, 0, none⟩) (Nat.le_refl _) _
                  have c9 := (R9.putObj hKs rfl (.deferred none)).cell (j := 0) rfl
                  clear hK hb7 hT7 hM7 R9
                  go_wp2_with fail
                  generalize w20.setCell ⟨gR, 0, none⟩ (.bool true) = W9 at *
                  refine leaves_col (v := .bool true) rfl hKs ?_ ⟨rfl, by first | exact below_putObj hb9 (by omega) _ | (rw [hgR]; exact below_putObj hb9 (by omega) _)⟩
                  simp [results, Tryd.results11, go_sem, c9]
    case hstop =>
      rintro D c k W hD hk h
      exact h.elim
end Go.Proofs.YtehjglaofhgjfaaDoor
