
/- Package learner: Hear, what is refused; up to what was heard. -/
import Derived.Test.YthhpblchiodahaaGreatDoorLnE
namespace Go.Proofs.YthhpblchiodahaaGreatDoor
set_option linter.unusedSimpArgs false
set_option linter.unusedVariables false
open Go.RowKit Go.Maps
theorem wp_nopanic {P : Program} {c : Code} {K : Act → World → Prop} {Q : Exit → Act → World → Prop} {a : Act} {w : World} (h : c.wp P (Exit.then K (fun _ _ _ => False)) a w) : c.wp P (Exit.then K Q) a w :=
  wp_mono h (fun e _ _ hq => by
    cases e with
    | normal => exact hq
    | exit id => exact hq.elim
    | goto l => exact hq.elim
    | ret => exact hq.elim
    | panic ch => exact hq.elim
    | outgrown => exact hq.elim)
def bV (r p : Int) : Value := .agg #[.int .i64 r, .int .i64 p]
set_option maxRecDepth 100000 in
set_option maxHeartbeats 1000000 in
theorem hear_arg (g b : Nat) (A : Lrn) (L : HMap) (pl r p k m n : Int) (s : ByteArray) (w : World) (h : LW w g b A L) (hG : GoodL A L) (hs : s.size ≤ 9223372036854775807) (hT : Tabs w) (hbad : hearB A pl r p k m n s = false) :
    Calls Tryz.prog 15 #[.pointer (some ⟨g, 0, none⟩), .int .i64 pl, bV r p, kV k m n s] w
      fun e w' => e = .returned (.tuple #[.bool false, .int .i64 2]) ∧ Below w.heap.size w w' := by
  unfold hearB at hbad
  unfold bV kV
  have hcb : (A.c == 0) = false := by simpa using hG.ne
  have cN := fun W hW => none16_at g A.c false W hcb hW
  have cE := fun W hT => ent_any k m n s W hs hT
  have cM := fun W => may_any A.c A.sl r p W
  have hb := From.refl w
  clear hcb hs
  have ltb0 := h.ltb
  go_enter Tryz.func15, Tryz.ntmps15
  go_upto_region 1 with fail
  obtain ⟨gP, hgP⟩ : ∃ g, (w).heap.size = g := ⟨_, rfl⟩
  have lt_h_P := h.lt
  rw [hgP] at lt_h_P
  have P := Blk.newV hgP 66 #[.int .i64 r, .int .i64 p]
  have hbn := (Below.refl (w).heap.size w).alloc (Nat.le_refl _) (.cells #[.int .i64 r, .int .i64 p] 66)
  replace hb := hb.step hbn
  replace h := h.step hbn
  clear hbn
  rw [hgP]
  have szP := alloc_size hgP (.cells #[.int .i64 r, .int .i64 p] 66)
  generalize (w).alloc (.cells #[.int .i64 r, .int .i64 p] 66) = w1 at *
  obtain ⟨gX, hgX⟩ : ∃ g, (w1).heap.size = g := ⟨_, rfl⟩
  have lt_h_X := h.lt
  rw [hgX] at lt_h_X
  have lt_P_X := P.lt
  rw [hgX] at lt_P_X
  have X := Blk.newV hgX 24 #[.int .i64 k, .int .i64 m, .int .i64 n, .string s]
  have hbn := (Below.refl (w1).heap.size w1).alloc (Nat.le_refl _) (.cells #[.int .i64 k, .int .i64 m, .int .i64 n, .string s] 24)
  replace hb := hb.step hbn
  replace h := h.step hbn
  replace P := P.step hbn
  clear hbn
  have egX : gP + 1 = gX := szP.symm.trans hgX
  rw [egX]
  clear szP
  generalize (w1).alloc (.cells #[.int .i64 k, .int .i64 m, .int .i64 n, .string s] 24) = w2 at *
  refine wp_scope_fwd 0 rfl ?_
  intro Q2 hR hGo
  go_upto_region 2 with fail
  have ltb := h.ltb
  obtain ⟨gH, hgH⟩ : ∃ g, (w2).heap.size = g := ⟨_, rfl⟩
  have lt_h_H := h.lt
  rw [hgH] at lt_h_H
  have lt_P_H := P.lt
  rw [hgH] at lt_P_H
  have lt_X_H := X.lt
  rw [hgH] at lt_X_H
  have H := Blk.newV hgH 121 #[.int .i64 0, .int .i64 0, .int .i64 0, .string ⟨#[]⟩, .bool false, .bool false, .bool false, .bool false, .bool false, .bool false, .bool false, .bool false, .bool false]
  have hbn := (Below.refl (w2).heap.size w2).alloc (Nat.le_refl _) (.cells #[.int .i64 0, .int .i64 0, .int .i64 0, .string ⟨#[]⟩, .bool false, .bool false, .bool false, .bool false, .bool false, .bool false, .bool false, .bool false, .bool false] 121)
  replace hb := hb.step hbn
  replace h := h.step hbn
  replace P := P.step hbn
  replace X := X.step hbn
  clear hbn
  rw [hgH]
  generalize (w2).alloc (.cells #[.int .i64 0, .int .i64 0, .int .i64 0, .string ⟨#[]⟩, .bool false, .bool false, .bool false, .bool false, .bool false, .bool false, .bool false, .bool false, .bool false] 121) = w3 at *
  rw [hgH] at ltb
  go_wp2_with fail
  refine (cN _ (h.1.cell (j := 5) rfl)).mono ?_
  rintro e w4 ⟨rfl, rfl⟩
  go_upto_region 6 with fail
  generalize mayB A.c A.sl r p = M at *
  generalize entB k m n s = E at *
  by_cases h1 : pl < 0
  · have d1 : decide (pl < 0) = true := decide_eq_true h1
    clear hbad
    have hT4 := hT.step hb
    have c5 := extA_cell (h.1.cell (j := 5) rfl)
    have c6 := extA_cell (h.1.cell (j := 6) rfl)
    have P_0 := extA_cell (P.cell (j := 0) rfl)
    have P_1 := extA_cell (P.cell (j := 1) rfl)
    have X_0 := extA_cell (X.cell (j := 0) rfl)
    have X_1 := extA_cell (X.cell (j := 1) rfl)
    have X_2 := extA_cell (X.cell (j := 2) rfl)
    have X_3 := extA_cell (X.cell (j := 3) rfl)
    refine wp_region_extB (by kernel_rfl) (by kernel_rfl) ?_
    repeat
      (first
        | go_big_quiet_skip
        | (go_big_quiet_want
           go_big_quiet_op
           first
             | go_big_quiet_on
             | (apply Exists.intro
                refine ⟨fun w' hC9 => ?_, ?_⟩
                · (first
                    | with_reducible rfl
                    | (go_at_call 41; refine (cM _).mono ?_; rintro e w2 ⟨rfl, hb9⟩; exact ⟨rfl, extA_then hC9 hb9⟩) | (go_at_call 28; refine (cE _ (hT4.step hC9)).mono ?_; rintro e w2 ⟨rfl, hb9⟩; exact ⟨rfl, extA_then hC9 hb9⟩)
                    | (go_simp; done)
                    | (go_simp; with_reducible rfl))
                go_big_quiet_on)))
    refine wpQuiet_nil ?_
    intro w4 hq
    replace hb := hb.step hq
    replace h := h.step hq
    replace H := H.step hq
    replace P := P.step hq
    replace X := X.step hq
    clear hq c5 c6 P_0 P_1 X_0 X_1 X_2 X_3 cN cE cM hT4
    go_wp2_with fail
    apply wp_goto
    (try simp only [Exit.then])
    refine hGo.out _ _ ?_
    go_wp2_with fail
    rw [Exit.noGoto_ret]
    go_ret2
    exact ⟨rfl, hb⟩
  · have d1 : decide (pl < 0) = false := decide_eq_false h1
    by_cases h2 : A.c ≤ pl
    · have d2 : decide (A.c ≤ pl) = true := decide_eq_true h2
      clear hbad
      have hT4 := hT.step hb
      have c5 := extA_cell (h.1.cell (j := 5) rfl)
      have c6 := extA_cell (h.1.cell (j := 6) rfl)
      have P_0 := extA_cell (P.cell (j := 0) rfl)
      have P_1 := extA_cell (P.cell (j := 1) rfl)
      have X_0 := extA_cell (X.cell (j := 0) rfl)
      have X_1 := extA_cell (X.cell (j := 1) rfl)
      have X_2 := extA_cell (X.cell (j := 2) rfl)
      have X_3 := extA_cell (X.cell (j := 3) rfl)
      refine wp_region_extB (by kernel_rfl) (by kernel_rfl) ?_
      repeat
        (first
          | go_big_quiet_skip
          | (go_big_quiet_want
             go_big_quiet_op
             first
               | go_big_quiet_on
               | (apply Exists.intro
                  refine ⟨fun w' hC9 => ?_, ?_⟩
                  · (first
                      | with_reducible rfl
                      | (go_at_call 41; refine (cM _).mono ?_; rintro e w2 ⟨rfl, hb9⟩; exact ⟨rfl, extA_then hC9 hb9⟩) | (go_at_call 28; refine (cE _ (hT4.step hC9)).mono ?_; rintro e w2 ⟨rfl, hb9⟩; exact ⟨rfl, extA_then hC9 hb9⟩)
                      | (go_simp; done)
                      | (go_simp; with_reducible rfl))
                  go_big_quiet_on)))
      refine wpQuiet_nil ?_
      intro w4 hq
      replace hb := hb.step hq
      replace h := h.step hq
      replace H := H.step hq
      replace P := P.step hq
      replace X := X.step hq
      clear hq c5 c6 P_0 P_1 X_0 X_1 X_2 X_3 cN cE cM hT4
      go_wp2_with fail
      apply wp_goto
      (try simp only [Exit.then])
      refine hGo.out _ _ ?_
      go_wp2_with fail
      rw [Exit.noGoto_ret]
      go_ret2
      exact ⟨rfl, hb⟩
    · have d2 : decide (A.c ≤ pl) = false := decide_eq_false h2
      have d3 : decide (0 ≤ pl) = true := decide_eq_true (by omega)
      have d4 : decide (pl < A.c) = true := decide_eq_true (by omega)
      rw [d3, d4] at hbad
      cases M
      · clear hbad d3 d4
        have hT4 := hT.step hb
        have c5 := extA_cell (h.1.cell (j := 5) rfl)
        have c6 := extA_cell (h.1.cell (j := 6) rfl)
        have P_0 := extA_cell (P.cell (j := 0) rfl)
        have P_1 := extA_cell (P.cell (j := 1) rfl)
        have X_0 := extA_cell (X.cell (j := 0) rfl)
        have X_1 := extA_cell (X.cell (j := 1) rfl)
        have X_2 := extA_cell (X.cell (j := 2) rfl)
        have X_3 := extA_cell (X.cell (j := 3) rfl)
        refine wp_region_extB (by kernel_rfl) (by kernel_rfl) ?_
        repeat
          (first
            | go_big_quiet_skip
            | (go_big_quiet_want
               go_big_quiet_op
               first
                 | go_big_quiet_on
                 | (apply Exists.intro
                    refine ⟨fun w' hC9 => ?_, ?_⟩
                    · (first
                        | with_reducible rfl
                        | (go_at_call 41; refine (cM _).mono ?_; rintro e w2 ⟨rfl, hb9⟩; exact ⟨rfl, extA_then hC9 hb9⟩) | (go_at_call 28; refine (cE _ (hT4.step hC9)).mono ?_; rintro e w2 ⟨rfl, hb9⟩; exact ⟨rfl, extA_then hC9 hb9⟩)
                        | (go_simp; done)
                        | (go_simp; with_reducible rfl))
                    go_big_quiet_on)))
        refine wpQuiet_nil ?_
        intro w4 hq
        replace hb := hb.step hq
        replace h := h.step hq
        replace H := H.step hq
        replace P := P.step hq
        replace X := X.step hq
        clear hq c5 c6 P_0 P_1 X_0 X_1 X_2 X_3 cN cE cM hT4
        go_wp2_with fail
        apply wp_goto
        (try simp only [Exit.then])
        refine hGo.out _ _ ?_
        go_wp2_with fail
        rw [Exit.noGoto_ret]
        go_ret2
        exact ⟨rfl, hb⟩
      · cases E
        · clear hbad d3 d4
          have hT4 := hT.step hb
          have c5 := extA_cell (h.1.cell (j := 5) rfl)
          have c6 := extA_cell (h.1.cell (j := 6) rfl)
          have P_0 := extA_cell (P.cell (j := 0) rfl)
          have P_1 := extA_cell (P.cell (j := 1) rfl)
          have X_0 := extA_cell (X.cell (j := 0) rfl)
          have X_1 := extA_cell (X.cell (j := 1) rfl)
          have X_2 := extA_cell (X.cell (j := 2) rfl)
          have X_3 := extA_cell (X.cell (j := 3) rfl)
          refine wp_region_extB (by kernel_rfl) (by kernel_rfl) ?_
          repeat
            (first
              | go_big_quiet_skip
              | (go_big_quiet_want
                 go_big_quiet_op
                 first
                   | go_big_quiet_on
                   | (apply Exists.intro
                      refine ⟨fun w' hC9 => ?_, ?_⟩
                      · (first
                          | with_reducible rfl
                          | (go_at_call 41; refine (cM _).mono ?_; rintro e w2 ⟨rfl, hb9⟩; exact ⟨rfl, extA_then hC9 hb9⟩) | (go_at_call 28; refine (cE _ (hT4.step hC9)).mono ?_; rintro e w2 ⟨rfl, hb9⟩; exact ⟨rfl, extA_then hC9 hb9⟩)
                          | (go_simp; done)
                          | (go_simp; with_reducible rfl))
                      go_big_quiet_on)))
          refine wpQuiet_nil ?_
          intro w4 hq
          replace hb := hb.step hq
          replace h := h.step hq
          replace H := H.step hq
          replace P := P.step hq
          replace X := X.step hq
          clear hq c5 c6 P_0 P_1 X_0 X_1 X_2 X_3 cN cE cM hT4
          go_wp2_with fail
          apply wp_goto
          (try simp only [Exit.then])
          refine hGo.out _ _ ?_
          go_wp2_with fail
          rw [Exit.noGoto_ret]
          go_ret2
          exact ⟨rfl, hb⟩
        · simp at hbad
theorem zeroH_run (w : World) : (zeroValue 121).run Tryz.prog w = .ok (.agg #[.int .i64 0, .int .i64 0, .int .i64 0, .string ⟨#[]⟩, .bool false, .bool false, .bool false, .bool false, .bool false, .bool false, .bool false, .bool false, .bool false]) w := by kernel_rfl
theorem hearB_ok {A : Lrn} {pl r p k m n : Int} {s : ByteArray} (h : hearB A pl r p k m n s = true) : 0 ≤ pl ∧ pl < A.c ∧ mayB A.c A.sl r p = true ∧ entB k m n s = true ∧ okB (r, p) ∧ A.c ≤ 9 := by
  unfold hearB at h
  simp only [Bool.and_eq_true, decide_eq_true_eq] at h
  obtain ⟨h1, h2, h3, h4⟩ := h
  have h5 := h3
  unfold mayB at h5
  simp only [Bool.and_eq_true] at h5
  obtain ⟨c1, c2, c3, c4, c5, c6⟩ := chk_bd h5.2.1
  exact ⟨h1, h2, h3, h4, ⟨WalkArith.wf_i64 (by omega), WalkArith.wf_i64 (by omega)⟩, c2⟩
theorem lookH {W : World} {b : Nat} {L : HMap} (h : MapH W b L) (r p : Int) (hk : okB (r, p)) :
    (Instr.lookup 60 (.map (some b)) (.agg #[.int .i64 r, .int .i64 p]) true).run Tryz.prog W = .ok (.tuple #[evH (atH L r p), .bool (hasH L r p)]) W := by
  have h1 := MapG.look h keyB Tryz.underlying60 (zeroH_run W) (r, p) hk
  unfold ekB at h1
  simp only at h1
  rw [h1]
  unfold atH hasH
  cases getG L (r, p) <;> rfl
set_option maxRecDepth 100000 in
set_option maxHeartbeats 1000000 in
theorem hear_clash (g b : Nat) (A : Lrn) (L : HMap) (pl r p k m n : Int) (s : ByteArray) (w : World) (h : LW w g b A L) (hG : GoodL A L) (hs : s.size ≤ 9223372036854775807) (hT : Tabs w) (hok : hearB A pl r p k m n s = true) (hc : clashH L r p k m n s = true) :
    Calls Tryz.prog 15 #[.pointer (some ⟨g, 0, none⟩), .int .i64 pl, bV r p, kV k m n s] w
      fun e w' => e = .returned (.tuple #[.bool false, .int .i64 260]) ∧ Below w.heap.size w w' := by
  obtain ⟨hp0, hp1, hM, hE, hkB, hc9⟩ := hearB_ok hok
  obtain ⟨j, rfl⟩ : ∃ j : Nat, pl = j := ⟨pl.toNat, by omega⟩
  have hj9 : j < 9 := by omega
  have d1 : decide ((j : Int) < 0) = false := decide_eq_false (by omega)
  have d2 : decide (A.c ≤ (j : Int)) = false := decide_eq_false (by omega)
  have hv9 := hG.at r p
  have lk0 := fun W (hW : MapH W b L) => lookH hW r p hkB
  unfold bV kV
  have hcb : (A.c == 0) = false := by simpa using hG.ne
  have cN := fun W hW => none16_at g A.c false W hcb hW
  have cE := fun W hT => ent_any k m n s W hs hT
  have cM := fun W => may_any A.c A.sl r p W
  have hb := From.refl w
  clear hcb hs
  have ltb0 := h.ltb
  go_enter Tryz.func15, Tryz.ntmps15
  go_upto_region 1 with fail
  obtain ⟨gP, hgP⟩ : ∃ g, (w).heap.size = g := ⟨_, rfl⟩
  have lt_h_P := h.lt
  rw [hgP] at lt_h_P
  have P := Blk.newV hgP 66 #[.int .i64 r, .int .i64 p]
  have hbn := (Below.refl (w).heap.size w).alloc (Nat.le_refl _) (.cells #[.int .i64 r, .int .i64 p] 66)
  replace hb := hb.step hbn
  replace h := h.step hbn
  clear hbn
  rw [hgP]
  have szP := alloc_size hgP (.cells #[.int .i64 r, .int .i64 p] 66)
  generalize (w).alloc (.cells #[.int .i64 r, .int .i64 p] 66) = w1 at *
  obtain ⟨gX, hgX⟩ : ∃ g, (w1).heap.size = g := ⟨_, rfl⟩
  have lt_h_X := h.lt
  rw [hgX] at lt_h_X
  have lt_P_X := P.lt
  rw [hgX] at lt_P_X
  have X := Blk.newV hgX 24 #[.int .i64 k, .int .i64 m, .int .i64 n, .string s]
  have hbn := (Below.refl (w1).heap.size w1).alloc (Nat.le_refl _) (.cells #[.int .i64 k, .int .i64 m, .int .i64 n, .string s] 24)
  replace hb := hb.step hbn
  replace h := h.step hbn
  replace P := P.step hbn
  clear hbn
  have egX : gP + 1 = gX := szP.symm.trans hgX
  rw [egX]
  clear szP
  generalize (w1).alloc (.cells #[.int .i64 k, .int .i64 m, .int .i64 n, .string s] 24) = w2 at *
  refine wp_scope_fwd 0 rfl ?_
  intro Q2 hR hGo
  go_upto_region 2 with fail
  have ltb := h.ltb
  obtain ⟨gH, hgH⟩ : ∃ g, (w2).heap.size = g := ⟨_, rfl⟩
  have lt_h_H := h.lt
  rw [hgH] at lt_h_H
  have lt_P_H := P.lt
  rw [hgH] at lt_P_H
  have lt_X_H := X.lt
  rw [hgH] at lt_X_H
  have H := Blk.newV hgH 121 #[.int .i64 0, .int .i64 0, .int .i64 0, .string ⟨#[]⟩, .bool false, .bool false, .bool false, .bool false, .bool false, .bool false, .bool false, .bool false, .bool false]
  have hbn := (Below.refl (w2).heap.size w2).alloc (Nat.le_refl _) (.cells #[.int .i64 0, .int .i64 0, .int .i64 0, .string ⟨#[]⟩, .bool false, .bool false, .bool false, .bool false, .bool false, .bool false, .bool false, .bool false, .bool false] 121)
  replace hb := hb.step hbn
  replace h := h.step hbn
  replace P := P.step hbn
  replace X := X.step hbn
  clear hbn
  rw [hgH]
  generalize (w2).alloc (.cells #[.int .i64 0, .int .i64 0, .int .i64 0, .string ⟨#[]⟩, .bool false, .bool false, .bool false, .bool false, .bool false, .bool false, .bool false, .bool false, .bool false] 121) = w3 at *
  rw [hgH] at ltb
  go_wp2_with fail
  refine (cN _ (h.1.cell (j := 5) rfl)).mono ?_
  rintro e w4 ⟨rfl, rfl⟩
  go_upto_region 6 with fail
  rw [hM] at cM
  rw [hE] at cE
  clear hok hM hE hp0 hp1 hc9
  have hT4 := hT.step hb
  have c5 := extA_cell (h.1.cell (j := 5) rfl)
  have c6 := extA_cell (h.1.cell (j := 6) rfl)
  have P_0 := extA_cell (P.cell (j := 0) rfl)
  have P_1 := extA_cell (P.cell (j := 1) rfl)
  have X_0 := extA_cell (X.cell (j := 0) rfl)
  have X_1 := extA_cell (X.cell (j := 1) rfl)
  have X_2 := extA_cell (X.cell (j := 2) rfl)
  have X_3 := extA_cell (X.cell (j := 3) rfl)
  refine wp_region_extB (by kernel_rfl) (by kernel_rfl) ?_
  repeat
    (first
      | go_big_quiet_skip
      | (go_big_quiet_want
         go_big_quiet_op
         first
           | go_big_quiet_on
           | (apply Exists.intro
              refine ⟨fun w' hC9 => ?_, ?_⟩
              · (first
                  | with_reducible rfl
                  | (go_at_call 41; refine (cM _).mono ?_; rintro e w2 ⟨rfl, hb9⟩; exact ⟨rfl, extA_then hC9 hb9⟩) | (go_at_call 28; refine (cE _ (hT4.step hC9)).mono ?_; rintro e w2 ⟨rfl, hb9⟩; exact ⟨rfl, extA_then hC9 hb9⟩)
                  | (go_simp; done)
                  | (go_simp; with_reducible rfl))
              go_big_quiet_on)))
  refine wpQuiet_nil ?_
  intro w4 hq
  replace hb := hb.step hq
  replace h := h.step hq
  replace H := H.step hq
  replace P := P.step hq
  replace X := X.step hq
  clear hq c5 c6 P_0 P_1 X_0 X_1 X_2 X_3 cN cE cM hT4
  clear d1 d2
  go_upto_region 7 with fail
  unfold evH at lk0
  obtain ⟨⟨k1, m1, n1, s1, vs1⟩, hhd⟩ : ∃ hd, atH L r p = hd := ⟨_, rfl⟩
  rw [hhd] at lk0 hv9
  simp only at lk0 hv9
  obtain ⟨D0, D1, D2, D3, D4, D5, D6, D7, D8, rfl⟩ := nine hv9
  simp only [List.map_cons, List.map_nil, List.append_toArray, List.cons_append, List.nil_append] at lk0
  have hgH2 : g ∉ [gH] := by simp; omega
  have hbH2 : b ∉ [gH] := by simp; omega
  have hPH2 : gP ∉ [gH] := by simp; omega
  have lk := fun W (hW : Kx [gH] w4 W) => lk0 W (MapG.kx h.2 hW hbH2)
  have c7 := kx_all (h.1.cell (j := 7) rfl) hgH2
  have P_0 := kx_all (P.cell (j := 0) rfl) hPH2
  have P_1 := kx_all (P.cell (j := 1) rfl) hPH2
  clear lk0 hv9
  refine wp_nopanic ?_
  refine wp_region_held (S := Kx [gH] w4) (by kernel_rfl) ?_
  have hst : Below (w4).heap.size w4 { w4 with drawn := (w4).drawn + 1 } := ⟨rfl, rfl, rfl, Nat.le_refl _, fun _ _ => rfl⟩
  have hS : (Kx [gH] w4) { w4 with drawn := (w4).drawn + 1 } := by first | exact ⟨rfl, rfl, rfl, Nat.le_refl _, fun _ _ _ => rfl⟩ | exact ⟨rfl, rfl, rfl, Nat.le_refl _, fun _ _ => rfl⟩ | exact hS0
  replace hb := hb.step hst
  replace h := h.step hst
  replace H := H.step hst
  replace P := P.step hst
  replace X := X.step hst
  clear hst
  generalize ({ w4 with drawn := (w4).drawn + 1 } : World) = wq at *
  refine wpAnyH_take (i := 0) (v := ?_) rfl (by kernel_rfl) (by kernel_rfl) (by kernel_rfl) (fun _ _ _ h => h) (Or.inl ⟨by kernel_rfl, ?_⟩) hS ?_
  rotate_left
  · intro W hSW
    have y0 := c7 _ hSW
    have y1 := P_0 _ hSW
    have y2 := P_1 _ hSW
    have y3 := lk _ hSW
    go_simp
    try with_reducible rfl
  dsimp only [Act.put]
  refine wpAnyH_take (i := 1) (v := ?_) rfl (by kernel_rfl) (by kernel_rfl) (by kernel_rfl) (fun _ _ _ h => h) (Or.inl ⟨by kernel_rfl, ?_⟩) hS ?_
  rotate_left
  · intro W hSW
    have y0 := c7 _ hSW
    have y1 := P_0 _ hSW
    have y2 := P_1 _ hSW
    have y3 := lk _ hSW
    go_simp
    try with_reducible rfl
  dsimp only [Act.put]
  refine wpAnyH_take (i := 2) (v := ?_) rfl (by kernel_rfl) (by kernel_rfl) (by kernel_rfl) (fun _ _ _ h => h) (Or.inl ⟨by kernel_rfl, ?_⟩) hS ?_
  rotate_left
  · intro W hSW
    have y0 := c7 _ hSW
    have y1 := P_0 _ hSW
    have y2 := P_1 _ hSW
    have y3 := lk _ hSW
    go_simp
    try with_reducible rfl
  dsimp only [Act.put]
  refine wpAnyH_take (i := 3) (v := ?_) rfl (by kernel_rfl) (by kernel_rfl) (by kernel_rfl) (fun _ _ _ h => h) (Or.inl ⟨by kernel_rfl, ?_⟩) hS ?_
  rotate_left
  · intro W hSW
    have y0 := c7 _ hSW
    have y1 := P_0 _ hSW
    have y2 := P_1 _ hSW
    have y3 := lk _ hSW
    go_simp
    try with_reducible rfl
  dsimp only [Act.put]
  refine wpAnyH_take (i := 4) (v := ?_) rfl (by kernel_rfl) (by kernel_rfl) (by kernel_rfl) (fun _ _ _ h => h) (Or.inl ⟨by kernel_rfl, ?_⟩) hS ?_
  rotate_left
  · intro W hSW
    have y0 := c7 _ hSW
    have y1 := P_0 _ hSW
    have y2 := P_1 _ hSW
    have y3 := lk _ hSW
    go_simp
    try with_reducible rfl
  dsimp only [Act.put]
  refine wpAnyH_take (i := 5) (v := ?_) rfl (by kernel_rfl) (by kernel_rfl) (by kernel_rfl) (fun _ _ _ h => h) (Or.inl ⟨by kernel_rfl, ?_⟩) hS ?_
  rotate_left
  · intro W hSW
    have y0 := c7 _ hSW
    have y1 := P_0 _ hSW
    have y2 := P_1 _ hSW
    have y3 := lk _ hSW
    go_simp
    try with_reducible rfl
  dsimp only [Act.put]
  refine wpAnyH_take (i := 6) (v := ?_) rfl (by kernel_rfl) (by kernel_rfl) (by kernel_rfl) (fun _ _ _ h => h) (Or.inl ⟨by kernel_rfl, ?_⟩) hS ?_
  rotate_left
  · intro W hSW
    have y0 := c7 _ hSW
    have y1 := P_0 _ hSW
    have y2 := P_1 _ hSW
    have y3 := lk _ hSW
    go_simp
    try with_reducible rfl
  dsimp only [Act.put]
  refine wpAnyH_take (i := 7) (v := ?_) rfl (by kernel_rfl) (by kernel_rfl) (by kernel_rfl) (fun _ _ _ h => h) (Or.inl ⟨by kernel_rfl, ?_⟩) hS ?_
  rotate_left
  · intro W hSW
    have y0 := c7 _ hSW
    have y1 := P_0 _ hSW
    have y2 := P_1 _ hSW
    have y3 := lk _ hSW
    go_simp
    try with_reducible rfl
  dsimp only [Act.put]
  refine wpAnyH_take (i := 8) (v := ?_) rfl (by kernel_rfl) (by kernel_rfl) (by kernel_rfl) (fun _ _ _ h => h) (Or.inl ⟨by kernel_rfl, ?_⟩) hS ?_
  rotate_left
  · intro W hSW
    have y0 := c7 _ hSW
    have y1 := P_0 _ hSW
    have y2 := P_1 _ hSW
    have y3 := lk _ hSW
    go_simp
    try with_reducible rfl
  dsimp only [Act.put]
  have H_0 := H.cell (j := 0) rfl
  have H_1 := H.cell (j := 1) rfl
  have H_2 := H.cell (j := 2) rfl
  have H_3 := H.cell (j := 3) rfl
  have H_4 := H.cell (j := 4) rfl
  have H_5 := H.cell (j := 5) rfl
  have H_6 := H.cell (j := 6) rfl
  have H_7 := H.cell (j := 7) rfl
  have H_8 := H.cell (j := 8) rfl
  have H_9 := H.cell (j := 9) rfl
  have H_10 := H.cell (j := 10) rfl
  have H_11 := H.cell (j := 11) rfl
  have H_12 := H.cell (j := 12) rfl
  have Hf0 := H.frozen 0
  have Hf1 := H.frozen 1
  have Hf2 := H.frozen 2
  have Hf3 := H.frozen 3
  have Hf4 := H.frozen 4
  have Hf5 := H.frozen 5
  have Hf6 := H.frozen 6
  have Hf7 := H.frozen 7
  have Hf8 := H.frozen 8
  have Hf9 := H.frozen 9
  have Hf10 := H.frozen 10
  have Hf11 := H.frozen 11
  have Hf12 := H.frozen 12
  refine wpAnyH_ready (rs := [9]) (by kernel_rfl) (by simp) ?_
  refine AllReadyH.cons rfl (fun K hK => ?_) AllReadyH.nil
  go_simp
  have hkn : Kx [gH] wq (((((((((((((wq.setCell ⟨gH, 0, none⟩ (.int .i64 k1)).setCell ⟨gH, 1, none⟩ (.int .i64 m1)).setCell ⟨gH, 2, none⟩ (.int .i64 n1)).setCell ⟨gH, 3, none⟩ (.string s1)).setCell ⟨gH, 4, none⟩ (.bool D0)).setCell ⟨gH, 5, none⟩ (.bool D1)).setCell ⟨gH, 6, none⟩ (.bool D2)).setCell ⟨gH, 7, none⟩ (.bool D3)).setCell ⟨gH, 8, none⟩ (.bool D4)).setCell ⟨gH, 9, none⟩ (.bool D5)).setCell ⟨gH, 10, none⟩ (.bool D6)).setCell ⟨gH, 11, none⟩ (.bool D7)).setCell ⟨gH, 12, none⟩ (.bool D8)) := Kx.setCells [.int .i64 k1, .int .i64 m1, .int .i64 n1, .string s1, .bool D0, .bool D1, .bool D2, .bool D3, .bool D4, .bool D5, .bool D6, .bool D7, .bool D8] 0 _ (Kx.refl _ _) (.inl (by simp))
  replace H : Blk (((((((((((((wq.setCell ⟨gH, 0, none⟩ (.int .i64 k1)).setCell ⟨gH, 1, none⟩ (.int .i64 m1)).setCell ⟨gH, 2, none⟩ (.int .i64 n1)).setCell ⟨gH, 3, none⟩ (.string s1)).setCell ⟨gH, 4, none⟩ (.bool D0)).setCell ⟨gH, 5, none⟩ (.bool D1)).setCell ⟨gH, 6, none⟩ (.bool D2)).setCell ⟨gH, 7, none⟩ (.bool D3)).setCell ⟨gH, 8, none⟩ (.bool D4)).setCell ⟨gH, 9, none⟩ (.bool D5)).setCell ⟨gH, 10, none⟩ (.bool D6)).setCell ⟨gH, 11, none⟩ (.bool D7)).setCell ⟨gH, 12, none⟩ (.bool D8)) gH 121 [.int .i64 k1, .int .i64 m1, .int .i64 n1, .string s1, .bool D0, .bool D1, .bool D2, .bool D3, .bool D4, .bool D5, .bool D6, .bool D7, .bool D8] := Blk.puts [.int .i64 k1, .int .i64 m1, .int .i64 n1, .string s1, .bool D0, .bool D1, .bool D2, .bool D3, .bool D4, .bool D5, .bool D6, .bool D7, .bool D8] H rfl
  replace hb := hb.kx hkn (by first | (simp; done) | (simp; omega))
  replace h := h.kx hkn (by first | (simp; done) | (simp; omega))
  replace P := P.kx hkn (by first | (simp; done) | (simp; omega))
  replace X := X.kx hkn (by first | (simp; done) | (simp; omega))
  replace hS := hS.kx hkn (by first | (simp; done) | (simp; omega))
  clear hkn
  generalize ((((((((((((wq.setCell ⟨gH, 0, none⟩ (.int .i64 k1)).setCell ⟨gH, 1, none⟩ (.int .i64 m1)).setCell ⟨gH, 2, none⟩ (.int .i64 n1)).setCell ⟨gH, 3, none⟩ (.string s1)).setCell ⟨gH, 4, none⟩ (.bool D0)).setCell ⟨gH, 5, none⟩ (.bool D1)).setCell ⟨gH, 6, none⟩ (.bool D2)).setCell ⟨gH, 7, none⟩ (.bool D3)).setCell ⟨gH, 8, none⟩ (.bool D4)).setCell ⟨gH, 9, none⟩ (.bool D5)).setCell ⟨gH, 10, none⟩ (.bool D6)).setCell ⟨gH, 11, none⟩ (.bool D7)).setCell ⟨gH, 12, none⟩ (.bool D8) = w5 at *
  refine hK.out _ _ hS (fun hS => ?_)
  clear H_0 H_1 H_2 H_3 H_4 H_5 H_6 H_7 H_8 H_9 H_10 H_11 H_12
  clear Hf0 Hf1 Hf2 Hf3 Hf4 Hf5 Hf6 Hf7 Hf8 Hf9 Hf10 Hf11 Hf12
  clear hK K
  refine wpAnyH_ready (rs := [10]) (by kernel_rfl) (by simp) ?_
  refine AllReadyH.cons rfl (fun K hK => ?_) AllReadyH.nil
  go_simp
  refine hK.out _ _ (hS) (fun hS => ?_)
  clear hK K
  refine wpAnyH_done (by kernel_rfl) ?_ _
  clear hS
  clear lk c7 P_0 P_1
  have H_0 := H.cell (j := 0) rfl
  have H_1 := H.cell (j := 1) rfl
  have H_2 := H.cell (j := 2) rfl
  have H_3 := H.cell (j := 3) rfl
  have X_0 := X.cell (j := 0) rfl
  have X_1 := X.cell (j := 1) rfl
  have X_2 := X.cell (j := 2) rfl
  have X_3 := X.cell (j := 3) rfl
  have he := fun W => ne_entry k1 m1 n1 s1 k m n s W
  obtain ⟨Q, hQ⟩ : ∃ Q, eq4 k1 m1 n1 s1 k m n s = Q := ⟨_, rfl⟩
  obtain ⟨HS, hHS⟩ : ∃ HS, hasH L r p = HS := ⟨_, rfl⟩
  unfold clashH at hc
  rw [hhd, hHS] at hc
  rw [hHS]
  simp only [hQ] at hc he
  cases Q <;> cases HS <;> simp at hc
  clear hc hHS hQ
  go_wp2_with fail
  apply wp_goto
  (try simp only [Exit.then])
  refine hGo.out _ _ ?_
  go_wp2_with fail
  rw [Exit.noGoto_ret]
  go_ret2
  exact ⟨rfl, hb⟩
end Go.Proofs.YthhpblchiodahaaGreatDoor
