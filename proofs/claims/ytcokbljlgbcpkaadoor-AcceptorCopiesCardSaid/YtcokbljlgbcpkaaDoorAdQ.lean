
/- Package acceptor: Of. -/
import Derived.Test.YtcokbljlgbcpkaaDoorAdP
import Derived.Test.YtcokbljlgbcpkaaDoorEqs
import Derived.Test.YtcokbljlgbcpkaaDoorReg
namespace Go.Proofs.YtcokbljlgbcpkaaDoor
open Go.RowKit
structure Acp where (ar ap k m n : Int) (s : ByteArray)
def acpV (x : Acp) : Value := .agg #[.int .i64 x.ar, .int .i64 x.ap, .int .i64 x.k, .int .i64 x.m, .int .i64 x.n, .string x.s]
def emptB (k m n : Int) (s : ByteArray) : Bool := eq4 k m n s 0 0 0 ⟨#[]⟩
def noneB (x : Acp) : Bool := x.ar == -1 && x.ap == 0
def ofB (c sl r p : Int) (x : Acp) : Bool := mayB c sl r p && if noneB x then emptB x.k x.m x.n x.s else mayB c sl x.ar x.ap && (entB x.k x.m x.n x.s && !lessB r p x.ar x.ap)
def ofE (c sl r p : Int) (x : Acp) : Int := if opErr c sl = 0 then (if ofB c sl r p x then 0 else 2) else opErr c sl
def ofA (c sl r p : Int) (x : Acp) : Acc := ⟨r, p, x.ar, x.ap, x.k, x.m, x.n, x.s, c, sl⟩
theorem less_le (r p a b : Int) : lessB r p a b = !decide (cmpI a b r p ≤ 0) := by
  rcases less_cmp a b r p with ⟨_, h2⟩ | ⟨_, h2, h3⟩ | ⟨_, h2, h3⟩
  · rw [h2]
    unfold lessB at *
    simp_all
    omega
  · rw [h2, h3]; rfl
  · rw [h2, h3]; rfl
set_option maxRecDepth 100000 in
set_option maxHeartbeats 1000000 in
theorem of14_bad (c sl r p ar ap k m n : Int) (s : ByteArray) (w : World) (E : Int) (h1 : rightB c = false) (hE : E = 2) :
    Calls Tryd.prog 25 #[.int .i64 c, .int .i64 sl, .agg #[.int .i64 r, .int .i64 p], .agg #[.int .i64 ar, .int .i64 ap, .int .i64 k, .int .i64 m, .int .i64 n, .string s]] w
      fun e w' => e = .returned (.tuple #[.pointer none, .int .i64 E]) ∧ Below w.heap.size w w' := by
  subst hE
  have h2 : errI c = 2 := by unfold errI; rw [h1]; rfl
  clear h1
  have hb := From.refl w
  go_enter Tryd.func25, Tryd.ntmps25
  go_upto_region 1 with fail
  obtain ⟨gP, hgP⟩ : ∃ g, (w).heap.size = g := ⟨_, rfl⟩
  have P := Blk.newV hgP 36 #[.int .i64 r, .int .i64 p]
  have hbn := (Below.refl (w).heap.size w).alloc (Nat.le_refl _) (.cells #[.int .i64 r, .int .i64 p] 36)
  replace hb := hb.step hbn
  clear hbn
  rw [hgP]
  have szP := alloc_size hgP (.cells #[.int .i64 r, .int .i64 p] 36)
  generalize (w).alloc (.cells #[.int .i64 r, .int .i64 p] 36) = w1 at *
  obtain ⟨gX, hgX⟩ : ∃ g, (w1).heap.size = g := ⟨_, rfl⟩
  have lt_P_X := P.lt
  rw [hgX] at lt_P_X
  have X := Blk.newV hgX 39 #[.int .i64 ar, .int .i64 ap, .int .i64 k, .int .i64 m, .int .i64 n, .string s]
  have hbn := (Below.refl (w1).heap.size w1).alloc (Nat.le_refl _) (.cells #[.int .i64 ar, .int .i64 ap, .int .i64 k, .int .i64 m, .int .i64 n, .string s] 39)
  replace hb := hb.step hbn
  replace P := P.step hbn
  clear hbn
  have egX : gP + 1 = gX := szP.symm.trans hgX
  rw [egX]
  clear szP
  generalize (w1).alloc (.cells #[.int .i64 ar, .int .i64 ap, .int .i64 k, .int .i64 m, .int .i64 n, .string s] 39) = w2 at *
  have P_0 := P.cell (j := 0) rfl
  have P_1 := P.cell (j := 1) rfl
  have X_0 := X.cell (j := 0) rfl
  have X_1 := X.cell (j := 1) rfl
  have X_2 := X.cell (j := 2) rfl
  have X_3 := X.cell (j := 3) rfl
  have X_4 := X.cell (j := 4) rfl
  have X_5 := X.cell (j := 5) rfl
  refine wp_scope_fwd 0 rfl ?_
  intro Q2 hR hG
  go_wp2_with fail
  refine (check_at c 2 h2 _).mono ?_
  rintro e w3 ⟨rfl, hbn⟩
  replace hb := hb.step hbn
  replace P := P.step hbn
  replace P_0 := P.cell (j := 0) rfl
  replace P_1 := P.cell (j := 1) rfl
  replace X := X.step hbn
  replace X_0 := X.cell (j := 0) rfl
  replace X_1 := X.cell (j := 1) rfl
  replace X_2 := X.cell (j := 2) rfl
  replace X_3 := X.cell (j := 3) rfl
  replace X_4 := X.cell (j := 4) rfl
  replace X_5 := X.cell (j := 5) rfl
  clear hbn
  go_wp2
  apply wp_goto
  (try simp only [Exit.then])
  refine hG.out _ _ ?_
  go_wp2
  rw [Exit.noGoto_ret]
  go_ret2
  exact ⟨rfl, hb⟩
set_option maxRecDepth 100000 in
set_option maxHeartbeats 1000000 in
theorem of14_slot (c sl r p ar ap k m n : Int) (s : ByteArray) (w : World) (E : Int) (h1 : rightB c = true) (h2 : opErr c sl = E) (hE : E = 4) :
    Calls Tryd.prog 25 #[.int .i64 c, .int .i64 sl, .agg #[.int .i64 r, .int .i64 p], .agg #[.int .i64 ar, .int .i64 ap, .int .i64 k, .int .i64 m, .int .i64 n, .string s]] w
      fun e w' => e = .returned (.tuple #[.pointer none, .int .i64 E]) ∧ Below w.heap.size w w' := by
  subst hE
  have h3 : errI c = 0 := by unfold errI; rw [h1]; rfl
  obtain ⟨o, ho⟩ : ∃ o, ownerI c sl = o := ⟨_, rfl⟩
  clear h1
  have HE := Lib.hid h2
  clear h2
  have HO := Lib.hid ho
  clear ho
  have hb := From.refl w
  go_enter Tryd.func25, Tryd.ntmps25
  go_upto_region 1 with fail
  obtain ⟨gP, hgP⟩ : ∃ g, (w).heap.size = g := ⟨_, rfl⟩
  have P := Blk.newV hgP 36 #[.int .i64 r, .int .i64 p]
  have hbn := (Below.refl (w).heap.size w).alloc (Nat.le_refl _) (.cells #[.int .i64 r, .int .i64 p] 36)
  replace hb := hb.step hbn
  clear hbn
  rw [hgP]
  have szP := alloc_size hgP (.cells #[.int .i64 r, .int .i64 p] 36)
  generalize (w).alloc (.cells #[.int .i64 r, .int .i64 p] 36) = w1 at *
  obtain ⟨gX, hgX⟩ : ∃ g, (w1).heap.size = g := ⟨_, rfl⟩
  have lt_P_X := P.lt
  rw [hgX] at lt_P_X
  have X := Blk.newV hgX 39 #[.int .i64 ar, .int .i64 ap, .int .i64 k, .int .i64 m, .int .i64 n, .string s]
  have hbn := (Below.refl (w1).heap.size w1).alloc (Nat.le_refl _) (.cells #[.int .i64 ar, .int .i64 ap, .int .i64 k, .int .i64 m, .int .i64 n, .string s] 39)
  replace hb := hb.step hbn
  replace P := P.step hbn
  clear hbn
  have egX : gP + 1 = gX := szP.symm.trans hgX
  rw [egX]
  clear szP
  generalize (w1).alloc (.cells #[.int .i64 ar, .int .i64 ap, .int .i64 k, .int .i64 m, .int .i64 n, .string s] 39) = w2 at *
  have P_0 := P.cell (j := 0) rfl
  have P_1 := P.cell (j := 1) rfl
  have X_0 := X.cell (j := 0) rfl
  have X_1 := X.cell (j := 1) rfl
  have X_2 := X.cell (j := 2) rfl
  have X_3 := X.cell (j := 3) rfl
  have X_4 := X.cell (j := 4) rfl
  have X_5 := X.cell (j := 5) rfl
  refine wp_scope_fwd 0 rfl ?_
  intro Q2 hR hG
  go_wp2_with fail
  refine (check_at c 0 h3 _).mono ?_
  rintro e w3 ⟨rfl, hbn⟩
  replace hb := hb.step hbn
  replace P := P.step hbn
  replace P_0 := P.cell (j := 0) rfl
  replace P_1 := P.cell (j := 1) rfl
  replace X := X.step hbn
  replace X_0 := X.cell (j := 0) rfl
  replace X_1 := X.cell (j := 1) rfl
  replace X_2 := X.cell (j := 2) rfl
  replace X_3 := X.cell (j := 3) rfl
  replace X_4 := X.cell (j := 4) rfl
  replace X_5 := X.cell (j := 5) rfl
  clear hbn
  go_wp2_with fail
  refine (owner_at c sl o 4 HO.out HE.out _).mono ?_
  rintro e w4 ⟨rfl, hbn⟩
  replace hb := hb.step hbn
  replace P := P.step hbn
  replace P_0 := P.cell (j := 0) rfl
  replace P_1 := P.cell (j := 1) rfl
  replace X := X.step hbn
  replace X_0 := X.cell (j := 0) rfl
  replace X_1 := X.cell (j := 1) rfl
  replace X_2 := X.cell (j := 2) rfl
  replace X_3 := X.cell (j := 3) rfl
  replace X_4 := X.cell (j := 4) rfl
  replace X_5 := X.cell (j := 5) rfl
  clear hbn
  go_wp2
  apply wp_goto
  (try simp only [Exit.then])
  refine hG.out _ _ ?_
  go_wp2
  rw [Exit.noGoto_ret]
  go_ret2
  exact ⟨rfl, hb⟩
set_option maxRecDepth 100000 in
set_option maxHeartbeats 1000000 in
theorem of14_may (c sl r p ar ap k m n : Int) (s : ByteArray) (w : World) (h0 : opErr c sl = 0) (hM : mayB c sl r p = false) :
    Calls Tryd.prog 25 #[.int .i64 c, .int .i64 sl, .agg #[.int .i64 r, .int .i64 p], .agg #[.int .i64 ar, .int .i64 ap, .int .i64 k, .int .i64 m, .int .i64 n, .string s]] w
      fun e w' => e = .returned (.tuple #[.pointer none, .int .i64 2]) ∧ Below w.heap.size w w' := by
  have HM := Lib.hid hM
  clear hM
  have h3 : errI c = 0 := by unfold errI; rw [(own_mod h0).2.2.2.2.2.1]; rfl
  obtain ⟨o, ho⟩ : ∃ o, ownerI c sl = o := ⟨_, rfl⟩
  have HE := Lib.hid h0
  clear h0
  have HO := Lib.hid ho
  clear ho
  have H3 := Lib.hid h3
  clear h3
  have hb := From.refl w
  go_enter Tryd.func25, Tryd.ntmps25
  go_upto_region 1 with fail
  obtain ⟨gP, hgP⟩ : ∃ g, (w).heap.size = g := ⟨_, rfl⟩
  have P := Blk.newV hgP 36 #[.int .i64 r, .int .i64 p]
  have hbn := (Below.refl (w).heap.size w).alloc (Nat.le_refl _) (.cells #[.int .i64 r, .int .i64 p] 36)
  replace hb := hb.step hbn
  clear hbn
  rw [hgP]
  have szP := alloc_size hgP (.cells #[.int .i64 r, .int .i64 p] 36)
  generalize (w).alloc (.cells #[.int .i64 r, .int .i64 p] 36) = w1 at *
  obtain ⟨gX, hgX⟩ : ∃ g, (w1).heap.size = g := ⟨_, rfl⟩
  have lt_P_X := P.lt
  rw [hgX] at lt_P_X
  have X := Blk.newV hgX 39 #[.int .i64 ar, .int .i64 ap, .int .i64 k, .int .i64 m, .int .i64 n, .string s]
  have hbn := (Below.refl (w1).heap.size w1).alloc (Nat.le_refl _) (.cells #[.int .i64 ar, .int .i64 ap, .int .i64 k, .int .i64 m, .int .i64 n, .string s] 39)
  replace hb := hb.step hbn
  replace P := P.step hbn
  clear hbn
  have egX : gP + 1 = gX := szP.symm.trans hgX
  rw [egX]
  clear szP
  generalize (w1).alloc (.cells #[.int .i64 ar, .int .i64 ap, .int .i64 k, .int .i64 m, .int .i64 n, .string s] 39) = w2 at *
  have P_0 := P.cell (j := 0) rfl
  have P_1 := P.cell (j := 1) rfl
  have X_0 := X.cell (j := 0) rfl
  have X_1 := X.cell (j := 1) rfl
  have X_2 := X.cell (j := 2) rfl
  have X_3 := X.cell (j := 3) rfl
  have X_4 := X.cell (j := 4) rfl
  have X_5 := X.cell (j := 5) rfl
  refine wp_scope_fwd 0 rfl ?_
  intro Q2 hR hG
  go_wp2_with fail
  refine (check_at c 0 H3.out _).mono ?_
  rintro e w3 ⟨rfl, hbn⟩
  replace hb := hb.step hbn
  replace P := P.step hbn
  replace P_0 := P.cell (j := 0) rfl
  replace P_1 := P.cell (j := 1) rfl
  replace X := X.step hbn
  replace X_0 := X.cell (j := 0) rfl
  replace X_1 := X.cell (j := 1) rfl
  replace X_2 := X.cell (j := 2) rfl
  replace X_3 := X.cell (j := 3) rfl
  replace X_4 := X.cell (j := 4) rfl
  replace X_5 := X.cell (j := 5) rfl
  clear hbn
  go_wp2_with fail
  refine (owner_at c sl o 0 HO.out HE.out _).mono ?_
  rintro e w4 ⟨rfl, hbn⟩
  replace hb := hb.step hbn
  replace P := P.step hbn
  replace P_0 := P.cell (j := 0) rfl
  replace P_1 := P.cell (j := 1) rfl
  replace X := X.step hbn
  replace X_0 := X.cell (j := 0) rfl
  replace X_1 := X.cell (j := 1) rfl
  replace X_2 := X.cell (j := 2) rfl
  replace X_3 := X.cell (j := 3) rfl
  replace X_4 := X.cell (j := 4) rfl
  replace X_5 := X.cell (j := 5) rfl
  clear hbn
  go_wp2_with fail
  refine (may_at c sl r p _ HM.out _).mono ?_
  rintro e w5 ⟨rfl, hbn⟩
  replace hb := hb.step hbn
  replace P := P.step hbn
  replace P_0 := P.cell (j := 0) rfl
  replace P_1 := P.cell (j := 1) rfl
  replace X := X.step hbn
  replace X_0 := X.cell (j := 0) rfl
  replace X_1 := X.cell (j := 1) rfl
  replace X_2 := X.cell (j := 2) rfl
  replace X_3 := X.cell (j := 3) rfl
  replace X_4 := X.cell (j := 4) rfl
  replace X_5 := X.cell (j := 5) rfl
  clear hbn
  go_wp2
  apply wp_goto
  (try simp only [Exit.then])
  refine hG.out _ _ ?_
  go_wp2
  rw [Exit.noGoto_ret]
  go_ret2
  exact ⟨rfl, hb⟩
set_option maxRecDepth 100000 in
set_option maxHeartbeats 1000000 in
theorem of14_rest (c sl r p ar ap k m n : Int) (s : ByteArray) (w : World) (h0 : opErr c sl = 0) (hM : mayB c sl r p = true) (hr : ar = -1) (hp : ap = 0) (he : emptB k m n s = false) :
    Calls Tryd.prog 25 #[.int .i64 c, .int .i64 sl, .agg #[.int .i64 r, .int .i64 p], .agg #[.int .i64 ar, .int .i64 ap, .int .i64 k, .int .i64 m, .int .i64 n, .string s]] w
      fun e w' => e = .returned (.tuple #[.pointer none, .int .i64 2]) ∧ Below w.heap.size w w' := by
  subst hr hp
  have HM := Lib.hid hM
  clear hM
  have hNE := fun W => ne_accepted (-1) 0 k m n s (-1) 0 0 0 0 ⟨#[]⟩ W
  rw [show eq6 (-1) 0 k m n s (-1) 0 0 0 0 ⟨#[]⟩ = false by unfold eq6; unfold emptB eq4 at he; simpa using he] at hNE
  clear he
  have h3 : errI c = 0 := by unfold errI; rw [(own_mod h0).2.2.2.2.2.1]; rfl
  obtain ⟨o, ho⟩ : ∃ o, ownerI c sl = o := ⟨_, rfl⟩
  have HE := Lib.hid h0
  clear h0
  have HO := Lib.hid ho
  clear ho
  have H3 := Lib.hid h3
  clear h3
  have hb := From.refl w
  go_enter Tryd.func25, Tryd.ntmps25
  go_upto_region 1 with fail
  obtain ⟨gP, hgP⟩ : ∃ g, (w).heap.size = g := ⟨_, rfl⟩
  have P := Blk.newV hgP 36 #[.int .i64 r, .int .i64 p]
  have hbn := (Below.refl (w).heap.size w).alloc (Nat.le_refl _) (.cells #[.int .i64 r, .int .i64 p] 36)
  replace hb := hb.step hbn
  clear hbn
  rw [hgP]
  have szP := alloc_size hgP (.cells #[.int .i64 r, .int .i64 p] 36)
  generalize (w).alloc (.cells #[.int .i64 r, .int .i64 p] 36) = w1 at *
  obtain ⟨gX, hgX⟩ : ∃ g, (w1).heap.size = g := ⟨_, rfl⟩
  have lt_P_X := P.lt
  rw [hgX] at lt_P_X
  have X := Blk.newV hgX 39 #[.int .i64 (-1), .int .i64 0, .int .i64 k, .int .i64 m, .int .i64 n, .string s]
  have hbn := (Below.refl (w1).heap.size w1).alloc (Nat.le_refl _) (.cells #[.int .i64 (-1), .int .i64 0, .int .i64 k, .int .i64 m, .int .i64 n, .string s] 39)
  replace hb := hb.step hbn
  replace P := P.step hbn
  clear hbn
  have egX : gP + 1 = gX := szP.symm.trans hgX
  rw [egX]
  clear szP
  generalize (w1).alloc (.cells #[.int .i64 (-1), .int .i64 0, .int .i64 k, .int .i64 m, .int .i64 n, .string s] 39) = w2 at *
  have P_0 := P.cell (j := 0) rfl
  have P_1 := P.cell (j := 1) rfl
  have X_0 := X.cell (j := 0) rfl
  have X_1 := X.cell (j := 1) rfl
  have X_2 := X.cell (j := 2) rfl
  have X_3 := X.cell (j := 3) rfl
  have X_4 := X.cell (j := 4) rfl
  have X_5 := X.cell (j := 5) rfl
  refine wp_scope_fwd 0 rfl ?_
  intro Q2 hR hG
  go_wp2_with fail
  refine (check_at c 0 H3.out _).mono ?_
  rintro e w3 ⟨rfl, hbn⟩
  replace hb := hb.step hbn
  replace P := P.step hbn
  replace P_0 := P.cell (j := 0) rfl
  replace P_1 := P.cell (j := 1) rfl
  replace X := X.step hbn
  replace X_0 := X.cell (j := 0) rfl
  replace X_1 := X.cell (j := 1) rfl
  replace X_2 := X.cell (j := 2) rfl
  replace X_3 := X.cell (j := 3) rfl
  replace X_4 := X.cell (j := 4) rfl
  replace X_5 := X.cell (j := 5) rfl
  clear hbn
  go_wp2_with fail
  refine (owner_at c sl o 0 HO.out HE.out _).mono ?_
  rintro e w4 ⟨rfl, hbn⟩
  replace hb := hb.step hbn
  replace P := P.step hbn
  replace P_0 := P.cell (j := 0) rfl
  replace P_1 := P.cell (j := 1) rfl
  replace X := X.step hbn
  replace X_0 := X.cell (j := 0) rfl
  replace X_1 := X.cell (j := 1) rfl
  replace X_2 := X.cell (j := 2) rfl
  replace X_3 := X.cell (j := 3) rfl
  replace X_4 := X.cell (j := 4) rfl
  replace X_5 := X.cell (j := 5) rfl
  clear hbn
  go_wp2_with fail
  refine (may_at c sl r p _ HM.out _).mono ?_
  rintro e w5 ⟨rfl, hbn⟩
  replace hb := hb.step hbn
  replace P := P.step hbn
  replace P_0 := P.cell (j := 0) rfl
  replace P_1 := P.cell (j := 1) rfl
  replace X := X.step hbn
  replace X_0 := X.cell (j := 0) rfl
  replace X_1 := X.cell (j := 1) rfl
  replace X_2 := X.cell (j := 2) rfl
  replace X_3 := X.cell (j := 3) rfl
  replace X_4 := X.cell (j := 4) rfl
  replace X_5 := X.cell (j := 5) rfl
  clear hbn
  go_upto_region 7 with fail
  clear P_0 P_1
  clear X_0 X_1 X_2 X_3 X_4 X_5
  have X_0 := extA_cell (X.cell (j := 0) rfl)
  have X_1 := extA_cell (X.cell (j := 1) rfl)
  have X_2 := extA_cell (X.cell (j := 2) rfl)
  have X_3 := extA_cell (X.cell (j := 3) rfl)
  have X_4 := extA_cell (X.cell (j := 4) rfl)
  have X_5 := extA_cell (X.cell (j := 5) rfl)
  refine wp_region_extB (by kernel_rfl) (by kernel_rfl) ?_
  repeat
    (first
      | go_big_quiet_skip
      | (go_big_quiet_want
         go_big_quiet_op
         first
           | go_big_quiet_on
           | (apply Exists.intro
              refine ⟨fun w' hC => ?_, ?_⟩
              · (first
                  | with_reducible rfl
                  | (go_at_call 49; refine (bnone_any _).mono ?_; rintro e w2 ⟨rfl, hb9⟩; exact ⟨rfl, extA_then hC hb9⟩)
                  | (go_simp; done)
                  | (go_simp; with_reducible rfl))
              go_big_quiet_on)))
  refine wpQuiet_nil ?_
  intro w6 hbn
  replace hb := hb.step hbn
  replace P := P.step hbn
  replace X := X.step hbn
  clear hbn
  clear X_0 X_1 X_2 X_3 X_4 X_5
  go_upto_region 8 with fail
  have X_0 := extA_cell (X.cell (j := 0) rfl)
  have X_1 := extA_cell (X.cell (j := 1) rfl)
  have X_2 := extA_cell (X.cell (j := 2) rfl)
  have X_3 := extA_cell (X.cell (j := 3) rfl)
  have X_4 := extA_cell (X.cell (j := 4) rfl)
  have X_5 := extA_cell (X.cell (j := 5) rfl)
  refine wp_region_extB (by kernel_rfl) (by kernel_rfl) ?_
  repeat
    (first
      | go_big_quiet_skip
      | (go_big_quiet_want
         go_big_quiet_op
         first
           | go_big_quiet_on
           | (apply Exists.intro
              refine ⟨fun w' hC => ?_, ?_⟩
              · (first
                  | with_reducible rfl
                  | (go_at_call 34; refine (nothing_any _).mono ?_; rintro e w2 ⟨rfl, hb9⟩; exact ⟨rfl, extA_then hC hb9⟩)
                  | (go_simp; done)
                  | (go_simp; with_reducible rfl))
              go_big_quiet_on)))
  refine wpQuiet_nil ?_
  intro w7 hbn
  replace hb := hb.step hbn
  replace P := P.step hbn
  replace X := X.step hbn
  clear hbn
  clear X_0 X_1 X_2 X_3 X_4 X_5
  go_wp2
  apply wp_goto
  (try simp only [Exit.then])
  refine hG.out _ _ ?_
  go_wp2
  rw [Exit.noGoto_ret]
  go_ret2
  exact ⟨rfl, hb⟩
set_option maxRecDepth 100000 in
set_option maxHeartbeats 1000000 in
theorem of14_ok0 (c sl r p ar ap k m n : Int) (s : ByteArray) (w : World) (h0 : opErr c sl = 0) (hM : mayB c sl r p = true) (hr : ar = -1) (hp : ap = 0) (he : emptB k m n s = true) :
    Calls Tryd.prog 25 #[.int .i64 c, .int .i64 sl, .agg #[.int .i64 r, .int .i64 p], .agg #[.int .i64 ar, .int .i64 ap, .int .i64 k, .int .i64 m, .int .i64 n, .string s]] w
      fun e w' => (∃ g, e = .returned (.tuple #[.pointer (some ⟨g, 0, none⟩), .int .i64 0]) ∧ AW w' g ⟨r, p, ar, ap, k, m, n, s, c, sl⟩ ∧ w.heap.size ≤ g) ∧ Below w.heap.size w w' := by
  subst hr hp
  have HM := Lib.hid hM
  clear hM
  have hNE := fun W => ne_accepted (-1) 0 k m n s (-1) 0 0 0 0 ⟨#[]⟩ W
  rw [show eq6 (-1) 0 k m n s (-1) 0 0 0 0 ⟨#[]⟩ = true by unfold eq6; unfold emptB eq4 at he; simpa using he] at hNE
  clear he
  have h3 : errI c = 0 := by unfold errI; rw [(own_mod h0).2.2.2.2.2.1]; rfl
  obtain ⟨o, ho⟩ : ∃ o, ownerI c sl = o := ⟨_, rfl⟩
  have HE := Lib.hid h0
  clear h0
  have HO := Lib.hid ho
  clear ho
  have H3 := Lib.hid h3
  clear h3
  have hb := From.refl w
  go_enter Tryd.func25, Tryd.ntmps25
  go_upto_region 1 with fail
  obtain ⟨gP, hgP⟩ : ∃ g, (w).heap.size = g := ⟨_, rfl⟩
  have P := Blk.newV hgP 36 #[.int .i64 r, .int .i64 p]
  have hbn := (Below.refl (w).heap.size w).alloc (Nat.le_refl _) (.cells #[.int .i64 r, .int .i64 p] 36)
  replace hb := hb.step hbn
  clear hbn
  rw [hgP]
  have szP := alloc_size hgP (.cells #[.int .i64 r, .int .i64 p] 36)
  generalize (w).alloc (.cells #[.int .i64 r, .int .i64 p] 36) = w1 at *
  obtain ⟨gX, hgX⟩ : ∃ g, (w1).heap.size = g := ⟨_, rfl⟩
  have lt_P_X := P.lt
  rw [hgX] at lt_P_X
  have X := Blk.newV hgX 39 #[.int .i64 (-1), .int .i64 0, .int .i64 k, .int .i64 m, .int .i64 n, .string s]
  have hbn := (Below.refl (w1).heap.size w1).alloc (Nat.le_refl _) (.cells #[.int .i64 (-1), .int .i64 0, .int .i64 k, .int .i64 m, .int .i64 n, .string s] 39)
  replace hb := hb.step hbn
  replace P := P.step hbn
  clear hbn
  have egX : gP + 1 = gX := szP.symm.trans hgX
  rw [egX]
  clear szP
  generalize (w1).alloc (.cells #[.int .i64 (-1), .int .i64 0, .int .i64 k, .int .i64 m, .int .i64 n, .string s] 39) = w2 at *
  have P_0 := P.cell (j := 0) rfl
  have P_1 := P.cell (j := 1) rfl
  have X_0 := X.cell (j := 0) rfl
  have X_1 := X.cell (j := 1) rfl
  have X_2 := X.cell (j := 2) rfl
  have X_3 := X.cell (j := 3) rfl
  have X_4 := X.cell (j := 4) rfl
  have X_5 := X.cell (j := 5) rfl
  refine wp_scope_fwd 0 rfl ?_
  intro Q2 hR hG
  go_wp2_with fail
  refine (check_at c 0 H3.out _).mono ?_
  rintro e w3 ⟨rfl, hbn⟩
  replace hb := hb.step hbn
  replace P := P.step hbn
  replace P_0 := P.cell (j := 0) rfl
  replace P_1 := P.cell (j := 1) rfl
  replace X := X.step hbn
  replace X_0 := X.cell (j := 0) rfl
  replace X_1 := X.cell (j := 1) rfl
  replace X_2 := X.cell (j := 2) rfl
  replace X_3 := X.cell (j := 3) rfl
  replace X_4 := X.cell (j := 4) rfl
  replace X_5 := X.cell (j := 5) rfl
  clear hbn
  go_wp2_with fail
  refine (owner_at c sl o 0 HO.out HE.out _).mono ?_
  rintro e w4 ⟨rfl, hbn⟩
  replace hb := hb.step hbn
  replace P := P.step hbn
  replace P_0 := P.cell (j := 0) rfl
  replace P_1 := P.cell (j := 1) rfl
  replace X := X.step hbn
  replace X_0 := X.cell (j := 0) rfl
  replace X_1 := X.cell (j := 1) rfl
  replace X_2 := X.cell (j := 2) rfl
  replace X_3 := X.cell (j := 3) rfl
  replace X_4 := X.cell (j := 4) rfl
  replace X_5 := X.cell (j := 5) rfl
  clear hbn
  go_wp2_with fail
  refine (may_at c sl r p _ HM.out _).mono ?_
  rintro e w5 ⟨rfl, hbn⟩
  replace hb := hb.step hbn
  replace P := P.step hbn
  replace P_0 := P.cell (j := 0) rfl
  replace P_1 := P.cell (j := 1) rfl
  replace X := X.step hbn
  replace X_0 := X.cell (j := 0) rfl
  replace X_1 := X.cell (j := 1) rfl
  replace X_2 := X.cell (j := 2) rfl
  replace X_3 := X.cell (j := 3) rfl
  replace X_4 := X.cell (j := 4) rfl
  replace X_5 := X.cell (j := 5) rfl
  clear hbn
  go_upto_region 7 with fail
  clear P_0 P_1
  clear X_0 X_1 X_2 X_3 X_4 X_5
  have X_0 := extA_cell (X.cell (j := 0) rfl)
  have X_1 := extA_cell (X.cell (j := 1) rfl)
  have X_2 := extA_cell (X.cell (j := 2) rfl)
  have X_3 := extA_cell (X.cell (j := 3) rfl)
  have X_4 := extA_cell (X.cell (j := 4) rfl)
  have X_5 := extA_cell (X.cell (j := 5) rfl)
  refine wp_region_extB (by kernel_rfl) (by kernel_rfl) ?_
  repeat
    (first
      | go_big_quiet_skip
      | (go_big_quiet_want
         go_big_quiet_op
         first
           | go_big_quiet_on
           | (apply Exists.intro
              refine ⟨fun w' hC => ?_, ?_⟩
              · (first
                  | with_reducible rfl
                  | (go_at_call 49; refine (bnone_any _).mono ?_; rintro e w2 ⟨rfl, hb9⟩; exact ⟨rfl, extA_then hC hb9⟩)
                  | (go_simp; done)
                  | (go_simp; with_reducible rfl))
              go_big_quiet_on)))
  refine wpQuiet_nil ?_
  intro w6 hbn
  replace hb := hb.step hbn
  replace P := P.step hbn
  replace X := X.step hbn
  clear hbn
  clear X_0 X_1 X_2 X_3 X_4 X_5
  go_upto_region 8 with fail
  have X_0 := extA_cell (X.cell (j := 0) rfl)
  have X_1 := extA_cell (X.cell (j := 1) rfl)
  have X_2 := extA_cell (X.cell (j := 2) rfl)
  have X_3 := extA_cell (X.cell (j := 3) rfl)
  have X_4 := extA_cell (X.cell (j := 4) rfl)
  have X_5 := extA_cell (X.cell (j := 5) rfl)
  refine wp_region_extB (by kernel_rfl) (by kernel_rfl) ?_
  repeat
    (first
      | go_big_quiet_skip
      | (go_big_quiet_want
         go_big_quiet_op
         first
           | go_big_quiet_on
           | (apply Exists.intro
              refine ⟨fun w' hC => ?_, ?_⟩
              · (first
                  | with_reducible rfl
                  | (go_at_call 34; refine (nothing_any _).mono ?_; rintro e w2 ⟨rfl, hb9⟩; exact ⟨rfl, extA_then hC hb9⟩)
                  | (go_simp; done)
                  | (go_simp; with_reducible rfl))
              go_big_quiet_on)))
  refine wpQuiet_nil ?_
  intro w7 hbn
  replace hb := hb.step hbn
  replace P := P.step hbn
  replace X := X.step hbn
  clear hbn
  clear X_0 X_1 X_2 X_3 X_4 X_5
  have P_0 := P.cell (j := 0) rfl
  have P_1 := P.cell (j := 1) rfl
  have X_0 := X.cell (j := 0) rfl
  have X_1 := X.cell (j := 1) rfl
  have X_2 := X.cell (j := 2) rfl
  have X_3 := X.cell (j := 3) rfl
  have X_4 := X.cell (j := 4) rfl
  have X_5 := X.cell (j := 5) rfl
  go_wp2
  refine hR.out _ _ ?_
  go_ret2
  exact ⟨⟨_, rfl, Blk.newV rfl _ #[.int .i64 r, .int .i64 p, .int .i64 (-1), .int .i64 0, .int .i64 k, .int .i64 m, .int .i64 n, .string s, .int .i64 c, .int .i64 sl], hb.size⟩, hb.step ((Below.refl _ _).alloc (Nat.le_refl _) _)⟩
set_option maxRecDepth 100000 in
set_option maxHeartbeats 1000000 in
theorem of14_not (c sl r p ar ap k m n : Int) (s : ByteArray) (w : World) (hs : s.size ≤ 9223372036854775807) (hT : Tabs w) (h0 : opErr c sl = 0) (hM : mayB c sl r p = true) (hn : (ar == -1 && ap == 0) = false) (hv : [mayB c sl ar ap, entB k m n s, decide (cmpI ar ap r p ≤ 0)].all id = false) :
    Calls Tryd.prog 25 #[.int .i64 c, .int .i64 sl, .agg #[.int .i64 r, .int .i64 p], .agg #[.int .i64 ar, .int .i64 ap, .int .i64 k, .int .i64 m, .int .i64 n, .string s]] w
      fun e w' => e = .returned (.tuple #[.pointer none, .int .i64 2]) ∧ Below w.heap.size w w' := by
  have HM := Lib.hid hM
  clear hM
  have hEB := fun W => eq_ballot ar ap (-1) 0 W
  rw [show eq2 ar ap (-1) 0 = false by unfold eq2; simpa using hn] at hEB
  clear hn
  obtain ⟨Q, hQ⟩ : ∃ Q, cmpI ar ap r p = Q := ⟨_, rfl⟩
  rw [hQ] at hv
  have cC := fun W => compare_any ar ap r p W
  rw [hQ] at cC
  have cE := fun W hT => ent_any k m n s W hs hT
  have cM := fun W => may_at c sl ar ap _ rfl W
  have hLen : [mayB c sl ar ap, entB k m n s, decide (Q ≤ 0)].length = 3 := rfl
  generalize mayB c sl ar ap = b1 at cM hv hLen
  generalize entB k m n s = b2 at cE hv hLen
  clear hQ
  have h3 : errI c = 0 := by unfold errI; rw [(own_mod h0).2.2.2.2.2.1]; rfl
  obtain ⟨o, ho⟩ : ∃ o, ownerI c sl = o := ⟨_, rfl⟩
  have HE := Lib.hid h0
  clear h0
  have HO := Lib.hid ho
  clear ho
  have H3 := Lib.hid h3
  clear h3
  have hb := From.refl w
  go_enter Tryd.func25, Tryd.ntmps25
  go_upto_region 1 with fail
  obtain ⟨gP, hgP⟩ : ∃ g, (w).heap.size = g := ⟨_, rfl⟩
  have P := Blk.newV hgP 36 #[.int .i64 r, .int .i64 p]
  have hbn := (Below.refl (w).heap.size w).alloc (Nat.le_refl _) (.cells #[.int .i64 r, .int .i64 p] 36)
  replace hb := hb.step hbn
  clear hbn
  rw [hgP]
  have szP := alloc_size hgP (.cells #[.int .i64 r, .int .i64 p] 36)
  generalize (w).alloc (.cells #[.int .i64 r, .int .i64 p] 36) = w1 at *
  obtain ⟨gX, hgX⟩ : ∃ g, (w1).heap.size = g := ⟨_, rfl⟩
  have lt_P_X := P.lt
  rw [hgX] at lt_P_X
  have X := Blk.newV hgX 39 #[.int .i64 ar, .int .i64 ap, .int .i64 k, .int .i64 m, .int .i64 n, .string s]
  have hbn := (Below.refl (w1).heap.size w1).alloc (Nat.le_refl _) (.cells #[.int .i64 ar, .int .i64 ap, .int .i64 k, .int .i64 m, .int .i64 n, .string s] 39)
  replace hb := hb.step hbn
  replace P := P.step hbn
  clear hbn
  have egX : gP + 1 = gX := szP.symm.trans hgX
  rw [egX]
  clear szP
  generalize (w1).alloc (.cells #[.int .i64 ar, .int .i64 ap, .int .i64 k, .int .i64 m, .int .i64 n, .string s] 39) = w2 at *
  have P_0 := P.cell (j := 0) rfl
  have P_1 := P.cell (j := 1) rfl
  have X_0 := X.cell (j := 0) rfl
  have X_1 := X.cell (j := 1) rfl
  have X_2 := X.cell (j := 2) rfl
  have X_3 := X.cell (j := 3) rfl
  have X_4 := X.cell (j := 4) rfl
  have X_5 := X.cell (j := 5) rfl
  refine wp_scope_fwd 0 rfl ?_
  intro Q2 hR hG
  go_wp2_with fail
  refine (check_at c 0 H3.out _).mono ?_
  rintro e w3 ⟨rfl, hbn⟩
  replace hb := hb.step hbn
  replace P := P.step hbn
  replace P_0 := P.cell (j := 0) rfl
  replace P_1 := P.cell (j := 1) rfl
  replace X := X.step hbn
  replace X_0 := X.cell (j := 0) rfl
  replace X_1 := X.cell (j := 1) rfl
  replace X_2 := X.cell (j := 2) rfl
  replace X_3 := X.cell (j := 3) rfl
  replace X_4 := X.cell (j := 4) rfl
  replace X_5 := X.cell (j := 5) rfl
  clear hbn
  go_wp2_with fail
  refine (owner_at c sl o 0 HO.out HE.out _).mono ?_
  rintro e w4 ⟨rfl, hbn⟩
  replace hb := hb.step hbn
  replace P := P.step hbn
  replace P_0 := P.cell (j := 0) rfl
  replace P_1 := P.cell (j := 1) rfl
  replace X := X.step hbn
  replace X_0 := X.cell (j := 0) rfl
  replace X_1 := X.cell (j := 1) rfl
  replace X_2 := X.cell (j := 2) rfl
  replace X_3 := X.cell (j := 3) rfl
  replace X_4 := X.cell (j := 4) rfl
  replace X_5 := X.cell (j := 5) rfl
  clear hbn
  go_wp2_with fail
  refine (may_at c sl r p _ HM.out _).mono ?_
  rintro e w5 ⟨rfl, hbn⟩
  replace hb := hb.step hbn
  replace P := P.step hbn
  replace P_0 := P.cell (j := 0) rfl
  replace P_1 := P.cell (j := 1) rfl
  replace X := X.step hbn
  replace X_0 := X.cell (j := 0) rfl
  replace X_1 := X.cell (j := 1) rfl
  replace X_2 := X.cell (j := 2) rfl
  replace X_3 := X.cell (j := 3) rfl
  replace X_4 := X.cell (j := 4) rfl
  replace X_5 := X.cell (j := 5) rfl
  clear hbn
  go_upto_region 7 with fail
  clear P_0 P_1
  clear X_0 X_1 X_2 X_3 X_4 X_5
  have X_0 := extA_cell (X.cell (j := 0) rfl)
  have X_1 := extA_cell (X.cell (j := 1) rfl)
  have X_2 := extA_cell (X.cell (j := 2) rfl)
  have X_3 := extA_cell (X.cell (j := 3) rfl)
  have X_4 := extA_cell (X.cell (j := 4) rfl)
  have X_5 := extA_cell (X.cell (j := 5) rfl)
  refine wp_region_extB (by kernel_rfl) (by kernel_rfl) ?_
  repeat
    (first
      | go_big_quiet_skip
      | (go_big_quiet_want
         go_big_quiet_op
         first
           | go_big_quiet_on
           | (apply Exists.intro
              refine ⟨fun w' hC => ?_, ?_⟩
              · (first
                  | with_reducible rfl
                  | (go_at_call 49; refine (bnone_any _).mono ?_; rintro e w2 ⟨rfl, hb9⟩; exact ⟨rfl, extA_then hC hb9⟩)
                  | (go_simp; done)
                  | (go_simp; with_reducible rfl))
              go_big_quiet_on)))
  refine wpQuiet_nil ?_
  intro w6 hbn
  replace hb := hb.step hbn
  replace P := P.step hbn
  replace X := X.step hbn
  clear hbn
  clear X_0 X_1 X_2 X_3 X_4 X_5
  go_upto_region 9 with fail
  have P_0 := extA_cell (P.cell (j := 0) rfl)
  have P_1 := extA_cell (P.cell (j := 1) rfl)
  have X_0 := extA_cell (X.cell (j := 0) rfl)
  have X_1 := extA_cell (X.cell (j := 1) rfl)
  have X_2 := extA_cell (X.cell (j := 2) rfl)
  have X_3 := extA_cell (X.cell (j := 3) rfl)
  have X_4 := extA_cell (X.cell (j := 4) rfl)
  have X_5 := extA_cell (X.cell (j := 5) rfl)
  refine wp_region_head (C := ExtA w6) 13 (by kernel_rfl) (by decide) (by kernel_rfl) ⟨rfl, rfl, rfl, Nat.le_refl _, fun _ _ => rfl⟩ ?_
  simp only [List.take_succ_cons, List.take_zero]
  repeat
    (first
      | go_big_quiet_skip
      | (go_big_quiet_want
         go_big_quiet_op
         first
           | go_big_quiet_on
           | (apply Exists.intro
              refine ⟨fun w' hC => ?_, ?_⟩
              · (first
                  | with_reducible rfl
                  | (go_at_call 48; refine (cM _).mono ?_; rintro e w2 ⟨rfl, hb9⟩; exact ⟨rfl, extA_then hC hb9⟩) | (go_at_call 10; refine (cE _ (hT.step (hb.step hC).out)).mono ?_; rintro e w2 ⟨rfl, hb9⟩; exact ⟨rfl, extA_then hC hb9⟩) | (go_at_call 50; refine (cC _).mono ?_; rintro e w2 ⟨rfl, hb9⟩; exact ⟨rfl, extA_then hC hb9⟩)
                  | (go_simp; done)
                  | (go_simp; with_reducible rfl))
              go_big_quiet_on)))
  refine wpQuiet_nil ?_
  intro w7 hbn
  replace hb := hb.step hbn
  replace P := P.step hbn
  replace X := X.step hbn
  clear hbn
  clear P_0 P_1
  clear X_0 X_1 X_2 X_3 X_4 X_5
  change wpAny _ _ _ _ (2 + 1) _ _ _
  refine wpAny_ready (rs := [13]) (by kernel_rfl) (by simp) ?_
  refine AllReady.cons rfl (fun K hK => ?_) AllReady.nil
  go_simp
  obtain ⟨gB, hgB⟩ : ∃ g, (w7).heap.size = g := ⟨_, rfl⟩
  have lt_P_B := P.lt
  rw [hgB] at lt_P_B
  have lt_X_B := X.lt
  rw [hgB] at lt_X_B
  have B := Blk.newV hgB 4 #[.bool b1, .bool b2, .bool (decide (Q ≤ 0))]
  have hbn := (Below.refl (w7).heap.size w7).alloc (Nat.le_refl _) (.cells #[.bool b1, .bool b2, .bool (decide (Q ≤ 0))] 4)
  replace hb := hb.step hbn
  replace P := P.step hbn
  replace X := X.step hbn
  clear hbn
  rw [hgB]
  generalize (w7).alloc (.cells #[.bool b1, .bool b2, .bool (decide (Q ≤ 0))] 4) = w8 at *
  have cL := fun W h => allA_any gB [b1, b2, decide (Q ≤ 0)] 3 hLen (by omega) W h
  rw [hv] at cL
  refine hK _ _ ?_
  clear hK K
  refine wp_rest_quiet (ExtA w8) 14 _ rfl rfl (by kernel_rfl) (by kernel_rfl) (Below.refl _ _) ?_
  simp only [List.drop_succ_cons, List.drop_zero]
  repeat
    (first
      | go_big_quiet_skip
      | (go_big_quiet_want
         go_big_quiet_op
         first
           | go_big_quiet_on
           | (apply Exists.intro
              refine ⟨fun w' hC => ?_, ?_⟩
              · (first
                  | with_reducible rfl
                  | (go_at_call 28; refine (cL _ (B.step hC)).mono ?_; rintro e w2 ⟨rfl, rfl⟩; exact ⟨rfl, hC⟩)
                  | (go_simp; done)
                  | (go_simp; with_reducible rfl))
              go_big_quiet_on)))
  refine wpQuiet_nil ?_
  intro w9 hbn
  replace hb := hb.step hbn
  replace P := P.step hbn
  replace X := X.step hbn
  replace B := B.step hbn
  clear hbn
  go_wp2
  apply wp_goto
  (try simp only [Exit.then])
  refine hG.out _ _ ?_
  go_wp2
  rw [Exit.noGoto_ret]
  go_ret2
  exact ⟨rfl, hb⟩
set_option maxRecDepth 100000 in
set_option maxHeartbeats 1000000 in
theorem of14_yes (c sl r p ar ap k m n : Int) (s : ByteArray) (w : World) (hs : s.size ≤ 9223372036854775807) (hT : Tabs w) (h0 : opErr c sl = 0) (hM : mayB c sl r p = true) (hn : (ar == -1 && ap == 0) = false) (hv : [mayB c sl ar ap, entB k m n s, decide (cmpI ar ap r p ≤ 0)].all id = true) :
    Calls Tryd.prog 25 #[.int .i64 c, .int .i64 sl, .agg #[.int .i64 r, .int .i64 p], .agg #[.int .i64 ar, .int .i64 ap, .int .i64 k, .int .i64 m, .int .i64 n, .string s]] w
      fun e w' => (∃ g, e = .returned (.tuple #[.pointer (some ⟨g, 0, none⟩), .int .i64 0]) ∧ AW w' g ⟨r, p, ar, ap, k, m, n, s, c, sl⟩ ∧ w.heap.size ≤ g) ∧ Below w.heap.size w w' := by
  have HM := Lib.hid hM
  clear hM
  have hEB := fun W => eq_ballot ar ap (-1) 0 W
  rw [show eq2 ar ap (-1) 0 = false by unfold eq2; simpa using hn] at hEB
  clear hn
  obtain ⟨Q, hQ⟩ : ∃ Q, cmpI ar ap r p = Q := ⟨_, rfl⟩
  rw [hQ] at hv
  have cC := fun W => compare_any ar ap r p W
  rw [hQ] at cC
  have cE := fun W hT => ent_any k m n s W hs hT
  have cM := fun W => may_at c sl ar ap _ rfl W
  have hLen : [mayB c sl ar ap, entB k m n s, decide (Q ≤ 0)].length = 3 := rfl
  generalize mayB c sl ar ap = b1 at cM hv hLen
  generalize entB k m n s = b2 at cE hv hLen
  clear hQ
  have h3 : errI c = 0 := by unfold errI; rw [(own_mod h0).2.2.2.2.2.1]; rfl
  obtain ⟨o, ho⟩ : ∃ o, ownerI c sl = o := ⟨_, rfl⟩
  have HE := Lib.hid h0
  clear h0
  have HO := Lib.hid ho
  clear ho
  have H3 := Lib.hid h3
  clear h3
  have hb := From.refl w
  go_enter Tryd.func25, Tryd.ntmps25
  go_upto_region 1 with fail
  obtain ⟨gP, hgP⟩ : ∃ g, (w).heap.size = g := ⟨_, rfl⟩
  have P := Blk.newV hgP 36 #[.int .i64 r, .int .i64 p]
  have hbn := (Below.refl (w).heap.size w).alloc (Nat.le_refl _) (.cells #[.int .i64 r, .int .i64 p] 36)
  replace hb := hb.step hbn
  clear hbn
  rw [hgP]
  have szP := alloc_size hgP (.cells #[.int .i64 r, .int .i64 p] 36)
  generalize (w).alloc (.cells #[.int .i64 r, .int .i64 p] 36) = w1 at *
  obtain ⟨gX, hgX⟩ : ∃ g, (w1).heap.size = g := ⟨_, rfl⟩
  have lt_P_X := P.lt
  rw [hgX] at lt_P_X
  have X := Blk.newV hgX 39 #[.int .i64 ar, .int .i64 ap, .int .i64 k, .int .i64 m, .int .i64 n, .string s]
  have hbn := (Below.refl (w1).heap.size w1).alloc (Nat.le_refl _) (.cells #[.int .i64 ar, .int .i64 ap, .int .i64 k, .int .i64 m, .int .i64 n, .string s] 39)
  replace hb := hb.step hbn
  replace P := P.step hbn
  clear hbn
  have egX : gP + 1 = gX := szP.symm.trans hgX
  rw [egX]
  clear szP
  generalize (w1).alloc (.cells #[.int .i64 ar, .int .i64 ap, .int .i64 k, .int .i64 m, .int .i64 n, .string s] 39) = w2 at *
  have P_0 := P.cell (j := 0) rfl
  have P_1 := P.cell (j := 1) rfl
  have X_0 := X.cell (j := 0) rfl
  have X_1 := X.cell (j := 1) rfl
  have X_2 := X.cell (j := 2) rfl
  have X_3 := X.cell (j := 3) rfl
  have X_4 := X.cell (j := 4) rfl
  have X_5 := X.cell (j := 5) rfl
  refine wp_scope_fwd 0 rfl ?_
  intro Q2 hR hG
  go_wp2_with fail
  refine (check_at c 0 H3.out _).mono ?_
  rintro e w3 ⟨rfl, hbn⟩
  replace hb := hb.step hbn
  replace P := P.step hbn
  replace P_0 := P.cell (j := 0) rfl
  replace P_1 := P.cell (j := 1) rfl
  replace X := X.step hbn
  replace X_0 := X.cell (j := 0) rfl
  replace X_1 := X.cell (j := 1) rfl
  replace X_2 := X.cell (j := 2) rfl
  replace X_3 := X.cell (j := 3) rfl
  replace X_4 := X.cell (j := 4) rfl
  replace X_5 := X.cell (j := 5) rfl
  clear hbn
  go_wp2_with fail
  refine (owner_at c sl o 0 HO.out HE.out _).mono ?_
  rintro e w4 ⟨rfl, hbn⟩
  replace hb := hb.step hbn
  replace P := P.step hbn
  replace P_0 := P.cell (j := 0) rfl
  replace P_1 := P.cell (j := 1) rfl
  replace X := X.step hbn
  replace X_0 := X.cell (j := 0) rfl
  replace X_1 := X.cell (j := 1) rfl
  replace X_2 := X.cell (j := 2) rfl
  replace X_3 := X.cell (j := 3) rfl
  replace X_4 := X.cell (j := 4) rfl
  replace X_5 := X.cell (j := 5) rfl
  clear hbn
  go_wp2_with fail
  refine (may_at c sl r p _ HM.out _).mono ?_
  rintro e w5 ⟨rfl, hbn⟩
  replace hb := hb.step hbn
  replace P := P.step hbn
  replace P_0 := P.cell (j := 0) rfl
  replace P_1 := P.cell (j := 1) rfl
  replace X := X.step hbn
  replace X_0 := X.cell (j := 0) rfl
  replace X_1 := X.cell (j := 1) rfl
  replace X_2 := X.cell (j := 2) rfl
  replace X_3 := X.cell (j := 3) rfl
  replace X_4 := X.cell (j := 4) rfl
  replace X_5 := X.cell (j := 5) rfl
  clear hbn
  go_upto_region 7 with fail
  clear P_0 P_1
  clear X_0 X_1 X_2 X_3 X_4 X_5
  have X_0 := extA_cell (X.cell (j := 0) rfl)
  have X_1 := extA_cell (X.cell (j := 1) rfl)
  have X_2 := extA_cell (X.cell (j := 2) rfl)
  have X_3 := extA_cell (X.cell (j := 3) rfl)
  have X_4 := extA_cell (X.cell (j := 4) rfl)
  have X_5 := extA_cell (X.cell (j := 5) rfl)
  refine wp_region_extB (by kernel_rfl) (by kernel_rfl) ?_
  repeat
    (first
      | go_big_quiet_skip
      | (go_big_quiet_want
         go_big_quiet_op
         first
           | go_big_quiet_on
           | (apply Exists.intro
              refine ⟨fun w' hC => ?_, ?_⟩
              · (first
                  | with_reducible rfl
                  | (go_at_call 49; refine (bnone_any _).mono ?_; rintro e w2 ⟨rfl, hb9⟩; exact ⟨rfl, extA_then hC hb9⟩)
                  | (go_simp; done)
                  | (go_simp; with_reducible rfl))
              go_big_quiet_on)))
  refine wpQuiet_nil ?_
  intro w6 hbn
  replace hb := hb.step hbn
  replace P := P.step hbn
  replace X := X.step hbn
  clear hbn
  clear X_0 X_1 X_2 X_3 X_4 X_5
  go_upto_region 9 with fail
  have P_0 := extA_cell (P.cell (j := 0) rfl)
  have P_1 := extA_cell (P.cell (j := 1) rfl)
  have X_0 := extA_cell (X.cell (j := 0) rfl)
  have X_1 := extA_cell (X.cell (j := 1) rfl)
  have X_2 := extA_cell (X.cell (j := 2) rfl)
  have X_3 := extA_cell (X.cell (j := 3) rfl)
  have X_4 := extA_cell (X.cell (j := 4) rfl)
  have X_5 := extA_cell (X.cell (j := 5) rfl)
  refine wp_region_head (C := ExtA w6) 13 (by kernel_rfl) (by decide) (by kernel_rfl) ⟨rfl, rfl, rfl, Nat.le_refl _, fun _ _ => rfl⟩ ?_
  simp only [List.take_succ_cons, List.take_zero]
  repeat
    (first
      | go_big_quiet_skip
      | (go_big_quiet_want
         go_big_quiet_op
         first
           | go_big_quiet_on
           | (apply Exists.intro
              refine ⟨fun w' hC => ?_, ?_⟩
              · (first
                  | with_reducible rfl
                  | (go_at_call 48; refine (cM _).mono ?_; rintro e w2 ⟨rfl, hb9⟩; exact ⟨rfl, extA_then hC hb9⟩) | (go_at_call 10; refine (cE _ (hT.step (hb.step hC).out)).mono ?_; rintro e w2 ⟨rfl, hb9⟩; exact ⟨rfl, extA_then hC hb9⟩) | (go_at_call 50; refine (cC _).mono ?_; rintro e w2 ⟨rfl, hb9⟩; exact ⟨rfl, extA_then hC hb9⟩)
                  | (go_simp; done)
                  | (go_simp; with_reducible rfl))
              go_big_quiet_on)))
  refine wpQuiet_nil ?_
  intro w7 hbn
  replace hb := hb.step hbn
  replace P := P.step hbn
  replace X := X.step hbn
  clear hbn
  clear P_0 P_1
  clear X_0 X_1 X_2 X_3 X_4 X_5
  change wpAny _ _ _ _ (2 + 1) _ _ _
  refine wpAny_ready (rs := [13]) (by kernel_rfl) (by simp) ?_
  refine AllReady.cons rfl (fun K hK => ?_) AllReady.nil
  go_simp
  obtain ⟨gB, hgB⟩ : ∃ g, (w7).heap.size = g := ⟨_, rfl⟩
  have lt_P_B := P.lt
  rw [hgB] at lt_P_B
  have lt_X_B := X.lt
  rw [hgB] at lt_X_B
  have B := Blk.newV hgB 4 #[.bool b1, .bool b2, .bool (decide (Q ≤ 0))]
  have hbn := (Below.refl (w7).heap.size w7).alloc (Nat.le_refl _) (.cells #[.bool b1, .bool b2, .bool (decide (Q ≤ 0))] 4)
  replace hb := hb.step hbn
  replace P := P.step hbn
  replace X := X.step hbn
  clear hbn
  rw [hgB]
  generalize (w7).alloc (.cells #[.bool b1, .bool b2, .bool (decide (Q ≤ 0))] 4) = w8 at *
  have cL := fun W h => allA_any gB [b1, b2, decide (Q ≤ 0)] 3 hLen (by omega) W h
  rw [hv] at cL
  refine hK _ _ ?_
  clear hK K
  refine wp_rest_quiet (ExtA w8) 14 _ rfl rfl (by kernel_rfl) (by kernel_rfl) (Below.refl _ _) ?_
  simp only [List.drop_succ_cons, List.drop_zero]
  repeat
    (first
      | go_big_quiet_skip
      | (go_big_quiet_want
         go_big_quiet_op
         first
           | go_big_quiet_on
           | (apply Exists.intro
              refine ⟨fun w' hC => ?_, ?_⟩
              · (first
                  | with_reducible rfl
                  | (go_at_call 28; refine (cL _ (B.step hC)).mono ?_; rintro e w2 ⟨rfl, rfl⟩; exact ⟨rfl, hC⟩)
                  | (go_simp; done)
                  | (go_simp; with_reducible rfl))
              go_big_quiet_on)))
  refine wpQuiet_nil ?_
  intro w9 hbn
  replace hb := hb.step hbn
  replace P := P.step hbn
  replace X := X.step hbn
  replace B := B.step hbn
  clear hbn
  have P_0 := P.cell (j := 0) rfl
  have P_1 := P.cell (j := 1) rfl
  have X_0 := X.cell (j := 0) rfl
  have X_1 := X.cell (j := 1) rfl
  have X_2 := X.cell (j := 2) rfl
  have X_3 := X.cell (j := 3) rfl
  have X_4 := X.cell (j := 4) rfl
  have X_5 := X.cell (j := 5) rfl
  go_wp2
  refine hR.out _ _ ?_
  go_ret2
  exact ⟨⟨_, rfl, Blk.newV rfl _ #[.int .i64 r, .int .i64 p, .int .i64 ar, .int .i64 ap, .int .i64 k, .int .i64 m, .int .i64 n, .string s, .int .i64 c, .int .i64 sl], hb.size⟩, hb.step ((Below.refl _ _).alloc (Nat.le_refl _) _)⟩
end Go.Proofs.YtcokbljlgbcpkaaDoor
