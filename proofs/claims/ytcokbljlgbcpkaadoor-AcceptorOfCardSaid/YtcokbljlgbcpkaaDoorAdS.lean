
/- Walk of AcceptorOf. -/
import Derived.Test.YtcokbljlgbcpkaaDoorAdR
namespace Go.Proofs.YtcokbljlgbcpkaaDoor
open Go.RowKit
def okB (c sl r p ar ap k m n : Int) (s : ByteArray) : Bool := mayB c sl r p && (if (ar == -1 && ap == 0) = true then emptB k m n s else mayB c sl ar ap && (entB k m n s && !lessB r p ar ap))
def ofEr (c sl r p ar ap k m n : Int) (s : ByteArray) : Int := if opErr c sl = 0 then (if okB c sl r p ar ap k m n s = true then 0 else 2) else opErr c sl
theorem all_three (r p ar ap : Int) (b1 b2 : Bool) : [b1, b2, decide (cmpI ar ap r p ≤ 0)].all id = (b1 && (b2 && !lessB r p ar ap)) := by
  rw [less_le]
  cases b1 <;> cases b2 <;> simp
theorem ba_nil {s : ByteArray} (h : s.toList = (⟨#[]⟩ : ByteArray).toList) : s = ⟨#[]⟩ := by
  obtain ⟨⟨l⟩⟩ := s
  have h2 : (⟨⟨l⟩⟩ : ByteArray).toList = l := by simp
  rw [h2] at h
  subst h
  simp
theorem emp_of {k m n : Int} {s : ByteArray} (h : emptB k m n s = true) : k = 0 ∧ m = 0 ∧ n = 0 ∧ s = ⟨#[]⟩ := by
  unfold emptB eq4 at h
  simp only [decide_eq_true_eq] at h
  exact ⟨h.1, h.2.1, h.2.2.1, ba_nil h.2.2.2⟩
theorem of14_no (c sl r p ar ap k m n : Int) (s : ByteArray) (E : Int) (w : World) (hs : s.size ≤ 9223372036854775807) (hT : Tabs w) (hE : ofEr c sl r p ar ap k m n s = E) (h0 : E ≠ 0) :
    Calls Tryd.prog 25 #[.int .i64 c, .int .i64 sl, .agg #[.int .i64 r, .int .i64 p], .agg #[.int .i64 ar, .int .i64 ap, .int .i64 k, .int .i64 m, .int .i64 n, .string s]] w
      fun e w' => e = .returned (.tuple #[.pointer none, .int .i64 E]) ∧ Below w.heap.size w w' := by
  unfold ofEr at hE
  by_cases h1 : opErr c sl = 0
  · rw [if_pos h1] at hE
    by_cases hok : okB c sl r p ar ap k m n s = true
    · rw [if_pos hok] at hE; exact absurd hE.symm h0
    rw [if_neg hok] at hE
    subst hE
    unfold okB at hok
    cases hM : mayB c sl r p
    · exact of14_may c sl r p ar ap k m n s w h1 hM
    rw [hM, Bool.true_and] at hok
    by_cases hn : (ar == -1 && ap == 0) = true
    · rw [if_pos hn] at hok
      have hn2 : ar = -1 ∧ ap = 0 := by simpa using hn
      exact of14_rest c sl r p ar ap k m n s w h1 hM hn2.1 hn2.2 (by simpa using hok)
    · rw [if_neg hn] at hok
      exact of14_not c sl r p ar ap k m n s w hs hT h1 hM (by simpa using hn) (by rw [all_three]; simpa using hok)
  · rw [if_neg h1] at hE
    have h2 := h1
    unfold opErr at h1 hE
    by_cases h3 : rightB c = true
    · by_cases h4 : slotB sl = true
      · simp [h3, h4] at h1
      · simp only [h3, h4, if_true] at hE
        exact of14_slot c sl r p ar ap k m n s w E h3 (by unfold opErr; simp [h3, h4, ← hE]) (by simpa using hE.symm)
    · simp only [h3] at hE
      exact of14_bad c sl r p ar ap k m n s w E (by simpa using h3) (by simpa using hE.symm)
theorem of_ok {c sl r p ar ap k m n : Int} {s : ByteArray} (hE : ofEr c sl r p ar ap k m n s = 0) : opErr c sl = 0 ∧ mayB c sl r p = true ∧
    ((ar = -1 ∧ ap = 0 ∧ emptB k m n s = true) ∨ ((ar == -1 && ap == 0) = false ∧ (mayB c sl ar ap && (entB k m n s && !lessB r p ar ap)) = true)) := by
  unfold ofEr at hE
  by_cases h1 : opErr c sl = 0
  · rw [if_pos h1] at hE
    by_cases hok : okB c sl r p ar ap k m n s = true
    · unfold okB at hok
      rw [Bool.and_eq_true] at hok
      refine ⟨h1, hok.1, ?_⟩
      by_cases hn : (ar == -1 && ap == 0) = true
      · rw [if_pos hn] at hok
        have hn2 : ar = -1 ∧ ap = 0 := by simpa using hn
        exact .inl ⟨hn2.1, hn2.2, hok.2⟩
      · rw [if_neg hn] at hok
        exact .inr ⟨by simpa using hn, hok.2⟩
    · rw [if_neg hok] at hE; cases hE
  · rw [if_neg h1] at hE; exact absurd hE h1
theorem of14_ok (c sl r p ar ap k m n : Int) (s : ByteArray) (w : World) (hs : s.size ≤ 9223372036854775807) (hT : Tabs w) (hE : ofEr c sl r p ar ap k m n s = 0) :
    Calls Tryd.prog 25 #[.int .i64 c, .int .i64 sl, .agg #[.int .i64 r, .int .i64 p], .agg #[.int .i64 ar, .int .i64 ap, .int .i64 k, .int .i64 m, .int .i64 n, .string s]] w
      fun e w' => (∃ g, e = .returned (.tuple #[.pointer (some ⟨g, 0, none⟩), .int .i64 0]) ∧ AW w' g ⟨r, p, ar, ap, k, m, n, s, c, sl⟩ ∧ w.heap.size ≤ g) ∧ Below w.heap.size w w' := by
  obtain ⟨h1, hM, ⟨hr, hp, he⟩ | ⟨hn, hv⟩⟩ := of_ok hE
  · exact of14_ok0 c sl r p ar ap k m n s w h1 hM hr hp he
  · exact of14_yes c sl r p ar ap k m n s w hs hT h1 hM hn (by rw [all_three]; exact hv)
theorem of_inv {c sl r p ar ap k m n : Int} {s : ByteArray} (hE : ofEr c sl r p ar ap k m n s = 0) : InvA ⟨r, p, ar, ap, k, m, n, s, c, sl⟩ := by
  obtain ⟨h1, hM, ⟨hr, hp, he⟩ | ⟨hn, hv⟩⟩ := of_ok hE
  · obtain ⟨rfl, rfl, rfl, rfl⟩ := emp_of he
    subst hr hp
    refine ⟨by have := own_mod h1; simp only; omega, fun _ => ⟨rfl, rfl, rfl, rfl, rfl⟩, fun k => ?_⟩
    unfold accH at k
    simp at k
  · simp only [Bool.and_eq_true, Bool.not_eq_true'] at hv
    refine ⟨by have := own_mod h1; simp only; omega, fun k => ?_, fun _ => hv.2.2⟩
    exfalso
    have := may_ge hv.1
    simp only at k
    omega
theorem refOf_no (c sl r p ar ap k m n : Int) (s : ByteArray) (E : Int) (w : World) (hs : s.size ≤ 9223372036854775807) (hE : ofEr c sl r p ar ap k m n s = E) (h0 : E ≠ 0) :
    Calls Tryd.prog 26 #[.int .i64 c, .int .i64 sl, .agg #[.int .i64 r, .int .i64 p], .agg #[.int .i64 ar, .int .i64 ap, .int .i64 k, .int .i64 m, .int .i64 n, .string s]] w
      fun e w' => e = .returned (.tuple #[.agg #[.int .i64 0, .int .i64 0, .int .i64 0, .int .i64 0, .int .i64 0, .int .i64 0, .int .i64 0, .int .i64 0, .int .i64 0, .string ⟨#[]⟩], .int .i64 E]) ∧ Below w.heap.size w w' := by
  unfold ofEr at hE
  by_cases h1 : opErr c sl = 0
  · rw [if_pos h1] at hE
    by_cases hok : okB c sl r p ar ap k m n s = true
    · rw [if_pos hok] at hE; exact absurd hE.symm h0
    rw [if_neg hok] at hE
    subst hE
    have hrs : rightB c = true ∧ slotB sl = true := ⟨(own_mod h1).2.2.2.2.2.1, (own_mod h1).2.2.2.2.2.2⟩
    unfold okB at hok
    cases hM : mayB c sl r p
    · exact refOf_may c sl r p ar ap k m n s w hrs.1 hrs.2 hM
    rw [hM, Bool.true_and] at hok
    by_cases hn : (ar == -1 && ap == 0) = true
    · rw [if_pos hn] at hok
      have hn2 : ar = -1 ∧ ap = 0 := by simpa using hn
      exact refOf_rest c sl r p ar ap k m n s w hrs.1 hrs.2 hM hn2.1 hn2.2 (by simpa using hok)
    · rw [if_neg hn] at hok
      exact refOf_not c sl r p ar ap k m n s w hs hrs.1 hrs.2 hM (by simpa using hn) (by simpa using hok)
  · rw [if_neg h1] at hE
    unfold opErr at hE
    by_cases h3 : rightB c = true
    · by_cases h4 : slotB sl = true
      · exfalso; apply h1; unfold opErr; simp [h3, h4]
      · simp only [h3, h4, if_true] at hE
        obtain rfl : 4 = E := by simpa using hE
        exact refOf_slot c sl r p ar ap k m n s w h3 (by simpa using h4)
    · simp only [h3] at hE
      obtain rfl : 2 = E := by simpa using hE
      exact refOf_right c sl r p ar ap k m n s w (by simpa using h3)
theorem refOf_ok (c sl r p ar ap k m n : Int) (s : ByteArray) (w : World) (hs : s.size ≤ 9223372036854775807) (hE : ofEr c sl r p ar ap k m n s = 0) :
    Calls Tryd.prog 26 #[.int .i64 c, .int .i64 sl, .agg #[.int .i64 r, .int .i64 p], .agg #[.int .i64 ar, .int .i64 ap, .int .i64 k, .int .i64 m, .int .i64 n, .string s]] w
      fun e w' => e = .returned (.tuple #[.agg #[.int .i64 c, .int .i64 sl, .int .i64 r, .int .i64 p, .int .i64 ar, .int .i64 ap, .int .i64 k, .int .i64 m, .int .i64 n, .string s], .int .i64 0]) ∧ Below w.heap.size w w' := by
  obtain ⟨h1, hM, ⟨hr, hp, he⟩ | ⟨hn, hv⟩⟩ := of_ok hE
  · exact refOf_ok0 c sl r p ar ap k m n s w (own_mod h1).2.2.2.2.2.1 (own_mod h1).2.2.2.2.2.2 hM hr hp he
  · exact refOf_yes c sl r p ar ap k m n s w hs (own_mod h1).2.2.2.2.2.1 (own_mod h1).2.2.2.2.2.2 hM hn hv
set_option maxRecDepth 100000 in
set_option maxHeartbeats 1000000 in
theorem of_long (c sl r p ar ap k m n : Int) (s : ByteArray) (l : List Ac) (ao : Option Addr) (cap : Nat) (w : World) (hT : Tabs w) (hss : s.size ≤ 9223372036854775807) (h0 : longB s = true) :
    Calls Tryd.prog 7 #[.int .i64 c, .int .i64 sl, .agg #[.int .i64 r, .int .i64 p], .agg #[.int .i64 ar, .int .i64 ap, .int .i64 k, .int .i64 m, .int .i64 n, .string s], .slice ao l.length cap] w fun e w' => e = .returned (.bool true) ∧ Below w.heap.size w w' := by
  have cL := fun W => long_any k m n s W hss
  rw [h0] at cL
  clear h0 hss
  have hb := From.refl w
  go_enter Tryd.func7, Tryd.ntmps7
  go_upto_region 1 with fail
  obtain ⟨gP, hgP⟩ : ∃ g, (w).heap.size = g := ⟨_, rfl⟩
  have P := Blk.newV hgP 36 #[.int .i64 r, .int .i64 p]
  have hbn := (Below.refl (w).heap.size w).alloc (Nat.le_refl _) (.cells #[.int .i64 r, .int .i64 p] 36)
  replace hb := hb.step hbn
  clear hbn
  rw [hgP]
  have szP := alloc_size hgP (.cells #[.int .i64 r, .int .i64 p] 36)
  generalize (w).alloc (.cells #[.int .i64 r, .int .i64 p] 36) = w1 at *
  obtain ⟨gX, hgX⟩ : ∃ g, (w1).heap.size = g := ⟨_, rfl⟩
  have lt_P_X := P.lt
  rw [hgX] at lt_P_X
  have X := Blk.newV hgX 39 #[.int .i64 ar, .int .i64 ap, .int .i64 k, .int .i64 m, .int .i64 n, .string s]
  have hbn := (Below.refl (w1).heap.size w1).alloc (Nat.le_refl _) (.cells #[.int .i64 ar, .int .i64 ap, .int .i64 k, .int .i64 m, .int .i64 n, .string s] 39)
  replace hb := hb.step hbn
  replace P := P.step hbn
  clear hbn
  have egX : gP + 1 = gX := szP.symm.trans hgX
  rw [egX]
  clear szP
  generalize (w1).alloc (.cells #[.int .i64 ar, .int .i64 ap, .int .i64 k, .int .i64 m, .int .i64 n, .string s] 39) = w2 at *
  have P_0 := P.cell (j := 0) rfl
  have P_1 := P.cell (j := 1) rfl
  have X_0 := X.cell (j := 0) rfl
  have X_1 := X.cell (j := 1) rfl
  have X_2 := X.cell (j := 2) rfl
  have X_3 := X.cell (j := 3) rfl
  have X_4 := X.cell (j := 4) rfl
  have X_5 := X.cell (j := 5) rfl
  go_wp2_with fail
  refine (cL _).mono ?_
  rintro e w3 ⟨rfl, hbn⟩
  replace hb := hb.step hbn
  replace P := P.step hbn
  replace P_0 := P.cell (j := 0) rfl
  replace P_1 := P.cell (j := 1) rfl
  replace X := X.step hbn
  replace X_0 := X.cell (j := 0) rfl
  replace X_1 := X.cell (j := 1) rfl
  replace X_2 := X.cell (j := 2) rfl
  replace X_3 := X.cell (j := 3) rfl
  replace X_4 := X.cell (j := 4) rfl
  replace X_5 := X.cell (j := 5) rfl
  clear hbn
  go_wp2_with fail
  refine (works14_any _ (hT.step hb.out)).mono ?_
  rintro e w4 ⟨rfl, hbn⟩
  replace hb := hb.step hbn
  replace P := P.step hbn
  replace P_0 := P.cell (j := 0) rfl
  replace P_1 := P.cell (j := 1) rfl
  replace X := X.step hbn
  replace X_0 := X.cell (j := 0) rfl
  replace X_1 := X.cell (j := 1) rfl
  replace X_2 := X.cell (j := 2) rfl
  replace X_3 := X.cell (j := 3) rfl
  replace X_4 := X.cell (j := 4) rfl
  replace X_5 := X.cell (j := 5) rfl
  clear hbn
  go_wp2
  go_ret
  exact ⟨rfl, hb⟩
set_option maxRecDepth 100000 in
set_option maxHeartbeats 1000000 in
theorem of_few (c sl r p ar ap k m n : Int) (s : ByteArray) (l : List Ac) (ao : Option Addr) (cap : Nat) (w : World) (hT : Tabs w) (hss : s.size ≤ 9223372036854775807) (hE : HasAc w ao l) (hl : l.length ≤ 9223372036854775807) (hs : ∀ e, e ∈ l → e.s.size ≤ 9223372036854775807) (h0 : longB s = false) (hf : fewB l 10 = false) :
    Calls Tryd.prog 7 #[.int .i64 c, .int .i64 sl, .agg #[.int .i64 r, .int .i64 p], .agg #[.int .i64 ar, .int .i64 ap, .int .i64 k, .int .i64 m, .int .i64 n, .string s], .slice ao l.length cap] w fun e w' => e = .returned (.bool true) ∧ Below w.heap.size w w' := by
  have cL := fun W => long_any k m n s W hss
  rw [h0] at cL
  have cF := fun W hE => few_any l ao cap 10 W hE hl hs
  rw [hf] at cF
  have HE := Lib.hid hE
  clear hE
  clear h0 hs hss hl hf
  have hb := From.refl w
  go_enter Tryd.func7, Tryd.ntmps7
  go_upto_region 1 with fail
  obtain ⟨gP, hgP⟩ : ∃ g, (w).heap.size = g := ⟨_, rfl⟩
  have P := Blk.newV hgP 36 #[.int .i64 r, .int .i64 p]
  have hbn := (Below.refl (w).heap.size w).alloc (Nat.le_refl _) (.cells #[.int .i64 r, .int .i64 p] 36)
  replace hb := hb.step hbn
  clear hbn
  rw [hgP]
  have szP := alloc_size hgP (.cells #[.int .i64 r, .int .i64 p] 36)
  generalize (w).alloc (.cells #[.int .i64 r, .int .i64 p] 36) = w1 at *
  obtain ⟨gX, hgX⟩ : ∃ g, (w1).heap.size = g := ⟨_, rfl⟩
  have lt_P_X := P.lt
  rw [hgX] at lt_P_X
  have X := Blk.newV hgX 39 #[.int .i64 ar, .int .i64 ap, .int .i64 k, .int .i64 m, .int .i64 n, .string s]
  have hbn := (Below.refl (w1).heap.size w1).alloc (Nat.le_refl _) (.cells #[.int .i64 ar, .int .i64 ap, .int .i64 k, .int .i64 m, .int .i64 n, .string s] 39)
  replace hb := hb.step hbn
  replace P := P.step hbn
  clear hbn
  have egX : gP + 1 = gX := szP.symm.trans hgX
  rw [egX]
  clear szP
  generalize (w1).alloc (.cells #[.int .i64 ar, .int .i64 ap, .int .i64 k, .int .i64 m, .int .i64 n, .string s] 39) = w2 at *
  have P_0 := P.cell (j := 0) rfl
  have P_1 := P.cell (j := 1) rfl
  have X_0 := X.cell (j := 0) rfl
  have X_1 := X.cell (j := 1) rfl
  have X_2 := X.cell (j := 2) rfl
  have X_3 := X.cell (j := 3) rfl
  have X_4 := X.cell (j := 4) rfl
  have X_5 := X.cell (j := 5) rfl
  go_wp2_with fail
  refine (cL _).mono ?_
  rintro e w3 ⟨rfl, hbn⟩
  replace hb := hb.step hbn
  replace P := P.step hbn
  replace P_0 := P.cell (j := 0) rfl
  replace P_1 := P.cell (j := 1) rfl
  replace X := X.step hbn
  replace X_0 := X.cell (j := 0) rfl
  replace X_1 := X.cell (j := 1) rfl
  replace X_2 := X.cell (j := 2) rfl
  replace X_3 := X.cell (j := 3) rfl
  replace X_4 := X.cell (j := 4) rfl
  replace X_5 := X.cell (j := 5) rfl
  clear hbn
  go_wp2_with fail
  refine (cF _ (HE.out.step hb.out)).mono ?_
  rintro e w4 ⟨rfl, hbn⟩
  replace hb := hb.step hbn
  replace P := P.step hbn
  replace P_0 := P.cell (j := 0) rfl
  replace P_1 := P.cell (j := 1) rfl
  replace X := X.step hbn
  replace X_0 := X.cell (j := 0) rfl
  replace X_1 := X.cell (j := 1) rfl
  replace X_2 := X.cell (j := 2) rfl
  replace X_3 := X.cell (j := 3) rfl
  replace X_4 := X.cell (j := 4) rfl
  replace X_5 := X.cell (j := 5) rfl
  clear hbn
  go_wp2_with fail
  refine (works14_any _ (hT.step hb.out)).mono ?_
  rintro e w5 ⟨rfl, hbn⟩
  replace hb := hb.step hbn
  replace P := P.step hbn
  replace P_0 := P.cell (j := 0) rfl
  replace P_1 := P.cell (j := 1) rfl
  replace X := X.step hbn
  replace X_0 := X.cell (j := 0) rfl
  replace X_1 := X.cell (j := 1) rfl
  replace X_2 := X.cell (j := 2) rfl
  replace X_3 := X.cell (j := 3) rfl
  replace X_4 := X.cell (j := 4) rfl
  replace X_5 := X.cell (j := 5) rfl
  clear hbn
  go_wp2
  go_ret
  exact ⟨rfl, hb⟩
set_option maxRecDepth 100000 in
set_option maxHeartbeats 2000000 in
theorem of_no (c sl r p ar ap k m n : Int) (s : ByteArray) (l : List Ac) (ao : Option Addr) (cap : Nat) (w : World) (hT : Tabs w) (hss : s.size ≤ 9223372036854775807) (hE : HasAc w ao l) (hl : l.length ≤ 9223372036854775807) (hs : ∀ e, e ∈ l → e.s.size ≤ 9223372036854775807) (h0 : longB s = false) (hf : fewB l 10 = true) (E : Int) (hEr : ofEr c sl r p ar ap k m n s = E) (h1 : E ≠ 0) :
    Calls Tryd.prog 7 #[.int .i64 c, .int .i64 sl, .agg #[.int .i64 r, .int .i64 p], .agg #[.int .i64 ar, .int .i64 ap, .int .i64 k, .int .i64 m, .int .i64 n, .string s], .slice ao l.length cap] w fun e w' => e = .returned (.bool true) ∧ Below w.heap.size w w' := by
  have cO := fun W hT => of14_no c sl r p ar ap k m n s E W hss hT hEr h1
  have cR := fun W => refOf_no c sl r p ar ap k m n s E W hss hEr h1
  have hd : (E != 0) = true := by simpa using h1
  have HEr := Lib.hid hEr
  clear hEr
  have cL := fun W => long_any k m n s W hss
  rw [h0] at cL
  have cF := fun W hE => few_any l ao cap 10 W hE hl hs
  rw [hf] at cF
  obtain ⟨N, hN⟩ : ∃ N, l.length = N := ⟨_, rfl⟩
  have hNI : (N : Int) ≤ 9223372036854775807 := by omega
  rw [hN] at cF ⊢
  have HE := Lib.hid hE
  clear hE
  have HS := Lib.hid hs
  clear hs
  clear h0 hf
  have hb := From.refl w
  go_enter Tryd.func7, Tryd.ntmps7
  go_upto_region 1 with fail
  obtain ⟨gP, hgP⟩ : ∃ g, (w).heap.size = g := ⟨_, rfl⟩
  have P := Blk.newV hgP 36 #[.int .i64 r, .int .i64 p]
  have hbn := (Below.refl (w).heap.size w).alloc (Nat.le_refl _) (.cells #[.int .i64 r, .int .i64 p] 36)
  replace hb := hb.step hbn
  clear hbn
  rw [hgP]
  have szP := alloc_size hgP (.cells #[.int .i64 r, .int .i64 p] 36)
  generalize (w).alloc (.cells #[.int .i64 r, .int .i64 p] 36) = w1 at *
  obtain ⟨gX, hgX⟩ : ∃ g, (w1).heap.size = g := ⟨_, rfl⟩
  have lt_P_X := P.lt
  rw [hgX] at lt_P_X
  have X := Blk.newV hgX 39 #[.int .i64 ar, .int .i64 ap, .int .i64 k, .int .i64 m, .int .i64 n, .string s]
  have hbn := (Below.refl (w1).heap.size w1).alloc (Nat.le_refl _) (.cells #[.int .i64 ar, .int .i64 ap, .int .i64 k, .int .i64 m, .int .i64 n, .string s] 39)
  replace hb := hb.step hbn
  replace P := P.step hbn
  clear hbn
  have egX : gP + 1 = gX := szP.symm.trans hgX
  rw [egX]
  clear szP
  generalize (w1).alloc (.cells #[.int .i64 ar, .int .i64 ap, .int .i64 k, .int .i64 m, .int .i64 n, .string s] 39) = w2 at *
  have P_0 := P.cell (j := 0) rfl
  have P_1 := P.cell (j := 1) rfl
  have X_0 := X.cell (j := 0) rfl
  have X_1 := X.cell (j := 1) rfl
  have X_2 := X.cell (j := 2) rfl
  have X_3 := X.cell (j := 3) rfl
  have X_4 := X.cell (j := 4) rfl
  have X_5 := X.cell (j := 5) rfl
  go_wp2_with fail
  refine (cL _).mono ?_
  rintro e w3 ⟨rfl, hbn⟩
  replace hb := hb.step hbn
  replace P := P.step hbn
  replace P_0 := P.cell (j := 0) rfl
  replace P_1 := P.cell (j := 1) rfl
  replace X := X.step hbn
  replace X_0 := X.cell (j := 0) rfl
  replace X_1 := X.cell (j := 1) rfl
  replace X_2 := X.cell (j := 2) rfl
  replace X_3 := X.cell (j := 3) rfl
  replace X_4 := X.cell (j := 4) rfl
  replace X_5 := X.cell (j := 5) rfl
  clear hbn
  go_wp2_with fail
  refine (cF _ (HE.out.step hb.out)).mono ?_
  rintro e w4 ⟨rfl, hbn⟩
  replace hb := hb.step hbn
  replace P := P.step hbn
  replace P_0 := P.cell (j := 0) rfl
  replace P_1 := P.cell (j := 1) rfl
  replace X := X.step hbn
  replace X_0 := X.cell (j := 0) rfl
  replace X_1 := X.cell (j := 1) rfl
  replace X_2 := X.cell (j := 2) rfl
  replace X_3 := X.cell (j := 3) rfl
  replace X_4 := X.cell (j := 4) rfl
  replace X_5 := X.cell (j := 5) rfl
  clear hbn
  go_wp2_with fail
  refine (cO _ (hT.step hb.out)).mono ?_
  rintro e w5 ⟨rfl, hbn⟩
  replace hb := hb.step hbn
  replace P := P.step hbn
  replace P_0 := P.cell (j := 0) rfl
  replace P_1 := P.cell (j := 1) rfl
  replace X := X.step hbn
  replace X_0 := X.cell (j := 0) rfl
  replace X_1 := X.cell (j := 1) rfl
  replace X_2 := X.cell (j := 2) rfl
  replace X_3 := X.cell (j := 3) rfl
  replace X_4 := X.cell (j := 4) rfl
  replace X_5 := X.cell (j := 5) rfl
  clear hbn
  go_wp2_with fail
  refine (cR _).mono ?_
  rintro e w6 ⟨rfl, hbn⟩
  replace hb := hb.step hbn
  replace P := P.step hbn
  replace P_0 := P.cell (j := 0) rfl
  replace P_1 := P.cell (j := 1) rfl
  replace X := X.step hbn
  replace X_0 := X.cell (j := 0) rfl
  replace X_1 := X.cell (j := 1) rfl
  replace X_2 := X.cell (j := 2) rfl
  replace X_3 := X.cell (j := 3) rfl
  replace X_4 := X.cell (j := 4) rfl
  replace X_5 := X.cell (j := 5) rfl
  clear hbn
  go_upto_region 5 with fail
  obtain ⟨gR, hgR⟩ : ∃ g, (w6).heap.size = g := ⟨_, rfl⟩
  have lt_P_R := P.lt
  rw [hgR] at lt_P_R
  have lt_X_R := X.lt
  rw [hgR] at lt_X_R
  have R := Blk.newV hgR 51 #[.int .i64 0, .int .i64 0, .int .i64 0, .int .i64 0, .int .i64 0, .int .i64 0, .int .i64 0, .int .i64 0, .int .i64 0, .string ⟨#[]⟩]
  have hbn := (Below.refl (w6).heap.size w6).alloc (Nat.le_refl _) (.cells #[.int .i64 0, .int .i64 0, .int .i64 0, .int .i64 0, .int .i64 0, .int .i64 0, .int .i64 0, .int .i64 0, .int .i64 0, .string ⟨#[]⟩] 51)
  replace hb := hb.step hbn
  replace P := P.step hbn
  replace P_0 := P.cell (j := 0) rfl
  replace P_1 := P.cell (j := 1) rfl
  replace X := X.step hbn
  replace X_0 := X.cell (j := 0) rfl
  replace X_1 := X.cell (j := 1) rfl
  replace X_2 := X.cell (j := 2) rfl
  replace X_3 := X.cell (j := 3) rfl
  replace X_4 := X.cell (j := 4) rfl
  replace X_5 := X.cell (j := 5) rfl
  clear hbn
  rw [hgR]
  generalize (w6).alloc (.cells #[.int .i64 0, .int .i64 0, .int .i64 0, .int .i64 0, .int .i64 0, .int .i64 0, .int .i64 0, .int .i64 0, .int .i64 0, .string ⟨#[]⟩] 51) = w7 at *
  go_wp2_with fail
  refine (num14_any _ _).mono ?_
  rintro e w8 ⟨rfl, rfl⟩
  go_wp2_with fail
  refine (works14_any _ (hT.step hb.out)).mono ?_
  rintro e w9 ⟨rfl, hbn⟩
  replace hb := hb.step hbn
  replace P := P.step hbn
  replace P_0 := P.cell (j := 0) rfl
  replace P_1 := P.cell (j := 1) rfl
  replace X := X.step hbn
  replace X_0 := X.cell (j := 0) rfl
  replace X_1 := X.cell (j := 1) rfl
  replace X_2 := X.cell (j := 2) rfl
  replace X_3 := X.cell (j := 3) rfl
  replace X_4 := X.cell (j := 4) rfl
  replace X_5 := X.cell (j := 5) rfl
  replace R := R.step hbn
  clear hbn
  go_wp2
  go_ret
  exact ⟨rfl, hb⟩
set_option maxRecDepth 100000 in
set_option maxHeartbeats 8000000 in
theorem of_yes (c sl r p ar ap k m n : Int) (s : ByteArray) (l : List Ac) (ao : Option Addr) (cap : Nat) (w : World) (hT : Tabs w) (hss : s.size ≤ 9223372036854775807) (hE : HasAc w ao l) (hl : l.length ≤ 9223372036854775807) (hs : ∀ e, e ∈ l → e.s.size ≤ 9223372036854775807) (h0 : longB s = false) (hf : fewB l 10 = true) (hEr : ofEr c sl r p ar ap k m n s = 0) :
    Calls Tryd.prog 7 #[.int .i64 c, .int .i64 sl, .agg #[.int .i64 r, .int .i64 p], .agg #[.int .i64 ar, .int .i64 ap, .int .i64 k, .int .i64 m, .int .i64 n, .string s], .slice ao l.length cap] w fun e w' => e = .returned (.bool true) ∧ Below w.heap.size w w' := by
  have cO := fun W hT => of14_ok c sl r p ar ap k m n s W hss hT hEr
  have cR := fun W => refOf_ok c sl r p ar ap k m n s W hss hEr
  have hI0 := of_inv hEr
  have HEr := Lib.hid hEr
  clear hEr
  have cL := fun W => long_any k m n s W hss
  rw [h0] at cL
  have cF := fun W hE => few_any l ao cap 10 W hE hl hs
  rw [hf] at cF
  obtain ⟨N, hN⟩ : ∃ N, l.length = N := ⟨_, rfl⟩
  have hNI : (N : Int) ≤ 9223372036854775807 := by omega
  rw [hN] at cF ⊢
  have HE := Lib.hid hE
  clear hE
  have HS := Lib.hid hs
  clear hs
  clear h0 hf
  have hb := From.refl w
  go_enter Tryd.func7, Tryd.ntmps7
  go_upto_region 1 with fail
  obtain ⟨gP, hgP⟩ : ∃ g, (w).heap.size = g := ⟨_, rfl⟩
  have P := Blk.newV hgP 36 #[.int .i64 r, .int .i64 p]
  have hbn := (Below.refl (w).heap.size w).alloc (Nat.le_refl _) (.cells #[.int .i64 r, .int .i64 p] 36)
  replace hb := hb.step hbn
  clear hbn
  rw [hgP]
  have szP := alloc_size hgP (.cells #[.int .i64 r, .int .i64 p] 36)
  generalize (w).alloc (.cells #[.int .i64 r, .int .i64 p] 36) = w1 at *
  obtain ⟨gX, hgX⟩ : ∃ g, (w1).heap.size = g := ⟨_, rfl⟩
  have lt_P_X := P.lt
  rw [hgX] at lt_P_X
  have X := Blk.newV hgX 39 #[.int .i64 ar, .int .i64 ap, .int .i64 k, .int .i64 m, .int .i64 n, .string s]
  have hbn := (Below.refl (w1).heap.size w1).alloc (Nat.le_refl _) (.cells #[.int .i64 ar, .int .i64 ap, .int .i64 k, .int .i64 m, .int .i64 n, .string s] 39)
  replace hb := hb.step hbn
  replace P := P.step hbn
  clear hbn
  have egX : gP + 1 = gX := szP.symm.trans hgX
  rw [egX]
  clear szP
  generalize (w1).alloc (.cells #[.int .i64 ar, .int .i64 ap, .int .i64 k, .int .i64 m, .int .i64 n, .string s] 39) = w2 at *
  have P_0 := P.cell (j := 0) rfl
  have P_1 := P.cell (j := 1) rfl
  have X_0 := X.cell (j := 0) rfl
  have X_1 := X.cell (j := 1) rfl
  have X_2 := X.cell (j := 2) rfl
  have X_3 := X.cell (j := 3) rfl
  have X_4 := X.cell (j := 4) rfl
  have X_5 := X.cell (j := 5) rfl
  go_wp2_with fail
  refine (cL _).mono ?_
  rintro e w3 ⟨rfl, hbn⟩
  replace hb := hb.step hbn
  replace P := P.step hbn
  replace P_0 := P.cell (j := 0) rfl
  replace P_1 := P.cell (j := 1) rfl
  replace X := X.step hbn
  replace X_0 := X.cell (j := 0) rfl
  replace X_1 := X.cell (j := 1) rfl
  replace X_2 := X.cell (j := 2) rfl
  replace X_3 := X.cell (j := 3) rfl
  replace X_4 := X.cell (j := 4) rfl
  replace X_5 := X.cell (j := 5) rfl
  clear hbn
  go_wp2_with fail
  refine (cF _ (HE.out.step hb.out)).mono ?_
  rintro e w4 ⟨rfl, hbn⟩
  replace hb := hb.step hbn
  replace P := P.step hbn
  replace P_0 := P.cell (j := 0) rfl
  replace P_1 := P.cell (j := 1) rfl
  replace X := X.step hbn
  replace X_0 := X.cell (j := 0) rfl
  replace X_1 := X.cell (j := 1) rfl
  replace X_2 := X.cell (j := 2) rfl
  replace X_3 := X.cell (j := 3) rfl
  replace X_4 := X.cell (j := 4) rfl
  replace X_5 := X.cell (j := 5) rfl
  clear hbn
  go_wp2_with fail
  refine (cO _ (hT.step hb.out)).mono ?_
  rintro e w5 ⟨⟨g, rfl, hA, hg⟩, hbn⟩
  have hgw : w.heap.size ≤ g := Nat.le_trans hb.size hg
  replace hb := hb.step hbn
  replace P := P.step hbn
  replace P_0 := P.cell (j := 0) rfl
  replace P_1 := P.cell (j := 1) rfl
  replace X := X.step hbn
  replace X_0 := X.cell (j := 0) rfl
  replace X_1 := X.cell (j := 1) rfl
  replace X_2 := X.cell (j := 2) rfl
  replace X_3 := X.cell (j := 3) rfl
  replace X_4 := X.cell (j := 4) rfl
  replace X_5 := X.cell (j := 5) rfl
  clear hbn hg
  go_wp2_with fail
  refine (cR _).mono ?_
  rintro e w6 ⟨rfl, hbn⟩
  replace hb := hb.step hbn
  replace hA := hA.step hbn
  replace P := P.step hbn
  replace P_0 := P.cell (j := 0) rfl
  replace P_1 := P.cell (j := 1) rfl
  replace X := X.step hbn
  replace X_0 := X.cell (j := 0) rfl
  replace X_1 := X.cell (j := 1) rfl
  replace X_2 := X.cell (j := 2) rfl
  replace X_3 := X.cell (j := 3) rfl
  replace X_4 := X.cell (j := 4) rfl
  replace X_5 := X.cell (j := 5) rfl
  clear hbn
  go_upto_region 5 with fail
  clear P_0 P_1
  clear X_0 X_1 X_2 X_3 X_4 X_5
  clear P X
  obtain ⟨gR, hgR⟩ : ∃ g, (w6).heap.size = g := ⟨_, rfl⟩
  have lt_hA_R := hA.lt
  rw [hgR] at lt_hA_R
  have R := Blk.newV hgR 51 #[.int .i64 c, .int .i64 sl, .int .i64 r, .int .i64 p, .int .i64 ar, .int .i64 ap, .int .i64 k, .int .i64 m, .int .i64 n, .string s]
  have hbn := (Below.refl (w6).heap.size w6).alloc (Nat.le_refl _) (.cells #[.int .i64 c, .int .i64 sl, .int .i64 r, .int .i64 p, .int .i64 ar, .int .i64 ap, .int .i64 k, .int .i64 m, .int .i64 n, .string s] 51)
  replace hb := hb.step hbn
  replace hA := hA.step hbn
  clear hbn
  rw [hgR]
  generalize (w6).alloc (.cells #[.int .i64 c, .int .i64 sl, .int .i64 r, .int .i64 p, .int .i64 ar, .int .i64 ap, .int .i64 k, .int .i64 m, .int .i64 n, .string s] 51) = w7 at *
  have R_0 := R.cell (j := 0) rfl
  have R_1 := R.cell (j := 1) rfl
  have R_2 := R.cell (j := 2) rfl
  have R_3 := R.cell (j := 3) rfl
  have R_4 := R.cell (j := 4) rfl
  have R_5 := R.cell (j := 5) rfl
  have R_6 := R.cell (j := 6) rfl
  have R_7 := R.cell (j := 7) rfl
  have R_8 := R.cell (j := 8) rfl
  have R_9 := R.cell (j := 9) rfl
  go_wp2_with fail
  refine (num14_any _ _).mono ?_
  rintro e w8 ⟨rfl, rfl⟩
  go_wp2_with fail
  refine (is14_any g _ _ hA hI0.c hI0.good).mono ?_
  rintro e w9 ⟨rfl, hbn⟩
  replace hb := hb.step hbn
  replace hA := hA.step hbn
  replace R := R.step hbn
  replace R_0 := R.cell (j := 0) rfl
  replace R_1 := R.cell (j := 1) rfl
  replace R_2 := R.cell (j := 2) rfl
  replace R_3 := R.cell (j := 3) rfl
  replace R_4 := R.cell (j := 4) rfl
  replace R_5 := R.cell (j := 5) rfl
  replace R_6 := R.cell (j := 6) rfl
  replace R_7 := R.cell (j := 7) rfl
  replace R_8 := R.cell (j := 8) rfl
  replace R_9 := R.cell (j := 9) rfl
  clear hbn
  have hgX : g < gR := by omega
  have hXB : w.heap.size ≤ gR := by omega
  obtain ⟨B, hB⟩ : ∃ B, w.heap.size = B := ⟨_, rfl⟩
  clear cO cR cL cF
  go_upto_region 10 with fail
  go_loopw [15] (fun i wr => ∃ (j : Nat) (A : Acc), i = .int .i64 j ∧ j ≤ N ∧ AW wr g A ∧ InvA A ∧ Blk wr gR 51 (refL A) ∧ From w wr) (fun i _ => N - (intOf i).toNat)
  case atStart => exact ⟨0, _, rfl, by omega, hA, hI0, R, hb⟩
  case round =>
    clear R_0 R_1 R_2 R_3 R_4 R_5 R_6 R_7 R_8 R_9
    clear hA hI0 R hb
    obtain ⟨j, A, rfl, hj, hA, hI, X, hb⟩ := hrel
    by_cases hlt : j < N
    · obtain ⟨e, he⟩ : ∃ e, l[j]? = some e := ⟨l[j], by simp [hN, hlt]⟩
      have hQ := (HE.out.step hb.out) j e he
      obtain ⟨b, off, rfl, hQ⟩ := hQ
      have hbB : b < B := by
        obtain ⟨b', off', h1, h2⟩ := HE.out j e he
        cases h1
        exact hB ▸ World.block_lt_of_cell? w _ h2.h0
      have hj0 : (0 : Int) ≤ (j : Int) := by omega
      have hj1 : (j : Int) < (N : Int) := by omega
      have hse := HS.out e (List.mem_of_getElem? he)
      have cA := fun W (hW : From w W) (hA : AW W g A) => act14_any g A e W hA hI.c (hT.step hW.out) hse
      have hI2 := act_inv hI e
      unfold actP at cA
      generalize actA A e = A2 at *
      obtain ⟨ew, ex, ey, ek, em, en, es⟩ := e
      unfold refV acVal at cA
      unfold refL at X
      simp only at cA
      have hbg : b ∉ [g] := by simp; omega
      have hXg : gR ∉ [g] := by simp; omega
      have X_0 := kx_all (X.cell (j := 0) rfl) hXg
      have X_1 := kx_all (X.cell (j := 1) rfl) hXg
      have X_2 := kx_all (X.cell (j := 2) rfl) hXg
      have X_3 := kx_all (X.cell (j := 3) rfl) hXg
      have X_4 := kx_all (X.cell (j := 4) rfl) hXg
      have X_5 := kx_all (X.cell (j := 5) rfl) hXg
      have X_6 := kx_all (X.cell (j := 6) rfl) hXg
      have X_7 := kx_all (X.cell (j := 7) rfl) hXg
      have X_8 := kx_all (X.cell (j := 8) rfl) hXg
      have X_9 := kx_all (X.cell (j := 9) rfl) hXg
      have q0 := kx_all hQ.h0 hbg
      have q1 := kx_all hQ.h1 hbg
      have q2 := kx_all hQ.h2 hbg
      have q3 := kx_all hQ.h3 hbg
      have q4 := kx_all hQ.h4 hbg
      have q5 := kx_all hQ.h5 hbg
      have q6 := kx_all hQ.h6 hbg
      simp only at q0 q1 q2 q3 q4 q5 q6
      clear hQ he HS HE
      go_upto_region 12 with fail
      have hgr := hA.lt
      go_cut [16, 17] from 65 to 89 (fun v16 v17 wx => ∃ gt, v16 = .pointer (some ⟨gt, 0, none⟩) ∧ v17 = .bool true ∧ wr.heap.size ≤ gt ∧ Blk wx gt 51 (refL A2) ∧ AW wx g A2 ∧ Kx [g] wr wx)
      case first =>
        refine wp_region_held (S := Kx [g] wr) (by kernel_rfl) ?_
        have hst : Below (wr).heap.size wr { wr with drawn := (wr).drawn + 1 } := ⟨rfl, rfl, rfl, Nat.le_refl _, fun _ _ => rfl⟩
        have hS : (Kx [g] wr) { wr with drawn := (wr).drawn + 1 } := by first | exact ⟨rfl, rfl, rfl, Nat.le_refl _, fun _ _ _ => rfl⟩ | exact ⟨rfl, rfl, rfl, Nat.le_refl _, fun _ _ => rfl⟩
        have hAq := hA.step hst
        have hbq := hb.step hst
        clear hst
        generalize ({ wr with drawn := (wr).drawn + 1 } : World) = wq at *
        refine wpAnyH_take (i := 0) (v := ?_) rfl (by kernel_rfl) (by kernel_rfl) (by kernel_rfl) (fun _ _ _ h => h) (Or.inl ⟨by kernel_rfl, ?_⟩) hS ?_
        rotate_left
        · intro W hSW
          have y0 := X_0 _ hSW
          have y1 := X_1 _ hSW
          have y2 := X_2 _ hSW
          have y3 := X_3 _ hSW
          have y4 := X_4 _ hSW
          have y5 := X_5 _ hSW
          have y6 := X_6 _ hSW
          have y7 := X_7 _ hSW
          have y8 := X_8 _ hSW
          have y9 := X_9 _ hSW
          have y10 := q0 _ hSW
          have y11 := q1 _ hSW
          have y12 := q2 _ hSW
          have y13 := q3 _ hSW
          have y14 := q4 _ hSW
          have y15 := q5 _ hSW
          have y16 := q6 _ hSW
          go_simp
          try with_reducible rfl
        dsimp only [Act.put]
        refine wpAnyH_take (i := 1) (v := ?_) rfl (by kernel_rfl) (by kernel_rfl) (by kernel_rfl) (fun _ _ _ h => h) (Or.inl ⟨by kernel_rfl, ?_⟩) hS ?_
        rotate_left
        · intro W hSW
          have y0 := X_0 _ hSW
          have y1 := X_1 _ hSW
          have y2 := X_2 _ hSW
          have y3 := X_3 _ hSW
          have y4 := X_4 _ hSW
          have y5 := X_5 _ hSW
          have y6 := X_6 _ hSW
          have y7 := X_7 _ hSW
          have y8 := X_8 _ hSW
          have y9 := X_9 _ hSW
          have y10 := q0 _ hSW
          have y11 := q1 _ hSW
          have y12 := q2 _ hSW
          have y13 := q3 _ hSW
          have y14 := q4 _ hSW
          have y15 := q5 _ hSW
          have y16 := q6 _ hSW
          go_simp
          try with_reducible rfl
        dsimp only [Act.put]
        refine wpAnyH_take (i := 2) (v := ?_) rfl (by kernel_rfl) (by kernel_rfl) (by kernel_rfl) (fun _ _ _ h => h) (Or.inl ⟨by kernel_rfl, ?_⟩) hS ?_
        rotate_left
        · intro W hSW
          have y0 := X_0 _ hSW
          have y1 := X_1 _ hSW
          have y2 := X_2 _ hSW
          have y3 := X_3 _ hSW
          have y4 := X_4 _ hSW
          have y5 := X_5 _ hSW
          have y6 := X_6 _ hSW
          have y7 := X_7 _ hSW
          have y8 := X_8 _ hSW
          have y9 := X_9 _ hSW
          have y10 := q0 _ hSW
          have y11 := q1 _ hSW
          have y12 := q2 _ hSW
          have y13 := q3 _ hSW
          have y14 := q4 _ hSW
          have y15 := q5 _ hSW
          have y16 := q6 _ hSW
          go_simp
          try with_reducible rfl
        dsimp only [Act.put]
        refine wpAnyH_take (i := 3) (v := ?_) rfl (by kernel_rfl) (by kernel_rfl) (by kernel_rfl) (fun _ _ _ h => h) (Or.inl ⟨by kernel_rfl, ?_⟩) hS ?_
        rotate_left
        · intro W hSW
          have y0 := X_0 _ hSW
          have y1 := X_1 _ hSW
          have y2 := X_2 _ hSW
          have y3 := X_3 _ hSW
          have y4 := X_4 _ hSW
          have y5 := X_5 _ hSW
          have y6 := X_6 _ hSW
          have y7 := X_7 _ hSW
          have y8 := X_8 _ hSW
          have y9 := X_9 _ hSW
          have y10 := q0 _ hSW
          have y11 := q1 _ hSW
          have y12 := q2 _ hSW
          have y13 := q3 _ hSW
          have y14 := q4 _ hSW
          have y15 := q5 _ hSW
          have y16 := q6 _ hSW
          go_simp
          try with_reducible rfl
        dsimp only [Act.put]
        refine wpAnyH_take (i := 4) (v := ?_) rfl (by kernel_rfl) (by kernel_rfl) (by kernel_rfl) (fun _ _ _ h => h) (Or.inl ⟨by kernel_rfl, ?_⟩) hS ?_
        rotate_left
        · intro W hSW
          have y0 := X_0 _ hSW
          have y1 := X_1 _ hSW
          have y2 := X_2 _ hSW
          have y3 := X_3 _ hSW
          have y4 := X_4 _ hSW
          have y5 := X_5 _ hSW
          have y6 := X_6 _ hSW
          have y7 := X_7 _ hSW
          have y8 := X_8 _ hSW
          have y9 := X_9 _ hSW
          have y10 := q0 _ hSW
          have y11 := q1 _ hSW
          have y12 := q2 _ hSW
          have y13 := q3 _ hSW
          have y14 := q4 _ hSW
          have y15 := q5 _ hSW
          have y16 := q6 _ hSW
          go_simp
          try with_reducible rfl
        dsimp only [Act.put]
        refine wpAnyH_take (i := 5) (v := ?_) rfl (by kernel_rfl) (by kernel_rfl) (by kernel_rfl) (fun _ _ _ h => h) (Or.inl ⟨by kernel_rfl, ?_⟩) hS ?_
        rotate_left
        · intro W hSW
          have y0 := X_0 _ hSW
          have y1 := X_1 _ hSW
          have y2 := X_2 _ hSW
          have y3 := X_3 _ hSW
          have y4 := X_4 _ hSW
          have y5 := X_5 _ hSW
          have y6 := X_6 _ hSW
          have y7 := X_7 _ hSW
          have y8 := X_8 _ hSW
          have y9 := X_9 _ hSW
          have y10 := q0 _ hSW
          have y11 := q1 _ hSW
          have y12 := q2 _ hSW
          have y13 := q3 _ hSW
          have y14 := q4 _ hSW
          have y15 := q5 _ hSW
          have y16 := q6 _ hSW
          go_simp
          try with_reducible rfl
        dsimp only [Act.put]
        refine wpAnyH_ready (rs := [6, 10]) (by kernel_rfl) (by simp) ?_
        refine AllReadyH.cons rfl (fun K hK => ?_) (AllReadyH.cons rfl (fun K hK => ?_) AllReadyH.nil)
        ·
          go_simp
          refine (cA _ hbq hAq).mono ?_
          rintro e wz ⟨rfl, h7, hK7⟩
          refine hK.out _ _ (hS.trans hK7) (fun hS => ?_)
          clear hK K
          refine wpAnyH_take (i := 7) (v := ?_) rfl (by kernel_rfl) (by kernel_rfl) (by kernel_rfl) (fun _ _ _ h => h) (Or.inl ⟨by kernel_rfl, ?_⟩) hS ?_
          rotate_left
          · intro W hSW
            go_simp
            try with_reducible rfl
          dsimp only [Act.put]
          refine wpAnyH_take (i := 8) (v := ?_) rfl (by kernel_rfl) (by kernel_rfl) (by kernel_rfl) (fun _ _ _ h => h) (Or.inl ⟨by kernel_rfl, ?_⟩) hS ?_
          rotate_left
          · intro W hSW
            go_simp
            try with_reducible rfl
          dsimp only [Act.put]
          refine wpAnyH_take (i := 9) (v := ?_) rfl (by kernel_rfl) (by kernel_rfl) (by kernel_rfl) (fun _ _ _ h => h) (Or.inl ⟨by kernel_rfl, ?_⟩) hS ?_
          rotate_left
          · intro W hSW
            go_simp
            try with_reducible rfl
          dsimp only [Act.put]
          refine wpAnyH_ready (rs := [10]) (by kernel_rfl) (by simp) ?_
          refine AllReadyH.cons rfl (fun K hK => ?_) AllReadyH.nil
          go_simp
          obtain ⟨gt, hgt⟩ : ∃ gt, wz.heap.size = gt := ⟨_, rfl⟩
          have hle : wr.heap.size ≤ gt := by have := hS.size; omega
          have XT := Blk.newV hgt 51 #[.int .i64 0, .int .i64 0, .int .i64 0, .int .i64 0, .int .i64 0, .int .i64 0, .int .i64 0, .int .i64 0, .int .i64 0, .string ⟨#[]⟩]
          have hba := (Below.refl wz.heap.size wz).alloc (Nat.le_refl _) (.cells #[.int .i64 0, .int .i64 0, .int .i64 0, .int .i64 0, .int .i64 0, .int .i64 0, .int .i64 0, .int .i64 0, .int .i64 0, .string ⟨#[]⟩] 51)
          replace h7 := h7.step hba
          refine hK.out _ _ (hS.step hba) (fun hS => ?_)
          rw [hgt]
          generalize wz.alloc (.cells #[.int .i64 0, .int .i64 0, .int .i64 0, .int .i64 0, .int .i64 0, .int .i64 0, .int .i64 0, .int .i64 0, .int .i64 0, .string ⟨#[]⟩] 51) = wa at *
          clear hgt hba
          clear hK K
          clear X_0 X_1 X_2 X_3 X_4 X_5 X_6 X_7 X_8 X_9 q0 q1 q2 q3 q4 q5 q6
          have Z := XT
          have Z_0 := Z.cell (j := 0) rfl
          have Z_1 := Z.cell (j := 1) rfl
          have Z_2 := Z.cell (j := 2) rfl
          have Z_3 := Z.cell (j := 3) rfl
          have Z_4 := Z.cell (j := 4) rfl
          have Z_5 := Z.cell (j := 5) rfl
          have Z_6 := Z.cell (j := 6) rfl
          have Z_7 := Z.cell (j := 7) rfl
          have Z_8 := Z.cell (j := 8) rfl
          have Z_9 := Z.cell (j := 9) rfl
          have Zf0 := Z.frozen 0
          have Zf1 := Z.frozen 1
          have Zf2 := Z.frozen 2
          have Zf3 := Z.frozen 3
          have Zf4 := Z.frozen 4
          have Zf5 := Z.frozen 5
          have Zf6 := Z.frozen 6
          have Zf7 := Z.frozen 7
          have Zf8 := Z.frozen 8
          have Zf9 := Z.frozen 9
          refine wpAnyH_ready (rs := [11]) (by kernel_rfl) (by simp) ?_
          refine AllReadyH.cons rfl (fun K hK => ?_) AllReadyH.nil
          go_simp
          have hkn : Kx [gt] wa ((((((((((wa.setCell ⟨gt, 0, none⟩ (.int .i64 A2.c)).setCell ⟨gt, 1, none⟩ (.int .i64 A2.sl)).setCell ⟨gt, 2, none⟩ (.int .i64 A2.r)).setCell ⟨gt, 3, none⟩ (.int .i64 A2.p)).setCell ⟨gt, 4, none⟩ (.int .i64 A2.ar)).setCell ⟨gt, 5, none⟩ (.int .i64 A2.ap)).setCell ⟨gt, 6, none⟩ (.int .i64 A2.k)).setCell ⟨gt, 7, none⟩ (.int .i64 A2.m)).setCell ⟨gt, 8, none⟩ (.int .i64 A2.n)).setCell ⟨gt, 9, none⟩ (.string A2.s)) := Kx.setCells [.int .i64 A2.c, .int .i64 A2.sl, .int .i64 A2.r, .int .i64 A2.p, .int .i64 A2.ar, .int .i64 A2.ap, .int .i64 A2.k, .int .i64 A2.m, .int .i64 A2.n, .string A2.s] 0 _ (Kx.refl _ _) (.inl (by simp))
          replace XT : Blk ((((((((((wa.setCell ⟨gt, 0, none⟩ (.int .i64 A2.c)).setCell ⟨gt, 1, none⟩ (.int .i64 A2.sl)).setCell ⟨gt, 2, none⟩ (.int .i64 A2.r)).setCell ⟨gt, 3, none⟩ (.int .i64 A2.p)).setCell ⟨gt, 4, none⟩ (.int .i64 A2.ar)).setCell ⟨gt, 5, none⟩ (.int .i64 A2.ap)).setCell ⟨gt, 6, none⟩ (.int .i64 A2.k)).setCell ⟨gt, 7, none⟩ (.int .i64 A2.m)).setCell ⟨gt, 8, none⟩ (.int .i64 A2.n)).setCell ⟨gt, 9, none⟩ (.string A2.s)) gt 51 [.int .i64 A2.c, .int .i64 A2.sl, .int .i64 A2.r, .int .i64 A2.p, .int .i64 A2.ar, .int .i64 A2.ap, .int .i64 A2.k, .int .i64 A2.m, .int .i64 A2.n, .string A2.s] := Blk.puts [.int .i64 A2.c, .int .i64 A2.sl, .int .i64 A2.r, .int .i64 A2.p, .int .i64 A2.ar, .int .i64 A2.ap, .int .i64 A2.k, .int .i64 A2.m, .int .i64 A2.n, .string A2.s] XT rfl
          replace h7 := h7.kx hkn (by first | (simp; done) | (simp; omega))
          replace hS := hS.kx hkn (by first | (simp; done) | (simp; omega))
          clear hkn
          generalize (((((((((wa.setCell ⟨gt, 0, none⟩ (.int .i64 A2.c)).setCell ⟨gt, 1, none⟩ (.int .i64 A2.sl)).setCell ⟨gt, 2, none⟩ (.int .i64 A2.r)).setCell ⟨gt, 3, none⟩ (.int .i64 A2.p)).setCell ⟨gt, 4, none⟩ (.int .i64 A2.ar)).setCell ⟨gt, 5, none⟩ (.int .i64 A2.ap)).setCell ⟨gt, 6, none⟩ (.int .i64 A2.k)).setCell ⟨gt, 7, none⟩ (.int .i64 A2.m)).setCell ⟨gt, 8, none⟩ (.int .i64 A2.n)).setCell ⟨gt, 9, none⟩ (.string A2.s) = ws at *
          refine hK.out _ _ hS (fun hS => ?_)
          clear hK K
          refine wpAnyH_ready (rs := [12]) (by kernel_rfl) (by simp) ?_
          refine AllReadyH.cons rfl (fun K hK => ?_) AllReadyH.nil
          go_simp
          refine hK.out _ _ hS (fun hS => ?_)
          clear hK K
          refine wpAnyH_done (by kernel_rfl) ?_ _
          go_wp2_with fail
          go_meet
          exact ⟨gt, rfl, rfl, hle, XT, h7, hS⟩
        ·
          go_simp
          obtain ⟨gt, hgt⟩ : ∃ gt, wq.heap.size = gt := ⟨_, rfl⟩
          have hle : wr.heap.size ≤ gt := by have := hS.size; omega
          have XT := Blk.newV hgt 51 #[.int .i64 0, .int .i64 0, .int .i64 0, .int .i64 0, .int .i64 0, .int .i64 0, .int .i64 0, .int .i64 0, .int .i64 0, .string ⟨#[]⟩]
          have hba := (Below.refl wq.heap.size wq).alloc (Nat.le_refl _) (.cells #[.int .i64 0, .int .i64 0, .int .i64 0, .int .i64 0, .int .i64 0, .int .i64 0, .int .i64 0, .int .i64 0, .int .i64 0, .string ⟨#[]⟩] 51)
          replace hAq := hAq.step hba
          replace hbq := hbq.step hba
          refine hK.out _ _ (hS.step hba) (fun hS => ?_)
          rw [hgt]
          generalize wq.alloc (.cells #[.int .i64 0, .int .i64 0, .int .i64 0, .int .i64 0, .int .i64 0, .int .i64 0, .int .i64 0, .int .i64 0, .int .i64 0, .string ⟨#[]⟩] 51) = wa at *
          clear hgt hba
          clear hK K
          refine wpAnyH_ready (rs := [6]) (by kernel_rfl) (by simp) ?_
          refine AllReadyH.cons rfl (fun K hK => ?_) AllReadyH.nil
          go_simp
          refine (cA _ hbq hAq).mono ?_
          rintro e wz ⟨rfl, h7, hK7⟩
          replace XT := hK7.blk XT (by simp; omega)
          refine hK.out _ _ (hS.trans hK7) (fun hS => ?_)
          clear hK K
          refine wpAnyH_take (i := 7) (v := ?_) rfl (by kernel_rfl) (by kernel_rfl) (by kernel_rfl) (fun _ _ _ h => h) (Or.inl ⟨by kernel_rfl, ?_⟩) hS ?_
          rotate_left
          · intro W hSW
            go_simp
            try with_reducible rfl
          dsimp only [Act.put]
          refine wpAnyH_take (i := 8) (v := ?_) rfl (by kernel_rfl) (by kernel_rfl) (by kernel_rfl) (fun _ _ _ h => h) (Or.inl ⟨by kernel_rfl, ?_⟩) hS ?_
          rotate_left
          · intro W hSW
            go_simp
            try with_reducible rfl
          dsimp only [Act.put]
          refine wpAnyH_take (i := 9) (v := ?_) rfl (by kernel_rfl) (by kernel_rfl) (by kernel_rfl) (fun _ _ _ h => h) (Or.inl ⟨by kernel_rfl, ?_⟩) hS ?_
          rotate_left
          · intro W hSW
            go_simp
            try with_reducible rfl
          dsimp only [Act.put]
          clear X_0 X_1 X_2 X_3 X_4 X_5 X_6 X_7 X_8 X_9 q0 q1 q2 q3 q4 q5 q6
          have Z := XT
          have Z_0 := Z.cell (j := 0) rfl
          have Z_1 := Z.cell (j := 1) rfl
          have Z_2 := Z.cell (j := 2) rfl
          have Z_3 := Z.cell (j := 3) rfl
          have Z_4 := Z.cell (j := 4) rfl
          have Z_5 := Z.cell (j := 5) rfl
          have Z_6 := Z.cell (j := 6) rfl
          have Z_7 := Z.cell (j := 7) rfl
          have Z_8 := Z.cell (j := 8) rfl
          have Z_9 := Z.cell (j := 9) rfl
          have Zf0 := Z.frozen 0
          have Zf1 := Z.frozen 1
          have Zf2 := Z.frozen 2
          have Zf3 := Z.frozen 3
          have Zf4 := Z.frozen 4
          have Zf5 := Z.frozen 5
          have Zf6 := Z.frozen 6
          have Zf7 := Z.frozen 7
          have Zf8 := Z.frozen 8
          have Zf9 := Z.frozen 9
          refine wpAnyH_ready (rs := [11]) (by kernel_rfl) (by simp) ?_
          refine AllReadyH.cons rfl (fun K hK => ?_) AllReadyH.nil
          go_simp
          have hkn : Kx [gt] wz ((((((((((wz.setCell ⟨gt, 0, none⟩ (.int .i64 A2.c)).setCell ⟨gt, 1, none⟩ (.int .i64 A2.sl)).setCell ⟨gt, 2, none⟩ (.int .i64 A2.r)).setCell ⟨gt, 3, none⟩ (.int .i64 A2.p)).setCell ⟨gt, 4, none⟩ (.int .i64 A2.ar)).setCell ⟨gt, 5, none⟩ (.int .i64 A2.ap)).setCell ⟨gt, 6, none⟩ (.int .i64 A2.k)).setCell ⟨gt, 7, none⟩ (.int .i64 A2.m)).setCell ⟨gt, 8, none⟩ (.int .i64 A2.n)).setCell ⟨gt, 9, none⟩ (.string A2.s)) := Kx.setCells [.int .i64 A2.c, .int .i64 A2.sl, .int .i64 A2.r, .int .i64 A2.p, .int .i64 A2.ar, .int .i64 A2.ap, .int .i64 A2.k, .int .i64 A2.m, .int .i64 A2.n, .string A2.s] 0 _ (Kx.refl _ _) (.inl (by simp))
          replace XT : Blk ((((((((((wz.setCell ⟨gt, 0, none⟩ (.int .i64 A2.c)).setCell ⟨gt, 1, none⟩ (.int .i64 A2.sl)).setCell ⟨gt, 2, none⟩ (.int .i64 A2.r)).setCell ⟨gt, 3, none⟩ (.int .i64 A2.p)).setCell ⟨gt, 4, none⟩ (.int .i64 A2.ar)).setCell ⟨gt, 5, none⟩ (.int .i64 A2.ap)).setCell ⟨gt, 6, none⟩ (.int .i64 A2.k)).setCell ⟨gt, 7, none⟩ (.int .i64 A2.m)).setCell ⟨gt, 8, none⟩ (.int .i64 A2.n)).setCell ⟨gt, 9, none⟩ (.string A2.s)) gt 51 [.int .i64 A2.c, .int .i64 A2.sl, .int .i64 A2.r, .int .i64 A2.p, .int .i64 A2.ar, .int .i64 A2.ap, .int .i64 A2.k, .int .i64 A2.m, .int .i64 A2.n, .string A2.s] := Blk.puts [.int .i64 A2.c, .int .i64 A2.sl, .int .i64 A2.r, .int .i64 A2.p, .int .i64 A2.ar, .int .i64 A2.ap, .int .i64 A2.k, .int .i64 A2.m, .int .i64 A2.n, .string A2.s] XT rfl
          replace h7 := h7.kx hkn (by first | (simp; done) | (simp; omega))
          replace hS := hS.kx hkn (by first | (simp; done) | (simp; omega))
          clear hkn
          generalize (((((((((wz.setCell ⟨gt, 0, none⟩ (.int .i64 A2.c)).setCell ⟨gt, 1, none⟩ (.int .i64 A2.sl)).setCell ⟨gt, 2, none⟩ (.int .i64 A2.r)).setCell ⟨gt, 3, none⟩ (.int .i64 A2.p)).setCell ⟨gt, 4, none⟩ (.int .i64 A2.ar)).setCell ⟨gt, 5, none⟩ (.int .i64 A2.ap)).setCell ⟨gt, 6, none⟩ (.int .i64 A2.k)).setCell ⟨gt, 7, none⟩ (.int .i64 A2.m)).setCell ⟨gt, 8, none⟩ (.int .i64 A2.n)).setCell ⟨gt, 9, none⟩ (.string A2.s) = ws at *
          refine hK.out _ _ hS (fun hS => ?_)
          clear hK K
          refine wpAnyH_ready (rs := [12]) (by kernel_rfl) (by simp) ?_
          refine AllReadyH.cons rfl (fun K hK => ?_) AllReadyH.nil
          go_simp
          refine hK.out _ _ hS (fun hS => ?_)
          clear hK K
          refine wpAnyH_done (by kernel_rfl) ?_ _
          go_wp2_with fail
          go_meet
          exact ⟨gt, rfl, rfl, hle, XT, h7, hS⟩
      case rest =>
      obtain ⟨gt, rfl, rfl, hle, XT, hA2, hK⟩ := hcut
      clear cA X_0 X_1 X_2 X_3 X_4 X_5 X_6 X_7 X_8 X_9 q0 q1 q2 q3 q4 q5 q6 hA
      have hgt : gR < gt := by have := X.lt; omega
      replace X := X.kx hK (by first | (simp; done) | (simp; omega))
      replace hb := hb.kx hK (by first | (simp; done) | (simp; omega))
      generalize wc = w8 at *
      clear hK
      have XT_0 := XT.cell (j := 0) rfl
      have XT_1 := XT.cell (j := 1) rfl
      have XT_2 := XT.cell (j := 2) rfl
      have XT_3 := XT.cell (j := 3) rfl
      have XT_4 := XT.cell (j := 4) rfl
      have XT_5 := XT.cell (j := 5) rfl
      have XT_6 := XT.cell (j := 6) rfl
      have XT_7 := XT.cell (j := 7) rfl
      have XT_8 := XT.cell (j := 8) rfl
      have XT_9 := XT.cell (j := 9) rfl
      have X_0 := X.cell (j := 0) rfl
      have X_1 := X.cell (j := 1) rfl
      have X_2 := X.cell (j := 2) rfl
      have X_3 := X.cell (j := 3) rfl
      have X_4 := X.cell (j := 4) rfl
      have X_5 := X.cell (j := 5) rfl
      have X_6 := X.cell (j := 6) rfl
      have X_7 := X.cell (j := 7) rfl
      have X_8 := X.cell (j := 8) rfl
      have X_9 := X.cell (j := 9) rfl
      have Xf0 := X.frozen 0
      have Xf1 := X.frozen 1
      have Xf2 := X.frozen 2
      have Xf3 := X.frozen 3
      have Xf4 := X.frozen 4
      have Xf5 := X.frozen 5
      have Xf6 := X.frozen 6
      have Xf7 := X.frozen 7
      have Xf8 := X.frozen 8
      have Xf9 := X.frozen 9
      go_upto_region 14 with fail
      clear X_0 X_1 X_2 X_3 X_4 X_5 X_6 X_7 X_8 X_9
      clear XT_0 XT_1 XT_2 XT_3 XT_4 XT_5 XT_6 XT_7 XT_8 XT_9
      clear Xf0 Xf1 Xf2 Xf3 Xf4 Xf5 Xf6 Xf7 Xf8 Xf9
      have hkn : Kx [gR] w8 ((((((((((w8.setCell ⟨gR, 0, none⟩ (.int .i64 A2.c)).setCell ⟨gR, 1, none⟩ (.int .i64 A2.sl)).setCell ⟨gR, 2, none⟩ (.int .i64 A2.r)).setCell ⟨gR, 3, none⟩ (.int .i64 A2.p)).setCell ⟨gR, 4, none⟩ (.int .i64 A2.ar)).setCell ⟨gR, 5, none⟩ (.int .i64 A2.ap)).setCell ⟨gR, 6, none⟩ (.int .i64 A2.k)).setCell ⟨gR, 7, none⟩ (.int .i64 A2.m)).setCell ⟨gR, 8, none⟩ (.int .i64 A2.n)).setCell ⟨gR, 9, none⟩ (.string A2.s)) := Kx.setCells [.int .i64 A2.c, .int .i64 A2.sl, .int .i64 A2.r, .int .i64 A2.p, .int .i64 A2.ar, .int .i64 A2.ap, .int .i64 A2.k, .int .i64 A2.m, .int .i64 A2.n, .string A2.s] 0 _ (Kx.refl _ _) (.inl (by simp))
      replace X : Blk ((((((((((w8.setCell ⟨gR, 0, none⟩ (.int .i64 A2.c)).setCell ⟨gR, 1, none⟩ (.int .i64 A2.sl)).setCell ⟨gR, 2, none⟩ (.int .i64 A2.r)).setCell ⟨gR, 3, none⟩ (.int .i64 A2.p)).setCell ⟨gR, 4, none⟩ (.int .i64 A2.ar)).setCell ⟨gR, 5, none⟩ (.int .i64 A2.ap)).setCell ⟨gR, 6, none⟩ (.int .i64 A2.k)).setCell ⟨gR, 7, none⟩ (.int .i64 A2.m)).setCell ⟨gR, 8, none⟩ (.int .i64 A2.n)).setCell ⟨gR, 9, none⟩ (.string A2.s)) gR 51 [.int .i64 A2.c, .int .i64 A2.sl, .int .i64 A2.r, .int .i64 A2.p, .int .i64 A2.ar, .int .i64 A2.ap, .int .i64 A2.k, .int .i64 A2.m, .int .i64 A2.n, .string A2.s] := Blk.puts [.int .i64 A2.c, .int .i64 A2.sl, .int .i64 A2.r, .int .i64 A2.p, .int .i64 A2.ar, .int .i64 A2.ap, .int .i64 A2.k, .int .i64 A2.m, .int .i64 A2.n, .string A2.s] X rfl
      replace hb := hb.kx hkn (by first | (simp; done) | (simp; omega))
      replace hA2 := hA2.kx hkn (by first | (simp; done) | (simp; omega))
      clear hkn
      generalize (((((((((w8.setCell ⟨gR, 0, none⟩ (.int .i64 A2.c)).setCell ⟨gR, 1, none⟩ (.int .i64 A2.sl)).setCell ⟨gR, 2, none⟩ (.int .i64 A2.r)).setCell ⟨gR, 3, none⟩ (.int .i64 A2.p)).setCell ⟨gR, 4, none⟩ (.int .i64 A2.ar)).setCell ⟨gR, 5, none⟩ (.int .i64 A2.ap)).setCell ⟨gR, 6, none⟩ (.int .i64 A2.k)).setCell ⟨gR, 7, none⟩ (.int .i64 A2.m)).setCell ⟨gR, 8, none⟩ (.int .i64 A2.n)).setCell ⟨gR, 9, none⟩ (.string A2.s) = w9 at *
      clear XT
      have X_0 := X.cell (j := 0) rfl
      have X_1 := X.cell (j := 1) rfl
      have X_2 := X.cell (j := 2) rfl
      have X_3 := X.cell (j := 3) rfl
      have X_4 := X.cell (j := 4) rfl
      have X_5 := X.cell (j := 5) rfl
      have X_6 := X.cell (j := 6) rfl
      have X_7 := X.cell (j := 7) rfl
      have X_8 := X.cell (j := 8) rfl
      have X_9 := X.cell (j := 9) rfl
      go_wp2_with fail
      refine (is14_any g A2 _ hA2 hI2.c hI2.good).mono ?_
      rintro e wa ⟨rfl, hbn⟩
      replace hb := hb.step hbn
      replace hA2 := hA2.step hbn
      replace X := X.step hbn
      clear hbn
      clear X_0 X_1 X_2 X_3 X_4 X_5 X_6 X_7 X_8 X_9
      go_wp2_with fail
      go_roundw
      case rel => exact ⟨j + 1, A2, by go_num, by omega, hA2, hI2, X, hb⟩
      case measure => simp [intOf]; omega
    · obtain rfl : j = N := by omega
      go_wp2_with fail
      refine (works14_any _ (hT.step hb.out)).mono ?_
      rintro e wb ⟨rfl, hbn⟩
      replace hb := hb.step hbn
      clear hbn
      go_wp2
      go_ret
      exact ⟨rfl, hb⟩
theorem of_walkx (c sl r p : Int) (y : Int × Int × Int × Int × Int × ByteArray) (x : Option Addr) (len cap : Nat) (w : World) (hT : Tabs w) (hy : y.2.2.2.2.2.size ≤ maxLen) (h : ∃ l : List Ac, l.length = len ∧ HasAc w x l ∧ (∀ e, e ∈ l → e.s.size ≤ maxLen) ∧ len ≤ maxLen) :
    Calls Tryd.prog 7 #[.int .i64 c, .int .i64 sl, .agg #[.int .i64 r, .int .i64 p], .agg #[.int .i64 y.1, .int .i64 y.2.1, .int .i64 y.2.2.1, .int .i64 y.2.2.2.1, .int .i64 y.2.2.2.2.1, .string y.2.2.2.2.2], .slice x len cap] w fun r w' => r = .returned (.bool true) ∧ Below w.heap.size w w' := by
  obtain ⟨l, rfl, hE, hs, hl⟩ := h
  have hl2 : l.length ≤ 9223372036854775807 := by unfold maxLen at hl; omega
  have hs2 : ∀ e, e ∈ l → e.s.size ≤ 9223372036854775807 := fun e he => by have := hs e he; unfold maxLen at this; omega
  have hss : y.2.2.2.2.2.size ≤ 9223372036854775807 := by unfold maxLen at hy; omega
  cases h0 : longB y.2.2.2.2.2
  · cases hf : fewB l 10
    · exact of_few _ _ _ _ _ _ _ _ _ _ l x cap w hT hss hE hl2 hs2 h0 hf
    · by_cases h1 : ofEr c sl r p y.1 y.2.1 y.2.2.1 y.2.2.2.1 y.2.2.2.2.1 y.2.2.2.2.2 = 0
      · exact of_yes _ _ _ _ _ _ _ _ _ _ l x cap w hT hss hE hl2 hs2 h0 hf h1
      · exact of_no _ _ _ _ _ _ _ _ _ _ l x cap w hT hss hE hl2 hs2 h0 hf _ rfl h1
  · exact of_long _ _ _ _ _ _ _ _ _ _ l x cap w hT hss h0
end Go.Proofs.YtcokbljlgbcpkaaDoor
