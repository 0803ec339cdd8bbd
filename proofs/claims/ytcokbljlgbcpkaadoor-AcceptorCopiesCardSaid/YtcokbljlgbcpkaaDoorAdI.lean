
/- Law 14: num, long, few, is, act. -/
import Derived.Test.YtcokbljlgbcpkaaDoorAdH
namespace Go.Proofs.YtcokbljlgbcpkaaDoor
open Go.RowKit
theorem num14_any (x : Int) (w : World) : Calls Tryd.prog 14 #[.int .i64 x] w fun e w' => e = .returned (.int .i64 x) ∧ w = w' := by
  go_enter Tryd.func14, Tryd.ntmps14
  go_wp2_with fail
  go_ret
  exact ⟨rfl, rfl⟩
def longB (s : ByteArray) : Bool := decide (300 < (s.size : Int))
set_option maxRecDepth 100000 in
set_option maxHeartbeats 400000 in
theorem long_any (k m n : Int) (s : ByteArray) (w : World) (hs : s.size ≤ 9223372036854775807) : Calls Tryd.prog 8 #[.agg #[.int .i64 k, .int .i64 m, .int .i64 n, .string s]] w fun e w' => e = .returned (.bool (longB s)) ∧ Below w.heap.size w w' := by
  have hI : (s.size : Int) ≤ 9223372036854775807 := by omega
  go_enter Tryd.func8, Tryd.ntmps8
  go_wp2_with fail
  go_ret
  exact ⟨rfl, (Below.refl _ _).alloc (Nat.le_refl _) _⟩
/-- A call: What, the ballot (x, y), the entry (k, m, n, s). -/
structure Ac where (w x y k m n : Int) (s : ByteArray)
def acL (e : Ac) : List Value := [.int .i64 e.w, .int .i64 e.x, .int .i64 e.y, .int .i64 e.k, .int .i64 e.m, .int .i64 e.n, .string e.s]
def acVal (e : Ac) : Value := .agg #[.int .i64 e.w, .int .i64 e.x, .int .i64 e.y, .int .i64 e.k, .int .i64 e.m, .int .i64 e.n, .string e.s]
structure AcAt (w : World) (b o : Nat) (e : Ac) : Prop where
  h0 : w.cell? ⟨b, o, none⟩ = some (.int .i64 e.w)
  h1 : w.cell? ⟨b, o + 1, none⟩ = some (.int .i64 e.x)
  h2 : w.cell? ⟨b, o + 2, none⟩ = some (.int .i64 e.y)
  h3 : w.cell? ⟨b, o + 3, none⟩ = some (.int .i64 e.k)
  h4 : w.cell? ⟨b, o + 4, none⟩ = some (.int .i64 e.m)
  h5 : w.cell? ⟨b, o + 5, none⟩ = some (.int .i64 e.n)
  h6 : w.cell? ⟨b, o + 6, none⟩ = some (.string e.s)
def HasAc (w : World) (ao : Option Addr) (l : List Ac) : Prop := ∀ k e, l[k]? = some e → ∃ b off, ao = some ⟨b, off, none⟩ ∧ AcAt w b (off + k * 7) e
theorem AcAt.far {w w' : World} {b o : Nat} {e : Ac} (h : AcAt w b o e) (hb : ∀ q v, w.cell? ⟨b, q, none⟩ = some v → w'.cell? ⟨b, q, none⟩ = some v) : AcAt w' b o e :=
  ⟨hb _ _ h.h0, hb _ _ h.h1, hb _ _ h.h2, hb _ _ h.h3, hb _ _ h.h4, hb _ _ h.h5, hb _ _ h.h6⟩
theorem HasAc.step {w w' : World} {ao : Option Addr} {l : List Ac} (h : HasAc w ao l) (hb : Below w.heap.size w w') : HasAc w' ao l := fun k e he => by
  obtain ⟨b, off, ha, hx⟩ := h k e he
  exact ⟨b, off, ha, hx.far (fun q v hv => cells_kept hb hv)⟩
theorem kx_cell {ws : List Nat} {W W' : World} (h : Kx ws W W') {b q : Nat} {v : Value} (hv : W.cell? ⟨b, q, none⟩ = some v) (hw : b ∉ ws) : W'.cell? ⟨b, q, none⟩ = some v :=
  (World.cell?_of_block (a := ⟨b, q, none⟩) (h.block b (World.block_lt_of_cell? W _ hv) hw)).trans hv
theorem HasAc.kx {ws : List Nat} {w w' : World} {ao : Option Addr} {l : List Ac} (h : HasAc w ao l) (hb : Kx ws w w') (hw : ∀ b off, ao = some ⟨b, off, none⟩ → b ∉ ws) : HasAc w' ao l := fun k e he => by
  obtain ⟨b, off, ha, hx⟩ := h k e he
  exact ⟨b, off, ha, hx.far (fun q v hv => kx_cell hb hv (hw b off ha))⟩
theorem HasAc.lt {w : World} {ao : Option Addr} {l : List Ac} (h : HasAc w ao l) (hl : l ≠ []) : ∀ b off, ao = some ⟨b, off, none⟩ → b < w.heap.size := fun b off ha => by
  cases l with
  | nil => exact absurd rfl hl
  | cons e r =>
    obtain ⟨b2, o2, h2, hx⟩ := h 0 e rfl
    rw [ha] at h2
    cases h2
    exact World.block_lt_of_cell? w _ hx.h0
def fewB (l : List Ac) (most : Int) : Bool := l.all (fun e => !longB e.s) && decide ((l.length : Int) ≤ most)
set_option maxRecDepth 100000 in
set_option maxHeartbeats 1000000 in
theorem few_any (l : List Ac) (ao : Option Addr) (c : Nat) (most : Int) (w : World) (hE : HasAc w ao l) (hl : l.length ≤ 9223372036854775807) (hs : ∀ e, e ∈ l → e.s.size ≤ 9223372036854775807) :
    Calls Tryd.prog 12 #[.slice ao l.length c, .int .i64 most] w fun r w' => r = .returned (.bool (fewB l most)) ∧ Below w.heap.size w w' := by
  obtain ⟨N, hN⟩ : ∃ N, l.length = N := ⟨_, rfl⟩
  have hNI : (N : Int) ≤ 9223372036854775807 := by omega
  obtain ⟨R, hR⟩ : ∃ R, fewB l most = R := ⟨_, rfl⟩
  rw [hN, hR]
  have HR := Lib.hid hR
  clear hR
  have HS := Lib.hid hs
  clear hs
  go_enter Tryd.func12, Tryd.ntmps12
  go_wp2_with fail
  go_loopw [5] (fun i wr => ∃ (j : Nat), i = .int .i64 j ∧ ExtA w wr ∧ j ≤ N ∧ Hid ((l.take j).all (fun e => !longB e.s) = true)) (fun i _ => N - (intOf i).toNat)
  case atStart => exact ⟨0, rfl, Below.refl _ _, by omega, Lib.hid rfl⟩
  case round =>
    obtain ⟨j, rfl, hx, hj, HA⟩ := hrel
    by_cases hlt : j < N
    · obtain ⟨e, he⟩ : ∃ e, l[j]? = some e := ⟨l[j], by simp [hN, hlt]⟩
      obtain ⟨b, off, rfl, hA⟩ := (hE.step hx) j e he
      have q3 := hA.h3
      have q4 := hA.h4
      have q5 := hA.h5
      have q6 := hA.h6
      have hj0 : (0 : Int) ≤ (j : Int) := by omega
      have hj1 : (j : Int) < (N : Int) := by omega
      have htk : l.take (j + 1) = l.take j ++ [e] := by rw [List.take_add_one, he]; rfl
      have hse := HS.out e (List.mem_of_getElem? he)
      obtain ⟨w0, x, y, k, m, n, s⟩ := e
      simp only at q3 q4 q5 q6 hse
      have cL := fun W => long_any k m n s W hse
      cases hlb : longB s
      · rw [hlb] at cL
        have HA2 : Hid ((l.take (j + 1)).all (fun e => !longB e.s) = true) := Lib.hid (by rw [htk, List.all_append, HA.out]; simp [hlb])
        clear HA htk he hlb hse hA
        go_wp2_with fail
        refine (cL _).mono ?_
        rintro e w2 ⟨rfl, hb2⟩
        go_wp2
        go_roundw
        case rel => exact ⟨j + 1, by go_num, extA_then hx hb2, by omega, HA2⟩
        case measure => simp [intOf]; omega
      · rw [hlb] at cL
        have hf : fewB l most = false := by
          have : l.all (fun e => !longB e.s) = false := by
            rw [List.all_eq_false]
            exact ⟨_, List.mem_of_getElem? he, by simp [hlb]⟩
          simp [fewB, this]
        obtain rfl : false = R := by rw [← HR.out, hf]
        clear htk he hf HR hlb hse hA
        go_wp2_with fail
        refine (cL _).mono ?_
        rintro e w2 ⟨rfl, hb2⟩
        go_wp2
        go_ret
        exact ⟨rfl, extA_then hx hb2⟩
    · obtain rfl : j = N := by omega
      have hA := HA.out
      rw [List.take_of_length_le (by omega)] at hA
      have hf : decide ((j : Int) ≤ most) = R := by rw [← HR.out]; simp [fewB, hA, hN]
      clear HA hA HR hE
      go_wp2
      go_ret
      exact ⟨by rw [← hf]; rfl, hx⟩
theorem few_small {l : List Ac} {most : Int} (h : fewB l most = true) : (l.length : Int) ≤ most ∧ ∀ e, e ∈ l → e.s.size ≤ 300 := by
  unfold fewB at h
  simp only [Bool.and_eq_true, decide_eq_true_eq, List.all_eq_true] at h
  refine ⟨h.2, fun e he => ?_⟩
  have := h.1 e he
  unfold longB at this
  simp at this
  omega
set_option maxRecDepth 100000 in
set_option maxHeartbeats 2000000 in
theorem is14_any (g : Nat) (A : Acc) (w : World) (h : AW w g A) (hc : A.c ≠ 0) (hG : GoodA A) : Calls Tryd.prog 24 #[.pointer (some ⟨g, 0, none⟩), refV A] w fun e w' => e = .returned (.bool true) ∧ Below w.heap.size w w' := by
  obtain ⟨r, p, ar, ap, k, m, n, s, c, sl⟩ := A
  unfold refV
  simp only at hc ⊢
  by_cases ha : ar = -1
  · obtain ⟨rfl, rfl, rfl, rfl, rfl⟩ := hG ha
    subst ha
    go_enter Tryd.func24, Tryd.ntmps24
    go_upto_region 1 with fail
    have X := Blk.newV (W := w) rfl 51 #[.int .i64 c, .int .i64 sl, .int .i64 r, .int .i64 p, .int .i64 (-1), .int .i64 0, .int .i64 0, .int .i64 0, .int .i64 0, .string ⟨#[]⟩]
    have hb := (Below.refl w.heap.size w).alloc (Nat.le_refl _) (.cells #[.int .i64 c, .int .i64 sl, .int .i64 r, .int .i64 p, .int .i64 (-1), .int .i64 0, .int .i64 0, .int .i64 0, .int .i64 0, .string ⟨#[]⟩] 51)
    have h1 := h.step hb
    generalize w.alloc (.cells #[.int .i64 c, .int .i64 sl, .int .i64 r, .int .i64 p, .int .i64 (-1), .int .i64 0, .int .i64 0, .int .i64 0, .int .i64 0, .string ⟨#[]⟩] 51) = W at *
    have cA := accepted_at g _ W h1 hc hG
    unfold accX accH at cA
    simp only at cA
    simp only [if_true, beq_self_eq_true, Bool.not_true] at cA
    unfold acV at cA
    go_wp2_with fail
    refine (cA).mono ?_
    rintro e w2 ⟨rfl, hb2⟩
    have X2 := X.step hb2
    have h2 := h1.step hb2
    have hb3 := hb.trans (hb2.mono hb.size)
    clear cA h1 X hb hb2 h
    go_upto_region 2 with fail
    have XN := Blk.newV (W := w2) rfl 39 #[.int .i64 0, .int .i64 0, .int .i64 0, .int .i64 0, .int .i64 0, .string ⟨#[]⟩]
    have hb4 := (Below.refl w2.heap.size w2).alloc (Nat.le_refl _) (.cells #[.int .i64 0, .int .i64 0, .int .i64 0, .int .i64 0, .int .i64 0, .string ⟨#[]⟩] 39)
    have X3 := X2.step hb4
    have h3 := h2.step hb4
    have hb5 := hb3.trans (hb4.mono hb3.size)
    generalize w2.alloc (.cells #[.int .i64 0, .int .i64 0, .int .i64 0, .int .i64 0, .int .i64 0, .string ⟨#[]⟩] 39) = W3 at *
    generalize w2.heap.size = gn at *
    clear X2 h2 hb3 hb4
    have ac0 := extA_cell (X3.cell (j := 0) rfl)
    have ac1 := extA_cell (X3.cell (j := 1) rfl)
    have ac2 := extA_cell (X3.cell (j := 2) rfl)
    have ac3 := extA_cell (X3.cell (j := 3) rfl)
    have ac4 := extA_cell (X3.cell (j := 4) rfl)
    have ac5 := extA_cell (X3.cell (j := 5) rfl)
    have ac6 := extA_cell (X3.cell (j := 6) rfl)
    have ac7 := extA_cell (X3.cell (j := 7) rfl)
    have ac8 := extA_cell (X3.cell (j := 8) rfl)
    have ac9 := extA_cell (X3.cell (j := 9) rfl)
    refine wp_region_extB (by kernel_rfl) (by kernel_rfl) ?_
    repeat
      (first
        | go_big_quiet_skip
        | (go_big_quiet_want
           go_big_quiet_op
           first
             | go_big_quiet_on
             | (apply Exists.intro
                refine ⟨fun w' hC => ?_, ?_⟩
                · (first
                    | with_reducible rfl
                    | (go_at_call 43; refine (none14ref_any _).mono ?_; rintro e w2 ⟨rfl, hb9⟩; exact ⟨rfl, extA_then hC hb9⟩)
                    | (go_simp; done)
                    | (go_simp; with_reducible rfl))
                go_big_quiet_on)))
    refine wpQuiet_nil ?_
    intro wq hq
    have X4 := X3.step hq
    have XM := XN.step hq
    have h4 := h3.step hq
    have hb6 := hb5.trans (Below.mono hq hb5.size)
    clear ac0 ac1 ac2 ac3 ac4 ac5 ac6 ac7 ac8 ac9 X3 XN h3 hb5 hq
    go_wp2_with fail
    have ac0 := extA_cell (X4.cell (j := 0) rfl)
    have ac1 := extA_cell (X4.cell (j := 1) rfl)
    have ac2 := extA_cell (X4.cell (j := 2) rfl)
    have ac3 := extA_cell (X4.cell (j := 3) rfl)
    have ac4 := extA_cell (X4.cell (j := 4) rfl)
    have ac5 := extA_cell (X4.cell (j := 5) rfl)
    have ac6 := extA_cell (X4.cell (j := 6) rfl)
    have ac7 := extA_cell (X4.cell (j := 7) rfl)
    have ac8 := extA_cell (X4.cell (j := 8) rfl)
    have ac9 := extA_cell (X4.cell (j := 9) rfl)
    have bc0 := extA_cell (XM.cell (j := 0) rfl)
    have bc1 := extA_cell (XM.cell (j := 1) rfl)
    have bc2 := extA_cell (XM.cell (j := 2) rfl)
    have bc3 := extA_cell (XM.cell (j := 3) rfl)
    have bc4 := extA_cell (XM.cell (j := 4) rfl)
    have bc5 := extA_cell (XM.cell (j := 5) rfl)
    refine wp_region_extB (by kernel_rfl) (by kernel_rfl) ?_
    repeat
      (first
        | go_big_quiet_skip
        | (go_big_quiet_want
           go_big_quiet_op
           first
             | go_big_quiet_on
             | (apply Exists.intro
                refine ⟨fun w' hC => ?_, ?_⟩
                · (first
                    | with_reducible rfl
                    | (go_at_call 15; refine (promised_at g _ _ (h4.step hC) hc).mono ?_; rintro e w2 ⟨rfl, hb9⟩; exact ⟨rfl, extA_then hC hb9⟩)
                    | (go_simp; done)
                    | (go_simp; with_reducible rfl))
                go_big_quiet_on)))
    refine wpQuiet_nil ?_
    intro wr hr
    have hb7 := hb6.trans (Below.mono hr hb6.size)
    go_wp2
    go_ret
    exact ⟨rfl, hb7⟩
  · have hab : (ar == -1) = false := by simp [ha]
    go_enter Tryd.func24, Tryd.ntmps24
    go_upto_region 1 with fail
    have X := Blk.newV (W := w) rfl 51 #[.int .i64 c, .int .i64 sl, .int .i64 r, .int .i64 p, .int .i64 ar, .int .i64 ap, .int .i64 k, .int .i64 m, .int .i64 n, .string s]
    have hb := (Below.refl w.heap.size w).alloc (Nat.le_refl _) (.cells #[.int .i64 c, .int .i64 sl, .int .i64 r, .int .i64 p, .int .i64 ar, .int .i64 ap, .int .i64 k, .int .i64 m, .int .i64 n, .string s] 51)
    have h1 := h.step hb
    generalize w.alloc (.cells #[.int .i64 c, .int .i64 sl, .int .i64 r, .int .i64 p, .int .i64 ar, .int .i64 ap, .int .i64 k, .int .i64 m, .int .i64 n, .string s] 51) = W at *
    have cA := accepted_at g _ W h1 hc hG
    unfold accX accH at cA
    simp only at cA
    rw [if_neg ha, hab, Bool.not_false] at cA
    unfold acV at cA
    go_wp2_with fail
    refine (cA).mono ?_
    rintro e w2 ⟨rfl, hb2⟩
    have X2 := X.step hb2
    have h2 := h1.step hb2
    have hb3 := hb.trans (hb2.mono hb.size)
    clear cA h1 X hb hb2 h
    go_upto_region 2 with fail
    have XN := Blk.newV (W := w2) rfl 39 #[.int .i64 ar, .int .i64 ap, .int .i64 k, .int .i64 m, .int .i64 n, .string s]
    have hb4 := (Below.refl w2.heap.size w2).alloc (Nat.le_refl _) (.cells #[.int .i64 ar, .int .i64 ap, .int .i64 k, .int .i64 m, .int .i64 n, .string s] 39)
    have X3 := X2.step hb4
    have h3 := h2.step hb4
    have hb5 := hb3.trans (hb4.mono hb3.size)
    generalize w2.alloc (.cells #[.int .i64 ar, .int .i64 ap, .int .i64 k, .int .i64 m, .int .i64 n, .string s] 39) = W3 at *
    generalize w2.heap.size = gn at *
    clear X2 h2 hb3 hb4
    have ac0 := extA_cell (X3.cell (j := 0) rfl)
    have ac1 := extA_cell (X3.cell (j := 1) rfl)
    have ac2 := extA_cell (X3.cell (j := 2) rfl)
    have ac3 := extA_cell (X3.cell (j := 3) rfl)
    have ac4 := extA_cell (X3.cell (j := 4) rfl)
    have ac5 := extA_cell (X3.cell (j := 5) rfl)
    have ac6 := extA_cell (X3.cell (j := 6) rfl)
    have ac7 := extA_cell (X3.cell (j := 7) rfl)
    have ac8 := extA_cell (X3.cell (j := 8) rfl)
    have ac9 := extA_cell (X3.cell (j := 9) rfl)
    refine wp_region_extB (by kernel_rfl) (by kernel_rfl) ?_
    repeat
      (first
        | go_big_quiet_skip
        | (go_big_quiet_want
           go_big_quiet_op
           first
             | go_big_quiet_on
             | (apply Exists.intro
                refine ⟨fun w' hC => ?_, ?_⟩
                · (first
                    | with_reducible rfl
                    | (go_at_call 43; refine (none14ref_any _).mono ?_; rintro e w2 ⟨rfl, hb9⟩; exact ⟨rfl, extA_then hC hb9⟩)
                    | (go_simp; done)
                    | (go_simp; with_reducible rfl))
                go_big_quiet_on)))
    refine wpQuiet_nil ?_
    intro wq hq
    have X4 := X3.step hq
    have XM := XN.step hq
    have h4 := h3.step hq
    have hb6 := hb5.trans (Below.mono hq hb5.size)
    clear ac0 ac1 ac2 ac3 ac4 ac5 ac6 ac7 ac8 ac9 X3 XN h3 hb5 hq
    go_wp2_with fail
    have ac0 := extA_cell (X4.cell (j := 0) rfl)
    have ac1 := extA_cell (X4.cell (j := 1) rfl)
    have ac2 := extA_cell (X4.cell (j := 2) rfl)
    have ac3 := extA_cell (X4.cell (j := 3) rfl)
    have ac4 := extA_cell (X4.cell (j := 4) rfl)
    have ac5 := extA_cell (X4.cell (j := 5) rfl)
    have ac6 := extA_cell (X4.cell (j := 6) rfl)
    have ac7 := extA_cell (X4.cell (j := 7) rfl)
    have ac8 := extA_cell (X4.cell (j := 8) rfl)
    have ac9 := extA_cell (X4.cell (j := 9) rfl)
    have bc0 := extA_cell (XM.cell (j := 0) rfl)
    have bc1 := extA_cell (XM.cell (j := 1) rfl)
    have bc2 := extA_cell (XM.cell (j := 2) rfl)
    have bc3 := extA_cell (XM.cell (j := 3) rfl)
    have bc4 := extA_cell (XM.cell (j := 4) rfl)
    have bc5 := extA_cell (XM.cell (j := 5) rfl)
    refine wp_region_extB (by kernel_rfl) (by kernel_rfl) ?_
    repeat
      (first
        | go_big_quiet_skip
        | (go_big_quiet_want
           go_big_quiet_op
           first
             | go_big_quiet_on
             | (apply Exists.intro
                refine ⟨fun w' hC => ?_, ?_⟩
                · (first
                    | with_reducible rfl
                    | (go_at_call 15; refine (promised_at g _ _ (h4.step hC) hc).mono ?_; rintro e w2 ⟨rfl, hb9⟩; exact ⟨rfl, extA_then hC hb9⟩)
                    | (go_simp; done)
                    | (go_simp; with_reducible rfl))
                go_big_quiet_on)))
    refine wpQuiet_nil ?_
    intro wr hr
    have hb7 := hb6.trans (Below.mono hr hb6.size)
    go_wp2
    go_ret
    exact ⟨rfl, hb7⟩
end Go.Proofs.YtcokbljlgbcpkaaDoor
