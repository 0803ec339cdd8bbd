
/- Package chat: Slot, Len, Line, Of, Would. -/
import Derived.Test.YtndechodaegkiaaDoorChE
namespace Go.Proofs.YtndechodaegkiaaDoor
open Go.RowKit
theorem slot1_any (g n : Nat) (w : World) (hc : w.cell? ⟨g, 1, none⟩ = some (.int .i64 n)) : Calls Tryd.prog 38 #[.pointer (some ⟨g, 0, none⟩)] w fun e w' => e = .returned (.int .i64 n) ∧ w = w' := by
  go_enter Tryd.func38, Tryd.ntmps38
  go_wp2
  go_ret
  exact ⟨rfl, rfl⟩
theorem told_slot (base g : Nat) (v : Value) (t : Tk) (w : World) (h : TkW w base g v t) : Calls Tryd.prog 37 #[.pointer (some ⟨g, 0, none⟩), .func (.func 38) #[] #[]] w fun e w' => e = .returned (.int .i64 t.sl) ∧ w = w' := by
  have hc := h.blk.cell (j := 1) rfl
  go_enter Tryd.func37, Tryd.ntmps37
  go_wp2_with fail
  refine (none_any g true w h.made).mono ?_
  rintro e w1 ⟨rfl, rfl⟩
  go_wp2_with fail
  refine (slot1_any g t.sl w hc).mono ?_
  rintro e w1 ⟨rfl, rfl⟩
  go_wp2
  go_ret
  exact ⟨rfl, rfl⟩
theorem slot_any (base g : Nat) (v : Value) (t : Tk) (w : World) (h : TkW w base g v t) : Calls Tryd.prog 14 #[.pointer (some ⟨g, 0, none⟩)] w fun e w' => e = .returned (.int .i64 t.sl) ∧ w = w' := by
  go_enter Tryd.func14, Tryd.ntmps14
  go_wp2_with fail
  refine (told_slot base g v t w h).mono ?_
  rintro e w1 ⟨rfl, rfl⟩
  go_wp2
  go_ret
  exact ⟨rfl, rfl⟩
theorem len1_any (g n : Nat) (v : Value) (w : World) (hv : Sl v n) (hc : w.cell? ⟨g, 0, none⟩ = some v) : Calls Tryd.prog 40 #[.pointer (some ⟨g, 0, none⟩)] w fun e w' => e = .returned (.int .i64 n) ∧ w = w' := by
  obtain ⟨a, c, rfl⟩ := hv
  go_enter Tryd.func40, Tryd.ntmps40
  go_wp2
  go_ret
  exact ⟨rfl, rfl⟩
theorem told_len (base g : Nat) (v : Value) (t : Tk) (w : World) (h : TkW w base g v t) : Calls Tryd.prog 39 #[.pointer (some ⟨g, 0, none⟩), .func (.func 40) #[] #[]] w fun e w' => e = .returned (.int .i64 t.L.length) ∧ w = w' := by
  have hc := h.blk.cell (j := 0) rfl
  go_enter Tryd.func39, Tryd.ntmps39
  go_wp2_with fail
  refine (none_any g true w h.made).mono ?_
  rintro e w1 ⟨rfl, rfl⟩
  go_wp2_with fail
  refine (len1_any g t.L.length v w h.sl hc).mono ?_
  rintro e w1 ⟨rfl, rfl⟩
  go_wp2
  go_ret
  exact ⟨rfl, rfl⟩
theorem len_any (base g : Nat) (v : Value) (t : Tk) (w : World) (h : TkW w base g v t) : Calls Tryd.prog 16 #[.pointer (some ⟨g, 0, none⟩)] w fun e w' => e = .returned (.int .i64 t.L.length) ∧ w = w' := by
  go_enter Tryd.func16, Tryd.ntmps16
  go_wp2_with fail
  refine (told_len base g v t w h).mono ?_
  rintro e w1 ⟨rfl, rfl⟩
  go_wp2
  go_ret
  exact ⟨rfl, rfl⟩
def wdB (t : Tk) (e : En) : Bool := rightE e && cntB t e
set_option maxRecDepth 100000 in
set_option maxHeartbeats 400000 in
theorem would_any (base g : Nat) (v : Value) (t : Tk) (e : En) (w : World) (h : TkW w base g v t) (hT : Tabs w) (hs : e.s.size ≤ 9223372036854775807) :
    Calls Tryd.prog 31 #[.pointer (some ⟨g, 0, none⟩), enV e] w fun r w' => r = .returned (.bool (wdB t e)) ∧ Below w.heap.size w w' := by
  obtain ⟨k, m, q, s⟩ := e
  change Calls Tryd.prog 31 #[.pointer (some ⟨g, 0, none⟩), .agg #[.int .i64 k, .int .i64 m, .int .i64 q, .string s]] w fun r w' => r = .returned (.bool (wdB t ⟨k, m, q, s⟩)) ∧ Below w.heap.size w w'
  obtain ⟨B, hB⟩ : ∃ B, w.heap.size = B := ⟨_, rfl⟩
  have XE := Blk.newA' hB 26 #[.int .i64 k, .int .i64 m, .int .i64 q, .string s]
  have hb1 := (Below.refl w.heap.size w).alloc (Nat.le_refl _) (.cells #[.int .i64 k, .int .i64 m, .int .i64 q, .string s] 26)
  have h1 := h.step hb1
  have hT1 := hT.step hb1
  have cR := fun W hTW => ent_any k m q s W hs hTW
  cases hr : entB k m q s
  · rw [hr] at cR
    have hw : wdB t ⟨k, m, q, s⟩ = false := by simp [wdB, rightE, hr]
    rw [hw]
    go_enter Tryd.func31, Tryd.ntmps31
    go_upto_region 1 with fail
    generalize w.alloc (.cells #[.int .i64 k, .int .i64 m, .int .i64 q, .string s] 26) = W at *
    have e0 := XE.cell (j := 0) rfl
    have e1 := XE.cell (j := 1) rfl
    have e2 := XE.cell (j := 2) rfl
    have e3 := XE.cell (j := 3) rfl
    have hm := h1.made
    go_wp2_with fail
    refine (none_any g true W hm).mono ?_
    rintro e w1 ⟨rfl, rfl⟩
    go_wp2_with fail
    refine (cR W hT1).mono ?_
    rintro e w2 ⟨rfl, hb2⟩
    go_wp2
    go_ret
    exact ⟨rfl, hb1.trans (hb2.mono hb1.size)⟩
  · rw [hr] at cR
    have hw : wdB t ⟨k, m, q, s⟩ = cntB t ⟨k, m, q, s⟩ := by simp [wdB, rightE, hr]
    have hmm := right_mem (e := ⟨k, m, q, s⟩) hr
    rw [hw]
    have cC := fun W hW => counts_any base g v t ⟨k, m, q, s⟩ W hW hmm.1 hmm.2
    generalize cntS t ⟨k, m, q, s⟩ = R at cC
    generalize cntB t ⟨k, m, q, s⟩ = C at cC ⊢
    obtain ⟨x, j, l⟩ := R
    change ∀ w2, TkW w2 base g v t → Calls Tryd.prog 36 #[.pointer (some ⟨g, 0, none⟩), .agg #[.int .i64 k, .int .i64 m, .int .i64 q, .string s]] w2 fun r w' => r = .returned (.tuple #[.agg #[.bool x, .int .i64 j, .int .i64 l], .bool C]) ∧ Below w2.heap.size w2 w' at cC
    go_enter Tryd.func31, Tryd.ntmps31
    go_upto_region 1 with fail
    generalize w.alloc (.cells #[.int .i64 k, .int .i64 m, .int .i64 q, .string s] 26) = W at *
    have e0 := XE.cell (j := 0) rfl
    have e1 := XE.cell (j := 1) rfl
    have e2 := XE.cell (j := 2) rfl
    have e3 := XE.cell (j := 3) rfl
    have hm := h1.made
    go_wp2_with fail
    refine (none_any g true W hm).mono ?_
    rintro e w1 ⟨rfl, rfl⟩
    go_wp2_with fail
    refine (cR W hT1).mono ?_
    rintro e w2 ⟨rfl, hb2⟩
    have X2 := XE.step hb2
    have h2 := h1.step hb2
    clear e0 e1 e2 e3
    have e0 := X2.cell (j := 0) rfl
    have e1 := X2.cell (j := 1) rfl
    have e2 := X2.cell (j := 2) rfl
    have e3 := X2.cell (j := 3) rfl
    go_wp2_with fail
    refine (cC w2 h2).mono ?_
    rintro e w3 ⟨rfl, hb3⟩
    go_wp2
    go_ret
    have b12 := hb1.trans (hb2.mono hb1.size)
    have b13 := b12.trans (hb3.mono b12.size)
    exact ⟨rfl, b13.alloc b13.size _⟩
end Go.Proofs.YtndechodaegkiaaDoor
