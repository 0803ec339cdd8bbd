
/- Package text: Check tells whether a text may be said. -/
import Derived.Test.YtcahkcbenanfnaaDoorTxB
import Derived.Laws.EntriesVeiled
namespace Go.Proofs.YtcahkcbenanfnaaDoor
set_option linter.unusedSimpArgs false
set_option linter.unusedVariables false
open Go.RowKit Go.Shelf Go.Lib

theorem chk_cases (s : ByteArray) : (longS s = true ∧ chkT s = 3) ∨ (longS s = false ∧ validS s = false ∧ chkT s = 130) ∨ (longS s = false ∧ validS s = true ∧ badS s = true ∧ chkT s = 131) ∨
    (longS s = false ∧ validS s = true ∧ badS s = false ∧ blankS s = true ∧ chkT s = 132) ∨ (longS s = false ∧ validS s = true ∧ badS s = false ∧ blankS s = false ∧ chkT s = 0) := by
  unfold chkT
  cases longS s <;> cases validS s <;> cases badS s <;> cases blankS s <;> simp
theorem bad1_at (b : Nat) (s : ByteArray) (v : Bool) (h : badS s = v) (w : World) (hB : Boxed w b 127 (.func (.func 75) #[] #[])) :
    Calls Tryd.prog 89 #[.string s, .pointer (some ⟨b, 0, none⟩)] w fun e w' => e = .returned (.bool v) ∧ Below w.heap.size w w' := h ▸ bad1_any b s w hB
def faultL (b : Nat) : List Value := [.func (.func 71) #[] #[], .int .i64 3, .func (.func 72) #[] #[], .int .i64 130, .func (.func 89) #[] #[.pointer (some ⟨b, 0, none⟩)], .int .i64 131, .func (.func 76) #[] #[], .int .i64 132]
set_option maxRecDepth 100000 in
set_option maxHeartbeats 4000000 in
theorem textCheck_any (s : ByteArray) (hs : s.size ≤ 9223372036854775807) (w : World) (hT : Tabs w) : Calls Tryd.prog 57 #[.string s] w fun e w' => e = .returned (.int .i64 (chkT s)) ∧ Below w.heap.size w w' := by
  rcases chk_cases s with ⟨hl, h⟩ | ⟨hl, hv, h⟩ | ⟨hl, hv, hb, h⟩ | ⟨hl, hv, hb, hk, h⟩ | ⟨hl, hv, hb, hk, h⟩
  · rw [h]
    clear h
    go_enter Tryd.func57, Tryd.ntmps57
    go_wp2_with fail
    refine (tbad_any _).mono ?_
    rintro e w1 ⟨rfl, B, b1⟩
    have F : Blk (w1.alloc (.cells (faultL w.heap.size).toArray 125)) w1.heap.size 125 (faultL w.heap.size) := Blk.new w1 _ _
    replace B := B.alloc (.cells (faultL w.heap.size).toArray 125)
    have q := b1.alloc b1.size (.cells (faultL w.heap.size).toArray 125)
    have hT2 := (hT.step b1).step ((Below.refl _ _).alloc (Nat.le_refl _) (.cells (faultL w.heap.size).toArray 125))
    simp only [faultL] at F B q hT2
    clear hT b1
    go_wp2_with fail
    generalize w1.alloc _ = W at F B q hT2 ⊢
    generalize w1.heap.size = g at F ⊢
    refine wp_loop_rounds 5 ?_
    rw [rounds_succ]
    have c0 := F.cell (j := 0) rfl
    have c1 := F.cell (j := 1) rfl
    go_wp2_with fail
    refine (t1_any s _ hl _).mono ?_
    rintro e w' ⟨rfl, rfl⟩
    clear c0 c1
    have D := Blk.new W 125 [.func (.func 71) #[] #[], .int .i64 3]
    have F := F.step ((Below.refl _ _).alloc (Nat.le_refl _) (.cells #[.func (.func 71) #[] #[], .int .i64 3] 125))
    have B := box_step B ((Below.refl _ _).alloc (Nat.le_refl _) (.cells #[.func (.func 71) #[] #[], .int .i64 3] 125))
    have hT2 := hT2.step ((Below.refl _ _).alloc (Nat.le_refl _) (.cells #[.func (.func 71) #[] #[], .int .i64 3] 125))
    have q := q.alloc q.size (.cells #[.func (.func 71) #[] #[], .int .i64 3] 125)
    generalize W.alloc _ = W2 at F B q hT2 D ⊢
    have cD := D.cell (j := 1) rfl
    go_wp2
    go_returns
    exact ⟨rfl, q⟩
  · rw [h]
    clear h
    go_enter Tryd.func57, Tryd.ntmps57
    go_wp2_with fail
    refine (tbad_any _).mono ?_
    rintro e w1 ⟨rfl, B, b1⟩
    have F : Blk (w1.alloc (.cells (faultL w.heap.size).toArray 125)) w1.heap.size 125 (faultL w.heap.size) := Blk.new w1 _ _
    replace B := B.alloc (.cells (faultL w.heap.size).toArray 125)
    have q := b1.alloc b1.size (.cells (faultL w.heap.size).toArray 125)
    have hT2 := (hT.step b1).step ((Below.refl _ _).alloc (Nat.le_refl _) (.cells (faultL w.heap.size).toArray 125))
    simp only [faultL] at F B q hT2
    clear hT b1
    go_wp2_with fail
    generalize w1.alloc _ = W at F B q hT2 ⊢
    generalize w1.heap.size = g at F ⊢
    refine wp_loop_rounds 5 ?_
    rw [rounds_succ]
    have c0 := F.cell (j := 0) rfl
    have c1 := F.cell (j := 1) rfl
    go_wp2_with fail
    refine (t1_any s _ hl _).mono ?_
    rintro e w' ⟨rfl, rfl⟩
    clear c0 c1
    have D := Blk.new W 125 [.func (.func 71) #[] #[], .int .i64 3]
    have F := F.step ((Below.refl _ _).alloc (Nat.le_refl _) (.cells #[.func (.func 71) #[] #[], .int .i64 3] 125))
    have B := box_step B ((Below.refl _ _).alloc (Nat.le_refl _) (.cells #[.func (.func 71) #[] #[], .int .i64 3] 125))
    have hT2 := hT2.step ((Below.refl _ _).alloc (Nat.le_refl _) (.cells #[.func (.func 71) #[] #[], .int .i64 3] 125))
    have q := q.alloc q.size (.cells #[.func (.func 71) #[] #[], .int .i64 3] 125)
    generalize W.alloc _ = W2 at F B q hT2 D ⊢
    have cD := D.cell (j := 1) rfl
    clear cD D
    go_wp2_with fail
    rw [rounds_succ]
    have c0 := F.cell (j := 2) rfl
    have c1 := F.cell (j := 3) rfl
    have D := Blk.new W2 125 [.func (.func 72) #[] #[], .int .i64 130]
    have F := F.step ((Below.refl _ _).alloc (Nat.le_refl _) (.cells #[.func (.func 72) #[] #[], .int .i64 130] 125))
    have B := box_step B ((Below.refl _ _).alloc (Nat.le_refl _) (.cells #[.func (.func 72) #[] #[], .int .i64 130] 125))
    have hT2 := hT2.step ((Below.refl _ _).alloc (Nat.le_refl _) (.cells #[.func (.func 72) #[] #[], .int .i64 130] 125))
    have q := q.alloc q.size (.cells #[.func (.func 72) #[] #[], .int .i64 130] 125)
    go_wp2_with fail
    refine (t2_any s _ hv hs _ hT2).mono ?_
    rintro e w3 ⟨rfl, b⟩
    clear c0 c1
    replace D := D.step b
    have cD := D.cell (j := 1) rfl
    replace F := F.step b
    replace B := box_step B b
    replace hT2 := hT2.step b
    replace q := q.trans (b.mono q.size)
    clear b
    go_wp2
    go_returns
    exact ⟨rfl, q⟩
  · rw [h]
    clear h
    go_enter Tryd.func57, Tryd.ntmps57
    go_wp2_with fail
    refine (tbad_any _).mono ?_
    rintro e w1 ⟨rfl, B, b1⟩
    have F : Blk (w1.alloc (.cells (faultL w.heap.size).toArray 125)) w1.heap.size 125 (faultL w.heap.size) := Blk.new w1 _ _
    replace B := B.alloc (.cells (faultL w.heap.size).toArray 125)
    have q := b1.alloc b1.size (.cells (faultL w.heap.size).toArray 125)
    have hT2 := (hT.step b1).step ((Below.refl _ _).alloc (Nat.le_refl _) (.cells (faultL w.heap.size).toArray 125))
    simp only [faultL] at F B q hT2
    clear hT b1
    go_wp2_with fail
    generalize w1.alloc _ = W at F B q hT2 ⊢
    generalize w1.heap.size = g at F ⊢
    refine wp_loop_rounds 5 ?_
    rw [rounds_succ]
    have c0 := F.cell (j := 0) rfl
    have c1 := F.cell (j := 1) rfl
    go_wp2_with fail
    refine (t1_any s _ hl _).mono ?_
    rintro e w' ⟨rfl, rfl⟩
    clear c0 c1
    have D := Blk.new W 125 [.func (.func 71) #[] #[], .int .i64 3]
    have F := F.step ((Below.refl _ _).alloc (Nat.le_refl _) (.cells #[.func (.func 71) #[] #[], .int .i64 3] 125))
    have B := box_step B ((Below.refl _ _).alloc (Nat.le_refl _) (.cells #[.func (.func 71) #[] #[], .int .i64 3] 125))
    have hT2 := hT2.step ((Below.refl _ _).alloc (Nat.le_refl _) (.cells #[.func (.func 71) #[] #[], .int .i64 3] 125))
    have q := q.alloc q.size (.cells #[.func (.func 71) #[] #[], .int .i64 3] 125)
    generalize W.alloc _ = W2 at F B q hT2 D ⊢
    have cD := D.cell (j := 1) rfl
    clear cD D
    go_wp2_with fail
    rw [rounds_succ]
    have c0 := F.cell (j := 2) rfl
    have c1 := F.cell (j := 3) rfl
    have D := Blk.new W2 125 [.func (.func 72) #[] #[], .int .i64 130]
    have F := F.step ((Below.refl _ _).alloc (Nat.le_refl _) (.cells #[.func (.func 72) #[] #[], .int .i64 130] 125))
    have B := box_step B ((Below.refl _ _).alloc (Nat.le_refl _) (.cells #[.func (.func 72) #[] #[], .int .i64 130] 125))
    have hT2 := hT2.step ((Below.refl _ _).alloc (Nat.le_refl _) (.cells #[.func (.func 72) #[] #[], .int .i64 130] 125))
    have q := q.alloc q.size (.cells #[.func (.func 72) #[] #[], .int .i64 130] 125)
    go_wp2_with fail
    refine (t2_any s _ hv hs _ hT2).mono ?_
    rintro e w3 ⟨rfl, b⟩
    clear c0 c1
    replace D := D.step b
    have cD := D.cell (j := 1) rfl
    replace F := F.step b
    replace B := box_step B b
    replace hT2 := hT2.step b
    replace q := q.trans (b.mono q.size)
    clear b
    clear cD D
    go_wp2_with fail
    rw [rounds_succ]
    have c0 := F.cell (j := 4) rfl
    have c1 := F.cell (j := 5) rfl
    have D := Blk.new w3 125 [.func (.func 89) #[] #[.pointer (some ⟨w.heap.size, 0, none⟩)], .int .i64 131]
    have F := F.step ((Below.refl _ _).alloc (Nat.le_refl _) (.cells #[.func (.func 89) #[] #[.pointer (some ⟨w.heap.size, 0, none⟩)], .int .i64 131] 125))
    have B := box_step B ((Below.refl _ _).alloc (Nat.le_refl _) (.cells #[.func (.func 89) #[] #[.pointer (some ⟨w.heap.size, 0, none⟩)], .int .i64 131] 125))
    have hT2 := hT2.step ((Below.refl _ _).alloc (Nat.le_refl _) (.cells #[.func (.func 89) #[] #[.pointer (some ⟨w.heap.size, 0, none⟩)], .int .i64 131] 125))
    have q := q.alloc q.size (.cells #[.func (.func 89) #[] #[.pointer (some ⟨w.heap.size, 0, none⟩)], .int .i64 131] 125)
    go_wp2_with fail
    refine (bad1_at _ s _ hb _ B).mono ?_
    rintro e w4 ⟨rfl, b⟩
    clear c0 c1
    replace D := D.step b
    have cD := D.cell (j := 1) rfl
    replace F := F.step b
    replace B := box_step B b
    replace hT2 := hT2.step b
    replace q := q.trans (b.mono q.size)
    clear b
    go_wp2
    go_returns
    exact ⟨rfl, q⟩
  · rw [h]
    clear h
    go_enter Tryd.func57, Tryd.ntmps57
    go_wp2_with fail
    refine (tbad_any _).mono ?_
    rintro e w1 ⟨rfl, B, b1⟩
    have F : Blk (w1.alloc (.cells (faultL w.heap.size).toArray 125)) w1.heap.size 125 (faultL w.heap.size) := Blk.new w1 _ _
    replace B := B.alloc (.cells (faultL w.heap.size).toArray 125)
    have q := b1.alloc b1.size (.cells (faultL w.heap.size).toArray 125)
    have hT2 := (hT.step b1).step ((Below.refl _ _).alloc (Nat.le_refl _) (.cells (faultL w.heap.size).toArray 125))
    simp only [faultL] at F B q hT2
    clear hT b1
    go_wp2_with fail
    generalize w1.alloc _ = W at F B q hT2 ⊢
    generalize w1.heap.size = g at F ⊢
    refine wp_loop_rounds 5 ?_
    rw [rounds_succ]
    have c0 := F.cell (j := 0) rfl
    have c1 := F.cell (j := 1) rfl
    go_wp2_with fail
    refine (t1_any s _ hl _).mono ?_
    rintro e w' ⟨rfl, rfl⟩
    clear c0 c1
    have D := Blk.new W 125 [.func (.func 71) #[] #[], .int .i64 3]
    have F := F.step ((Below.refl _ _).alloc (Nat.le_refl _) (.cells #[.func (.func 71) #[] #[], .int .i64 3] 125))
    have B := box_step B ((Below.refl _ _).alloc (Nat.le_refl _) (.cells #[.func (.func 71) #[] #[], .int .i64 3] 125))
    have hT2 := hT2.step ((Below.refl _ _).alloc (Nat.le_refl _) (.cells #[.func (.func 71) #[] #[], .int .i64 3] 125))
    have q := q.alloc q.size (.cells #[.func (.func 71) #[] #[], .int .i64 3] 125)
    generalize W.alloc _ = W2 at F B q hT2 D ⊢
    have cD := D.cell (j := 1) rfl
    clear cD D
    go_wp2_with fail
    rw [rounds_succ]
    have c0 := F.cell (j := 2) rfl
    have c1 := F.cell (j := 3) rfl
    have D := Blk.new W2 125 [.func (.func 72) #[] #[], .int .i64 130]
    have F := F.step ((Below.refl _ _).alloc (Nat.le_refl _) (.cells #[.func (.func 72) #[] #[], .int .i64 130] 125))
    have B := box_step B ((Below.refl _ _).alloc (Nat.le_refl _) (.cells #[.func (.func 72) #[] #[], .int .i64 130] 125))
    have hT2 := hT2.step ((Below.refl _ _).alloc (Nat.le_refl _) (.cells #[.func (.func 72) #[] #[], .int .i64 130] 125))
    have q := q.alloc q.size (.cells #[.func (.func 72) #[] #[], .int .i64 130] 125)
    go_wp2_with fail
    refine (t2_any s _ hv hs _ hT2).mono ?_
    rintro e w3 ⟨rfl, b⟩
    clear c0 c1
    replace D := D.step b
    have cD := D.cell (j := 1) rfl
    replace F := F.step b
    replace B := box_step B b
    replace hT2 := hT2.step b
    replace q := q.trans (b.mono q.size)
    clear b
    clear cD D
    go_wp2_with fail
    rw [rounds_succ]
    have c0 := F.cell (j := 4) rfl
    have c1 := F.cell (j := 5) rfl
    have D := Blk.new w3 125 [.func (.func 89) #[] #[.pointer (some ⟨w.heap.size, 0, none⟩)], .int .i64 131]
    have F := F.step ((Below.refl _ _).alloc (Nat.le_refl _) (.cells #[.func (.func 89) #[] #[.pointer (some ⟨w.heap.size, 0, none⟩)], .int .i64 131] 125))
    have B := box_step B ((Below.refl _ _).alloc (Nat.le_refl _) (.cells #[.func (.func 89) #[] #[.pointer (some ⟨w.heap.size, 0, none⟩)], .int .i64 131] 125))
    have hT2 := hT2.step ((Below.refl _ _).alloc (Nat.le_refl _) (.cells #[.func (.func 89) #[] #[.pointer (some ⟨w.heap.size, 0, none⟩)], .int .i64 131] 125))
    have q := q.alloc q.size (.cells #[.func (.func 89) #[] #[.pointer (some ⟨w.heap.size, 0, none⟩)], .int .i64 131] 125)
    go_wp2_with fail
    refine (bad1_at _ s _ hb _ B).mono ?_
    rintro e w4 ⟨rfl, b⟩
    clear c0 c1
    replace D := D.step b
    have cD := D.cell (j := 1) rfl
    replace F := F.step b
    replace B := box_step B b
    replace hT2 := hT2.step b
    replace q := q.trans (b.mono q.size)
    clear b
    clear cD D
    go_wp2_with fail
    rw [rounds_succ]
    have c0 := F.cell (j := 6) rfl
    have c1 := F.cell (j := 7) rfl
    have D := Blk.new w4 125 [.func (.func 76) #[] #[], .int .i64 132]
    have F := F.step ((Below.refl _ _).alloc (Nat.le_refl _) (.cells #[.func (.func 76) #[] #[], .int .i64 132] 125))
    have B := box_step B ((Below.refl _ _).alloc (Nat.le_refl _) (.cells #[.func (.func 76) #[] #[], .int .i64 132] 125))
    have hT2 := hT2.step ((Below.refl _ _).alloc (Nat.le_refl _) (.cells #[.func (.func 76) #[] #[], .int .i64 132] 125))
    have q := q.alloc q.size (.cells #[.func (.func 76) #[] #[], .int .i64 132] 125)
    go_wp2_with fail
    refine (t4_any s _ hk hs _).mono ?_
    rintro e w5 ⟨rfl, b⟩
    clear c0 c1
    replace D := D.step b
    have cD := D.cell (j := 1) rfl
    replace F := F.step b
    replace B := box_step B b
    replace hT2 := hT2.step b
    replace q := q.trans (b.mono q.size)
    clear b
    go_wp2
    go_returns
    exact ⟨rfl, q⟩
  · rw [h]
    clear h
    go_enter Tryd.func57, Tryd.ntmps57
    go_wp2_with fail
    refine (tbad_any _).mono ?_
    rintro e w1 ⟨rfl, B, b1⟩
    have F : Blk (w1.alloc (.cells (faultL w.heap.size).toArray 125)) w1.heap.size 125 (faultL w.heap.size) := Blk.new w1 _ _
    replace B := B.alloc (.cells (faultL w.heap.size).toArray 125)
    have q := b1.alloc b1.size (.cells (faultL w.heap.size).toArray 125)
    have hT2 := (hT.step b1).step ((Below.refl _ _).alloc (Nat.le_refl _) (.cells (faultL w.heap.size).toArray 125))
    simp only [faultL] at F B q hT2
    clear hT b1
    go_wp2_with fail
    generalize w1.alloc _ = W at F B q hT2 ⊢
    generalize w1.heap.size = g at F ⊢
    refine wp_loop_rounds 5 ?_
    rw [rounds_succ]
    have c0 := F.cell (j := 0) rfl
    have c1 := F.cell (j := 1) rfl
    go_wp2_with fail
    refine (t1_any s _ hl _).mono ?_
    rintro e w' ⟨rfl, rfl⟩
    clear c0 c1
    have D := Blk.new W 125 [.func (.func 71) #[] #[], .int .i64 3]
    have F := F.step ((Below.refl _ _).alloc (Nat.le_refl _) (.cells #[.func (.func 71) #[] #[], .int .i64 3] 125))
    have B := box_step B ((Below.refl _ _).alloc (Nat.le_refl _) (.cells #[.func (.func 71) #[] #[], .int .i64 3] 125))
    have hT2 := hT2.step ((Below.refl _ _).alloc (Nat.le_refl _) (.cells #[.func (.func 71) #[] #[], .int .i64 3] 125))
    have q := q.alloc q.size (.cells #[.func (.func 71) #[] #[], .int .i64 3] 125)
    generalize W.alloc _ = W2 at F B q hT2 D ⊢
    have cD := D.cell (j := 1) rfl
    clear cD D
    go_wp2_with fail
    rw [rounds_succ]
    have c0 := F.cell (j := 2) rfl
    have c1 := F.cell (j := 3) rfl
    have D := Blk.new W2 125 [.func (.func 72) #[] #[], .int .i64 130]
    have F := F.step ((Below.refl _ _).alloc (Nat.le_refl _) (.cells #[.func (.func 72) #[] #[], .int .i64 130] 125))
    have B := box_step B ((Below.refl _ _).alloc (Nat.le_refl _) (.cells #[.func (.func 72) #[] #[], .int .i64 130] 125))
    have hT2 := hT2.step ((Below.refl _ _).alloc (Nat.le_refl _) (.cells #[.func (.func 72) #[] #[], .int .i64 130] 125))
    have q := q.alloc q.size (.cells #[.func (.func 72) #[] #[], .int .i64 130] 125)
    go_wp2_with fail
    refine (t2_any s _ hv hs _ hT2).mono ?_
    rintro e w3 ⟨rfl, b⟩
    clear c0 c1
    replace D := D.step b
    have cD := D.cell (j := 1) rfl
    replace F := F.step b
    replace B := box_step B b
    replace hT2 := hT2.step b
    replace q := q.trans (b.mono q.size)
    clear b
    clear cD D
    go_wp2_with fail
    rw [rounds_succ]
    have c0 := F.cell (j := 4) rfl
    have c1 := F.cell (j := 5) rfl
    have D := Blk.new w3 125 [.func (.func 89) #[] #[.pointer (some ⟨w.heap.size, 0, none⟩)], .int .i64 131]
    have F := F.step ((Below.refl _ _).alloc (Nat.le_refl _) (.cells #[.func (.func 89) #[] #[.pointer (some ⟨w.heap.size, 0, none⟩)], .int .i64 131] 125))
    have B := box_step B ((Below.refl _ _).alloc (Nat.le_refl _) (.cells #[.func (.func 89) #[] #[.pointer (some ⟨w.heap.size, 0, none⟩)], .int .i64 131] 125))
    have hT2 := hT2.step ((Below.refl _ _).alloc (Nat.le_refl _) (.cells #[.func (.func 89) #[] #[.pointer (some ⟨w.heap.size, 0, none⟩)], .int .i64 131] 125))
    have q := q.alloc q.size (.cells #[.func (.func 89) #[] #[.pointer (some ⟨w.heap.size, 0, none⟩)], .int .i64 131] 125)
    go_wp2_with fail
    refine (bad1_at _ s _ hb _ B).mono ?_
    rintro e w4 ⟨rfl, b⟩
    clear c0 c1
    replace D := D.step b
    have cD := D.cell (j := 1) rfl
    replace F := F.step b
    replace B := box_step B b
    replace hT2 := hT2.step b
    replace q := q.trans (b.mono q.size)
    clear b
    clear cD D
    go_wp2_with fail
    rw [rounds_succ]
    have c0 := F.cell (j := 6) rfl
    have c1 := F.cell (j := 7) rfl
    have D := Blk.new w4 125 [.func (.func 76) #[] #[], .int .i64 132]
    have F := F.step ((Below.refl _ _).alloc (Nat.le_refl _) (.cells #[.func (.func 76) #[] #[], .int .i64 132] 125))
    have B := box_step B ((Below.refl _ _).alloc (Nat.le_refl _) (.cells #[.func (.func 76) #[] #[], .int .i64 132] 125))
    have hT2 := hT2.step ((Below.refl _ _).alloc (Nat.le_refl _) (.cells #[.func (.func 76) #[] #[], .int .i64 132] 125))
    have q := q.alloc q.size (.cells #[.func (.func 76) #[] #[], .int .i64 132] 125)
    go_wp2_with fail
    refine (t4_any s _ hk hs _).mono ?_
    rintro e w5 ⟨rfl, b⟩
    clear c0 c1
    replace D := D.step b
    have cD := D.cell (j := 1) rfl
    replace F := F.step b
    replace B := box_step B b
    replace hT2 := hT2.step b
    replace q := q.trans (b.mono q.size)
    clear b
    go_wp2_with fail
    rw [rounds_succ]
    go_wp2
    go_returns
    exact ⟨rfl, q⟩
end Go.Proofs.YtcahkcbenanfnaaDoor
