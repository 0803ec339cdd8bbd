
import Derived.Test.YthhpblchiodahaaGreatDoorM3
import Derived.Test.YthhpblchiodahaaGreatDoorTxS
import Derived.LoopN
import Derived.Below
import Derived.Handy
import Derived.Laws.EntriesVeiled
import Derived.Lib.ValidLaws
import Derived.Lib.TrimUEq
import Derived.Lib.SlicesS
import Derived.Test.YthhpblchiodahaaGreatDoorM1
import Derived.MapKept
import Derived.WideMake
import Derived.Deep.Cut
/- Package text: Check. -/
namespace Go.Proofs.YthhpblchiodahaaGreatDoor
set_option linter.unusedSimpArgs false
set_option linter.unusedVariables false
open Go.RowKit Go.Shelf Go.Lib

/-- unicode/utf8's tables lie as their text lays them. -/
def Tabs (w : World) : Prop := Lib.Utf8Tabs (Tryz.laysValid_ren.g 3) (Tryz.laysValid_ren.g 4) w
theorem Tabs.step {w w' : World} (h : Tabs w) (hb : Below w.heap.size w w') : Tabs w' := Utf8Tabs_below h hb
theorem valid_any (s : ByteArray) (w : World) (hs : s.size ≤ 9223372036854775807) (hT : Tabs w) :
    Calls Tryz.prog 93 #[.string s] w fun e w' => e = .returned (.bool (Lib.validD s.data.toList)) ∧ Below w.heap.size w w' := Any.utf8_ValidString Tryz.laysValid s w hs hT
theorem trim_any (s : ByteArray) (w : World) (hs : s.size ≤ 9223372036854775807) :
    Calls Tryz.prog 97 #[.string s, .string ⟨#[32]⟩] w fun e w' => e = .returned (.string ⟨(Lib.trimB s.data.toList 32).toArray⟩) ∧ Below w.heap.size w w' := by
  refine (Tryz.strings_Trim_one s 32 (by decide) w hs).mono ?_
  rintro e w' ⟨h, rfl | rfl⟩
  · exact ⟨h, Below.refl _ _⟩
  · exact ⟨h, (Below.refl _ _).drew⟩
def trimS (s : ByteArray) : ByteArray := ⟨(Lib.trimB s.data.toList 32).toArray⟩
def longS (s : ByteArray) : Bool := decide (200 < s.size)
def validS (s : ByteArray) : Bool := Lib.validD s.data.toList
def blankS (s : ByteArray) : Bool := decide (s.toList = [] ∨ ¬ (trimS s).toList = s.toList)
def chkT (s : ByteArray) : Int := if longS s then 3 else if validS s then (if badS s then 131 else if blankS s then 132 else 0) else 130
theorem t1_any (s : ByteArray) (v : Bool) (h : longS s = v) (w : World) : Calls Tryz.prog 91 #[.string s] w fun e w' => e = .returned (.bool v) ∧ w = w' := by
  have hv : decide ((200 : Int) < (s.size : Int)) = v := by rw [← h]; unfold longS; rw [decide_eq_decide]; omega
  subst hv
  go_enter Tryz.func91, Tryz.ntmps91
  go_wp2
  go_ret
  exact ⟨tx_bool (by simp), rfl⟩
theorem t2_any (s : ByteArray) (v : Bool) (h : validS s = v) (hs : s.size ≤ 9223372036854775807) (w : World) (hT : Tabs w) : Calls Tryz.prog 92 #[.string s] w fun e w' => e = .returned (.bool (!v)) ∧ Below w.heap.size w w' := by
  have hc := valid_any s w hs hT
  rw [show Lib.validD s.data.toList = v from h] at hc
  go_enter Tryz.func92, Tryz.ntmps92
  go_wp2_with fail
  refine (hc).mono ?_
  rintro e w1 ⟨rfl, b1⟩
  go_wp2
  go_ret
  exact ⟨rfl, b1⟩
theorem t4_any (s : ByteArray) (v : Bool) (h : blankS s = v) (hs : s.size ≤ 9223372036854775807) (w : World) : Calls Tryz.prog 96 #[.string s] w fun e w' => e = .returned (.bool v) ∧ Below w.heap.size w w' := by
  by_cases h0 : s.toList = []
  · have hv : v = true := by rw [← h]; simp [blankS, h0]
    subst hv
    clear h
    go_enter Tryz.func96, Tryz.ntmps96
    go_wp2
    go_ret
    exact ⟨rfl, Below.refl _ _⟩
  · have hc := trim_any s w hs
    obtain ⟨t, ht⟩ : ∃ t, trimS s = t := ⟨_, rfl⟩
    rw [show (⟨(Lib.trimB s.data.toList 32).toArray⟩ : ByteArray) = t from ht] at hc
    have hv : decide (¬ t.toList = s.toList) = v := by rw [← h, ← ht]; simp [blankS, h0]
    clear h ht
    by_cases h1 : t.toList = s.toList
    · have : v = false := by rw [← hv]; simp [h1]
      subst this
      clear hv
      go_enter Tryz.func96, Tryz.ntmps96
      go_wp2_with fail
      refine (hc).mono ?_
      rintro e w1 ⟨rfl, b1⟩
      go_wp2
      go_ret
      exact ⟨tx_bool (by simp [h0]), b1⟩
    · have : v = true := by rw [← hv]; simp [h1]
      subst this
      clear hv
      go_enter Tryz.func96, Tryz.ntmps96
      go_wp2_with fail
      refine (hc).mono ?_
      rintro e w1 ⟨rfl, b1⟩
      go_wp2
      go_ret
      exact ⟨tx_bool (by simp [h0, h1]), b1⟩
theorem tbad_any (w : World) : Calls Tryz.prog 94 #[.func (.func 95) #[] #[]] w fun e w' => e = .returned (.func (.func 128) #[] #[.pointer (some ⟨w.heap.size, 0, none⟩)]) ∧
    Boxed w' w.heap.size 178 (.func (.func 95) #[] #[]) ∧ Below w.heap.size w w' := by
  go_enter Tryz.func94, Tryz.ntmps94
  go_wp2_with fail
  go_ret
  exact ⟨rfl, Boxed.new w _ _, (Below.refl _ _).alloc (Nat.le_refl _) _⟩
end Go.Proofs.YthhpblchiodahaaGreatDoor

/- Package text: Check tells whether a text may be said. -/
namespace Go.Proofs.YthhpblchiodahaaGreatDoor
open Go.RowKit Go.Shelf Go.Lib

theorem chk_cases (s : ByteArray) : (longS s = true ∧ chkT s = 3) ∨ (longS s = false ∧ validS s = false ∧ chkT s = 130) ∨ (longS s = false ∧ validS s = true ∧ badS s = true ∧ chkT s = 131) ∨
    (longS s = false ∧ validS s = true ∧ badS s = false ∧ blankS s = true ∧ chkT s = 132) ∨ (longS s = false ∧ validS s = true ∧ badS s = false ∧ blankS s = false ∧ chkT s = 0) := by
  unfold chkT
  cases longS s <;> cases validS s <;> cases badS s <;> cases blankS s <;> simp
theorem bad1_at (b : Nat) (s : ByteArray) (v : Bool) (h : badS s = v) (w : World) (hB : Boxed w b 178 (.func (.func 95) #[] #[])) :
    Calls Tryz.prog 128 #[.string s, .pointer (some ⟨b, 0, none⟩)] w fun e w' => e = .returned (.bool v) ∧ Below w.heap.size w w' := h ▸ bad1_any b s w hB
def faultL (b : Nat) : List Value := [.func (.func 91) #[] #[], .int .i64 3, .func (.func 92) #[] #[], .int .i64 130, .func (.func 128) #[] #[.pointer (some ⟨b, 0, none⟩)], .int .i64 131, .func (.func 96) #[] #[], .int .i64 132]
set_option maxRecDepth 100000 in
set_option maxHeartbeats 4000000 in
theorem textCheck_any (s : ByteArray) (hs : s.size ≤ 9223372036854775807) (w : World) (hT : Tabs w) : Calls Tryz.prog 60 #[.string s] w fun e w' => e = .returned (.int .i64 (chkT s)) ∧ Below w.heap.size w w' := by
  rcases chk_cases s with ⟨hl, h⟩ | ⟨hl, hv, h⟩ | ⟨hl, hv, hb, h⟩ | ⟨hl, hv, hb, hk, h⟩ | ⟨hl, hv, hb, hk, h⟩
  · rw [h]
    clear h
    go_enter Tryz.func60, Tryz.ntmps60
    go_wp2_with fail
    refine (tbad_any _).mono ?_
    rintro e w1 ⟨rfl, B, b1⟩
    have F : Blk (w1.alloc (.cells (faultL w.heap.size).toArray 176)) w1.heap.size 176 (faultL w.heap.size) := Blk.new w1 _ _
    replace B := B.alloc (.cells (faultL w.heap.size).toArray 176)
    have q := b1.alloc b1.size (.cells (faultL w.heap.size).toArray 176)
    have hT2 := (hT.step b1).step ((Below.refl _ _).alloc (Nat.le_refl _) (.cells (faultL w.heap.size).toArray 176))
    simp only [faultL] at F B q hT2
    clear hT b1
    go_wp2_with fail
    generalize w1.alloc _ = W at F B q hT2 ⊢
    generalize w1.heap.size = g at F ⊢
    refine wp_loop_rounds 5 ?_
    rw [rounds_succ]
    have c0 := F.cell (j := 0) rfl
    have c1 := F.cell (j := 1) rfl
    go_wp2_with fail
    refine (t1_any s _ hl _).mono ?_
    rintro e w' ⟨rfl, rfl⟩
    clear c0 c1
    have D := Blk.new W 176 [.func (.func 91) #[] #[], .int .i64 3]
    have F := F.step ((Below.refl _ _).alloc (Nat.le_refl _) (.cells #[.func (.func 91) #[] #[], .int .i64 3] 176))
    have B := box_step B ((Below.refl _ _).alloc (Nat.le_refl _) (.cells #[.func (.func 91) #[] #[], .int .i64 3] 176))
    have hT2 := hT2.step ((Below.refl _ _).alloc (Nat.le_refl _) (.cells #[.func (.func 91) #[] #[], .int .i64 3] 176))
    have q := q.alloc q.size (.cells #[.func (.func 91) #[] #[], .int .i64 3] 176)
    generalize W.alloc _ = W2 at F B q hT2 D ⊢
    have cD := D.cell (j := 1) rfl
    go_wp2
    go_returns
    exact ⟨rfl, q⟩
  · rw [h]
    clear h
    go_enter Tryz.func60, Tryz.ntmps60
    go_wp2_with fail
    refine (tbad_any _).mono ?_
    rintro e w1 ⟨rfl, B, b1⟩
    have F : Blk (w1.alloc (.cells (faultL w.heap.size).toArray 176)) w1.heap.size 176 (faultL w.heap.size) := Blk.new w1 _ _
    replace B := B.alloc (.cells (faultL w.heap.size).toArray 176)
    have q := b1.alloc b1.size (.cells (faultL w.heap.size).toArray 176)
    have hT2 := (hT.step b1).step ((Below.refl _ _).alloc (Nat.le_refl _) (.cells (faultL w.heap.size).toArray 176))
    simp only [faultL] at F B q hT2
    clear hT b1
    go_wp2_with fail
    generalize w1.alloc _ = W at F B q hT2 ⊢
    generalize w1.heap.size = g at F ⊢
    refine wp_loop_rounds 5 ?_
    rw [rounds_succ]
    have c0 := F.cell (j := 0) rfl
    have c1 := F.cell (j := 1) rfl
    go_wp2_with fail
    refine (t1_any s _ hl _).mono ?_
    rintro e w' ⟨rfl, rfl⟩
    clear c0 c1
    have D := Blk.new W 176 [.func (.func 91) #[] #[], .int .i64 3]
    have F := F.step ((Below.refl _ _).alloc (Nat.le_refl _) (.cells #[.func (.func 91) #[] #[], .int .i64 3] 176))
    have B := box_step B ((Below.refl _ _).alloc (Nat.le_refl _) (.cells #[.func (.func 91) #[] #[], .int .i64 3] 176))
    have hT2 := hT2.step ((Below.refl _ _).alloc (Nat.le_refl _) (.cells #[.func (.func 91) #[] #[], .int .i64 3] 176))
    have q := q.alloc q.size (.cells #[.func (.func 91) #[] #[], .int .i64 3] 176)
    generalize W.alloc _ = W2 at F B q hT2 D ⊢
    have cD := D.cell (j := 1) rfl
    clear cD D
    go_wp2_with fail
    rw [rounds_succ]
    have c0 := F.cell (j := 2) rfl
    have c1 := F.cell (j := 3) rfl
    have D := Blk.new W2 176 [.func (.func 92) #[] #[], .int .i64 130]
    have F := F.step ((Below.refl _ _).alloc (Nat.le_refl _) (.cells #[.func (.func 92) #[] #[], .int .i64 130] 176))
    have B := box_step B ((Below.refl _ _).alloc (Nat.le_refl _) (.cells #[.func (.func 92) #[] #[], .int .i64 130] 176))
    have hT2 := hT2.step ((Below.refl _ _).alloc (Nat.le_refl _) (.cells #[.func (.func 92) #[] #[], .int .i64 130] 176))
    have q := q.alloc q.size (.cells #[.func (.func 92) #[] #[], .int .i64 130] 176)
    go_wp2_with fail
    refine (t2_any s _ hv hs _ hT2).mono ?_
    rintro e w3 ⟨rfl, b⟩
    clear c0 c1
    replace D := D.step b
    have cD := D.cell (j := 1) rfl
    replace F := F.step b
    replace B := box_step B b
    replace hT2 := hT2.step b
    replace q := q.trans (b.mono q.size)
    clear b
    go_wp2
    go_returns
    exact ⟨rfl, q⟩
  · rw [h]
    clear h
    go_enter Tryz.func60, Tryz.ntmps60
    go_wp2_with fail
    refine (tbad_any _).mono ?_
    rintro e w1 ⟨rfl, B, b1⟩
    have F : Blk (w1.alloc (.cells (faultL w.heap.size).toArray 176)) w1.heap.size 176 (faultL w.heap.size) := Blk.new w1 _ _
    replace B := B.alloc (.cells (faultL w.heap.size).toArray 176)
    have q := b1.alloc b1.size (.cells (faultL w.heap.size).toArray 176)
    have hT2 := (hT.step b1).step ((Below.refl _ _).alloc (Nat.le_refl _) (.cells (faultL w.heap.size).toArray 176))
    simp only [faultL] at F B q hT2
    clear hT b1
    go_wp2_with fail
    generalize w1.alloc _ = W at F B q hT2 ⊢
    generalize w1.heap.size = g at F ⊢
    refine wp_loop_rounds 5 ?_
    rw [rounds_succ]
    have c0 := F.cell (j := 0) rfl
    have c1 := F.cell (j := 1) rfl
    go_wp2_with fail
    refine (t1_any s _ hl _).mono ?_
    rintro e w' ⟨rfl, rfl⟩
    clear c0 c1
    have D := Blk.new W 176 [.func (.func 91) #[] #[], .int .i64 3]
    have F := F.step ((Below.refl _ _).alloc (Nat.le_refl _) (.cells #[.func (.func 91) #[] #[], .int .i64 3] 176))
    have B := box_step B ((Below.refl _ _).alloc (Nat.le_refl _) (.cells #[.func (.func 91) #[] #[], .int .i64 3] 176))
    have hT2 := hT2.step ((Below.refl _ _).alloc (Nat.le_refl _) (.cells #[.func (.func 91) #[] #[], .int .i64 3] 176))
    have q := q.alloc q.size (.cells #[.func (.func 91) #[] #[], .int .i64 3] 176)
    generalize W.alloc _ = W2 at F B q hT2 D ⊢
    have cD := D.cell (j := 1) rfl
    clear cD D
    go_wp2_with fail
    rw [rounds_succ]
    have c0 := F.cell (j := 2) rfl
    have c1 := F.cell (j := 3) rfl
    have D := Blk.new W2 176 [.func (.func 92) #[] #[], .int .i64 130]
    have F := F.step ((Below.refl _ _).alloc (Nat.le_refl _) (.cells #[.func (.func 92) #[] #[], .int .i64 130] 176))
    have B := box_step B ((Below.refl _ _).alloc (Nat.le_refl _) (.cells #[.func (.func 92) #[] #[], .int .i64 130] 176))
    have hT2 := hT2.step ((Below.refl _ _).alloc (Nat.le_refl _) (.cells #[.func (.func 92) #[] #[], .int .i64 130] 176))
    have q := q.alloc q.size (.cells #[.func (.func 92) #[] #[], .int .i64 130] 176)
    go_wp2_with fail
    refine (t2_any s _ hv hs _ hT2).mono ?_
    rintro e w3 ⟨rfl, b⟩
    clear c0 c1
    replace D := D.step b
    have cD := D.cell (j := 1) rfl
    replace F := F.step b
    replace B := box_step B b
    replace hT2 := hT2.step b
    replace q := q.trans (b.mono q.size)
    clear b
    clear cD D
    go_wp2_with fail
    rw [rounds_succ]
    have c0 := F.cell (j := 4) rfl
    have c1 := F.cell (j := 5) rfl
    have D := Blk.new w3 176 [.func (.func 128) #[] #[.pointer (some ⟨w.heap.size, 0, none⟩)], .int .i64 131]
    have F := F.step ((Below.refl _ _).alloc (Nat.le_refl _) (.cells #[.func (.func 128) #[] #[.pointer (some ⟨w.heap.size, 0, none⟩)], .int .i64 131] 176))
    have B := box_step B ((Below.refl _ _).alloc (Nat.le_refl _) (.cells #[.func (.func 128) #[] #[.pointer (some ⟨w.heap.size, 0, none⟩)], .int .i64 131] 176))
    have hT2 := hT2.step ((Below.refl _ _).alloc (Nat.le_refl _) (.cells #[.func (.func 128) #[] #[.pointer (some ⟨w.heap.size, 0, none⟩)], .int .i64 131] 176))
    have q := q.alloc q.size (.cells #[.func (.func 128) #[] #[.pointer (some ⟨w.heap.size, 0, none⟩)], .int .i64 131] 176)
    go_wp2_with fail
    refine (bad1_at _ s _ hb _ B).mono ?_
    rintro e w4 ⟨rfl, b⟩
    clear c0 c1
    replace D := D.step b
    have cD := D.cell (j := 1) rfl
    replace F := F.step b
    replace B := box_step B b
    replace hT2 := hT2.step b
    replace q := q.trans (b.mono q.size)
    clear b
    go_wp2
    go_returns
    exact ⟨rfl, q⟩
  · rw [h]
    clear h
    go_enter Tryz.func60, Tryz.ntmps60
    go_wp2_with fail
    refine (tbad_any _).mono ?_
    rintro e w1 ⟨rfl, B, b1⟩
    have F : Blk (w1.alloc (.cells (faultL w.heap.size).toArray 176)) w1.heap.size 176 (faultL w.heap.size) := Blk.new w1 _ _
    replace B := B.alloc (.cells (faultL w.heap.size).toArray 176)
    have q := b1.alloc b1.size (.cells (faultL w.heap.size).toArray 176)
    have hT2 := (hT.step b1).step ((Below.refl _ _).alloc (Nat.le_refl _) (.cells (faultL w.heap.size).toArray 176))
    simp only [faultL] at F B q hT2
    clear hT b1
    go_wp2_with fail
    generalize w1.alloc _ = W at F B q hT2 ⊢
    generalize w1.heap.size = g at F ⊢
    refine wp_loop_rounds 5 ?_
    rw [rounds_succ]
    have c0 := F.cell (j := 0) rfl
    have c1 := F.cell (j := 1) rfl
    go_wp2_with fail
    refine (t1_any s _ hl _).mono ?_
    rintro e w' ⟨rfl, rfl⟩
    clear c0 c1
    have D := Blk.new W 176 [.func (.func 91) #[] #[], .int .i64 3]
    have F := F.step ((Below.refl _ _).alloc (Nat.le_refl _) (.cells #[.func (.func 91) #[] #[], .int .i64 3] 176))
    have B := box_step B ((Below.refl _ _).alloc (Nat.le_refl _) (.cells #[.func (.func 91) #[] #[], .int .i64 3] 176))
    have hT2 := hT2.step ((Below.refl _ _).alloc (Nat.le_refl _) (.cells #[.func (.func 91) #[] #[], .int .i64 3] 176))
    have q := q.alloc q.size (.cells #[.func (.func 91) #[] #[], .int .i64 3] 176)
    generalize W.alloc _ = W2 at F B q hT2 D ⊢
    have cD := D.cell (j := 1) rfl
    clear cD D
    go_wp2_with fail
    rw [rounds_succ]
    have c0 := F.cell (j := 2) rfl
    have c1 := F.cell (j := 3) rfl
    have D := Blk.new W2 176 [.func (.func 92) #[] #[], .int .i64 130]
    have F := F.step ((Below.refl _ _).alloc (Nat.le_refl _) (.cells #[.func (.func 92) #[] #[], .int .i64 130] 176))
    have B := box_step B ((Below.refl _ _).alloc (Nat.le_refl _) (.cells #[.func (.func 92) #[] #[], .int .i64 130] 176))
    have hT2 := hT2.step ((Below.refl _ _).alloc (Nat.le_refl _) (.cells #[.func (.func 92) #[] #[], .int .i64 130] 176))
    have q := q.alloc q.size (.cells #[.func (.func 92) #[] #[], .int .i64 130] 176)
    go_wp2_with fail
    refine (t2_any s _ hv hs _ hT2).mono ?_
    rintro e w3 ⟨rfl, b⟩
    clear c0 c1
    replace D := D.step b
    have cD := D.cell (j := 1) rfl
    replace F := F.step b
    replace B := box_step B b
    replace hT2 := hT2.step b
    replace q := q.trans (b.mono q.size)
    clear b
    clear cD D
    go_wp2_with fail
    rw [rounds_succ]
    have c0 := F.cell (j := 4) rfl
    have c1 := F.cell (j := 5) rfl
    have D := Blk.new w3 176 [.func (.func 128) #[] #[.pointer (some ⟨w.heap.size, 0, none⟩)], .int .i64 131]
    have F := F.step ((Below.refl _ _).alloc (Nat.le_refl _) (.cells #[.func (.func 128) #[] #[.pointer (some ⟨w.heap.size, 0, none⟩)], .int .i64 131] 176))
    have B := box_step B ((Below.refl _ _).alloc (Nat.le_refl _) (.cells #[.func (.func 128) #[] #[.pointer (some ⟨w.heap.size, 0, none⟩)], .int .i64 131] 176))
    have hT2 := hT2.step ((Below.refl _ _).alloc (Nat.le_refl _) (.cells #[.func (.func 128) #[] #[.pointer (some ⟨w.heap.size, 0, none⟩)], .int .i64 131] 176))
    have q := q.alloc q.size (.cells #[.func (.func 128) #[] #[.pointer (some ⟨w.heap.size, 0, none⟩)], .int .i64 131] 176)
    go_wp2_with fail
    refine (bad1_at _ s _ hb _ B).mono ?_
    rintro e w4 ⟨rfl, b⟩
    clear c0 c1
    replace D := D.step b
    have cD := D.cell (j := 1) rfl
    replace F := F.step b
    replace B := box_step B b
    replace hT2 := hT2.step b
    replace q := q.trans (b.mono q.size)
    clear b
    clear cD D
    go_wp2_with fail
    rw [rounds_succ]
    have c0 := F.cell (j := 6) rfl
    have c1 := F.cell (j := 7) rfl
    have D := Blk.new w4 176 [.func (.func 96) #[] #[], .int .i64 132]
    have F := F.step ((Below.refl _ _).alloc (Nat.le_refl _) (.cells #[.func (.func 96) #[] #[], .int .i64 132] 176))
    have B := box_step B ((Below.refl _ _).alloc (Nat.le_refl _) (.cells #[.func (.func 96) #[] #[], .int .i64 132] 176))
    have hT2 := hT2.step ((Below.refl _ _).alloc (Nat.le_refl _) (.cells #[.func (.func 96) #[] #[], .int .i64 132] 176))
    have q := q.alloc q.size (.cells #[.func (.func 96) #[] #[], .int .i64 132] 176)
    go_wp2_with fail
    refine (t4_any s _ hk hs _).mono ?_
    rintro e w5 ⟨rfl, b⟩
    clear c0 c1
    replace D := D.step b
    have cD := D.cell (j := 1) rfl
    replace F := F.step b
    replace B := box_step B b
    replace hT2 := hT2.step b
    replace q := q.trans (b.mono q.size)
    clear b
    go_wp2
    go_returns
    exact ⟨rfl, q⟩
  · rw [h]
    clear h
    go_enter Tryz.func60, Tryz.ntmps60
    go_wp2_with fail
    refine (tbad_any _).mono ?_
    rintro e w1 ⟨rfl, B, b1⟩
    have F : Blk (w1.alloc (.cells (faultL w.heap.size).toArray 176)) w1.heap.size 176 (faultL w.heap.size) := Blk.new w1 _ _
    replace B := B.alloc (.cells (faultL w.heap.size).toArray 176)
    have q := b1.alloc b1.size (.cells (faultL w.heap.size).toArray 176)
    have hT2 := (hT.step b1).step ((Below.refl _ _).alloc (Nat.le_refl _) (.cells (faultL w.heap.size).toArray 176))
    simp only [faultL] at F B q hT2
    clear hT b1
    go_wp2_with fail
    generalize w1.alloc _ = W at F B q hT2 ⊢
    generalize w1.heap.size = g at F ⊢
    refine wp_loop_rounds 5 ?_
    rw [rounds_succ]
    have c0 := F.cell (j := 0) rfl
    have c1 := F.cell (j := 1) rfl
    go_wp2_with fail
    refine (t1_any s _ hl _).mono ?_
    rintro e w' ⟨rfl, rfl⟩
    clear c0 c1
    have D := Blk.new W 176 [.func (.func 91) #[] #[], .int .i64 3]
    have F := F.step ((Below.refl _ _).alloc (Nat.le_refl _) (.cells #[.func (.func 91) #[] #[], .int .i64 3] 176))
    have B := box_step B ((Below.refl _ _).alloc (Nat.le_refl _) (.cells #[.func (.func 91) #[] #[], .int .i64 3] 176))
    have hT2 := hT2.step ((Below.refl _ _).alloc (Nat.le_refl _) (.cells #[.func (.func 91) #[] #[], .int .i64 3] 176))
    have q := q.alloc q.size (.cells #[.func (.func 91) #[] #[], .int .i64 3] 176)
    generalize W.alloc _ = W2 at F B q hT2 D ⊢
    have cD := D.cell (j := 1) rfl
    clear cD D
    go_wp2_with fail
    rw [rounds_succ]
    have c0 := F.cell (j := 2) rfl
    have c1 := F.cell (j := 3) rfl
    have D := Blk.new W2 176 [.func (.func 92) #[] #[], .int .i64 130]
    have F := F.step ((Below.refl _ _).alloc (Nat.le_refl _) (.cells #[.func (.func 92) #[] #[], .int .i64 130] 176))
    have B := box_step B ((Below.refl _ _).alloc (Nat.le_refl _) (.cells #[.func (.func 92) #[] #[], .int .i64 130] 176))
    have hT2 := hT2.step ((Below.refl _ _).alloc (Nat.le_refl _) (.cells #[.func (.func 92) #[] #[], .int .i64 130] 176))
    have q := q.alloc q.size (.cells #[.func (.func 92) #[] #[], .int .i64 130] 176)
    go_wp2_with fail
    refine (t2_any s _ hv hs _ hT2).mono ?_
    rintro e w3 ⟨rfl, b⟩
    clear c0 c1
    replace D := D.step b
    have cD := D.cell (j := 1) rfl
    replace F := F.step b
    replace B := box_step B b
    replace hT2 := hT2.step b
    replace q := q.trans (b.mono q.size)
    clear b
    clear cD D
    go_wp2_with fail
    rw [rounds_succ]
    have c0 := F.cell (j := 4) rfl
    have c1 := F.cell (j := 5) rfl
    have D := Blk.new w3 176 [.func (.func 128) #[] #[.pointer (some ⟨w.heap.size, 0, none⟩)], .int .i64 131]
    have F := F.step ((Below.refl _ _).alloc (Nat.le_refl _) (.cells #[.func (.func 128) #[] #[.pointer (some ⟨w.heap.size, 0, none⟩)], .int .i64 131] 176))
    have B := box_step B ((Below.refl _ _).alloc (Nat.le_refl _) (.cells #[.func (.func 128) #[] #[.pointer (some ⟨w.heap.size, 0, none⟩)], .int .i64 131] 176))
    have hT2 := hT2.step ((Below.refl _ _).alloc (Nat.le_refl _) (.cells #[.func (.func 128) #[] #[.pointer (some ⟨w.heap.size, 0, none⟩)], .int .i64 131] 176))
    have q := q.alloc q.size (.cells #[.func (.func 128) #[] #[.pointer (some ⟨w.heap.size, 0, none⟩)], .int .i64 131] 176)
    go_wp2_with fail
    refine (bad1_at _ s _ hb _ B).mono ?_
    rintro e w4 ⟨rfl, b⟩
    clear c0 c1
    replace D := D.step b
    have cD := D.cell (j := 1) rfl
    replace F := F.step b
    replace B := box_step B b
    replace hT2 := hT2.step b
    replace q := q.trans (b.mono q.size)
    clear b
    clear cD D
    go_wp2_with fail
    rw [rounds_succ]
    have c0 := F.cell (j := 6) rfl
    have c1 := F.cell (j := 7) rfl
    have D := Blk.new w4 176 [.func (.func 96) #[] #[], .int .i64 132]
    have F := F.step ((Below.refl _ _).alloc (Nat.le_refl _) (.cells #[.func (.func 96) #[] #[], .int .i64 132] 176))
    have B := box_step B ((Below.refl _ _).alloc (Nat.le_refl _) (.cells #[.func (.func 96) #[] #[], .int .i64 132] 176))
    have hT2 := hT2.step ((Below.refl _ _).alloc (Nat.le_refl _) (.cells #[.func (.func 96) #[] #[], .int .i64 132] 176))
    have q := q.alloc q.size (.cells #[.func (.func 96) #[] #[], .int .i64 132] 176)
    go_wp2_with fail
    refine (t4_any s _ hk hs _).mono ?_
    rintro e w5 ⟨rfl, b⟩
    clear c0 c1
    replace D := D.step b
    have cD := D.cell (j := 1) rfl
    replace F := F.step b
    replace B := box_step B b
    replace hT2 := hT2.step b
    replace q := q.trans (b.mono q.size)
    clear b
    go_wp2_with fail
    rw [rounds_succ]
    go_wp2
    go_returns
    exact ⟨rfl, q⟩
end Go.Proofs.YthhpblchiodahaaGreatDoor

/- A text may be said by the program just where it may by the document. -/
namespace Go.Proofs.YthhpblchiodahaaGreatDoor
open Go.RowKit

theorem bad_signs (s : ByteArray) : ∀ k i, (∀ x, x ∈ signsFrom s k i → badN x = signBad (x.2.2.1 : Nat)) ∧ (signsFrom s k i).any badN = badFrom s k i
  | 0, i => ⟨by simp [signsFrom], by simp [signsFrom, badFrom]⟩
  | k + 1, i => by
    have hb : ∀ x : Sg, badN x = signBad (x.2.2.1 : Nat) := fun x => by
      unfold badN signBad
      rw [Bool.eq_iff_iff]
      simp
      omega
    refine ⟨fun x _ => hb x, ?_⟩
    unfold signsFrom badFrom
    split
    · rw [List.any_cons, (bad_signs s k _).2, hb]
    · rfl
theorem bad_eq (s : ByteArray) : badS s = (signsL s).any badN := ((bad_signs s s.size 0).2).symm
theorem valid_signs (s : ByteArray) : ∀ k i, s.size ≤ i + k → i ≤ s.size → Lib.validD (s.data.toList.drop i) = !(signsFrom s k i).any brkS
  | 0, i, h, h' => by
    obtain rfl : i = s.size := by omega
    have : s.data.toList.drop s.size = [] := by simp
    rw [this]
    simp [signsFrom, Lib.validD_nil]
  | k + 1, i, h, h' => by
    unfold signsFrom
    split
    · rename_i hi
      obtain ⟨d1, d2, -, -⟩ := dec_bd s i hi
      have hne : s.data.toList.drop i ≠ [] := by
        intro e
        have := congrArg List.length e
        simp at this
        omega
      rw [Lib.validD_step _ hne, Lib.decodeL_drop, List.drop_drop, List.any_cons]
      have ih := valid_signs s k (i + (Utf8.decode s i).2) (by omega) d2
      by_cases hb : (Utf8.decode s i).1 = 65533 ∧ (Utf8.decode s i).2 = 1
      · rw [if_pos hb]
        simp [brkS, brk, hb]
      · rw [if_neg hb, ih]
        have : brk (Utf8.decode s i) = false := by
          rw [Bool.eq_false_iff]
          unfold brk
          simp
          omega
        simp [brkS, this]
    · rename_i hi
      obtain rfl : i = s.size := by omega
      have : s.data.toList.drop s.size = [] := by simp
      rw [this]
      simp [Lib.validD_nil]
theorem valid_eq (s : ByteArray) : validS s = !(signsL s).any brkS := by
  have := valid_signs s s.size 0 (by omega) (by omega)
  simpa [validS, signsL] using this
end Go.Proofs.YthhpblchiodahaaGreatDoor

/- A text is blank at an end for the program just where it is for the document; the two Checks agree. -/
namespace Go.Proofs.YthhpblchiodahaaGreatDoor
open Go.RowKit

theorem dw_len (p : UInt8 → Bool) (l : List UInt8) : (l.dropWhile p).length ≤ l.length := (List.dropWhile_sublist p).length_le
theorem trim_same (c a b : UInt8) (t u l : List UInt8) (hl : l = a :: t) (hr : l.reverse = b :: u) : Lib.trimB l c = l ↔ (a ≠ c ∧ b ≠ c) := by
  have hlen : u.length + 1 = l.length := by have := congrArg List.length hr; simpa using this.symm
  unfold Lib.trimB Lib.trimLeftB Lib.trimRightB
  rw [hr]
  by_cases hb : b = c
  · have h1 : (b :: u).dropWhile (· == c) = u.dropWhile (· == c) := by simp [hb]
    rw [h1]
    have h2 := dw_len (· == c) u
    have h3 := dw_len (· == c) (u.dropWhile (· == c)).reverse
    constructor
    · intro h
      have := congrArg List.length h
      rw [List.length_reverse] at h3
      omega
    · intro h; exact absurd hb h.2
  · have h1 : (b :: u).dropWhile (· == c) = b :: u := by simp [hb]
    rw [h1, ← hr, List.reverse_reverse, hl]
    by_cases ha : a = c
    · have h2 : (a :: t).dropWhile (· == c) = t.dropWhile (· == c) := by simp [ha]
      rw [h2]
      have h3 := dw_len (· == c) t
      constructor
      · intro h
        have := congrArg List.length h
        simp at this
        omega
      · intro h; exact absurd ha h.1
    · have h2 : (a :: t).dropWhile (· == c) = a :: t := by simp [ha]
      rw [h2]
      exact ⟨fun _ => ⟨ha, hb⟩, fun _ => rfl⟩
theorem get_list (s : ByteArray) (i : Nat) (h : i < s.size) : s.data.toList[i]? = some (s.get! i) := by
  rw [← get_eq s i h, Array.getElem?_toList]
  exact Array.getElem?_eq_getElem (xs := s.data) h
theorem blank_eq (s : ByteArray) : blankS s = blankD s := by
  unfold blankS blankD
  rw [ByteArray.toList_eq, ByteArray.toList_eq]
  have hT : (trimS s).data.toList = Lib.trimB s.data.toList 32 := by simp [trimS]
  rw [hT]
  by_cases hz : s.size = 0
  · have : s.data.toList = [] := by
      have h : s.data.size = 0 := hz
      exact List.eq_nil_of_length_eq_zero (by simpa using h)
    simp [hz, this]
  · have hsz : s.data.toList.length = s.size := by simp
    have h0 := get_list s 0 (by omega)
    have h1 := get_list s (s.size - 1) (by omega)
    generalize s.data.toList = l at *
    generalize s.get! 0 = a at *
    generalize s.get! (s.size - 1) = b at *
    obtain ⟨t, ht⟩ : ∃ t, l = a :: t := by
      cases l with
      | nil => simp at h0
      | cons x t => simp at h0; subst h0; exact ⟨t, rfl⟩
    obtain ⟨u, hu⟩ : ∃ u, l.reverse = b :: u := by
      have hr : l.reverse[0]? = some b := by
        rw [List.getElem?_reverse (by omega), hsz]
        exact h1
      cases hl : l.reverse with
      | nil => rw [hl] at hr; simp at hr
      | cons x u => rw [hl] at hr; simp at hr; subst hr; exact ⟨u, rfl⟩
    have hs := trim_same 32 a b t u l ht hu
    have hne : l ≠ [] := by rw [ht]; simp
    have ea : (a = 32) ↔ (a.toNat = 32) := ⟨fun h => by rw [h]; rfl, fun h => UInt8.toNat_inj.1 h⟩
    have eb : (b = 32) ↔ (b.toNat = 32) := ⟨fun h => by rw [h]; rfl, fun h => UInt8.toNat_inj.1 h⟩
    rw [Bool.eq_iff_iff]
    simp only [hne, false_or, decide_eq_true_eq, hs, Bool.or_eq_true, beq_iff_eq, hz, ← ea, ← eb]
    by_cases ha : a = 32 <;> by_cases hb : b = 32 <;> simp [ha, hb]
theorem chk_eq (s : ByteArray) : chkT s = refChk s := by
  unfold chkT refChk longS
  rw [valid_eq, bad_eq, blank_eq]
  by_cases h : 200 < s.size
  · simp [h]
  · simp only [h, decide_false, Bool.false_eq_true, if_false]
    cases (signsL s).any brkS <;> simp
end Go.Proofs.YthhpblchiodahaaGreatDoor

/- Package acceptor: which entries may be. -/
namespace Go.Proofs.YthhpblchiodahaaGreatDoor
open Go.RowKit

def memB (m : Int) : Bool := decide (0 ≤ m) && decide (m < 16)
def emptyB (s : ByteArray) : Bool := s.toList.isEmpty
theorem r2_any (k m n : Int) (s : ByteArray) (w : World) : Calls Tryz.prog 58 #[.agg #[.int .i64 k, .int .i64 m, .int .i64 n, .string s]] w fun e w' => e = .returned (.bool (m == 0 && (n == 0 && emptyB s))) ∧ Below w.heap.size w w' := by
  go_enter Tryz.func58, Tryz.ntmps58
  go_wp2
  all_goals
    rename_i h
    go_ret
    exact ⟨tx_bool (by simp_all [emptyB]), (Below.refl _ _).alloc (Nat.le_refl _) _⟩
set_option maxRecDepth 100000 in
set_option maxHeartbeats 1000000 in
theorem r1_any (b : Nat) (k m n : Int) (s : ByteArray) (v : Bool) (w : World) (hB : Boxed w b 4 (.bool v)) :
    Calls Tryz.prog 56 #[.agg #[.int .i64 k, .int .i64 m, .int .i64 n, .string s], .pointer (some ⟨b, 0, none⟩)] w fun e w' => e = .returned (.bool (v && (n == 0 && emptyB s))) ∧ Below w.heap.size w w' := by
  have cb := extA_cell (hB.alloc (.cells #[.int .i64 k, .int .i64 m, .int .i64 n, .string s] 24)).cell
  have X := Blk.new w 24 [.int .i64 k, .int .i64 m, .int .i64 n, .string s]
  have c0 := extA_cell (X.cell (j := 0) rfl)
  have c1 := extA_cell (X.cell (j := 1) rfl)
  have c2 := extA_cell (X.cell (j := 2) rfl)
  have c3 := extA_cell (X.cell (j := 3) rfl)
  clear X hB
  by_cases h1 : n = 0
  · subst h1
    by_cases h2 : s.toList = []
    · have hv : ((0 : Int) == 0 && emptyB s) = true := by simp [emptyB, h2]
      rw [hv]
      clear hv
      go_enter Tryz.func56, Tryz.ntmps56
      go_wp2
      refine wp_region_head (C := ExtA (w.alloc (.cells #[.int .i64 k, .int .i64 m, .int .i64 0, .string s] 24))) 8 (by kernel_rfl) (by decide) (by kernel_rfl) ⟨rfl, rfl, rfl, Nat.le_refl _, fun _ _ => rfl⟩ ?_
      simp only [List.take_succ_cons, List.take_zero]
      repeat
        (first
          | go_big_quiet_skip
          | (go_big_quiet_want
             go_big_quiet_op
             first
               | go_big_quiet_on
               | (apply Exists.intro
                  refine ⟨fun w' hC => ?_, ?_⟩
                  · (first
                      | with_reducible rfl
                      | fail
                      | (go_simp; done)
                      | (go_simp; with_reducible rfl))
                  go_big_quiet_on)))
      refine wpQuiet_nil ?_
      intro wq hq
      clear cb c0 c1 c2 c3
      change wpAny _ _ _ _ (2 + 1) _ _ _
      refine wpAny_ready (rs := [8]) (by kernel_rfl) (by simp) ?_
      refine AllReady.cons (o := { dst := some 12, op := .buildSlice 173 2 #[(0, .tmp 4), (1, .tmp 11)], type := _, pos := _, after := _, guard := _ }) rfl (fun K hK => ?_) AllReady.nil
      go_simp
      refine hK _ _ ?_
      clear hK K
      refine wpAny_ready (rs := [9]) (by kernel_rfl) (by simp) ?_
      refine AllReady.cons (o := { dst := some 13, op := .call ⟨.value (.func 57), #[.tmp 12], #[173]⟩, type := _, pos := _, after := _, guard := _ }) rfl (fun K hK => ?_) AllReady.nil
      go_simp
      refine (allA_any _ [v, true] 2 rfl (by omega) _ (Blk.newA rfl 4 [.bool v, .bool true])).mono ?_
      rintro e w' ⟨rfl, rfl⟩
      refine hK _ _ ?_
      clear hK K
      refine wpAny_ready (rs := [10]) (by kernel_rfl) (by simp) ?_
      refine AllReady.cons (o := { dst := some 3, op := .assign (.tmp 13), type := _, pos := _, after := _, guard := _ }) rfl (fun K hK => ?_) AllReady.nil
      go_simp
      refine hK _ _ ?_
      clear hK K
      refine wpAny_done (by kernel_rfl) ?_ _
      go_wp2
      go_ret
      exact ⟨tx_bool (by simp), ((Below.refl _ _).alloc (Nat.le_refl _) _).trans ((Below.alloc hq hq.size _).mono (by simp))⟩
    · have hv : ((0 : Int) == 0 && emptyB s) = false := by simp [emptyB, h2]
      rw [hv]
      clear hv
      go_enter Tryz.func56, Tryz.ntmps56
      go_wp2
      refine wp_region_head (C := ExtA (w.alloc (.cells #[.int .i64 k, .int .i64 m, .int .i64 0, .string s] 24))) 8 (by kernel_rfl) (by decide) (by kernel_rfl) ⟨rfl, rfl, rfl, Nat.le_refl _, fun _ _ => rfl⟩ ?_
      simp only [List.take_succ_cons, List.take_zero]
      repeat
        (first
          | go_big_quiet_skip
          | (go_big_quiet_want
             go_big_quiet_op
             first
               | go_big_quiet_on
               | (apply Exists.intro
                  refine ⟨fun w' hC => ?_, ?_⟩
                  · (first
                      | with_reducible rfl
                      | fail
                      | (go_simp; done)
                      | (go_simp; with_reducible rfl))
                  go_big_quiet_on)))
      refine wpQuiet_nil ?_
      intro wq hq
      clear cb c0 c1 c2 c3
      change wpAny _ _ _ _ (2 + 1) _ _ _
      refine wpAny_ready (rs := [8]) (by kernel_rfl) (by simp) ?_
      refine AllReady.cons (o := { dst := some 12, op := .buildSlice 173 2 #[(0, .tmp 4), (1, .tmp 11)], type := _, pos := _, after := _, guard := _ }) rfl (fun K hK => ?_) AllReady.nil
      go_simp
      refine hK _ _ ?_
      clear hK K
      refine wpAny_ready (rs := [9]) (by kernel_rfl) (by simp) ?_
      refine AllReady.cons (o := { dst := some 13, op := .call ⟨.value (.func 57), #[.tmp 12], #[173]⟩, type := _, pos := _, after := _, guard := _ }) rfl (fun K hK => ?_) AllReady.nil
      go_simp
      refine (allA_any _ [v, false] 2 rfl (by omega) _ (Blk.newA rfl 4 [.bool v, .bool false])).mono ?_
      rintro e w' ⟨rfl, rfl⟩
      refine hK _ _ ?_
      clear hK K
      refine wpAny_ready (rs := [10]) (by kernel_rfl) (by simp) ?_
      refine AllReady.cons (o := { dst := some 3, op := .assign (.tmp 13), type := _, pos := _, after := _, guard := _ }) rfl (fun K hK => ?_) AllReady.nil
      go_simp
      refine hK _ _ ?_
      clear hK K
      refine wpAny_done (by kernel_rfl) ?_ _
      go_wp2
      go_ret
      exact ⟨tx_bool (by simp), ((Below.refl _ _).alloc (Nat.le_refl _) _).trans ((Below.alloc hq hq.size _).mono (by simp))⟩
  · have hv : (n == 0 && emptyB s) = false := by simp [h1]
    rw [hv]
    clear hv
    go_enter Tryz.func56, Tryz.ntmps56
    go_wp2
    refine wp_region_head (C := ExtA (w.alloc (.cells #[.int .i64 k, .int .i64 m, .int .i64 n, .string s] 24))) 8 (by kernel_rfl) (by decide) (by kernel_rfl) ⟨rfl, rfl, rfl, Nat.le_refl _, fun _ _ => rfl⟩ ?_
    simp only [List.take_succ_cons, List.take_zero]
    repeat
      (first
        | go_big_quiet_skip
        | (go_big_quiet_want
           go_big_quiet_op
           first
             | go_big_quiet_on
             | (apply Exists.intro
                refine ⟨fun w' hC => ?_, ?_⟩
                · (first
                    | with_reducible rfl
                    | fail
                    | (go_simp; done)
                    | (go_simp; with_reducible rfl))
                go_big_quiet_on)))
    refine wpQuiet_nil ?_
    intro wq hq
    clear cb c0 c1 c2 c3
    change wpAny _ _ _ _ (2 + 1) _ _ _
    refine wpAny_ready (rs := [8]) (by kernel_rfl) (by simp) ?_
    refine AllReady.cons (o := { dst := some 12, op := .buildSlice 173 2 #[(0, .tmp 4), (1, .tmp 11)], type := _, pos := _, after := _, guard := _ }) rfl (fun K hK => ?_) AllReady.nil
    go_simp
    refine hK _ _ ?_
    clear hK K
    refine wpAny_ready (rs := [9]) (by kernel_rfl) (by simp) ?_
    refine AllReady.cons (o := { dst := some 13, op := .call ⟨.value (.func 57), #[.tmp 12], #[173]⟩, type := _, pos := _, after := _, guard := _ }) rfl (fun K hK => ?_) AllReady.nil
    go_simp
    refine (allA_any _ [v, false] 2 rfl (by omega) _ (Blk.newA rfl 4 [.bool v, .bool false])).mono ?_
    rintro e w' ⟨rfl, rfl⟩
    refine hK _ _ ?_
    clear hK K
    refine wpAny_ready (rs := [10]) (by kernel_rfl) (by simp) ?_
    refine AllReady.cons (o := { dst := some 3, op := .assign (.tmp 13), type := _, pos := _, after := _, guard := _ }) rfl (fun K hK => ?_) AllReady.nil
    go_simp
    refine hK _ _ ?_
    clear hK K
    refine wpAny_done (by kernel_rfl) ?_ _
    go_wp2
    go_ret
    exact ⟨tx_bool (by simp), ((Below.refl _ _).alloc (Nat.le_refl _) _).trans ((Below.alloc hq hq.size _).mono (by simp))⟩
end Go.Proofs.YthhpblchiodahaaGreatDoor

/- A map literal of whole numbers, just made: how it is laid, and what is found in it. -/
namespace Go.Proofs.YthhpblchiodahaaGreatDoor
open Go.RowKit
variable {P : Program} {mt kt et : TypeId}

def ent (k : Int) (v : Value) (n : Nat) : MapEntry := { key := .int .i64 k, val := v, born := n }
theorem heap_map (W : World) {g : Nat} (hg : W.heap.size = g) (es : Array MapEntry) (c : Nat) : (W.alloc (.map es c)).heap[g]? = some (.map es c) := hg ▸ World.alloc_heap_new W _
theorem set_map (W : World) {g : Nat} (hg : W.heap.size = g) (es es' : Array MapEntry) (c c' : Nat) : ({ (W.alloc (.map es c)) with heap := (W.alloc (.map es c)).heap.setIfInBounds g (.map es' c') } : World) = W.alloc (.map es' c') := by
  subst hg
  have e : (W.heap.push (.map es c)).setIfInBounds W.heap.size (.map es' c') = W.heap.push (.map es' c') := by
    apply Array.ext_getElem?
    intro i
    rw [Array.getElem?_setIfInBounds, Array.getElem?_push, Array.getElem?_push]
    by_cases e : W.heap.size = i
    · subst e; simp
    · have e' : ¬ i = W.heap.size := fun h => e h.symm
      simp [e, e']
  simp only [World.alloc, e]
theorem ins_at (W : World) {g : Nat} (hg : W.heap.size = g) (es : Array MapEntry) (c : Nat) (k : Int) (v : Value) (hm : P.underlying mt = some (.map kt et)) (hk : P.underlying kt = some (.int .i64))
    (hf : Instr.findNow (.int .i64) (.int .i64 k) es.toList 0 = some none) :
    (Instr.mapUpdate mt (.map (some g)) (.int .i64 k) v).run P (W.alloc (.map es c)) = .ok () (W.alloc (.map (es.push (ent k v c)) (c + 1))) := by
  have hb := heap_map W hg es c
  have hc : (Instr.checkKey false 10000 kt (.int .i64 k)).run P (W.alloc (.map es c)) = .ok () (W.alloc (.map es c)) := MapKept.run_checkKey (k := .int .i64 k) hk (by simp [MapKept.IsKey]) false 9999
  simp [Instr.mapUpdate, run_underlying hm, MapKept.run_getObj_map hb, hc, MapKept.run_findKey hk hf, MapKept.run_setObj_map _ hb, Result.andThen]
  exact set_map W hg es _ c _
theorem look_at (W : World) {g : Nat} (hg : W.heap.size = g) (es : Array MapEntry) (c : Nat) (k : Int) (i : Nat) (v : Value) (hm : P.underlying mt = some (.map kt et)) (hk : P.underlying kt = some (.int .i64))
    (hf : Instr.findNow (.int .i64) (.int .i64 k) es.toList 0 = some (some (i, v))) :
    (Instr.lookup mt (.map (some g)) (.int .i64 k) true).run P (W.alloc (.map es c)) = .ok (.tuple #[v, .bool true]) (W.alloc (.map es c)) := by
  have hb := heap_map W hg es c
  have hc : ∀ e, (Instr.checkKey e 10000 kt (.int .i64 k)).run P (W.alloc (.map es c)) = .ok () (W.alloc (.map es c)) := fun e => MapKept.run_checkKey (k := .int .i64 k) hk (by simp [MapKept.IsKey]) e 9999
  simp [Instr.lookup, run_underlying hm, MapKept.run_getObj_map hb, hc, MapKept.run_findKey hk hf, Result.andThen]
theorem look_no (W : World) {g : Nat} (hg : W.heap.size = g) (es : Array MapEntry) (c : Nat) (k : Int) (z : Value) (hm : P.underlying mt = some (.map kt et)) (hk : P.underlying kt = some (.int .i64)) (hz : ∀ w, (zeroValue et).run P w = .ok z w)
    (hf : Instr.findNow (.int .i64) (.int .i64 k) es.toList 0 = some none) :
    (Instr.lookup mt (.map (some g)) (.int .i64 k) true).run P (W.alloc (.map es c)) = .ok (.tuple #[z, .bool false]) (W.alloc (.map es c)) := by
  have hb := heap_map W hg es c
  have hc : ∀ e, (Instr.checkKey e 10000 kt (.int .i64 k)).run P (W.alloc (.map es c)) = .ok () (W.alloc (.map es c)) := fun e => MapKept.run_checkKey (k := .int .i64 k) hk (by simp [MapKept.IsKey]) e 9999
  simp [Instr.lookup, run_underlying hm, MapKept.run_getObj_map hb, hc, MapKept.run_findKey hk hf, Result.andThen, hz]
/-- A key is compared with each in turn. -/
theorem find_step (k a : Int) (v : Value) (n i : Nat) (es : List MapEntry) : Instr.findNow (.int .i64) (.int .i64 k) (ent a v n :: es) i = if k = a then some (some (i, v)) else Instr.findNow (.int .i64) (.int .i64 k) es (i + 1) := by
  by_cases h : k = a
  · subst h; simp [Instr.findNow, Instr.sameNow, ent]
  · have hb : (k == a) = false := by rw [beq_eq_false_iff_ne]; exact h
    simp [Instr.findNow, Instr.sameNow, ent, h, hb]
theorem find_nil (k : Int) (i : Nat) : Instr.findNow (.int .i64) (.int .i64 k) [] i = some none := rfl
end Go.Proofs.YthhpblchiodahaaGreatDoor

/- Package acceptor: Right. -/
namespace Go.Proofs.YthhpblchiodahaaGreatDoor
open Go.RowKit
attribute [local go_sem] run_makeMap_plain
def sayB (n : Int) (s : ByteArray) : Bool := decide (1 ≤ n) && (decide (n ≤ 2147483647) && chkT s == 0)
set_option maxRecDepth 100000 in
set_option maxHeartbeats 2000000 in
theorem r3_any (b : Nat) (k m n : Int) (s : ByteArray) (v : Bool) (w : World) (hs : s.size ≤ 9223372036854775807) (hT : Tabs w) (hB : Boxed w b 4 (.bool v)) :
    Calls Tryz.prog 59 #[.agg #[.int .i64 k, .int .i64 m, .int .i64 n, .string s], .pointer (some ⟨b, 0, none⟩)] w fun e w' => e = .returned (.bool (v && sayB n s)) ∧ Below w.heap.size w w' := by
  have cb := extA_cell (hB.alloc (.cells #[.int .i64 k, .int .i64 m, .int .i64 n, .string s] 24)).cell
  have X := Blk.new w 24 [.int .i64 k, .int .i64 m, .int .i64 n, .string s]
  have HT := Lib.hid (hT.step ((Below.refl _ _).alloc (Nat.le_refl _) (.cells #[.int .i64 k, .int .i64 m, .int .i64 n, .string s] 24)))
  have c0 := extA_cell (X.cell (j := 0) rfl)
  have c1 := extA_cell (X.cell (j := 1) rfl)
  have c2 := extA_cell (X.cell (j := 2) rfl)
  have c3 := extA_cell (X.cell (j := 3) rfl)
  obtain ⟨e, he⟩ : ∃ e, chkT s = e := ⟨_, rfl⟩
  have cT := fun W hW => textCheck_any s hs W hW
  rw [he] at cT
  clear X hB hT
  rw [show sayB n s = (decide (1 ≤ n) && (decide (n ≤ 2147483647) && e == 0)) by simp [sayB, he]]
  clear he
  go_enter Tryz.func59, Tryz.ntmps59
  go_wp2
  refine wp_region_head (C := ExtA (w.alloc (.cells #[.int .i64 k, .int .i64 m, .int .i64 n, .string s] 24))) 11 (by kernel_rfl) (by decide) (by kernel_rfl) ⟨rfl, rfl, rfl, Nat.le_refl _, fun _ _ => rfl⟩ ?_
  simp only [List.take_succ_cons, List.take_zero]
  repeat
    (first
      | go_big_quiet_skip
      | (go_big_quiet_want
         go_big_quiet_op
         first
           | go_big_quiet_on
           | (apply Exists.intro
              refine ⟨fun w' hC => ?_, ?_⟩
              · (first
                  | with_reducible rfl
                  | (go_at_call 60; refine (cT _ (Tabs.step HT.out hC)).mono ?_; rintro e w2 ⟨rfl, hb⟩; exact ⟨rfl, Below.trans hC (hb.mono (Below.size hC))⟩)
                  | (go_simp; done)
                  | (go_simp; with_reducible rfl))
              go_big_quiet_on)))
  refine wpQuiet_nil ?_
  intro wq hq
  clear cb c0 c1 c2 c3 cT
  change wpAny _ _ _ _ (2 + 1) _ _ _
  refine wpAny_ready (rs := [11]) (by kernel_rfl) (by simp) ?_
  refine AllReady.cons (o := { dst := some 15, op := .buildSlice 173 4 #[(0, .tmp 4), (1, .tmp 7), (2, .tmp 10), (3, .tmp 14)], type := _, pos := _, after := _, guard := _ }) rfl (fun K hK => ?_) AllReady.nil
  go_simp
  refine hK _ _ ?_
  clear hK K
  refine wpAny_ready (rs := [12]) (by kernel_rfl) (by simp) ?_
  refine AllReady.cons (o := { dst := some 16, op := .call ⟨.value (.func 57), #[.tmp 15], #[173]⟩, type := _, pos := _, after := _, guard := _ }) rfl (fun K hK => ?_) AllReady.nil
  go_simp
  refine (allA_any _ [v, (decide (1 ≤ n)), (decide (n ≤ 2147483647)), (e == 0)] 4 rfl (by omega) _ (Blk.newA rfl 4 [.bool v, .bool (decide (1 ≤ n)), .bool (decide (n ≤ 2147483647)), .bool (e == 0)])).mono ?_
  rintro e w' ⟨rfl, rfl⟩
  refine hK _ _ ?_
  clear hK K
  refine wpAny_ready (rs := [13]) (by kernel_rfl) (by simp) ?_
  refine AllReady.cons (o := { dst := some 3, op := .assign (.tmp 16), type := _, pos := _, after := _, guard := _ }) rfl (fun K hK => ?_) AllReady.nil
  go_simp
  refine hK _ _ ?_
  clear hK K
  refine wpAny_done (by kernel_rfl) ?_ _
  go_wp2
  go_ret
  exact ⟨tx_bool (by simp), ((Below.refl _ _).alloc (Nat.le_refl _) _).trans ((Below.alloc hq hq.size _).mono (by simp))⟩
end Go.Proofs.YthhpblchiodahaaGreatDoor
