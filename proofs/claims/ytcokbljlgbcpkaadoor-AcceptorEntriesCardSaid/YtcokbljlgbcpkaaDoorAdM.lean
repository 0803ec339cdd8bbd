
/- Walk of AcceptorEntries. -/
import Derived.Test.YtcokbljlgbcpkaaDoorAdK
namespace Go.Proofs.YtcokbljlgbcpkaaDoor
open Go.RowKit
set_option maxRecDepth 100000 in
set_option maxHeartbeats 1000000 in
theorem Entries_walk (k m n : Int) (s : ByteArray) (w : World) (hT : Tabs w) (hs : s.size ≤ 9223372036854775807) :
    Calls Tryd.prog 3 #[.agg #[.int .i64 k, .int .i64 m, .int .i64 n, .string s]] w fun e w' => e = .returned (.bool true) ∧ Below w.heap.size w w' := by
  have cL := fun W => long_any k m n s W hs
  have cE := fun W hT => ent_any k m n s W hs hT
  have cR := fun W => ref14_any k m n s W hs
  generalize entB k m n s = b at cE cR
  generalize longB s = lb at cL
  cases lb
  · go_enter Tryd.func3, Tryd.ntmps3
    go_upto_region 1 with fail
    have X := Blk.newV (W := w) rfl 24 #[.int .i64 k, .int .i64 m, .int .i64 n, .string s]
    have hb := (Below.refl w.heap.size w).alloc (Nat.le_refl _) (.cells #[.int .i64 k, .int .i64 m, .int .i64 n, .string s] 24)
    have hT1 := hT.step hb
    generalize w.alloc (.cells #[.int .i64 k, .int .i64 m, .int .i64 n, .string s] 24) = W at *
    have xc0 := X.cell (j := 0) rfl
    have xc1 := X.cell (j := 1) rfl
    have xc2 := X.cell (j := 2) rfl
    have xc3 := X.cell (j := 3) rfl
    go_wp2_with fail
    refine (cL _).mono ?_
    rintro e w2 ⟨rfl, hb2⟩
    have X2 := X.step hb2
    have hb3 := hb.trans (hb2.mono hb.size)
    have hT2 := hT1.step hb2
    clear xc0 xc1 xc2 xc3 X hb hb2 cL
    go_upto_region 3 with fail
    have xc0 := extA_cell (X2.cell (j := 0) rfl)
    have xc1 := extA_cell (X2.cell (j := 1) rfl)
    have xc2 := extA_cell (X2.cell (j := 2) rfl)
    have xc3 := extA_cell (X2.cell (j := 3) rfl)
    cases b
    · refine wp_region_extB (by kernel_rfl) (by kernel_rfl) ?_
      repeat
        (first
          | go_big_quiet_skip
          | (go_big_quiet_want
             go_big_quiet_op
             first
               | go_big_quiet_on
               | (apply Exists.intro
                  refine ⟨fun w' hC => ?_, ?_⟩
                  · (first
                      | with_reducible rfl
                      | (go_at_call 10; refine (cE _ (hT2.step hC)).mono ?_; rintro e w2 ⟨rfl, hb9⟩; exact ⟨rfl, extA_then hC hb9⟩) | (go_at_call 11; refine (cR _).mono ?_; rintro e w2 ⟨rfl, hb9⟩; exact ⟨rfl, extA_then hC hb9⟩) | (go_at_call 9; refine (works14_any _ (hT2.step hC)).mono ?_; rintro e w2 ⟨rfl, hb9⟩; exact ⟨rfl, extA_then hC hb9⟩)
                      | (go_simp; done)
                      | (go_simp; with_reducible rfl))
                  go_big_quiet_on)))
      refine wpQuiet_nil ?_
      intro wq hq
      have hb4 := hb3.trans (Below.mono hq hb3.size)
      go_wp2
      go_ret
      exact ⟨rfl, hb4⟩
    · refine wp_region_extB (by kernel_rfl) (by kernel_rfl) ?_
      repeat
        (first
          | go_big_quiet_skip
          | (go_big_quiet_want
             go_big_quiet_op
             first
               | go_big_quiet_on
               | (apply Exists.intro
                  refine ⟨fun w' hC => ?_, ?_⟩
                  · (first
                      | with_reducible rfl
                      | (go_at_call 10; refine (cE _ (hT2.step hC)).mono ?_; rintro e w2 ⟨rfl, hb9⟩; exact ⟨rfl, extA_then hC hb9⟩) | (go_at_call 11; refine (cR _).mono ?_; rintro e w2 ⟨rfl, hb9⟩; exact ⟨rfl, extA_then hC hb9⟩) | (go_at_call 9; refine (works14_any _ (hT2.step hC)).mono ?_; rintro e w2 ⟨rfl, hb9⟩; exact ⟨rfl, extA_then hC hb9⟩)
                      | (go_simp; done)
                      | (go_simp; with_reducible rfl))
                  go_big_quiet_on)))
      refine wpQuiet_nil ?_
      intro wq hq
      have hb4 := hb3.trans (Below.mono hq hb3.size)
      go_wp2
      go_ret
      exact ⟨rfl, hb4⟩
  · go_enter Tryd.func3, Tryd.ntmps3
    go_upto_region 1 with fail
    have X := Blk.newV (W := w) rfl 24 #[.int .i64 k, .int .i64 m, .int .i64 n, .string s]
    have hb := (Below.refl w.heap.size w).alloc (Nat.le_refl _) (.cells #[.int .i64 k, .int .i64 m, .int .i64 n, .string s] 24)
    have hT1 := hT.step hb
    generalize w.alloc (.cells #[.int .i64 k, .int .i64 m, .int .i64 n, .string s] 24) = W at *
    have xc0 := X.cell (j := 0) rfl
    have xc1 := X.cell (j := 1) rfl
    have xc2 := X.cell (j := 2) rfl
    have xc3 := X.cell (j := 3) rfl
    go_wp2_with fail
    refine (cL _).mono ?_
    rintro e w2 ⟨rfl, hb2⟩
    have hb3 := hb.trans (hb2.mono hb.size)
    go_wp2_with fail
    refine (works14_any _ (hT1.step hb2)).mono ?_
    rintro e w3 ⟨rfl, hb4⟩
    go_wp2
    go_ret
    exact ⟨rfl, hb3.trans (hb4.mono hb3.size)⟩
theorem Entries_walkx (e : Int × Int × Int × ByteArray) (w : World) (hT : Tabs w) (hs : e.2.2.2.size ≤ maxLen) :
    Calls Tryd.prog 3 #[.agg #[.int .i64 e.1, .int .i64 e.2.1, .int .i64 e.2.2.1, .string e.2.2.2]] w fun e w' => e = .returned (.bool true) ∧ Below w.heap.size w w' :=
  Entries_walk _ _ _ _ w hT (by unfold maxLen at hs; omega)
end Go.Proofs.YtcokbljlgbcpkaaDoor
