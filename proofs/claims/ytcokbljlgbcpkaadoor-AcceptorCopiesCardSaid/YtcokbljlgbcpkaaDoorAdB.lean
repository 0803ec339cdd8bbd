
/- Package acceptor: Accepted, above. -/
import Derived.Test.YtcokbljlgbcpkaaDoorAdA
namespace Go.Proofs.YtcokbljlgbcpkaaDoor
open Go.RowKit
set_option maxRecDepth 100000 in
set_option maxHeartbeats 1000000 in
theorem accepted_at (g : Nat) (A : Acc) (w : World) (h : AW w g A) (hc : A.c ≠ 0) (hG : GoodA A) : Calls Tryd.prog 16 #[.pointer (some ⟨g, 0, none⟩)] w fun e w' => e = .returned (.tuple #[accX A, .bool (accH A)]) ∧ Below w.heap.size w w' := by
  obtain ⟨r, p, ar, ap, k, m, n, s, c, sl⟩ := A
  simp only at hc
  have hlt := h.lt
  unfold GoodA at hG
  simp only at hG
  unfold accX accH
  simp only
  by_cases ha : ar = -1
  · obtain ⟨rfl, rfl, rfl, rfl, rfl⟩ := hG ha
    subst ha
    clear hG
    simp only [if_true]
    unfold acV
    go_enter Tryd.func16, Tryd.ntmps16
    go_upto_region 1 with fail
    obtain ⟨B, hB⟩ : ∃ B, w.heap.size = B := ⟨_, rfl⟩
    have X := Blk.newV (W := w) hB 39 #[.int .i64 0, .int .i64 0, .int .i64 0, .int .i64 0, .int .i64 0, .string ⟨#[]⟩]
    have hb := (Below.refl w.heap.size w).alloc (Nat.le_refl _) (.cells #[.int .i64 0, .int .i64 0, .int .i64 0, .int .i64 0, .int .i64 0, .string ⟨#[]⟩] 39)
    have h1 := h.alloc (.cells #[.int .i64 0, .int .i64 0, .int .i64 0, .int .i64 0, .int .i64 0, .string ⟨#[]⟩] 39)
    generalize w.alloc (.cells #[.int .i64 0, .int .i64 0, .int .i64 0, .int .i64 0, .int .i64 0, .string ⟨#[]⟩] 39) = W at *
    have ac0 := extA_cell (h1.cell (j := 0) rfl)
    have ac1 := extA_cell (h1.cell (j := 1) rfl)
    have ac2 := extA_cell (h1.cell (j := 2) rfl)
    have ac3 := extA_cell (h1.cell (j := 3) rfl)
    have ac4 := extA_cell (h1.cell (j := 4) rfl)
    have ac5 := extA_cell (h1.cell (j := 5) rfl)
    have ac6 := extA_cell (h1.cell (j := 6) rfl)
    have ac7 := extA_cell (h1.cell (j := 7) rfl)
    have ac8 := extA_cell (h1.cell (j := 8) rfl)
    have ac9 := extA_cell (h1.cell (j := 9) rfl)
    have cN := fun W' (hx : ExtA W W') => none14_at g c false W' (by simp [hc]) (ac8 W' hx)
    refine wp_region_extB (by kernel_rfl) (by kernel_rfl) ?_
    repeat
      (first
        | go_big_quiet_skip
        | (go_big_quiet_want
           go_big_quiet_op
           first
             | go_big_quiet_on
             | (apply Exists.intro
                refine ⟨fun w' hC => ?_, ?_⟩
                · (first
                    | with_reducible rfl
                    | (go_at_call 35; refine (cN _ hC).mono ?_; rintro e w2 ⟨rfl, rfl⟩; exact ⟨rfl, hC⟩) | (go_at_call 34; refine (nothing_any _).mono ?_; rintro e w2 ⟨rfl, hb9⟩; exact ⟨rfl, extA_then hC hb9⟩)
                    | (go_simp; done)
                    | (go_simp; with_reducible rfl))
                go_big_quiet_on)))
    refine wpQuiet_nil ?_
    intro wq hq
    have hb2 := hb.trans (Below.mono hq hb.size)
    have X2 := X.step hq
    clear ac0 ac1 ac2 ac3 ac4 ac5 ac6 ac7 ac8 ac9 cN X h1 hq
    have xc0 := X2.cell (j := 0) rfl
    have xc1 := X2.cell (j := 1) rfl
    have xc2 := X2.cell (j := 2) rfl
    have xc3 := X2.cell (j := 3) rfl
    have xc4 := X2.cell (j := 4) rfl
    have xc5 := X2.cell (j := 5) rfl
    have xf0 := X2.frozen 0
    have xf1 := X2.frozen 1
    have xf2 := X2.frozen 2
    have xf3 := X2.frozen 3
    have xf4 := X2.frozen 4
    have xf5 := X2.frozen 5
    go_wp2
    rw [hB] at hb2
    (try simp only [Exit.inBlock, Exit.then])
    refine bodyPost_ret (v := .tuple #[.agg #[.int .i64 0, .int .i64 0, .int .i64 0, .int .i64 0, .int .i64 0, .string ⟨#[]⟩], .bool false]) ?_ rfl ⟨rfl, ?_⟩
    · rw [r_cell1t rfl]
      go_simp
    · (try rw [hB])
      exact below6 hb2 (Nat.le_refl _) _ _ _ _ _ _
  · clear hG
    have hab : (ar == -1) = false := by simp [ha]
    rw [if_neg ha, hab]
    unfold acV
    go_enter Tryd.func16, Tryd.ntmps16
    go_upto_region 1 with fail
    obtain ⟨B, hB⟩ : ∃ B, w.heap.size = B := ⟨_, rfl⟩
    have X := Blk.newV (W := w) hB 39 #[.int .i64 0, .int .i64 0, .int .i64 0, .int .i64 0, .int .i64 0, .string ⟨#[]⟩]
    have hb := (Below.refl w.heap.size w).alloc (Nat.le_refl _) (.cells #[.int .i64 0, .int .i64 0, .int .i64 0, .int .i64 0, .int .i64 0, .string ⟨#[]⟩] 39)
    have h1 := h.alloc (.cells #[.int .i64 0, .int .i64 0, .int .i64 0, .int .i64 0, .int .i64 0, .string ⟨#[]⟩] 39)
    generalize w.alloc (.cells #[.int .i64 0, .int .i64 0, .int .i64 0, .int .i64 0, .int .i64 0, .string ⟨#[]⟩] 39) = W at *
    have ac0 := extA_cell (h1.cell (j := 0) rfl)
    have ac1 := extA_cell (h1.cell (j := 1) rfl)
    have ac2 := extA_cell (h1.cell (j := 2) rfl)
    have ac3 := extA_cell (h1.cell (j := 3) rfl)
    have ac4 := extA_cell (h1.cell (j := 4) rfl)
    have ac5 := extA_cell (h1.cell (j := 5) rfl)
    have ac6 := extA_cell (h1.cell (j := 6) rfl)
    have ac7 := extA_cell (h1.cell (j := 7) rfl)
    have ac8 := extA_cell (h1.cell (j := 8) rfl)
    have ac9 := extA_cell (h1.cell (j := 9) rfl)
    have cN := fun W' (hx : ExtA W W') => none14_at g c false W' (by simp [hc]) (ac8 W' hx)
    refine wp_region_extB (by kernel_rfl) (by kernel_rfl) ?_
    repeat
      (first
        | go_big_quiet_skip
        | (go_big_quiet_want
           go_big_quiet_op
           first
             | go_big_quiet_on
             | (apply Exists.intro
                refine ⟨fun w' hC => ?_, ?_⟩
                · (first
                    | with_reducible rfl
                    | (go_at_call 35; refine (cN _ hC).mono ?_; rintro e w2 ⟨rfl, rfl⟩; exact ⟨rfl, hC⟩) | (go_at_call 34; refine (nothing_any _).mono ?_; rintro e w2 ⟨rfl, hb9⟩; exact ⟨rfl, extA_then hC hb9⟩)
                    | (go_simp; done)
                    | (go_simp; with_reducible rfl))
                go_big_quiet_on)))
    refine wpQuiet_nil ?_
    intro wq hq
    have hb2 := hb.trans (Below.mono hq hb.size)
    have X2 := X.step hq
    have h2 : Blk wq g 57 _ := Blk.step h1 hq
    clear ac0 ac1 ac2 ac3 ac4 ac5 ac6 ac7 ac8 ac9 cN X h1 hq
    have xc0 := X2.cell (j := 0) rfl
    have xc1 := X2.cell (j := 1) rfl
    have xc2 := X2.cell (j := 2) rfl
    have xc3 := X2.cell (j := 3) rfl
    have xc4 := X2.cell (j := 4) rfl
    have xc5 := X2.cell (j := 5) rfl
    have xf0 := X2.frozen 0
    have xf1 := X2.frozen 1
    have xf2 := X2.frozen 2
    have xf3 := X2.frozen 3
    have xf4 := X2.frozen 4
    have xf5 := X2.frozen 5
    have ac0 := h2.cell (j := 0) rfl
    have ac1 := h2.cell (j := 1) rfl
    have ac2 := h2.cell (j := 2) rfl
    have ac3 := h2.cell (j := 3) rfl
    have ac4 := h2.cell (j := 4) rfl
    have ac5 := h2.cell (j := 5) rfl
    have ac6 := h2.cell (j := 6) rfl
    have ac7 := h2.cell (j := 7) rfl
    have ac8 := h2.cell (j := 8) rfl
    have ac9 := h2.cell (j := 9) rfl
    go_wp2
    rw [hB] at hb2
    (try simp only [Exit.inBlock, Exit.then])
    refine bodyPost_ret (v := .tuple #[.agg #[.int .i64 ar, .int .i64 ap, .int .i64 k, .int .i64 m, .int .i64 n, .string s], .bool true]) ?_ rfl ⟨rfl, ?_⟩
    · rw [r_cell1t rfl]
      go_simp
    · (try rw [hB])
      exact below6 hb2 (Nat.le_refl _) _ _ _ _ _ _
set_option maxRecDepth 100000 in
set_option maxHeartbeats 1000000 in
theorem above_at (g : Nat) (A : Acc) (x y : Int) (w : World) (h : AW w g A) (hc : A.c ≠ 0) : Calls Tryd.prog 37 #[.pointer (some ⟨g, 0, none⟩), .agg #[.int .i64 x, .int .i64 y]] w fun e w' => e = .returned (.int .i64 (cmpI x y A.r A.p)) ∧ Below w.heap.size w w' := by
  obtain ⟨r, p, ar, ap, k, m, n, s, c, sl⟩ := A
  simp only at hc
  have hlt := h.lt
  go_enter Tryd.func37, Tryd.ntmps37
  go_upto_region 1 with fail
  obtain ⟨B, hB⟩ : ∃ B, w.heap.size = B := ⟨_, rfl⟩
  have X := Blk.newV (W := w) hB 36 #[.int .i64 x, .int .i64 y]
  have hb := (Below.refl w.heap.size w).alloc (Nat.le_refl _) (.cells #[.int .i64 x, .int .i64 y] 36)
  have h1 : Blk (w.alloc (.cells #[.int .i64 x, .int .i64 y] 36)) g 57 _ := h.alloc _
  generalize w.alloc (.cells #[.int .i64 x, .int .i64 y] 36) = W at *
  go_wp2_with fail
  refine (none14_at g c false _ (by simp [hc]) (h1.cell (j := 8) rfl)).mono ?_
  rintro e w2 ⟨rfl, rfl⟩
  go_upto_region 3 with fail
  have xc0 := extA_cell (X.cell (j := 0) rfl)
  have xc1 := extA_cell (X.cell (j := 1) rfl)
  have ac0 := extA_cell (h1.cell (j := 0) rfl)
  have ac1 := extA_cell (h1.cell (j := 1) rfl)
  have ac2 := extA_cell (h1.cell (j := 2) rfl)
  have ac3 := extA_cell (h1.cell (j := 3) rfl)
  have ac4 := extA_cell (h1.cell (j := 4) rfl)
  have ac5 := extA_cell (h1.cell (j := 5) rfl)
  have ac6 := extA_cell (h1.cell (j := 6) rfl)
  have ac7 := extA_cell (h1.cell (j := 7) rfl)
  have ac8 := extA_cell (h1.cell (j := 8) rfl)
  have ac9 := extA_cell (h1.cell (j := 9) rfl)
  refine wp_region_extB (by kernel_rfl) (by kernel_rfl) ?_
  repeat
    (first
      | go_big_quiet_skip
      | (go_big_quiet_want
         go_big_quiet_op
         first
           | go_big_quiet_on
           | (apply Exists.intro
              refine ⟨fun w' hC => ?_, ?_⟩
              · (first
                  | with_reducible rfl
                  | (go_at_call 50; refine (compare_any _ _ _ _ _).mono ?_; rintro e w2 ⟨rfl, hb9⟩; exact ⟨rfl, extA_then hC hb9⟩)
                  | (go_simp; done)
                  | (go_simp; with_reducible rfl))
              go_big_quiet_on)))
  refine wpQuiet_nil ?_
  intro wq hq
  have hb2 := hb.trans (Below.mono hq hb.size)
  go_wp2
  go_ret
  exact ⟨rfl, by rw [← hB]; exact hb2⟩
end Go.Proofs.YtcokbljlgbcpkaaDoor
