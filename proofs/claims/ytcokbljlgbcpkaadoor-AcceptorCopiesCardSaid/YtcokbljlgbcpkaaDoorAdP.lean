
/- Walk of AcceptorPlays. -/
import Derived.Test.YtcokbljlgbcpkaaDoorAdO
import Derived.Test.YtcokbljlgbcpkaaDoorAdJ
import Derived.Test.YtcokbljlgbcpkaaDoorMem
namespace Go.Proofs.YtcokbljlgbcpkaaDoor
open Go.RowKit
/-- A pointer at no acceptor, in memory from n on. -/
def NoQ (n : Nat) (p : Value) (W : World) : Prop := p = .pointer none ∨ ∃ g, p = .pointer (some ⟨g, 0, none⟩) ∧ n ≤ g ∧ W.cell? ⟨g, 8, none⟩ = some (.int .i64 0)
theorem NoQ.out {n : Nat} {p : Value} {W : World} (h : NoQ n p W) : NoP W p := by
  rcases h with h | ⟨g, h, _, hc⟩
  · exact .inl h
  · exact .inr ⟨g, h, hc⟩
theorem NoQ.step {n : Nat} {p : Value} {W W' : World} (h : NoQ n p W) (hb : Below W.heap.size W W') : NoQ n p W' := by
  rcases h with h | ⟨g, h, hn, hc⟩
  · exact .inl h
  · exact .inr ⟨g, h, hn, (hb.cell (World.block_lt_of_cell? W _ hc)).trans hc⟩
theorem NoQ.kx {n : Nat} {p : Value} {W W' : World} {ws : List Nat} (h : NoQ n p W) (hb : Kx ws W W') (hw : ∀ x, x ∈ ws → x < n) : NoQ n p W' := by
  rcases h with h | ⟨g, h, hn, hc⟩
  · exact .inl h
  · exact .inr ⟨g, h, hn, kx_cell hb hc (fun e => by have := hw g e; omega)⟩
theorem AW.kx {W W' : World} {g : Nat} {A : Acc} {ws : List Nat} (h : AW W g A) (hb : Kx ws W W') (hw : g ∉ ws) : AW W' g A := hb.blk h hw
theorem act_inv {A : Acc} (h : InvA A) (e : Ac) : InvA (actA A e) := by
  unfold actA
  split
  · exact (rise_pro h _ _).2
  · exact (rise_acc h _ _ _ _ _ _).2
theorem slot_ne {E : Int} (h : E ≠ 0) : (E != 0) = true := by simpa using h
set_option maxRecDepth 100000 in
set_option maxHeartbeats 1000000 in
theorem plays_few (c sl : Int) (l : List Ac) (ao : Option Addr) (cap : Nat) (w : World) (hT : Tabs w) (hE : HasAc w ao l) (hl : l.length ≤ 9223372036854775807) (hs : ∀ e, e ∈ l → e.s.size ≤ 9223372036854775807) (hf : fewB l 40 = false) :
    Calls Tryd.prog 5 #[.int .i64 c, .int .i64 sl, .slice ao l.length cap] w fun e w' => e = .returned (.bool true) ∧ Below w.heap.size w w' := by
  have cF := few_any l ao cap 40 w hE hl hs
  rw [hf] at cF
  clear hf hE hs
  go_enter Tryd.func5, Tryd.ntmps5
  go_wp2_with fail
  refine (cF).mono ?_
  rintro e w1 ⟨rfl, hb1⟩
  go_wp2_with fail
  refine (works14_any _ (hT.step hb1)).mono ?_
  rintro e w2 ⟨rfl, hb2⟩
  go_wp2
  go_ret
  exact ⟨rfl, hb1.trans (hb2.mono hb1.size)⟩
set_option maxRecDepth 100000 in
set_option maxHeartbeats 2000000 in
theorem plays_no (c sl : Int) (l : List Ac) (ao : Option Addr) (cap : Nat) (w : World) (hT : Tabs w) (hE : HasAc w ao l) (hl : l.length ≤ 9223372036854775807) (hs : ∀ e, e ∈ l → e.s.size ≤ 9223372036854775807) (hf : fewB l 40 = true) (h0 : opErr c sl ≠ 0) :
    Calls Tryd.prog 5 #[.int .i64 c, .int .i64 sl, .slice ao l.length cap] w fun e w' => e = .returned (.bool true) ∧ Below w.heap.size w w' := by
  have cF := few_any l ao cap 40 w hE hl hs
  rw [hf] at cF
  have cN := fun W => new14_no c sl W h0
  have cR := fun W => refNew14_no c sl W h0
  generalize opErr c sl = E at *
  have hd : (E != 0) = true := by simpa using h0
  obtain ⟨N, hN⟩ : ∃ N, l.length = N := ⟨_, rfl⟩
  have hNI : (N : Int) ≤ 9223372036854775807 := by omega
  rw [hN] at cF ⊢
  clear hf hE hs
  unfold refV zA at cR
  simp only at cR
  have hb := From.refl w
  go_enter Tryd.func5, Tryd.ntmps5
  go_wp2_with fail
  refine (cF).mono ?_
  rintro e w1 ⟨rfl, hbn⟩
  replace hb := hb.step hbn
  clear hbn
  go_wp2_with fail
  refine (cN _).mono ?_
  rintro e w2 ⟨rfl, hbn⟩
  replace hb := hb.step hbn
  clear hbn
  go_wp2_with fail
  refine (cR _).mono ?_
  rintro e w3 ⟨rfl, hbn⟩
  replace hb := hb.step hbn
  clear hbn
  go_upto_region 5 with fail
  obtain ⟨gX, hgX⟩ : ∃ g, (w3).heap.size = g := ⟨_, rfl⟩
  have X := Blk.newV hgX 51 #[.int .i64 0, .int .i64 0, .int .i64 0, .int .i64 0, .int .i64 0, .int .i64 0, .int .i64 0, .int .i64 0, .int .i64 0, .string ⟨#[]⟩]
  have hbn := (Below.refl (w3).heap.size w3).alloc (Nat.le_refl _) (.cells #[.int .i64 0, .int .i64 0, .int .i64 0, .int .i64 0, .int .i64 0, .int .i64 0, .int .i64 0, .int .i64 0, .int .i64 0, .string ⟨#[]⟩] 51)
  replace hb := hb.step hbn
  clear hbn
  rw [hgX]
  generalize (w3).alloc (.cells #[.int .i64 0, .int .i64 0, .int .i64 0, .int .i64 0, .int .i64 0, .int .i64 0, .int .i64 0, .int .i64 0, .int .i64 0, .string ⟨#[]⟩] 51) = wk at *
  clear cF cN cR
  go_upto_if 41 with fail
  go_cut [11] from 38 to 43 (fun v11 wx => ∃ p, p = v11 ∧ NoQ wk.heap.size p wx ∧ Below wk.heap.size wk wx)
  case first =>
    go_wp2_with fail
    · go_meet
      exact ⟨_, rfl, .inr ⟨wk.heap.size, rfl, Nat.le_refl _, (Blk.newV (W := wk) rfl 57 #[.int .i64 0, .int .i64 0, .int .i64 0, .int .i64 0, .int .i64 0, .int .i64 0, .int .i64 0, .string ⟨#[]⟩, .int .i64 0, .int .i64 0]).cell (j := 8) rfl⟩, (Below.refl wk.heap.size wk).alloc (Nat.le_refl _) _⟩
    · go_meet
      exact ⟨_, rfl, .inl rfl, Below.refl _ _⟩
  case rest =>
  obtain ⟨p, rfl, hq, hbn⟩ := hcut
  replace hb := hb.step hbn
  replace X := X.step hbn
  clear hbn
  generalize wc = w0 at *
  go_wp2_with fail
  refine (promise_no _ 1 0 _ hq.out).mono ?_
  rintro e w5 ⟨rfl, hbn⟩
  replace X := X.step hbn
  replace hb := hb.step hbn
  replace hq := hq.step hbn
  clear hbn
  go_upto_region 9 with fail
  obtain ⟨gZ1, hgZ1⟩ : ∃ g, (w5).heap.size = g := ⟨_, rfl⟩
  have lt_X_Z1 := X.lt
  rw [hgZ1] at lt_X_Z1
  have Z1 := Blk.newV hgZ1 39 #[.int .i64 0, .int .i64 0, .int .i64 0, .int .i64 0, .int .i64 0, .string ⟨#[]⟩]
  have hbn := (Below.refl (w5).heap.size w5).alloc (Nat.le_refl _) (.cells #[.int .i64 0, .int .i64 0, .int .i64 0, .int .i64 0, .int .i64 0, .string ⟨#[]⟩] 39)
  replace X := X.step hbn
  replace hb := hb.step hbn
  replace hq := hq.step hbn
  clear hbn
  rw [hgZ1]
  generalize (w5).alloc (.cells #[.int .i64 0, .int .i64 0, .int .i64 0, .int .i64 0, .int .i64 0, .string ⟨#[]⟩] 39) = w6 at *
  go_wp2_with fail
  refine (accept_no _ 1 0 0 0 0 ⟨#[]⟩ _ hq.out (by decide) (hT.step hb.out)).mono ?_
  rintro e w7 ⟨rfl, hbn⟩
  replace X := X.step hbn
  replace hb := hb.step hbn
  replace hq := hq.step hbn
  replace Z1 := Z1.step hbn
  clear hbn
  go_wp2_with fail
  refine (accepted_no _ _ hq.out).mono ?_
  rintro e w8 ⟨rfl, hbn⟩
  replace X := X.step hbn
  replace hb := hb.step hbn
  replace hq := hq.step hbn
  replace Z1 := Z1.step hbn
  clear hbn
  go_upto_region 11 with fail
  obtain ⟨gZ2, hgZ2⟩ : ∃ g, (w8).heap.size = g := ⟨_, rfl⟩
  have lt_X_Z2 := X.lt
  rw [hgZ2] at lt_X_Z2
  have lt_Z1_Z2 := Z1.lt
  rw [hgZ2] at lt_Z1_Z2
  have Z2 := Blk.newV hgZ2 39 #[.int .i64 0, .int .i64 0, .int .i64 0, .int .i64 0, .int .i64 0, .string ⟨#[]⟩]
  have hbn := (Below.refl (w8).heap.size w8).alloc (Nat.le_refl _) (.cells #[.int .i64 0, .int .i64 0, .int .i64 0, .int .i64 0, .int .i64 0, .string ⟨#[]⟩] 39)
  replace X := X.step hbn
  replace hb := hb.step hbn
  replace hq := hq.step hbn
  replace Z1 := Z1.step hbn
  clear hbn
  rw [hgZ2]
  generalize (w8).alloc (.cells #[.int .i64 0, .int .i64 0, .int .i64 0, .int .i64 0, .int .i64 0, .string ⟨#[]⟩] 39) = w9 at *
  go_wp2_with fail
  refine (num14_any 1 _).mono ?_
  rintro e wx ⟨rfl, rfl⟩
  go_wp2_with fail
  refine (num14_any 1 _).mono ?_
  rintro e wx ⟨rfl, rfl⟩
  go_wp2_with fail
  refine (promised_no _ _ hq.out).mono ?_
  rintro e w10 ⟨rfl, hbn⟩
  replace X := X.step hbn
  replace hb := hb.step hbn
  replace hq := hq.step hbn
  replace Z1 := Z1.step hbn
  replace Z2 := Z2.step hbn
  clear hbn
  go_wp2_with fail
  refine (copy_no _ _ hq.out).mono ?_
  rintro e wx ⟨rfl, rfl⟩
  go_wp2_with fail
  refine (same14_no1 _ (.pointer none) _ hq.out (.inl rfl)).mono ?_
  rintro e wx ⟨rfl, rfl⟩
  clear Z1 Z2
  go_wp2_with fail
  refine (num14_any _ _).mono ?_
  rintro e wx ⟨rfl, rfl⟩
  go_wp2_with fail
  refine (works14_any _ (hT.step hb.out)).mono ?_
  rintro e w11 ⟨rfl, hbn⟩
  replace X := X.step hbn
  replace hb := hb.step hbn
  replace hq := hq.step hbn
  clear hbn
  go_wp2
  go_ret
  exact ⟨rfl, hb⟩
set_option maxRecDepth 100000 in
set_option maxHeartbeats 8000000 in
theorem plays_yes (c sl : Int) (l : List Ac) (ao : Option Addr) (cap : Nat) (w : World) (hT : Tabs w) (hE : HasAc w ao l) (hl : l.length ≤ 9223372036854775807) (hs : ∀ e, e ∈ l → e.s.size ≤ 9223372036854775807) (hf : fewB l 40 = true) (h0 : opErr c sl = 0) :
    Calls Tryd.prog 5 #[.int .i64 c, .int .i64 sl, .slice ao l.length cap] w fun e w' => e = .returned (.bool true) ∧ Below w.heap.size w w' := by
  have cF := few_any l ao cap 40 w hE hl hs
  rw [hf] at cF
  have cN := fun W => new14_ok c sl _ W rfl h0
  have cR := fun W => refNew14_ok c sl W h0
  have hI0 := inv_first h0
  unfold refV at cR
  unfold first14 at hI0 cR
  simp only at cR
  generalize ownerI c sl = o at cN hI0 cR
  obtain ⟨N, hN⟩ : ∃ N, l.length = N := ⟨_, rfl⟩
  have hNI : (N : Int) ≤ 9223372036854775807 := by omega
  rw [hN] at cF ⊢
  clear hf h0
  have HS := Lib.hid hs
  clear hs
  have hb := From.refl w
  go_enter Tryd.func5, Tryd.ntmps5
  go_wp2_with fail
  refine (cF).mono ?_
  rintro e w1 ⟨rfl, hbn⟩
  replace hb := hb.step hbn
  clear hbn
  go_wp2_with fail
  refine (cN _).mono ?_
  rintro e w2 ⟨⟨g, rfl, hA, hg⟩, hbn⟩
  have hgw : w.heap.size ≤ g := Nat.le_trans hb.size hg
  replace hb := hb.step hbn
  clear hbn hg
  go_wp2_with fail
  refine (cR _).mono ?_
  rintro e w3 ⟨rfl, hbn⟩
  replace hb := hb.step hbn
  replace hA := hA.step hbn
  clear hbn
  go_upto_region 5 with fail
  obtain ⟨gX, hgX⟩ : ∃ g, (w3).heap.size = g := ⟨_, rfl⟩
  have lt_hA_X := hA.lt
  rw [hgX] at lt_hA_X
  have X := Blk.newV hgX 51 #[.int .i64 c, .int .i64 sl, .int .i64 0, .int .i64 o, .int .i64 (-1), .int .i64 0, .int .i64 0, .int .i64 0, .int .i64 0, .string ⟨#[]⟩]
  have hbn := (Below.refl (w3).heap.size w3).alloc (Nat.le_refl _) (.cells #[.int .i64 c, .int .i64 sl, .int .i64 0, .int .i64 o, .int .i64 (-1), .int .i64 0, .int .i64 0, .int .i64 0, .int .i64 0, .string ⟨#[]⟩] 51)
  replace hb := hb.step hbn
  replace hA := hA.step hbn
  clear hbn
  rw [hgX]
  generalize (w3).alloc (.cells #[.int .i64 c, .int .i64 sl, .int .i64 0, .int .i64 o, .int .i64 (-1), .int .i64 0, .int .i64 0, .int .i64 0, .int .i64 0, .string ⟨#[]⟩] 51) = wk at *
  clear cF cN cR
  have hXk := X.lt
  go_upto_if 41 with fail
  go_cut [11] from 38 to 43 (fun v11 wx => ∃ p, p = v11 ∧ NoQ wk.heap.size p wx ∧ Below wk.heap.size wk wx)
  case first =>
    go_wp2_with fail
    · go_meet
      exact ⟨_, rfl, .inr ⟨wk.heap.size, rfl, Nat.le_refl _, (Blk.newV (W := wk) rfl 57 #[.int .i64 0, .int .i64 0, .int .i64 0, .int .i64 0, .int .i64 0, .int .i64 0, .int .i64 0, .string ⟨#[]⟩, .int .i64 0, .int .i64 0]).cell (j := 8) rfl⟩, (Below.refl wk.heap.size wk).alloc (Nat.le_refl _) _⟩
    · go_meet
      exact ⟨_, rfl, .inl rfl, Below.refl _ _⟩
  case rest =>
  obtain ⟨p, rfl, hq, hbn⟩ := hcut
  replace hb := hb.step hbn
  replace hA := hA.step hbn
  replace X := X.step hbn
  clear hbn
  generalize wc = w0 at *
  go_wp2_with fail
  refine (promise_no _ 1 0 _ hq.out).mono ?_
  rintro e w5 ⟨rfl, hbn⟩
  replace X := X.step hbn
  replace hA := hA.step hbn
  replace hb := hb.step hbn
  replace hq := hq.step hbn
  clear hbn
  go_upto_region 9 with fail
  obtain ⟨gZ1, hgZ1⟩ : ∃ g, (w5).heap.size = g := ⟨_, rfl⟩
  have lt_X_Z1 := X.lt
  rw [hgZ1] at lt_X_Z1
  have lt_hA_Z1 := hA.lt
  rw [hgZ1] at lt_hA_Z1
  have Z1 := Blk.newV hgZ1 39 #[.int .i64 0, .int .i64 0, .int .i64 0, .int .i64 0, .int .i64 0, .string ⟨#[]⟩]
  have hbn := (Below.refl (w5).heap.size w5).alloc (Nat.le_refl _) (.cells #[.int .i64 0, .int .i64 0, .int .i64 0, .int .i64 0, .int .i64 0, .string ⟨#[]⟩] 39)
  replace X := X.step hbn
  replace hA := hA.step hbn
  replace hb := hb.step hbn
  replace hq := hq.step hbn
  clear hbn
  rw [hgZ1]
  generalize (w5).alloc (.cells #[.int .i64 0, .int .i64 0, .int .i64 0, .int .i64 0, .int .i64 0, .string ⟨#[]⟩] 39) = w6 at *
  go_wp2_with fail
  refine (accept_no _ 1 0 0 0 0 ⟨#[]⟩ _ hq.out (by decide) (hT.step hb.out)).mono ?_
  rintro e w7 ⟨rfl, hbn⟩
  replace X := X.step hbn
  replace hA := hA.step hbn
  replace hb := hb.step hbn
  replace hq := hq.step hbn
  replace Z1 := Z1.step hbn
  clear hbn
  go_wp2_with fail
  refine (accepted_no _ _ hq.out).mono ?_
  rintro e w8 ⟨rfl, hbn⟩
  replace X := X.step hbn
  replace hA := hA.step hbn
  replace hb := hb.step hbn
  replace hq := hq.step hbn
  replace Z1 := Z1.step hbn
  clear hbn
  go_upto_region 11 with fail
  obtain ⟨gZ2, hgZ2⟩ : ∃ g, (w8).heap.size = g := ⟨_, rfl⟩
  have lt_X_Z2 := X.lt
  rw [hgZ2] at lt_X_Z2
  have lt_hA_Z2 := hA.lt
  rw [hgZ2] at lt_hA_Z2
  have lt_Z1_Z2 := Z1.lt
  rw [hgZ2] at lt_Z1_Z2
  have Z2 := Blk.newV hgZ2 39 #[.int .i64 0, .int .i64 0, .int .i64 0, .int .i64 0, .int .i64 0, .string ⟨#[]⟩]
  have hbn := (Below.refl (w8).heap.size w8).alloc (Nat.le_refl _) (.cells #[.int .i64 0, .int .i64 0, .int .i64 0, .int .i64 0, .int .i64 0, .string ⟨#[]⟩] 39)
  replace X := X.step hbn
  replace hA := hA.step hbn
  replace hb := hb.step hbn
  replace hq := hq.step hbn
  replace Z1 := Z1.step hbn
  clear hbn
  rw [hgZ2]
  generalize (w8).alloc (.cells #[.int .i64 0, .int .i64 0, .int .i64 0, .int .i64 0, .int .i64 0, .string ⟨#[]⟩] 39) = w9 at *
  go_wp2_with fail
  refine (num14_any 1 _).mono ?_
  rintro e wx ⟨rfl, rfl⟩
  go_wp2_with fail
  refine (num14_any 1 _).mono ?_
  rintro e wx ⟨rfl, rfl⟩
  go_wp2_with fail
  refine (promised_no _ _ hq.out).mono ?_
  rintro e w10 ⟨rfl, hbn⟩
  replace X := X.step hbn
  replace hA := hA.step hbn
  replace hb := hb.step hbn
  replace hq := hq.step hbn
  replace Z1 := Z1.step hbn
  replace Z2 := Z2.step hbn
  clear hbn
  go_wp2_with fail
  refine (copy_no _ _ hq.out).mono ?_
  rintro e wx ⟨rfl, rfl⟩
  go_wp2_with fail
  refine (same14_no1 _ (.pointer none) _ hq.out (.inl rfl)).mono ?_
  rintro e wx ⟨rfl, rfl⟩
  clear Z1 Z2
  have hgX : g < gX := by have := lt_hA_X; omega
  have hXq : gX < wk.heap.size := hXk
  obtain ⟨nq, hnq⟩ : ∃ n, wk.heap.size = n := ⟨_, rfl⟩
  rw [hnq] at hq hXq
  clear hnq hXk lt_hA_X
  obtain ⟨B, hB⟩ : ∃ B, w.heap.size = B := ⟨_, rfl⟩
  have hXB : B ≤ gX := by omega
  go_upto_region 16 with fail
  go_loopw [19] (fun i wr => ∃ (j : Nat) (A : Acc), i = .int .i64 j ∧ j ≤ N ∧ AW wr g A ∧ InvA A ∧ Blk wr gX 51 (refL A) ∧ NoQ nq p wr ∧ From w wr) (fun i _ => N - (intOf i).toNat)
  case atStart => exact ⟨0, _, rfl, by omega, hA, hI0, X, hq, hb⟩
  case round =>
    clear hA hI0 X hq hb
    obtain ⟨j, A, rfl, hj, hA, hI, X, hq, hb⟩ := hrel
    by_cases hlt : j < N
    · obtain ⟨e, he⟩ : ∃ e, l[j]? = some e := ⟨l[j], by simp [hN, hlt]⟩
      have hQ := (hE.step hb.out) j e he
      obtain ⟨b, off, rfl, hQ⟩ := hQ
      have hbB : b < B := by
        obtain ⟨b', off', h1, h2⟩ := hE j e he
        cases h1
        exact hB ▸ World.block_lt_of_cell? w _ h2.h0
      have hj0 : (0 : Int) ≤ (j : Int) := by omega
      have hj1 : (j : Int) < (N : Int) := by omega
      have hse := HS.out e (List.mem_of_getElem? he)
      have cA := fun W (hW : From w W) (hA : AW W g A) => act14_any g A e W hA hI.c (hT.step hW.out) hse
      have hI2 := act_inv hI e
      unfold actP at cA
      generalize actA A e = A2 at *
      obtain ⟨ew, ex, ey, ek, em, en, es⟩ := e
      unfold refV acVal at cA
      unfold refL at X
      simp only at cA
      have hbg : b ∉ [g] := by simp; omega
      have hXg : gX ∉ [g] := by simp; omega
      have X_0 := kx_all (X.cell (j := 0) rfl) hXg
      have X_1 := kx_all (X.cell (j := 1) rfl) hXg
      have X_2 := kx_all (X.cell (j := 2) rfl) hXg
      have X_3 := kx_all (X.cell (j := 3) rfl) hXg
      have X_4 := kx_all (X.cell (j := 4) rfl) hXg
      have X_5 := kx_all (X.cell (j := 5) rfl) hXg
      have X_6 := kx_all (X.cell (j := 6) rfl) hXg
      have X_7 := kx_all (X.cell (j := 7) rfl) hXg
      have X_8 := kx_all (X.cell (j := 8) rfl) hXg
      have X_9 := kx_all (X.cell (j := 9) rfl) hXg
      have q0 := kx_all hQ.h0 hbg
      have q1 := kx_all hQ.h1 hbg
      have q2 := kx_all hQ.h2 hbg
      have q3 := kx_all hQ.h3 hbg
      have q4 := kx_all hQ.h4 hbg
      have q5 := kx_all hQ.h5 hbg
      have q6 := kx_all hQ.h6 hbg
      simp only at q0 q1 q2 q3 q4 q5 q6
      clear hQ he HS hE
      go_upto_region 18 with fail
      have hgr := hA.lt
      go_cut [20, 21] from 103 to 127 (fun v20 v21 wx => ∃ gt, v20 = .pointer (some ⟨gt, 0, none⟩) ∧ v21 = .bool true ∧ wr.heap.size ≤ gt ∧ Blk wx gt 51 (refL A2) ∧ AW wx g A2 ∧ Kx [g] wr wx)
      case first =>
        refine wp_region_held (S := Kx [g] wr) (by kernel_rfl) ?_
        have hst : Below (wr).heap.size wr { wr with drawn := (wr).drawn + 1 } := ⟨rfl, rfl, rfl, Nat.le_refl _, fun _ _ => rfl⟩
        have hS : (Kx [g] wr) { wr with drawn := (wr).drawn + 1 } := by first | exact ⟨rfl, rfl, rfl, Nat.le_refl _, fun _ _ _ => rfl⟩ | exact ⟨rfl, rfl, rfl, Nat.le_refl _, fun _ _ => rfl⟩
        have hAq := hA.step hst
        have hbq := hb.step hst
        clear hst
        generalize ({ wr with drawn := (wr).drawn + 1 } : World) = wq at *
        refine wpAnyH_take (i := 0) (v := ?_) rfl (by kernel_rfl) (by kernel_rfl) (by kernel_rfl) (fun _ _ _ h => h) (Or.inl ⟨by kernel_rfl, ?_⟩) hS ?_
        rotate_left
        · intro W hSW
          have y0 := X_0 _ hSW
          have y1 := X_1 _ hSW
          have y2 := X_2 _ hSW
          have y3 := X_3 _ hSW
          have y4 := X_4 _ hSW
          have y5 := X_5 _ hSW
          have y6 := X_6 _ hSW
          have y7 := X_7 _ hSW
          have y8 := X_8 _ hSW
          have y9 := X_9 _ hSW
          have y10 := q0 _ hSW
          have y11 := q1 _ hSW
          have y12 := q2 _ hSW
          have y13 := q3 _ hSW
          have y14 := q4 _ hSW
          have y15 := q5 _ hSW
          have y16 := q6 _ hSW
          go_simp
          try with_reducible rfl
        dsimp only [Act.put]
        refine wpAnyH_take (i := 1) (v := ?_) rfl (by kernel_rfl) (by kernel_rfl) (by kernel_rfl) (fun _ _ _ h => h) (Or.inl ⟨by kernel_rfl, ?_⟩) hS ?_
        rotate_left
        · intro W hSW
          have y0 := X_0 _ hSW
          have y1 := X_1 _ hSW
          have y2 := X_2 _ hSW
          have y3 := X_3 _ hSW
          have y4 := X_4 _ hSW
          have y5 := X_5 _ hSW
          have y6 := X_6 _ hSW
          have y7 := X_7 _ hSW
          have y8 := X_8 _ hSW
          have y9 := X_9 _ hSW
          have y10 := q0 _ hSW
          have y11 := q1 _ hSW
          have y12 := q2 _ hSW
          have y13 := q3 _ hSW
          have y14 := q4 _ hSW
          have y15 := q5 _ hSW
          have y16 := q6 _ hSW
          go_simp
          try with_reducible rfl
        dsimp only [Act.put]
        refine wpAnyH_take (i := 2) (v := ?_) rfl (by kernel_rfl) (by kernel_rfl) (by kernel_rfl) (fun _ _ _ h => h) (Or.inl ⟨by kernel_rfl, ?_⟩) hS ?_
        rotate_left
        · intro W hSW
          have y0 := X_0 _ hSW
          have y1 := X_1 _ hSW
          have y2 := X_2 _ hSW
          have y3 := X_3 _ hSW
          have y4 := X_4 _ hSW
          have y5 := X_5 _ hSW
          have y6 := X_6 _ hSW
          have y7 := X_7 _ hSW
          have y8 := X_8 _ hSW
          have y9 := X_9 _ hSW
          have y10 := q0 _ hSW
          have y11 := q1 _ hSW
          have y12 := q2 _ hSW
          have y13 := q3 _ hSW
          have y14 := q4 _ hSW
          have y15 := q5 _ hSW
          have y16 := q6 _ hSW
          go_simp
          try with_reducible rfl
        dsimp only [Act.put]
        refine wpAnyH_take (i := 3) (v := ?_) rfl (by kernel_rfl) (by kernel_rfl) (by kernel_rfl) (fun _ _ _ h => h) (Or.inl ⟨by kernel_rfl, ?_⟩) hS ?_
        rotate_left
        · intro W hSW
          have y0 := X_0 _ hSW
          have y1 := X_1 _ hSW
          have y2 := X_2 _ hSW
          have y3 := X_3 _ hSW
          have y4 := X_4 _ hSW
          have y5 := X_5 _ hSW
          have y6 := X_6 _ hSW
          have y7 := X_7 _ hSW
          have y8 := X_8 _ hSW
          have y9 := X_9 _ hSW
          have y10 := q0 _ hSW
          have y11 := q1 _ hSW
          have y12 := q2 _ hSW
          have y13 := q3 _ hSW
          have y14 := q4 _ hSW
          have y15 := q5 _ hSW
          have y16 := q6 _ hSW
          go_simp
          try with_reducible rfl
        dsimp only [Act.put]
        refine wpAnyH_take (i := 4) (v := ?_) rfl (by kernel_rfl) (by kernel_rfl) (by kernel_rfl) (fun _ _ _ h => h) (Or.inl ⟨by kernel_rfl, ?_⟩) hS ?_
        rotate_left
        · intro W hSW
          have y0 := X_0 _ hSW
          have y1 := X_1 _ hSW
          have y2 := X_2 _ hSW
          have y3 := X_3 _ hSW
          have y4 := X_4 _ hSW
          have y5 := X_5 _ hSW
          have y6 := X_6 _ hSW
          have y7 := X_7 _ hSW
          have y8 := X_8 _ hSW
          have y9 := X_9 _ hSW
          have y10 := q0 _ hSW
          have y11 := q1 _ hSW
          have y12 := q2 _ hSW
          have y13 := q3 _ hSW
          have y14 := q4 _ hSW
          have y15 := q5 _ hSW
          have y16 := q6 _ hSW
          go_simp
          try with_reducible rfl
        dsimp only [Act.put]
        refine wpAnyH_take (i := 5) (v := ?_) rfl (by kernel_rfl) (by kernel_rfl) (by kernel_rfl) (fun _ _ _ h => h) (Or.inl ⟨by kernel_rfl, ?_⟩) hS ?_
        rotate_left
        · intro W hSW
          have y0 := X_0 _ hSW
          have y1 := X_1 _ hSW
          have y2 := X_2 _ hSW
          have y3 := X_3 _ hSW
          have y4 := X_4 _ hSW
          have y5 := X_5 _ hSW
          have y6 := X_6 _ hSW
          have y7 := X_7 _ hSW
          have y8 := X_8 _ hSW
          have y9 := X_9 _ hSW
          have y10 := q0 _ hSW
          have y11 := q1 _ hSW
          have y12 := q2 _ hSW
          have y13 := q3 _ hSW
          have y14 := q4 _ hSW
          have y15 := q5 _ hSW
          have y16 := q6 _ hSW
          go_simp
          try with_reducible rfl
        dsimp only [Act.put]
        refine wpAnyH_ready (rs := [6, 10]) (by kernel_rfl) (by simp) ?_
        refine AllReadyH.cons rfl (fun K hK => ?_) (AllReadyH.cons rfl (fun K hK => ?_) AllReadyH.nil)
        ·
          go_simp
          refine (cA _ hbq hAq).mono ?_
          rintro e wz ⟨rfl, h7, hK7⟩
          refine hK.out _ _ (hS.trans hK7) (fun hS => ?_)
          clear hK K
          refine wpAnyH_take (i := 7) (v := ?_) rfl (by kernel_rfl) (by kernel_rfl) (by kernel_rfl) (fun _ _ _ h => h) (Or.inl ⟨by kernel_rfl, ?_⟩) hS ?_
          rotate_left
          · intro W hSW
            go_simp
            try with_reducible rfl
          dsimp only [Act.put]
          refine wpAnyH_take (i := 8) (v := ?_) rfl (by kernel_rfl) (by kernel_rfl) (by kernel_rfl) (fun _ _ _ h => h) (Or.inl ⟨by kernel_rfl, ?_⟩) hS ?_
          rotate_left
          · intro W hSW
            go_simp
            try with_reducible rfl
          dsimp only [Act.put]
          refine wpAnyH_take (i := 9) (v := ?_) rfl (by kernel_rfl) (by kernel_rfl) (by kernel_rfl) (fun _ _ _ h => h) (Or.inl ⟨by kernel_rfl, ?_⟩) hS ?_
          rotate_left
          · intro W hSW
            go_simp
            try with_reducible rfl
          dsimp only [Act.put]
          refine wpAnyH_ready (rs := [10]) (by kernel_rfl) (by simp) ?_
          refine AllReadyH.cons rfl (fun K hK => ?_) AllReadyH.nil
          go_simp
          obtain ⟨gt, hgt⟩ : ∃ gt, wz.heap.size = gt := ⟨_, rfl⟩
          have hle : wr.heap.size ≤ gt := by have := hS.size; omega
          have XT := Blk.newV hgt 51 #[.int .i64 0, .int .i64 0, .int .i64 0, .int .i64 0, .int .i64 0, .int .i64 0, .int .i64 0, .int .i64 0, .int .i64 0, .string ⟨#[]⟩]
          have hba := (Below.refl wz.heap.size wz).alloc (Nat.le_refl _) (.cells #[.int .i64 0, .int .i64 0, .int .i64 0, .int .i64 0, .int .i64 0, .int .i64 0, .int .i64 0, .int .i64 0, .int .i64 0, .string ⟨#[]⟩] 51)
          replace h7 := h7.step hba
          refine hK.out _ _ (hS.step hba) (fun hS => ?_)
          rw [hgt]
          generalize wz.alloc (.cells #[.int .i64 0, .int .i64 0, .int .i64 0, .int .i64 0, .int .i64 0, .int .i64 0, .int .i64 0, .int .i64 0, .int .i64 0, .string ⟨#[]⟩] 51) = wa at *
          clear hgt hba
          clear hK K
          clear X_0 X_1 X_2 X_3 X_4 X_5 X_6 X_7 X_8 X_9 q0 q1 q2 q3 q4 q5 q6
          have Z := XT
          have Z_0 := Z.cell (j := 0) rfl
          have Z_1 := Z.cell (j := 1) rfl
          have Z_2 := Z.cell (j := 2) rfl
          have Z_3 := Z.cell (j := 3) rfl
          have Z_4 := Z.cell (j := 4) rfl
          have Z_5 := Z.cell (j := 5) rfl
          have Z_6 := Z.cell (j := 6) rfl
          have Z_7 := Z.cell (j := 7) rfl
          have Z_8 := Z.cell (j := 8) rfl
          have Z_9 := Z.cell (j := 9) rfl
          have Zf0 := Z.frozen 0
          have Zf1 := Z.frozen 1
          have Zf2 := Z.frozen 2
          have Zf3 := Z.frozen 3
          have Zf4 := Z.frozen 4
          have Zf5 := Z.frozen 5
          have Zf6 := Z.frozen 6
          have Zf7 := Z.frozen 7
          have Zf8 := Z.frozen 8
          have Zf9 := Z.frozen 9
          refine wpAnyH_ready (rs := [11]) (by kernel_rfl) (by simp) ?_
          refine AllReadyH.cons rfl (fun K hK => ?_) AllReadyH.nil
          go_simp
          have hkn : Kx [gt] wa ((((((((((wa.setCell ⟨gt, 0, none⟩ (.int .i64 A2.c)).setCell ⟨gt, 1, none⟩ (.int .i64 A2.sl)).setCell ⟨gt, 2, none⟩ (.int .i64 A2.r)).setCell ⟨gt, 3, none⟩ (.int .i64 A2.p)).setCell ⟨gt, 4, none⟩ (.int .i64 A2.ar)).setCell ⟨gt, 5, none⟩ (.int .i64 A2.ap)).setCell ⟨gt, 6, none⟩ (.int .i64 A2.k)).setCell ⟨gt, 7, none⟩ (.int .i64 A2.m)).setCell ⟨gt, 8, none⟩ (.int .i64 A2.n)).setCell ⟨gt, 9, none⟩ (.string A2.s)) := Kx.setCells [.int .i64 A2.c, .int .i64 A2.sl, .int .i64 A2.r, .int .i64 A2.p, .int .i64 A2.ar, .int .i64 A2.ap, .int .i64 A2.k, .int .i64 A2.m, .int .i64 A2.n, .string A2.s] 0 _ (Kx.refl _ _) (.inl (by simp))
          replace XT : Blk ((((((((((wa.setCell ⟨gt, 0, none⟩ (.int .i64 A2.c)).setCell ⟨gt, 1, none⟩ (.int .i64 A2.sl)).setCell ⟨gt, 2, none⟩ (.int .i64 A2.r)).setCell ⟨gt, 3, none⟩ (.int .i64 A2.p)).setCell ⟨gt, 4, none⟩ (.int .i64 A2.ar)).setCell ⟨gt, 5, none⟩ (.int .i64 A2.ap)).setCell ⟨gt, 6, none⟩ (.int .i64 A2.k)).setCell ⟨gt, 7, none⟩ (.int .i64 A2.m)).setCell ⟨gt, 8, none⟩ (.int .i64 A2.n)).setCell ⟨gt, 9, none⟩ (.string A2.s)) gt 51 [.int .i64 A2.c, .int .i64 A2.sl, .int .i64 A2.r, .int .i64 A2.p, .int .i64 A2.ar, .int .i64 A2.ap, .int .i64 A2.k, .int .i64 A2.m, .int .i64 A2.n, .string A2.s] := Blk.puts [.int .i64 A2.c, .int .i64 A2.sl, .int .i64 A2.r, .int .i64 A2.p, .int .i64 A2.ar, .int .i64 A2.ap, .int .i64 A2.k, .int .i64 A2.m, .int .i64 A2.n, .string A2.s] XT rfl
          replace h7 := h7.kx hkn (by first | (simp; done) | (simp; omega))
          replace hS := hS.kx hkn (by first | (simp; done) | (simp; omega))
          clear hkn
          generalize (((((((((wa.setCell ⟨gt, 0, none⟩ (.int .i64 A2.c)).setCell ⟨gt, 1, none⟩ (.int .i64 A2.sl)).setCell ⟨gt, 2, none⟩ (.int .i64 A2.r)).setCell ⟨gt, 3, none⟩ (.int .i64 A2.p)).setCell ⟨gt, 4, none⟩ (.int .i64 A2.ar)).setCell ⟨gt, 5, none⟩ (.int .i64 A2.ap)).setCell ⟨gt, 6, none⟩ (.int .i64 A2.k)).setCell ⟨gt, 7, none⟩ (.int .i64 A2.m)).setCell ⟨gt, 8, none⟩ (.int .i64 A2.n)).setCell ⟨gt, 9, none⟩ (.string A2.s) = ws at *
          refine hK.out _ _ hS (fun hS => ?_)
          clear hK K
          refine wpAnyH_ready (rs := [12]) (by kernel_rfl) (by simp) ?_
          refine AllReadyH.cons rfl (fun K hK => ?_) AllReadyH.nil
          go_simp
          refine hK.out _ _ hS (fun hS => ?_)
          clear hK K
          refine wpAnyH_done (by kernel_rfl) ?_ _
          go_wp2_with fail
          go_meet
          exact ⟨gt, rfl, rfl, hle, XT, h7, hS⟩
        ·
          go_simp
          obtain ⟨gt, hgt⟩ : ∃ gt, wq.heap.size = gt := ⟨_, rfl⟩
          have hle : wr.heap.size ≤ gt := by have := hS.size; omega
          have XT := Blk.newV hgt 51 #[.int .i64 0, .int .i64 0, .int .i64 0, .int .i64 0, .int .i64 0, .int .i64 0, .int .i64 0, .int .i64 0, .int .i64 0, .string ⟨#[]⟩]
          have hba := (Below.refl wq.heap.size wq).alloc (Nat.le_refl _) (.cells #[.int .i64 0, .int .i64 0, .int .i64 0, .int .i64 0, .int .i64 0, .int .i64 0, .int .i64 0, .int .i64 0, .int .i64 0, .string ⟨#[]⟩] 51)
          replace hAq := hAq.step hba
          replace hbq := hbq.step hba
          refine hK.out _ _ (hS.step hba) (fun hS => ?_)
          rw [hgt]
          generalize wq.alloc (.cells #[.int .i64 0, .int .i64 0, .int .i64 0, .int .i64 0, .int .i64 0, .int .i64 0, .int .i64 0, .int .i64 0, .int .i64 0, .string ⟨#[]⟩] 51) = wa at *
          clear hgt hba
          clear hK K
          refine wpAnyH_ready (rs := [6]) (by kernel_rfl) (by simp) ?_
          refine AllReadyH.cons rfl (fun K hK => ?_) AllReadyH.nil
          go_simp
          refine (cA _ hbq hAq).mono ?_
          rintro e wz ⟨rfl, h7, hK7⟩
          replace XT := hK7.blk XT (by simp; omega)
          refine hK.out _ _ (hS.trans hK7) (fun hS => ?_)
          clear hK K
          refine wpAnyH_take (i := 7) (v := ?_) rfl (by kernel_rfl) (by kernel_rfl) (by kernel_rfl) (fun _ _ _ h => h) (Or.inl ⟨by kernel_rfl, ?_⟩) hS ?_
          rotate_left
          · intro W hSW
            go_simp
            try with_reducible rfl
          dsimp only [Act.put]
          refine wpAnyH_take (i := 8) (v := ?_) rfl (by kernel_rfl) (by kernel_rfl) (by kernel_rfl) (fun _ _ _ h => h) (Or.inl ⟨by kernel_rfl, ?_⟩) hS ?_
          rotate_left
          · intro W hSW
            go_simp
            try with_reducible rfl
          dsimp only [Act.put]
          refine wpAnyH_take (i := 9) (v := ?_) rfl (by kernel_rfl) (by kernel_rfl) (by kernel_rfl) (fun _ _ _ h => h) (Or.inl ⟨by kernel_rfl, ?_⟩) hS ?_
          rotate_left
          · intro W hSW
            go_simp
            try with_reducible rfl
          dsimp only [Act.put]
          clear X_0 X_1 X_2 X_3 X_4 X_5 X_6 X_7 X_8 X_9 q0 q1 q2 q3 q4 q5 q6
          have Z := XT
          have Z_0 := Z.cell (j := 0) rfl
          have Z_1 := Z.cell (j := 1) rfl
          have Z_2 := Z.cell (j := 2) rfl
          have Z_3 := Z.cell (j := 3) rfl
          have Z_4 := Z.cell (j := 4) rfl
          have Z_5 := Z.cell (j := 5) rfl
          have Z_6 := Z.cell (j := 6) rfl
          have Z_7 := Z.cell (j := 7) rfl
          have Z_8 := Z.cell (j := 8) rfl
          have Z_9 := Z.cell (j := 9) rfl
          have Zf0 := Z.frozen 0
          have Zf1 := Z.frozen 1
          have Zf2 := Z.frozen 2
          have Zf3 := Z.frozen 3
          have Zf4 := Z.frozen 4
          have Zf5 := Z.frozen 5
          have Zf6 := Z.frozen 6
          have Zf7 := Z.frozen 7
          have Zf8 := Z.frozen 8
          have Zf9 := Z.frozen 9
          refine wpAnyH_ready (rs := [11]) (by kernel_rfl) (by simp) ?_
          refine AllReadyH.cons rfl (fun K hK => ?_) AllReadyH.nil
          go_simp
          have hkn : Kx [gt] wz ((((((((((wz.setCell ⟨gt, 0, none⟩ (.int .i64 A2.c)).setCell ⟨gt, 1, none⟩ (.int .i64 A2.sl)).setCell ⟨gt, 2, none⟩ (.int .i64 A2.r)).setCell ⟨gt, 3, none⟩ (.int .i64 A2.p)).setCell ⟨gt, 4, none⟩ (.int .i64 A2.ar)).setCell ⟨gt, 5, none⟩ (.int .i64 A2.ap)).setCell ⟨gt, 6, none⟩ (.int .i64 A2.k)).setCell ⟨gt, 7, none⟩ (.int .i64 A2.m)).setCell ⟨gt, 8, none⟩ (.int .i64 A2.n)).setCell ⟨gt, 9, none⟩ (.string A2.s)) := Kx.setCells [.int .i64 A2.c, .int .i64 A2.sl, .int .i64 A2.r, .int .i64 A2.p, .int .i64 A2.ar, .int .i64 A2.ap, .int .i64 A2.k, .int .i64 A2.m, .int .i64 A2.n, .string A2.s] 0 _ (Kx.refl _ _) (.inl (by simp))
          replace XT : Blk ((((((((((wz.setCell ⟨gt, 0, none⟩ (.int .i64 A2.c)).setCell ⟨gt, 1, none⟩ (.int .i64 A2.sl)).setCell ⟨gt, 2, none⟩ (.int .i64 A2.r)).setCell ⟨gt, 3, none⟩ (.int .i64 A2.p)).setCell ⟨gt, 4, none⟩ (.int .i64 A2.ar)).setCell ⟨gt, 5, none⟩ (.int .i64 A2.ap)).setCell ⟨gt, 6, none⟩ (.int .i64 A2.k)).setCell ⟨gt, 7, none⟩ (.int .i64 A2.m)).setCell ⟨gt, 8, none⟩ (.int .i64 A2.n)).setCell ⟨gt, 9, none⟩ (.string A2.s)) gt 51 [.int .i64 A2.c, .int .i64 A2.sl, .int .i64 A2.r, .int .i64 A2.p, .int .i64 A2.ar, .int .i64 A2.ap, .int .i64 A2.k, .int .i64 A2.m, .int .i64 A2.n, .string A2.s] := Blk.puts [.int .i64 A2.c, .int .i64 A2.sl, .int .i64 A2.r, .int .i64 A2.p, .int .i64 A2.ar, .int .i64 A2.ap, .int .i64 A2.k, .int .i64 A2.m, .int .i64 A2.n, .string A2.s] XT rfl
          replace h7 := h7.kx hkn (by first | (simp; done) | (simp; omega))
          replace hS := hS.kx hkn (by first | (simp; done) | (simp; omega))
          clear hkn
          generalize (((((((((wz.setCell ⟨gt, 0, none⟩ (.int .i64 A2.c)).setCell ⟨gt, 1, none⟩ (.int .i64 A2.sl)).setCell ⟨gt, 2, none⟩ (.int .i64 A2.r)).setCell ⟨gt, 3, none⟩ (.int .i64 A2.p)).setCell ⟨gt, 4, none⟩ (.int .i64 A2.ar)).setCell ⟨gt, 5, none⟩ (.int .i64 A2.ap)).setCell ⟨gt, 6, none⟩ (.int .i64 A2.k)).setCell ⟨gt, 7, none⟩ (.int .i64 A2.m)).setCell ⟨gt, 8, none⟩ (.int .i64 A2.n)).setCell ⟨gt, 9, none⟩ (.string A2.s) = ws at *
          refine hK.out _ _ hS (fun hS => ?_)
          clear hK K
          refine wpAnyH_ready (rs := [12]) (by kernel_rfl) (by simp) ?_
          refine AllReadyH.cons rfl (fun K hK => ?_) AllReadyH.nil
          go_simp
          refine hK.out _ _ hS (fun hS => ?_)
          clear hK K
          refine wpAnyH_done (by kernel_rfl) ?_ _
          go_wp2_with fail
          go_meet
          exact ⟨gt, rfl, rfl, hle, XT, h7, hS⟩
      case rest =>
      obtain ⟨gt, rfl, rfl, hle, XT, hA2, hK⟩ := hcut
      clear cA X_0 X_1 X_2 X_3 X_4 X_5 X_6 X_7 X_8 X_9 q0 q1 q2 q3 q4 q5 q6 hA
      have hgt : gX < gt := by have := X.lt; omega
      replace X := X.kx hK (by first | (simp; done) | (simp; omega))
      replace hq := hq.kx hK (by first | (simp; done) | (simp; omega))
      replace hb := hb.kx hK (by first | (simp; done) | (simp; omega))
      generalize wc = w8 at *
      clear hK
      have XT_0 := XT.cell (j := 0) rfl
      have XT_1 := XT.cell (j := 1) rfl
      have XT_2 := XT.cell (j := 2) rfl
      have XT_3 := XT.cell (j := 3) rfl
      have XT_4 := XT.cell (j := 4) rfl
      have XT_5 := XT.cell (j := 5) rfl
      have XT_6 := XT.cell (j := 6) rfl
      have XT_7 := XT.cell (j := 7) rfl
      have XT_8 := XT.cell (j := 8) rfl
      have XT_9 := XT.cell (j := 9) rfl
      have X_0 := X.cell (j := 0) rfl
      have X_1 := X.cell (j := 1) rfl
      have X_2 := X.cell (j := 2) rfl
      have X_3 := X.cell (j := 3) rfl
      have X_4 := X.cell (j := 4) rfl
      have X_5 := X.cell (j := 5) rfl
      have X_6 := X.cell (j := 6) rfl
      have X_7 := X.cell (j := 7) rfl
      have X_8 := X.cell (j := 8) rfl
      have X_9 := X.cell (j := 9) rfl
      have Xf0 := X.frozen 0
      have Xf1 := X.frozen 1
      have Xf2 := X.frozen 2
      have Xf3 := X.frozen 3
      have Xf4 := X.frozen 4
      have Xf5 := X.frozen 5
      have Xf6 := X.frozen 6
      have Xf7 := X.frozen 7
      have Xf8 := X.frozen 8
      have Xf9 := X.frozen 9
      go_upto_region 20 with fail
      clear X_0 X_1 X_2 X_3 X_4 X_5 X_6 X_7 X_8 X_9
      clear XT_0 XT_1 XT_2 XT_3 XT_4 XT_5 XT_6 XT_7 XT_8 XT_9
      clear Xf0 Xf1 Xf2 Xf3 Xf4 Xf5 Xf6 Xf7 Xf8 Xf9
      have hkn : Kx [gX] w8 ((((((((((w8.setCell ⟨gX, 0, none⟩ (.int .i64 A2.c)).setCell ⟨gX, 1, none⟩ (.int .i64 A2.sl)).setCell ⟨gX, 2, none⟩ (.int .i64 A2.r)).setCell ⟨gX, 3, none⟩ (.int .i64 A2.p)).setCell ⟨gX, 4, none⟩ (.int .i64 A2.ar)).setCell ⟨gX, 5, none⟩ (.int .i64 A2.ap)).setCell ⟨gX, 6, none⟩ (.int .i64 A2.k)).setCell ⟨gX, 7, none⟩ (.int .i64 A2.m)).setCell ⟨gX, 8, none⟩ (.int .i64 A2.n)).setCell ⟨gX, 9, none⟩ (.string A2.s)) := Kx.setCells [.int .i64 A2.c, .int .i64 A2.sl, .int .i64 A2.r, .int .i64 A2.p, .int .i64 A2.ar, .int .i64 A2.ap, .int .i64 A2.k, .int .i64 A2.m, .int .i64 A2.n, .string A2.s] 0 _ (Kx.refl _ _) (.inl (by simp))
      replace X : Blk ((((((((((w8.setCell ⟨gX, 0, none⟩ (.int .i64 A2.c)).setCell ⟨gX, 1, none⟩ (.int .i64 A2.sl)).setCell ⟨gX, 2, none⟩ (.int .i64 A2.r)).setCell ⟨gX, 3, none⟩ (.int .i64 A2.p)).setCell ⟨gX, 4, none⟩ (.int .i64 A2.ar)).setCell ⟨gX, 5, none⟩ (.int .i64 A2.ap)).setCell ⟨gX, 6, none⟩ (.int .i64 A2.k)).setCell ⟨gX, 7, none⟩ (.int .i64 A2.m)).setCell ⟨gX, 8, none⟩ (.int .i64 A2.n)).setCell ⟨gX, 9, none⟩ (.string A2.s)) gX 51 [.int .i64 A2.c, .int .i64 A2.sl, .int .i64 A2.r, .int .i64 A2.p, .int .i64 A2.ar, .int .i64 A2.ap, .int .i64 A2.k, .int .i64 A2.m, .int .i64 A2.n, .string A2.s] := Blk.puts [.int .i64 A2.c, .int .i64 A2.sl, .int .i64 A2.r, .int .i64 A2.p, .int .i64 A2.ar, .int .i64 A2.ap, .int .i64 A2.k, .int .i64 A2.m, .int .i64 A2.n, .string A2.s] X rfl
      replace hq := hq.kx hkn (by first | (simp; done) | (simp; omega))
      replace hb := hb.kx hkn (by first | (simp; done) | (simp; omega))
      replace hA2 := hA2.kx hkn (by first | (simp; done) | (simp; omega))
      clear hkn
      generalize (((((((((w8.setCell ⟨gX, 0, none⟩ (.int .i64 A2.c)).setCell ⟨gX, 1, none⟩ (.int .i64 A2.sl)).setCell ⟨gX, 2, none⟩ (.int .i64 A2.r)).setCell ⟨gX, 3, none⟩ (.int .i64 A2.p)).setCell ⟨gX, 4, none⟩ (.int .i64 A2.ar)).setCell ⟨gX, 5, none⟩ (.int .i64 A2.ap)).setCell ⟨gX, 6, none⟩ (.int .i64 A2.k)).setCell ⟨gX, 7, none⟩ (.int .i64 A2.m)).setCell ⟨gX, 8, none⟩ (.int .i64 A2.n)).setCell ⟨gX, 9, none⟩ (.string A2.s) = w9 at *
      clear XT
      have X_0 := X.cell (j := 0) rfl
      have X_1 := X.cell (j := 1) rfl
      have X_2 := X.cell (j := 2) rfl
      have X_3 := X.cell (j := 3) rfl
      have X_4 := X.cell (j := 4) rfl
      have X_5 := X.cell (j := 5) rfl
      have X_6 := X.cell (j := 6) rfl
      have X_7 := X.cell (j := 7) rfl
      have X_8 := X.cell (j := 8) rfl
      have X_9 := X.cell (j := 9) rfl
      go_wp2_with fail
      refine (is14_any g A2 _ hA2 hI2.c hI2.good).mono ?_
      rintro e wa ⟨rfl, hbn⟩
      replace hq := hq.step hbn
      replace hb := hb.step hbn
      replace hA2 := hA2.step hbn
      replace X := X.step hbn
      clear hbn
      clear X_0 X_1 X_2 X_3 X_4 X_5 X_6 X_7 X_8 X_9
      go_wp2_with fail
      go_roundw
      case rel => exact ⟨j + 1, A2, by go_num, by omega, hA2, hI2, X, hq, hb⟩
      case measure => simp [intOf]; omega
    · obtain rfl : j = N := by omega
      unfold refL at X
      go_upto_region 22 with fail
      have X_0 := X.cell (j := 0) rfl
      have X_1 := X.cell (j := 1) rfl
      have X_2 := X.cell (j := 2) rfl
      have X_3 := X.cell (j := 3) rfl
      have X_4 := X.cell (j := 4) rfl
      have X_5 := X.cell (j := 5) rfl
      have X_6 := X.cell (j := 6) rfl
      have X_7 := X.cell (j := 7) rfl
      have X_8 := X.cell (j := 8) rfl
      have X_9 := X.cell (j := 9) rfl
      go_wp2_with fail
      refine (num14_any 0 _).mono ?_
      rintro e wx ⟨rfl, rfl⟩
      go_wp2_with fail
      refine (is14_any g A _ hA hI.c hI.good).mono ?_
      rintro e wa ⟨rfl, hbn⟩
      replace hq := hq.step hbn
      replace hb := hb.step hbn
      replace hA := hA.step hbn
      replace X := X.step hbn
      clear hbn
      go_wp2_with fail
      refine (same14_no2 g A _ _ hA hI.c hq.out).mono ?_
      rintro e wx ⟨rfl, rfl⟩
      go_wp2_with fail
      refine (same14_no3 g A _ _ hA hI.c hq.out).mono ?_
      rintro e wx ⟨rfl, rfl⟩
      go_wp2_with fail
      refine (works14_any _ (hT.step hb.out)).mono ?_
      rintro e wb ⟨rfl, hbn⟩
      replace hq := hq.step hbn
      replace hb := hb.step hbn
      replace hA := hA.step hbn
      replace X := X.step hbn
      clear hbn
      go_wp2
      go_ret
      exact ⟨rfl, hb⟩
theorem plays_walkx (c sl : Int) (x : Option Addr) (len cap : Nat) (w : World) (hT : Tabs w) (h : ∃ l : List Ac, l.length = len ∧ HasAc w x l ∧ (∀ e, e ∈ l → e.s.size ≤ maxLen) ∧ len ≤ maxLen) :
    Calls Tryd.prog 5 #[.int .i64 c, .int .i64 sl, .slice x len cap] w fun r w' => r = .returned (.bool true) ∧ Below w.heap.size w w' := by
  obtain ⟨l, rfl, hE, hs, hl⟩ := h
  have hl2 : l.length ≤ 9223372036854775807 := by unfold maxLen at hl; omega
  have hs2 : ∀ e, e ∈ l → e.s.size ≤ 9223372036854775807 := fun e he => by have := hs e he; unfold maxLen at this; omega
  cases hf : fewB l 40
  · exact plays_few c sl l x cap w hT hE hl2 hs2 hf
  · by_cases h0 : opErr c sl = 0
    · exact plays_yes c sl l x cap w hT hE hl2 hs2 hf h0
    · exact plays_no c sl l x cap w hT hE hl2 hs2 hf h0
end Go.Proofs.YtcokbljlgbcpkaaDoor
