
/- ChatMembers: the walk. -/
import Derived.Test.YtndechodaegkiaaDoorChMe
import Derived.Test.YtndechodaegkiaaDoorIterA
namespace Go.Proofs.YtndechodaegkiaaDoor
open Go.RowKit Go.Shelf
attribute [local go_sem] Oper.semAt_some
theorem eql_seqM (fn : Fn) (x y : Array Value) (w : World) : (binOp .eql 55 (.func fn x y) .nilFunc).run Tryd.prog w = .ok (.bool false) w := by kernel_rfl
theorem mints_own {W : World} {base : Nat} {v : Value} {xs : List Int} (h : W.ownsRow base 3 1 v xs.length (intsL xs)) : ∃ ao cap, v = .slice ao xs.length cap ∧ ∀ (j : Nat) (x : Int), xs[j]? = some x → ∃ g, ao = some ⟨g, 0, none⟩ ∧ base ≤ g ∧ g < W.heap.size ∧ W.cell? ⟨g, j, none⟩ = some (.int .i64 x) := by
  obtain ⟨h1, h2⟩ := id h
  rcases h2 with ⟨rfl, h0⟩ | ⟨g, cap, cur, hv, hg, hh, r1, r2, r3⟩
  · have : xs = [] := by simpa using h0
    subst this
    exact ⟨none, 0, rfl, fun j x hx => by simp at hx⟩
  · refine ⟨_, cap, hv, fun j x hx => ⟨g, rfl, hg, (Array.getElem?_eq_some_iff.1 hh).1, ?_⟩⟩
    have := World.ownsRow.cells h (g := g) (by rw [hv]; rfl) j (.int .i64 x) (by simp [intsL, hx])
    simpa [Addr.add_lit] using this
set_option maxRecDepth 100000 in
set_option maxHeartbeats 4000000 in
theorem mem_on (l : List En) (ao : Option Addr) (c : Nat) (m : Int) (x : En) (w : World) (hT : Tabs w) (hE : HasE w ao l) (hl : l.length ≤ 9223372036854775807) (hs : ∀ e, e ∈ l → e.s.size ≤ 9223372036854775807) (hxs : x.s.size ≤ 9223372036854775807) (hf : fewB l 40 = true) (hf1 : fewB [x] 1 = true) (t : Tk) (ht : newF tk0 0 l = (t, 0)) (m1 : -9223372036854775808 ≤ m) (m2 : m ≤ 9223372036854775807) :
    Calls Tryd.prog 5 #[.slice ao l.length c, .int .i64 m, enV x] w fun r w' => r = .returned (.bool true) ∧ Below w.heap.size w w' := by
  refine callsIn_wide (n := 3).1 ?_
  have cA := fun base g v W hW hT' hb => apply_any base g v t t.sl x W hW hT' hb hxs
  obtain ⟨k, mm, q, s⟩ := x
  change CallsIn Fence.wide 3 Tryd.prog 5 #[.slice ao l.length c, .int .i64 m, .agg #[.int .i64 k, .int .i64 mm, .int .i64 q, .string s]] w _
  obtain ⟨XM, XX, XR, hb0, hz0⟩ := three w 3 26 4 #[.int .i64 m] #[.int .i64 k, .int .i64 mm, .int .i64 q, .string s] #[.bool false]
  have cF := fun W hW => few_any l ao c 40 W hW hl
  have cX := fun g W hW => few_any [⟨k, mm, q, s⟩] (some ⟨g, 0, none⟩) 1 1 W hW (by simp)
  obtain ⟨hl40, _⟩ := few_small hf
  have cN := fun W hE hT => new_any l ao c W hE hT hs (by omega)
  have cD := fun W hW => refNew_any l ao c W hW hs hl
  have hG : Good (newF tk0 0 l).1 := newF_good l 0 tk0 good0
  obtain ⟨N, hN⟩ : ∃ N, l.length = N := ⟨_, rfl⟩
  rw [hN] at cF cN cD ⊢
  rw [hf] at cF
  rw [hf1] at cX
  unfold newP at cN
  unfold dnP at cD
  rw [ht] at cN cD hG
  replace cN : ∀ W, HasE W ao l → Tabs W → Calls Tryd.prog 11 #[.slice ao N c] W fun r w' => (∃ g v, r = .returned (.tuple #[.pointer (some ⟨g, 0, none⟩), .int .i64 0]) ∧ TkW w' W.heap.size g v t ∧ W.heap.size ≤ g) ∧ Below W.heap.size W w' := by simpa using cN
  replace cD : ∀ W, HasE W ao l → Calls Tryd.prog 19 #[.slice ao N c] W fun r w' => (∃ sv, r = .returned (.tuple #[.agg #[.int .i64 t.sl, sv], .int .i64 0]) ∧ DW w' W.heap.size sv t.L) ∧ Below W.heap.size W w' := by simpa using cD
  replace hG : Good t := hG
  replace cX : ∀ g W, Blk W g 26 [.int .i64 k, .int .i64 mm, .int .i64 q, .string s] → Calls Tryd.prog 15 #[.slice (some ⟨g, 0, none⟩) 1 1, .int .i64 1] W fun r w' => r = .returned (.bool true) ∧ W = w' := fun g W h => cX g W (hasE_one h)
  clear ht
  have hfew := hG.few
  have htop := hG.top
  have hAlen : (mems 0 t.M).length ≤ 16 := by have := mems_len t.M 0; rw [hG.len] at this; exact this
  have cR := fun base2 sv W hD => refMembers_any base2 sv t W hG hD
  have cS := fun base g v W hW => members_any base g v t W hW
  have cQ := fun b W hB => members_xs b t.M W hG.len hB
  obtain ⟨xs, hxse⟩ : ∃ xs, mems 0 t.M = xs := ⟨_, rfl⟩
  rw [hxse] at cR cQ hAlen
  obtain ⟨n, hn⟩ : ∃ n, t.L.length = n := ⟨_, rfl⟩
  obtain ⟨sl, hsl⟩ : ∃ sl : Nat, t.sl = sl := ⟨_, rfl⟩
  rw [hsl] at cR cA
  unfold MbF at cS
  refine callsIn_of_wp_marks Tryd.func5 rfl trivial ?_ rfl
  simp only [Tryd.ntmps5, List.size_toArray, List.length_cons, List.length_nil, Nat.reduceAdd, Nat.reduceSub, Array.replicate_succ, Array.replicate_zero, List.push_toArray, List.append_toArray, List.nil_append, List.cons_append]
  refine (wpIn_wide (n := 3)).2 ?_
  go_wp2_with fail
  refine (cD _ (hE.step hb0)).mono ?_
  rintro e w1 ⟨⟨sv, rfl, hD⟩, hb1⟩
  obtain ⟨a, c2, rfl⟩ := hD.sl
  rw [hn] at hD ⊢
  rw [hsl]
  have hbA := (Below.refl w1.heap.size w1).alloc (Nat.le_refl _) (.cells #[.int .i64 sl, .slice a n c2] 49)
  have hb3 := hb1.trans (hbA.mono hb1.size)
  have hb4 := hb0.trans (hb3.mono hb0.size)
  go_wp2_with fail
  refine (cF _ (hE.step hb4)).mono ?_
  rintro e w3 ⟨rfl, rfl⟩
  have XX4 := XX.step hb3
  have q0 := XX4.cell (j := 0) rfl
  have q1 := XX4.cell (j := 1) rfl
  have q2 := XX4.cell (j := 2) rfl
  have q3 := XX4.cell (j := 3) rfl
  have XS := Blk.newA' (W := w1.alloc (.cells #[.int .i64 sl, .slice a n c2] 49)) (alloc_size rfl _) 26 #[.int .i64 k, .int .i64 mm, .int .i64 q, .string s]
  have hbS := (Below.refl _ (w1.alloc (.cells #[.int .i64 sl, .slice a n c2] 49))).alloc (Nat.le_refl _) (.cells #[.int .i64 k, .int .i64 mm, .int .i64 q, .string s] 26)
  have hb5 := hb4.trans (hbS.mono hb4.size)
  have hb5' := hb3.trans (hbS.mono hb3.size)
  go_wp2_with fail
  refine (cX _ _ XS).mono ?_
  rintro e w4 ⟨rfl, rfl⟩
  have XT := ((Blk.newA' (W := w1) rfl 49 #[.int .i64 sl, .slice a n c2]).step hbS)
  have hD5 := (hD.step hbA).step hbS
  have XM5 := XM.step hb5'
  have XX5 := XX.step hb5'
  have XR5 := XR.step hb5'
  have hT5 := hT.step hb5
  have hE5 := hE.step hb5
  obtain ⟨W2, hW2⟩ : ∃ W, ((w1.alloc (.cells #[.int .i64 sl, .slice a n c2] 49)).alloc (.cells #[.int .i64 k, .int .i64 mm, .int .i64 q, .string s] 26)) = W := ⟨_, rfl⟩
  rw [hW2] at XT hD5 XM5 XX5 XR5 hT5 hE5 hb5 XS ⊢
  generalize w1.heap.size = gt at *
  clear cF cX cD hE q0 q1 q2 q3 XX4 XS hbA hbS hb3 hb4 hb1 hD XM XX XR hW2 hb5'
  go_wp2_with fail
  refine (cN _ hE5 hT5).mono ?_
  rintro e w3 ⟨⟨g, v, rfl, hW, hg⟩, hb6⟩
  have XT3 := XT.step hb6
  have hb7 := hb5.trans (hb6.mono hb5.size)
  have t0 := XT3.cell (j := 0) rfl
  have t1 := XT3.cell (j := 1) rfl
  go_wp2_with fail
  refine (cR _ _ _ (hD5.step hb6)).mono ?_
  rintro e w4 ⟨⟨u, rfl, ho⟩, hb8⟩
  obtain ⟨al, cap, rfl, hcells⟩ := mints_own ho
  have HC := Lib.hid hcells
  clear hcells
  have hbL := (Below.refl w4.heap.size w4).alloc (Nat.le_refl _) (.cells #[.slice al xs.length cap] 52)
  have hb9 := hb8.trans (hbL.mono hb8.size)
  have A2 := Blk.newA' (W := w4) rfl 52 #[.slice al xs.length cap]
  have hzL := hb8.size
  go_wp2_with fail
  refine (cS _ g v _ (hW.step hb9)).mono ?_
  rintro e w5 ⟨⟨b, rfl, XB, hbB⟩, hb10⟩
  have hb11 := hb9.trans (hb10.mono hb9.size)
  have hb12 := hb6.trans (hb11.mono hb6.size)
  have hW5 := hW.step hb11
  have p0 := (XT3.step hb11).cell (j := 0) rfl
  have p1 := (XX5.step hb12).cell (j := 0) rfl
  have p2 := (XX5.step hb12).cell (j := 1) rfl
  have p3 := (XX5.step hb12).cell (j := 2) rfl
  have p4 := (XX5.step hb12).cell (j := 3) rfl
  have hws : ∀ z, z ∈ g :: v.ownBlock.toList → W2.heap.size ≤ z ∧ z < w3.heap.size := by
    intro z hz
    rcases List.mem_cons.1 hz with rfl | hz
    · exact ⟨hg, hW.blk.lt⟩
    · exact hW.row.lt z (by simpa using hz)
  go_wp2_with fail
  refine (cA _ g v w5 hW5 (hT5.step hb12) hb12.size).mono ?_
  rintro e w6 ⟨rfl, v', hW6, hK6, _⟩
  clear p0 p1 p2 p3 p4 t0 t1 cN cS cR cA
  generalize g :: v.ownBlock.toList = ws at *
  have hM5 := XM5.lt
  have hR5 := XR5.lt
  have A0 : Boxed w6 w.heap.size 3 (.int .i64 m) := hK6.blk (XM5.step hb12) (fun h => by have := hws _ h; omega)
  have A1 : Boxed w6 (w.heap.size + 1 + 1) 4 (.bool false) := hK6.blk (XR5.step hb12) (fun h => by have := hws _ h; omega)
  have A2 : Boxed w6 w4.heap.size 52 (.slice al xs.length cap) := hK6.blk (A2.step hb10) (fun h => by have := hws _ h; omega)
  have XB6 := hK6.blk XB (fun h => by have := hws _ h; rw [World.size_alloc] at hbB; omega)
  have hB6 : Below w.heap.size w w6 := (hb5.trans (hb12.mono hb5.size)).trans (hK6.below (by have := hb5.size; have := hb12.size; omega) (fun z h => by have := hws _ h; have := hb5.size; omega))
  have HC6 : Hid (∀ (j : Nat) (x : Int), xs[j]? = some x → ∃ g, al = some ⟨g, 0, none⟩ ∧ g < w6.heap.size ∧ w6.cell? ⟨g, j, none⟩ = some (.int .i64 x)) := Lib.hid (fun j x hx => by
    obtain ⟨g', h1, h2, h3, h4⟩ := HC.out j x hx
    have z1 := hbL.size
    have z2 := hb10.size
    rw [World.size_alloc] at z2
    refine ⟨g', h1, by have := hK6.size; omega, ?_⟩
    refine (World.cell?_of_block (hK6.block g' (by omega) (fun h => by have := hws _ h; omega))).trans ?_
    exact (hb10.cell (p := ⟨g', j, none⟩) (by simp; omega)).trans ((World.cell?_alloc_old _ _ _ (by show g' ≠ _; omega)).trans h4))
  have hseq := cQ b w6 XB6
  obtain ⟨b2, hb2e⟩ : ∃ b2, w4.heap.size = b2 := ⟨_, rfl⟩
  rw [hb2e] at A2 ⊢
  clear HC hb6 hb7 hb8 hbL hb9 hb10 hb11 hb12 hb2e cQ XB XB6 XX5 XT XT3 XM5 XR5 hT5 hD5 hE5 hW hW5 hW6 hK6 hws ho hb5
  go_wp2_with fail
  refine (wpIn_wide (n := 3)).1 ?_
  have heq := eql_seqM
  refine wpIn_loop_rounds 3 ?_
  rw [roundsIn_succ]
  gi_wp2
  obtain ⟨W4, hW4⟩ : ∃ W4, (w6.alloc (.cells #[.int .i64 0] 3)).alloc (.cells #[.int .i64 0] 3) = W4 := ⟨_, rfl⟩
  obtain ⟨b4, hb4⟩ : ∃ b4, w6.heap.size = b4 := ⟨_, rfl⟩
  have l3 := A2.lt
  have l0 := A0.lt
  have l1 := A1.lt
  have z4 : W4.heap.size = b4 + 2 := by rw [← hW4, ← hb4]; simp
  have A0 : Boxed W4 w.heap.size 3 (.int .i64 m) := hW4 ▸ (A0.alloc _).alloc _
  have A1 : Boxed W4 (w.heap.size + 1 + 1) 4 (.bool false) := hW4 ▸ (A1.alloc _).alloc _
  have A2 : Boxed W4 b2 52 (.slice al xs.length cap) := hW4 ▸ (A2.alloc _).alloc _
  have A3 : Boxed W4 b4 3 (.int .i64 0) := hW4 ▸ hb4 ▸ (Boxed.new w6 _ _).alloc _
  have A4 : Boxed W4 (b4 + 1) 3 (.int .i64 0) := by
    have := Boxed.new (w6.alloc (.cells #[.int .i64 0] 3)) 3 (.int .i64 0)
    rw [World.size_alloc, hb4, hW4] at this; exact this
  have HSQ : Hid (∀ W, Below w6.heap.size w6 W → SeqXs Tryd.prog 44 #[.pointer (some ⟨b, 0, none⟩)] mbEnc xs (Kb (fun _ => False)) W) := Lib.hid (fun W h => hseq.later h)
  have hS4 : Below w6.heap.size w6 W4 := hW4 ▸ ((Below.refl w6.heap.size w6).alloc (Nat.le_refl _) _).alloc (by simp) _
  clear hseq
  have hB4 : Below w.heap.size w W4 := hW4 ▸ (hB6.alloc hB6.size _).alloc (by simp; have := hB6.size; omega) _
  have HC4 : Hid (∀ (j : Nat) (x : Int), xs[j]? = some x → ∃ g, al = some ⟨g, 0, none⟩ ∧ g < b4 ∧ W4.cell? ⟨g, j, none⟩ = some (.int .i64 x)) := Lib.hid (fun j x hx => by
    obtain ⟨g, h1, h2, h3⟩ := HC6.out j x hx
    refine ⟨g, h1, by omega, ?_⟩
    rw [← hW4]
    exact (World.cell?_alloc_old _ _ _ (by show g ≠ _; simp; omega)).trans ((World.cell?_alloc_old _ _ _ (by show g ≠ _; omega)).trans h3))
  rw [hW4]
  simp only [hb4] at *
  clear hW4 HC6 hB6
  apply wpIn_range_xs 44 #[.pointer (some ⟨b, 0, none⟩)] rfl (enters_of Tryd.func44 (by kernel_rfl) rfl) (fun _ => False) (HSQ.out W4 hS4) (fun k hk => hk.elim) (Below.refl _ _) (fun _ => rfl)
    (fun k W => (k = 0 ∨ (k : Int) < m) ∧ Boxed W (b4 + 1) 3 (.int .i64 k) ∧ Kx [b4 + 1] W4 W)
    (fun c k W => (c = .exit 2 ∧ m ≤ k ∧ (k = 1 ∨ (k : Int) ≤ m)) ∧ Boxed W (b4 + 1) 3 (.int .i64 k) ∧ Kx [b4 + 1] W4 W)
    ((ownFrom_pure _ _).and (((boxed_own _ _ _).from _).and (ownFrom_kx _ _)))
    (fun c => (ownFrom_pure _ _).and (((boxed_own _ _ _).from _).and (ownFrom_kx _ _)))
    ⟨.inl rfl, A4, Kx.refl _ _⟩
  case hassign =>
    intro l x W K hK
    dsimp only [mbEnc]
    gi_wp2
    exact hK
  case hbody =>
    rintro l k x W hx ⟨hk, D4, hW⟩ hsW
    have hkl : k < xs.length := (List.getElem?_eq_some_iff.1 hx).1
    obtain ⟨g, rfl, hg, hcg⟩ := HC4.out k x hx
    have D0 := hW.box A0 (by simp; omega)
    have D2 := hW.box A2 (by simp; omega)
    have D3 := hW.box A3 (by simp)
    have c0 := D0.cell
    have c2 := D2.cell
    have c3 := D3.cell
    have c4 := D4.cell
    have f4 := D4.frozen
    have cx : W.cell? ⟨g, k, none⟩ = some (.int .i64 x) := (World.cell?_of_block (hW.block g (by omega) (by simp; omega))).trans hcg
    by_cases hmk : m ≤ (k : Int) + 1
    · gi_wp2
      rw [show (k : Int) + 1 = ((k + 1 : Nat) : Int) by omega]
      exact ⟨(KeepsOthers.setCell W _ _).from _, ⟨rfl, by omega, by omega⟩, D4.set _, hW.setCell (.inl (by simp)) _⟩
    · gi_wp2
      rw [show (k : Int) + 1 = ((k + 1 : Nat) : Int) by omega]
      exact ⟨(KeepsOthers.setCell W _ _).from _, (Kb.refl _ W).setCell (p := ⟨b4 + 1, 0, none⟩) (fun hk => hk) _, by omega, D4.set _, hW.setCell (.inl (by simp)) _⟩
  case' hdone =>
    rintro D W hD ⟨hk, D4, hW⟩ hK
    obtain ⟨nn, hnn⟩ : ∃ nn, xs.length = nn := ⟨_, rfl⟩
    have hmn : ∀ mx : Int, (if 1 < m then m else 1) = mx → (if mx < (xs.length : Int) then mx else (xs.length : Int)) = (nn : Int) := by intro mx h; split at h <;> split <;> omega
    rw [hnn] at D4
    clear hk hnn
  case' hstop =>
    rintro D c k W hD hk ⟨⟨rfl, hk1, hk2⟩, D4, hW⟩ hK
    obtain ⟨nn, hnn⟩ : ∃ nn, k + 1 = nn := ⟨_, rfl⟩
    have hmn : ∀ mx : Int, (if 1 < m then m else 1) = mx → (if mx < (xs.length : Int) then mx else (xs.length : Int)) = (nn : Int) := by intro mx h; split at h <;> split <;> omega
    rw [hnn] at D4
    clear hk hk1 hk2 hnn
  all_goals
    obtain ⟨mx, hmx⟩ : ∃ mx : Int, (if 1 < m then m else 1) = mx := ⟨_, rfl⟩
    have hmn := hmn mx hmx
    have D0 := hW.box A0 (by simp; omega)
    have D1 := hW.box A1 (by simp; omega)
    have D2 := hW.box A2 (by simp; omega)
    have D3 := hW.box A3 (by simp)
    have c0 := D0.cell
    have c2 := D2.cell
    have c3 := D3.cell
    have c4 := D4.cell
    gi_wp2
    clear c0 c2 c3 c4 hmx hmn
    rw [roundsIn_succ]
    gi_wp2
    obtain ⟨W6, hW6⟩ : ∃ W6, (W.alloc (.cells #[.int .i64 1] 3)).alloc (.cells #[.int .i64 0] 3) = W6 := ⟨_, rfl⟩
    obtain ⟨b5, hb5⟩ : ∃ b5, W.heap.size = b5 := ⟨_, rfl⟩
    have l4 := D4.lt
    have z5 := hW.size
    have z6 : W6.heap.size = b5 + 2 := by rw [← hW6, ← hb5]; simp
    have lD := (Array.getElem?_eq_some_iff.1 hK).1
    have D0 : Boxed W6 w.heap.size 3 (.int .i64 m) := hW6 ▸ (D0.alloc _).alloc _
    have D1 : Boxed W6 (w.heap.size + 1 + 1) 4 (.bool false) := hW6 ▸ (D1.alloc _).alloc _
    have D2 : Boxed W6 b2 52 (.slice al xs.length cap) := hW6 ▸ (D2.alloc _).alloc _
    have D3 : Boxed W6 b5 3 (.int .i64 1) := hW6 ▸ hb5 ▸ (Boxed.new W _ _).alloc _
    have D4 : Boxed W6 (b5 + 1) 3 (.int .i64 0) := by
      have := Boxed.new (W.alloc (.cells #[.int .i64 1] 3)) 3 (.int .i64 0)
      rw [World.size_alloc, hb5, hW6] at this; exact this
    have hX6 : Kx [b4 + 1] W4 W6 := hW6 ▸ (hW.alloc _).alloc _
    have hS6 := hS4.trans (hX6.below (by omega) (by simp))
    have hD6 : W6.heap[D]? = some (.deferred (some [])) := by rw [← hW6]; exact (Below.heap_alloc _ _ _ (by simp; omega)).trans ((Below.heap_alloc _ _ _ lD).trans hK)
    rw [hW6]
    simp only [hb5] at *
    apply wpIn_range_xs 44 #[.pointer (some ⟨b, 0, none⟩)] rfl (enters_of Tryd.func44 (by kernel_rfl) rfl) (fun _ => False) (HSQ.out W6 hS6) (fun k hk => hk.elim) (Below.refl _ _) (fun _ => rfl)
      (fun k W => Boxed W (b5 + 1) 3 (.int .i64 k) ∧ Kx [b5 + 1] W6 W)
      (fun _ _ _ => False)
      (((boxed_own _ _ _).from _).and (ownFrom_kx _ _))
      (fun _ _ _ _ _ h _ _ => h)
      ⟨D4, Kx.refl _ _⟩
    case hassign =>
      intro l x W K hK
      dsimp only [mbEnc]
      gi_wp2
      exact hK
    case hbody =>
      rintro l k x V hx ⟨E4, hV⟩ hsV
      have hkl : k < xs.length := (List.getElem?_eq_some_iff.1 hx).1
      obtain ⟨g, rfl, hg, hcg⟩ := HC4.out k x hx
      have E0 := hV.box D0 (by simp; omega)
      have E2 := hV.box D2 (by simp; omega)
      have E3 := hV.box D3 (by simp)
      have c0 := E0.cell
      have c2 := E2.cell
      have c3 := E3.cell
      have c4 := E4.cell
      have f4 := E4.frozen
      have cx : V.cell? ⟨g, k, none⟩ = some (.int .i64 x) := (World.cell?_of_block ((hV.block g (by omega) (by simp; omega)).trans (hX6.block g (by omega) (by simp; omega)))).trans hcg
      gi_wp2
      rw [show (k : Int) + 1 = ((k + 1 : Nat) : Int) by omega]
      exact ⟨(KeepsOthers.setCell V _ _).from _, (Kb.refl _ V).setCell (p := ⟨b5 + 1, 0, none⟩) (fun hk => hk) _, E4.set _, hV.setCell (.inl (by simp)) _⟩
    case hstop => rintro D c k W hD hk h _; exact h.elim
    case hdone =>
      rintro E V hE ⟨E4, hV⟩ hL
      have E1 := hV.box D1 (by simp; omega)
      have E2 := hV.box D2 (by simp; omega)
      have E3 := hV.box D3 (by simp)
      have c1 := E1.cell
      have f1 := E1.frozen
      have c2 := E2.cell
      have c3 := E3.cell
      have c4 := E4.cell
      have hDV : V.heap[D]? = some (.deferred (some [])) := hV.obj hD6 (by simp; omega)
      have hBV := hB4.trans ((hX6.below (by have := hB4.size; omega) (by simp; have := hB4.size; omega)).trans (hV.below (B := w.heap.size) (by have := hB4.size; omega) (by simp; have := hB4.size; omega)))
      gi_wp2
      rw [roundsIn_succ]
      have E1' := E1.alloc (.cells #[.int .i64 2] 3)
      have hB7 := hBV.alloc hBV.size (.cells #[.int .i64 2] 3)
      have hD7 := (Below.heap_alloc V (.cells #[.int .i64 2] 3) D (Array.getElem?_eq_some_iff.1 hDV).1).trans hDV
      have hE7 := (Below.heap_alloc V (.cells #[.int .i64 2] 3) E (Array.getElem?_eq_some_iff.1 hL).1).trans hL
      clear c1 f1 c2 c3 c4
      gi_wp2_with fail
      go_wp2_with fail
      refine (num_any 0 _).mono ?_
      rintro e w' ⟨rfl, rfl⟩
      go_wp2_with fail
      refine (works_any _ (hT.step hB7)).mono ?_
      rintro e w9 ⟨rfl, hb9⟩
      have F1 := box_below E1' hb9 E1'.lt
      have c1 := F1.cell
      have f1 := F1.frozen
      have hB9 := hB7.trans (hb9.mono hB7.size)
      have hD9 := (hb9.block D (Array.getElem?_eq_some_iff.1 hD7).1).trans hD7
      have hE9 := (hb9.block E (Array.getElem?_eq_some_iff.1 hE7).1).trans hE7
      go_wp2
      have G1 := F1.set (.bool true)
      have hD10 := (KeepsOthers.setCell w9 ⟨w.heap.size + 1 + 1, 0, none⟩ (.bool true)).same D _ hD9 rfl
      have hE10 := (KeepsOthers.setCell w9 ⟨w.heap.size + 1 + 1, 0, none⟩ (.bool true)).same E _ hE9 rfl
      refine leaves_two w.heap.size E D rfl hE10 hD10 (by have := hB4.size; omega) (by have := hB4.size; omega) (by omega) (v := .bool true) ?_
      intro W' hbW hcW
      have G1' : Boxed W' (w.heap.size + 1 + 1) 4 (.bool true) := hcW _ _ G1 rfl
      exact ⟨by simp [results, Tryd.results5, go_sem, G1'.cell], rfl, (hB9.setCell (p := ⟨w.heap.size + 1 + 1, 0, none⟩) (by simp; omega) _).trans hbW⟩
end Go.Proofs.YtndechodaegkiaaDoor
