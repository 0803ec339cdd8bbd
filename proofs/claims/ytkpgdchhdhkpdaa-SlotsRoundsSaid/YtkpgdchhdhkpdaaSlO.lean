
/- SlotsOwn: a place's slots between two are those of the document, twice over, and one may leave them. -/
import Derived.Test.YtkpgdchhdhkpdaaSlD
import Derived.Test.YtkpgdchhdhkpdaaSlW
namespace Go.Proofs.Ytkpgdchhdhkpdaa
open Go.RowKit Go.Shelf
attribute [local go_sem] Oper.semAt_some

theorem eql_seq (fn : Fn) (x y : Array Value) (w : World) : (binOp .eql 43 (.func fn x y) .nilFunc).run Try.prog w = .ok (.bool false) w := by kernel_rfl
/-- A slice value that reads as a list of ints. -/
def IntsAt (W : World) (v : Value) (xs : List Int) : Prop :=
  (v = .slice none 0 0 ∧ xs = []) ∨ ∃ g cap, v = .slice (some ⟨g, 0, none⟩) xs.length cap ∧ xs.length ≤ maxLen ∧ ∃ cur, W.heap[g]? = some (.cells cur 3 (0, 0)) ∧ ∀ (j : Nat) (x : Int), xs[j]? = some x → W.cell? ⟨g, j, none⟩ = some (.int .i64 x)
theorem ints_own {W : World} {base : Nat} {v : Value} {xs : List Int} (h : OwnInts W base v xs) : ∃ ao cap, v = .slice ao xs.length cap ∧ ∀ (j : Nat) (x : Int), xs[j]? = some x → ∃ g, ao = some ⟨g, 0, none⟩ ∧ g < W.heap.size ∧ W.cell? ⟨g, j, none⟩ = some (.int .i64 x) := by
  obtain ⟨h1, h2⟩ := id h
  rcases h2 with ⟨rfl, h0⟩ | ⟨g, cap, cur, hv, hg, hh, r1, r2, r3⟩
  · have : xs = [] := by simpa using h0
    subst this
    exact ⟨none, 0, rfl, fun j x hx => by simp at hx⟩
  · refine ⟨_, cap, hv, fun j x hx => ⟨g, rfl, (Array.getElem?_eq_some_iff.1 hh).1, ?_⟩⟩
    have := World.ownsRow.cells h (g := g) (by rw [hv]; rfl) j (.int .i64 x) (by simp [hx])
    simpa [Addr.add_lit] using this
theorem many_len (c p f t : Int) : manyI c p f t = ((ownL c p f t).length : Int) ∧ (ownL c p f t).length ≤ 4096 := by
  cases hb : betweenB c p f t
  · simp [manyI, ownL, hb]
  · obtain ⟨⟨h1, h2, h3, h4⟩, h5, h6, h7⟩ := between_bd hb
    have hr : rightB c = true := by unfold betweenB placeB at hb; simp at hb; exact hb.1.1
    have hn := next_bd (p := p) (f := f) h1 h2
    rw [own_len hb]
    unfold manyI
    rw [if_pos hb]
    rcases right_cases hr with rfl | rfl | rfl | rfl <;> omega

set_option maxRecDepth 100000 in
set_option maxHeartbeats 4000000 in
theorem SlotsOwn_walk (c p f t m : Int) (w : World) (_ : -9223372036854775808 ≤ c ∧ c ≤ 9223372036854775807) (_ : -9223372036854775808 ≤ p ∧ p ≤ 9223372036854775807) (_ : -9223372036854775808 ≤ f ∧ f ≤ 9223372036854775807) (_ : -9223372036854775808 ≤ t ∧ t ≤ 9223372036854775807) (hm : -9223372036854775808 ≤ m ∧ m ≤ 9223372036854775807) :
    Calls Try.prog 6 #[.int .i64 c, .int .i64 p, .int .i64 f, .int .i64 t, .int .i64 m] w fun e w' => e = .returned (.bool true) ∧ Below w.heap.size w w' := by
  refine callsIn_wide (n := 3).1 ?_
  obtain ⟨xs, hxs⟩ : ∃ xs, ownL c p f t = xs := ⟨_, rfl⟩
  obtain ⟨hml, hlen⟩ := many_len c p f t
  have HS : Hid (∀ (b : Nat) (w : World), b + 3 < w.heap.size → CellsOwn w b c p f t → SeqXs Try.prog 39 (ownLb b) ownEnc xs (Kb (ownS b)) w) := Lib.hid (fun b w h1 h3 => hxs ▸ own_xs c p f t b w h1 h3)
  have HR : Hid (∀ w : World, Calls Try.prog 24 #[.int .i64 c, .int .i64 p, .int .i64 f, .int .i64 t] w fun e w' => ∃ v, e = .returned (.tuple #[v, .int .i64 (manyE c p f t)]) ∧ OwnInts w' w.heap.size v xs ∧ Below w.heap.size w w') := Lib.hid (fun w => hxs ▸ refOwn_any c p f t w)
  rw [hxs] at hml hlen
  have HM := Lib.hid hml
  clear hml
  clear hxs
  obtain ⟨m1, m2⟩ := hm
  refine callsIn_of_wp_marks Try.func6 rfl trivial ?_ rfl
  simp only [Try.ntmps6, List.size_toArray, List.length_cons, List.length_nil, Nat.reduceAdd, Nat.reduceSub, Array.replicate_succ, Array.replicate_zero, List.push_toArray, List.append_toArray, List.nil_append, List.cons_append]
  gi_wp2_with (apply wpIn_label)
  refine ⟨trivial, ?_⟩
  refine (callsIn_wide.2 (HR.out _)).mono ?_
  rintro e w1 ⟨v, rfl, ho1, hb1⟩
  obtain ⟨ao, cap, rfl, hcells⟩ := ints_own ho1
  have A0 := box_below ((Boxed.new w 3 (.int .i64 m)).alloc (.cells #[.bool false] 4)) hb1 (by simp; omega)
  have A1 := box_below (Boxed.new (w.alloc (.cells #[.int .i64 m] 3)) 4 (.bool false)) hb1 (by simp)
  simp only [World.size_alloc] at A1
  have hB1 := ((((Below.refl w.heap.size w).alloc (Nat.le_refl _) (.cells #[.int .i64 m] 3)).alloc (by simp) (.cells #[.bool false] 4)).trans (hb1.mono (by simp; omega)))
  clear hb1 ho1
  have HC := Lib.hid hcells
  clear hcells
  gi_wp2_with (apply wpIn_label)
  refine ⟨trivial, ?_⟩
  refine (callsIn_wide.2 (many_at _ _ _ _ _ _ HM.out rfl _)).mono ?_
  rintro e w2 ⟨rfl, hb2⟩
  have l0 := A0.lt
  have l1 := A1.lt
  have z1 := hB1.size
  have A0 := box_below (A0.alloc (.cells #[.slice ao xs.length cap] 38)) hb2 (by simp; omega)
  have A1 := box_below (A1.alloc (.cells #[.slice ao xs.length cap] 38)) hb2 (by simp; omega)
  have A2 := box_below (Boxed.new w1 38 (.slice ao xs.length cap)) hb2 (by simp)
  have hB2 := (hB1.alloc hB1.size (.cells #[.slice ao xs.length cap] 38)).trans (hb2.mono (by simp; omega))
  have HC2 : Hid (∀ (j : Nat) (x : Int), xs[j]? = some x → ∃ g, ao = some ⟨g, 0, none⟩ ∧ g < w2.heap.size ∧ w2.cell? ⟨g, j, none⟩ = some (.int .i64 x)) := Lib.hid (fun j x hx => by
    obtain ⟨g, h1, h2, h3⟩ := HC.out j x hx
    have hz := hb2.size
    simp at hz
    exact ⟨g, h1, by omega, (hb2.cell (p := ⟨g, j, none⟩) (by simp; omega)).trans ((World.cell?_alloc_old _ _ _ (by show g ≠ _; omega)).trans h3)⟩)
  obtain ⟨b2, hb2e⟩ : ∃ b2, w1.heap.size = b2 := ⟨_, rfl⟩
  rw [hb2e] at A2 l0 l1 z1 ⊢
  clear HC hB1 hb2 hb2e
  have a2 := A2.cell
  gi_wp2_with (apply wpIn_label)
  refine ⟨trivial, ?_⟩
  refine (callsIn_wide.2 (num_any _ _)).mono ?_
  rintro e w3 ⟨rfl, rfl⟩
  gi_wp2_with (apply wpIn_label)
  refine ⟨trivial, ?_⟩
  refine (callsIn_wide.2 (own_any _ _ _ _ _)).mono ?_
  rintro e w3 ⟨rfl, hb3, hs3, hco⟩
  have l2 := A2.lt
  have A0 := box_below A0 hb3 (by omega)
  have A1 := box_below A1 hb3 (by omega)
  have A2 := box_below A2 hb3 (by omega)
  have hB3 := hB2.trans (hb3.mono (by omega))
  have z3 := hb3.size
  have HC3 : Hid (∀ (j : Nat) (x : Int), xs[j]? = some x → ∃ g, ao = some ⟨g, 0, none⟩ ∧ g < w3.heap.size ∧ w3.cell? ⟨g, j, none⟩ = some (.int .i64 x)) := Lib.hid (fun j x hx => by
    obtain ⟨g, h1, h2, h3⟩ := HC2.out j x hx
    exact ⟨g, h1, by omega, (hb3.cell (p := ⟨g, j, none⟩) h2).trans h3⟩)
  have hseq := HS.out w2.heap.size w3 hs3 hco
  have hs3' := hs3
  obtain ⟨b3, hb3e⟩ : ∃ b3, w2.heap.size = b3 := ⟨_, rfl⟩
  rw [hb3e] at hseq z3 l2 hs3' ⊢
  clear HC2 hB2 hb3 hb3e hs3 hco HS HR HM
  gi_wp2_with fail
  have heq := eql_seq
  refine wpIn_loop_rounds 3 ?_
  rw [roundsIn_succ]
  gi_wp2
  obtain ⟨W4, hW4⟩ : ∃ W4, (w3.alloc (.cells #[.int .i64 0] 3)).alloc (.cells #[.int .i64 0] 3) = W4 := ⟨_, rfl⟩
  obtain ⟨b4, hb4⟩ : ∃ b4, w3.heap.size = b4 := ⟨_, rfl⟩
  have l3 := A2.lt
  have z4 : W4.heap.size = b4 + 2 := by rw [← hW4, ← hb4]; simp
  have A0 : Boxed W4 w.heap.size 3 (.int .i64 m) := hW4 ▸ (A0.alloc _).alloc _
  have A1 : Boxed W4 (w.heap.size + 1) 4 (.bool false) := hW4 ▸ (A1.alloc _).alloc _
  have A2 : Boxed W4 b2 38 (.slice ao xs.length cap) := hW4 ▸ (A2.alloc _).alloc _
  have A3 : Boxed W4 b4 3 (.int .i64 0) := hW4 ▸ hb4 ▸ (Boxed.new w3 _ _).alloc _
  have A4 : Boxed W4 (b4 + 1) 3 (.int .i64 0) := by
    have := Boxed.new (w3.alloc (.cells #[.int .i64 0] 3)) 3 (.int .i64 0)
    rw [World.size_alloc, hb4, hW4] at this; exact this
  have HSQ : Hid (∀ W, Below w3.heap.size w3 W → SeqXs Try.prog 39 (ownLb b3) ownEnc xs (Kb (ownS b3)) W) := Lib.hid (fun W h => hseq.later h)
  have hS4 : Below w3.heap.size w3 W4 := hW4 ▸ ((Below.refl w3.heap.size w3).alloc (Nat.le_refl _) _).alloc (by simp) _
  clear hseq
  have hB4 : Below w.heap.size w W4 := hW4 ▸ (hB3.alloc hB3.size _).alloc (by simp; have := hB3.size; omega) _
  have HC4 : Hid (∀ (j : Nat) (x : Int), xs[j]? = some x → ∃ g, ao = some ⟨g, 0, none⟩ ∧ g < b4 ∧ W4.cell? ⟨g, j, none⟩ = some (.int .i64 x)) := Lib.hid (fun j x hx => by
    obtain ⟨g, h1, h2, h3⟩ := HC3.out j x hx
    refine ⟨g, h1, by omega, ?_⟩
    rw [← hW4]
    exact (World.cell?_alloc_old _ _ _ (by show g ≠ _; simp; omega)).trans ((World.cell?_alloc_old _ _ _ (by show g ≠ _; omega)).trans h3))
  rw [hW4]
  simp only [hb4] at *
  clear hW4 HC3 hB3
  apply wpIn_range_xs 39 (ownLb b3) rfl (enters_of Try.func39 (by kernel_rfl) rfl) (ownS b3) (HSQ.out W4 hS4) (fun k hk => by have := hk.2; omega) (Below.refl _ _) (fun _ => rfl)
    (fun k W => (k = 0 ∨ (k : Int) < m) ∧ Boxed W (b4 + 1) 3 (.int .i64 k) ∧ Kx [b4 + 1] W4 W)
    (fun c k W => (c = .exit 2 ∧ m ≤ k ∧ (k = 1 ∨ (k : Int) ≤ m)) ∧ Boxed W (b4 + 1) 3 (.int .i64 k) ∧ Kx [b4 + 1] W4 W)
    ((ownFrom_pure _ _).and (((boxed_own _ _ _).from _).and (ownFrom_kx _ _)))
    (fun c => (ownFrom_pure _ _).and (((boxed_own _ _ _).from _).and (ownFrom_kx _ _)))
    ⟨.inl rfl, A4, Kx.refl _ _⟩
  case hassign =>
    intro l x W K hK
    dsimp only [ownEnc]
    gi_wp2
    exact hK
  case hbody =>
    rintro l k x W hx ⟨hk, D4, hW⟩ hsW
    have hkl : k < xs.length := (List.getElem?_eq_some_iff.1 hx).1
    obtain ⟨g, rfl, hg, hcg⟩ := HC4.out k x hx
    have D0 := hW.box A0 (by simp; omega)
    have D2 := hW.box A2 (by simp; omega)
    have D3 := hW.box A3 (by simp)
    have c0 := D0.cell
    have c2 := D2.cell
    have c3 := D3.cell
    have c4 := D4.cell
    have f4 := D4.frozen
    have cx : W.cell? ⟨g, k, none⟩ = some (.int .i64 x) := (World.cell?_of_block (hW.block g (by omega) (by simp; omega))).trans hcg
    by_cases hmk : m ≤ (k : Int) + 1
    · gi_wp2
      rw [show (k : Int) + 1 = ((k + 1 : Nat) : Int) by omega]
      exact ⟨(KeepsOthers.setCell W _ _).from _, ⟨rfl, by omega, by omega⟩, D4.set _, hW.setCell (.inl (by simp)) _⟩
    · gi_wp2
      rw [show (k : Int) + 1 = ((k + 1 : Nat) : Int) by omega]
      exact ⟨(KeepsOthers.setCell W _ _).from _, (Kb.refl _ W).setCell (p := ⟨b4 + 1, 0, none⟩) (fun hk => by have := hk.2; simp at this; omega) _, by omega, D4.set _, hW.setCell (.inl (by simp)) _⟩
  case' hdone =>
    rintro D W hD ⟨hk, D4, hW⟩ hK
    obtain ⟨nn, hnn⟩ : ∃ nn, xs.length = nn := ⟨_, rfl⟩
    have hmn : ∀ mx : Int, (if 1 < m then m else 1) = mx → (if mx < (xs.length : Int) then mx else (xs.length : Int)) = (nn : Int) := by intro mx h; split at h <;> split <;> omega
    rw [hnn] at D4
    clear hk hnn
  case' hstop =>
    rintro D c k W hD hk ⟨⟨rfl, hk1, hk2⟩, D4, hW⟩ hK
    obtain ⟨nn, hnn⟩ : ∃ nn, k + 1 = nn := ⟨_, rfl⟩
    have hmn : ∀ mx : Int, (if 1 < m then m else 1) = mx → (if mx < (xs.length : Int) then mx else (xs.length : Int)) = (nn : Int) := by intro mx h; split at h <;> split <;> omega
    rw [hnn] at D4
    clear hk hk1 hk2 hnn
  all_goals
    obtain ⟨mx, hmx⟩ : ∃ mx : Int, (if 1 < m then m else 1) = mx := ⟨_, rfl⟩
    have hmn := hmn mx hmx
    have D0 := hW.box A0 (by simp; omega)
    have D1 := hW.box A1 (by simp; omega)
    have D2 := hW.box A2 (by simp; omega)
    have D3 := hW.box A3 (by simp)
    have c0 := D0.cell
    have c2 := D2.cell
    have c3 := D3.cell
    have c4 := D4.cell
    gi_wp2
    clear c0 c2 c3 c4 hmx hmn
    rw [roundsIn_succ]
    gi_wp2
    obtain ⟨W6, hW6⟩ : ∃ W6, (W.alloc (.cells #[.int .i64 1] 3)).alloc (.cells #[.int .i64 0] 3) = W6 := ⟨_, rfl⟩
    obtain ⟨b5, hb5⟩ : ∃ b5, W.heap.size = b5 := ⟨_, rfl⟩
    have l4 := D4.lt
    have z5 := hW.size
    have z6 : W6.heap.size = b5 + 2 := by rw [← hW6, ← hb5]; simp
    have lD := (Array.getElem?_eq_some_iff.1 hK).1
    have D0 : Boxed W6 w.heap.size 3 (.int .i64 m) := hW6 ▸ (D0.alloc _).alloc _
    have D1 : Boxed W6 (w.heap.size + 1) 4 (.bool false) := hW6 ▸ (D1.alloc _).alloc _
    have D2 : Boxed W6 b2 38 (.slice ao xs.length cap) := hW6 ▸ (D2.alloc _).alloc _
    have D3 : Boxed W6 b5 3 (.int .i64 1) := hW6 ▸ hb5 ▸ (Boxed.new W _ _).alloc _
    have D4 : Boxed W6 (b5 + 1) 3 (.int .i64 0) := by
      have := Boxed.new (W.alloc (.cells #[.int .i64 1] 3)) 3 (.int .i64 0)
      rw [World.size_alloc, hb5, hW6] at this; exact this
    have hX6 : Kx [b4 + 1] W4 W6 := hW6 ▸ (hW.alloc _).alloc _
    have hS6 := hS4.trans (hX6.below (by omega) (by simp))
    have hD6 : W6.heap[D]? = some (.deferred (some [])) := by rw [← hW6]; exact (Below.heap_alloc _ _ _ (by simp; omega)).trans ((Below.heap_alloc _ _ _ lD).trans hK)
    rw [hW6]
    simp only [hb5] at *
    apply wpIn_range_xs 39 (ownLb b3) rfl (enters_of Try.func39 (by kernel_rfl) rfl) (ownS b3) (HSQ.out W6 hS6) (fun k hk => by have := hk.2; omega) (Below.refl _ _) (fun _ => rfl)
      (fun k W => Boxed W (b5 + 1) 3 (.int .i64 k) ∧ Kx [b5 + 1] W6 W)
      (fun _ _ _ => False)
      (((boxed_own _ _ _).from _).and (ownFrom_kx _ _))
      (fun _ _ _ _ _ h _ _ => h)
      ⟨D4, Kx.refl _ _⟩
    case hassign =>
      intro l x W K hK
      dsimp only [ownEnc]
      gi_wp2
      exact hK
    case hbody =>
      rintro l k x V hx ⟨E4, hV⟩ hsV
      have hkl : k < xs.length := (List.getElem?_eq_some_iff.1 hx).1
      obtain ⟨g, rfl, hg, hcg⟩ := HC4.out k x hx
      have E0 := hV.box D0 (by simp; omega)
      have E2 := hV.box D2 (by simp; omega)
      have E3 := hV.box D3 (by simp)
      have c0 := E0.cell
      have c2 := E2.cell
      have c3 := E3.cell
      have c4 := E4.cell
      have f4 := E4.frozen
      have cx : V.cell? ⟨g, k, none⟩ = some (.int .i64 x) := (World.cell?_of_block ((hV.block g (by omega) (by simp; omega)).trans (hX6.block g (by omega) (by simp; omega)))).trans hcg
      gi_wp2
      rw [show (k : Int) + 1 = ((k + 1 : Nat) : Int) by omega]
      exact ⟨(KeepsOthers.setCell V _ _).from _, (Kb.refl _ V).setCell (p := ⟨b5 + 1, 0, none⟩) (fun hk => by have := hk.2; simp at this; omega) _, E4.set _, hV.setCell (.inl (by simp)) _⟩
    case hstop => rintro D c k W hD hk h _; exact h.elim
    case hdone =>
      rintro E V hE ⟨E4, hV⟩ hL
      have E1 := hV.box D1 (by simp; omega)
      have E2 := hV.box D2 (by simp; omega)
      have E3 := hV.box D3 (by simp)
      have c1 := E1.cell
      have f1 := E1.frozen
      have c2 := E2.cell
      have c3 := E3.cell
      have c4 := E4.cell
      have hDV : V.heap[D]? = some (.deferred (some [])) := hV.obj hD6 (by simp; omega)
      have hBV := hB4.trans ((hX6.below (by have := hB4.size; omega) (by simp; have := hB4.size; omega)).trans (hV.below (B := w.heap.size) (by have := hB4.size; omega) (by simp; have := hB4.size; omega)))
      gi_wp2
      rw [roundsIn_succ]
      have E1' := E1.alloc (.cells #[.int .i64 2] 3)
      have hB7 := hBV.alloc hBV.size (.cells #[.int .i64 2] 3)
      have hD7 := (Below.heap_alloc V (.cells #[.int .i64 2] 3) D (Array.getElem?_eq_some_iff.1 hDV).1).trans hDV
      have hE7 := (Below.heap_alloc V (.cells #[.int .i64 2] 3) E (Array.getElem?_eq_some_iff.1 hL).1).trans hL
      clear c1 f1 c2 c3 c4
      gi_wp2_with fail
      refine ⟨trivial, ?_⟩
      refine (callsIn_wide.2 (works_any _)).mono ?_
      rintro e w9 ⟨rfl, hb9⟩
      have F1 := box_below E1' hb9 E1'.lt
      have c1 := F1.cell
      have f1 := F1.frozen
      have hB9 := hB7.trans (hb9.mono hB7.size)
      have hD9 := (hb9.block D (Array.getElem?_eq_some_iff.1 hD7).1).trans hD7
      have hE9 := (hb9.block E (Array.getElem?_eq_some_iff.1 hE7).1).trans hE7
      gi_wp2
      have G1 := F1.set (.bool true)
      have hD10 := (KeepsOthers.setCell w9 ⟨w.heap.size + 1, 0, none⟩ (.bool true)).same D _ hD9 rfl
      have hE10 := (KeepsOthers.setCell w9 ⟨w.heap.size + 1, 0, none⟩ (.bool true)).same E _ hE9 rfl
      refine leaves_two w.heap.size E D rfl hE10 hD10 (by have := hB4.size; omega) (by have := hB4.size; omega) (by omega) (v := .bool true) ?_
      intro W' hbW hcW
      have G1' : Boxed W' (w.heap.size + 1) 4 (.bool true) := hcW _ _ G1 rfl
      exact ⟨by simp [results, Try.results6, go_sem, G1'.cell], rfl, (hB9.setCell (p := ⟨w.heap.size + 1, 0, none⟩) (by simp) _).trans hbW⟩
end Go.Proofs.Ytkpgdchhdhkpdaa
