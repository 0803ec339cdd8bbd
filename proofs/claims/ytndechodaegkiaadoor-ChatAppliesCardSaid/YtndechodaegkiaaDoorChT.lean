
/- Package chat: law's few, is. -/
import Derived.Test.YtndechodaegkiaaDoorChS
namespace Go.Proofs.YtndechodaegkiaaDoor
open Go.RowKit
def fewB (l : List En) (most : Int) : Bool := l.all (fun e => decide (e.s.size ≤ 300)) && decide ((l.length : Int) ≤ most)
set_option maxRecDepth 100000 in
set_option maxHeartbeats 1000000 in
theorem few_any (l : List En) (ao : Option Addr) (c : Nat) (most : Int) (w : World) (hE : HasE w ao l) (hl : l.length ≤ 9223372036854775807) :
    Calls Tryd.prog 15 #[.slice ao l.length c, .int .i64 most] w fun r w' => r = .returned (.bool (fewB l most)) ∧ w = w' := by
  obtain ⟨N, hN⟩ : ∃ N, l.length = N := ⟨_, rfl⟩
  have hNI : (N : Int) ≤ 9223372036854775807 := by omega
  obtain ⟨R, hR⟩ : ∃ R, fewB l most = R := ⟨_, rfl⟩
  rw [hN, hR]
  have HR := Lib.hid hR
  clear hR
  go_enter Tryd.func15, Tryd.ntmps15
  go_wp2_with fail
  go_loopw [5] (fun i wr => ∃ (j : Nat), i = .int .i64 j ∧ wr = w ∧ j ≤ N ∧ Hid ((l.take j).all (fun e => decide (e.s.size ≤ 300)) = true)) (fun i _ => N - (intOf i).toNat)
  case atStart => exact ⟨0, rfl, rfl, by omega, Lib.hid rfl⟩
  case round =>
    obtain ⟨j, rfl, rfl, hj, HA⟩ := hrel
    by_cases hlt : j < N
    · obtain ⟨e, he⟩ : ∃ e, l[j]? = some e := ⟨l[j], by simp [hN, hlt]⟩
      obtain ⟨b, off, rfl, q0, q1, q2, q3⟩ := hE j e he
      have hj0 : (0 : Int) ≤ (j : Int) := by omega
      have hj1 : (j : Int) < (N : Int) := by omega
      have htk : l.take (j + 1) = l.take j ++ [e] := by rw [List.take_add_one, he]; rfl
      obtain ⟨k, m, q, s⟩ := e
      simp only at q3
      by_cases h3 : s.size ≤ 300
      · have h3I : ¬ (300 : Int) < (s.size : Int) := by omega
        have HA2 : Hid ((l.take (j + 1)).all (fun e => decide (e.s.size ≤ 300)) = true) := Lib.hid (by rw [htk, List.all_append, HA.out]; simp [h3])
        clear HA htk he
        go_wp2
        go_roundw
        case rel => exact ⟨j + 1, by go_num, by trivial, by omega, HA2⟩
        case measure => simp [intOf]; omega
      · have h3I : (300 : Int) < (s.size : Int) := by omega
        have hf : fewB l most = false := by
          have : l.all (fun e => decide (e.s.size ≤ 300)) = false := by
            rw [List.all_eq_false]
            exact ⟨_, List.mem_of_getElem? he, by simp; omega⟩
          simp [fewB, this]
        obtain rfl : false = R := by rw [← HR.out, hf]
        clear htk he hf HR
        go_wp2
        go_ret
        exact ⟨rfl, rfl⟩
    · obtain rfl : j = N := by omega
      have hA := HA.out
      rw [List.take_of_length_le (by omega)] at hA
      have hf : decide ((j : Int) ≤ most) = R := by rw [← HR.out]; simp [fewB, hA, hN]
      clear HA hA HR hE
      go_wp2
      go_ret
      exact ⟨by rw [← hf]; rfl, rfl⟩
theorem wp_region_extB {P : Program} {id : Nat} {Q : Exit → Act → World → Prop} {a : Act} {w : World} {l : List Oper} (hm : P.follows .mixedOrders = true) (hB : Region.lexB .any l.toArray = true)
    (h : wpQuiet P l.toArray (ExtA w) (fun a' => ∀ w', ExtA w w' → Q .normal a' w') l a) : (Code.region id l.toArray true).wp P Q a w :=
  wp_region_quiet (C := ExtA w) hm hB ⟨rfl, rfl, rfl, Nat.le_refl _, fun _ _ => rfl⟩ (by simpa using h)
set_option maxRecDepth 100000 in
set_option maxHeartbeats 4000000 in
theorem is_any (base base2 g : Nat) (v sv : Value) (t : Tk) (w : World) (h : TkW w base g v t) (hG : Good t) (hD : DW w base2 sv t.L) :
    Calls Tryd.prog 22 #[.pointer (some ⟨g, 0, none⟩), .agg #[.int .i64 t.sl, sv]] w fun r w' => r = .returned (.bool true) ∧ Below w.heap.size w w' := by
  obtain ⟨a, c, rfl⟩ := hD.sl
  have hfew := hG.few
  have htop := hG.top
  obtain ⟨n, hn⟩ : ∃ n, t.L.length = n := ⟨_, rfl⟩
  obtain ⟨sl, hsl⟩ : ∃ sl : Nat, t.sl = sl := ⟨_, rfl⟩
  have hnI : (n : Int) ≤ 4096 := by omega
  have hb1 := (Below.refl w.heap.size w).alloc (Nat.le_refl _) (.cells #[.int .i64 sl, .slice a n c] 49)
  have XB := Blk.newA' (W := w) rfl 49 #[.int .i64 sl, .slice a n c]
  have h1 := h.step hb1
  have hD1 := hD.step hb1
  obtain ⟨B, hB⟩ : ∃ B, w.heap.size = B := ⟨_, rfl⟩
  rw [hn] at hD hD1 ⊢
  rw [hsl]
  rw [hB] at hb1 XB
  go_enter Tryd.func22, Tryd.ntmps22
  go_upto_region 1 with fail
  generalize w.alloc (.cells #[.int .i64 sl, .slice a n c] 49) = W at *
  have cS : ∀ W', ExtA W W' → Calls Tryd.prog 14 #[.pointer (some ⟨g, 0, none⟩)] W' fun e w' => e = .returned (.int .i64 sl) ∧ W' = w' := fun W' hx => by have := slot_any base g v t W' (h1.step hx); rwa [hsl] at this
  have cL : ∀ W', ExtA W W' → Calls Tryd.prog 16 #[.pointer (some ⟨g, 0, none⟩)] W' fun e w' => e = .returned (.int .i64 n) ∧ W' = w' := fun W' hx => by have := len_any base g v t W' (h1.step hx); rwa [hn] at this
  have x0 := extA_cell (XB.cell (j := 0) rfl)
  have x1 := extA_cell (XB.cell (j := 1) rfl)
  refine wp_region_extB (by kernel_rfl) (by kernel_rfl) ?_
  repeat
    (first
      | go_big_quiet_skip
      | (go_big_quiet_want
         go_big_quiet_op
         first
           | go_big_quiet_on
           | (apply Exists.intro
              refine ⟨fun w' hC => ?_, ?_⟩
              · (first
                  | with_reducible rfl
                  | (go_at_call 14; refine (cS _ hC).mono ?_; rintro e w2 ⟨rfl, rfl⟩; exact ⟨rfl, hC⟩) | (go_at_call 16; refine (cL _ hC).mono ?_; rintro e w2 ⟨rfl, rfl⟩; exact ⟨rfl, hC⟩)
                  | (go_simp; done)
                  | (go_simp; with_reducible rfl))
              go_big_quiet_on)))
  refine wpQuiet_nil ?_
  intro wq hq
  have hb2 : Below B w wq := hb1.trans (Below.mono hq (by have := hb1.size; omega))
  have X2 := XB.step hq
  have h2 := h1.step hq
  have hD2 := hD1.step hq
  clear cS cL x0 x1 hq XB h1 hD1 hb1
  generalize wq = w0 at *
  go_wp2_with fail
  go_loopw [5] (fun i wr => ∃ (j : Nat), i = .int .i64 j ∧ j ≤ n ∧ ExtA w0 wr) (fun i _ => n - (intOf i).toNat)
  case atStart => exact ⟨0, rfl, by omega, Below.refl _ _⟩
  case round =>
    obtain ⟨j, rfl, hj, hb⟩ := hrel
    by_cases hlt : j < n
    · obtain ⟨x, hx⟩ : ∃ x, t.L[j]? = some x := ⟨t.L[j], by simp [hn, hlt]⟩
      have hj0 : (0 : Int) ≤ (j : Int) := by omega
      have hj1 : (j : Int) < (n : Int) := by omega
      have hli : liB t (j : Int) = true := by simp [liB, hn, hlt]
      have hlx : liX t (j : Int) = x := by unfold liX; rw [hli]; simp [hx]
      have hle : liE t (j : Int) = 0 := by unfold liE; rw [hli]; rfl
      have cI := line_any base g v t (j : Int) wr (h2.step hb)
      rw [hlx, hle] at cI
      clear hli hlx hle
      obtain ⟨x1, x2, ek, em, en, es⟩ := x
      have t0 := X2.step hb
      have q0 := t0.cell (j := 1) rfl
      change Calls Tryd.prog 17 #[.pointer (some ⟨g, 0, none⟩), .int .i64 j] wr fun r w' => r = .returned (.tuple #[.agg #[.int .i64 x1, .int .i64 x2, .int .i64 ek, .int .i64 em, .int .i64 en, .string es], .int .i64 0]) ∧ Below wr.heap.size wr w' at cI
      go_wp2_with fail
      refine (cI).mono ?_
      rintro e w2 ⟨rfl, hb3⟩
      have hb4 : ExtA w0 (w2.alloc (.cells #[.int .i64 x1, .int .i64 x2, .int .i64 ek, .int .i64 em, .int .i64 en, .string es] 33)) := extA_then (extA_then hb hb3) ((Below.refl _ _).alloc (Nat.le_refl _) _)
      have XN := Blk.newA' (W := w2) rfl 33 #[.int .i64 x1, .int .i64 x2, .int .i64 ek, .int .i64 em, .int .i64 en, .string es]
      clear hb3 cI t0 q0
      go_wp2_with fail
      generalize w2.alloc (.cells #[.int .i64 x1, .int .i64 x2, .int .i64 ek, .int .i64 em, .int .i64 en, .string es] 33) = w3 at *
      generalize w2.heap.size = gn at *
      obtain ⟨rb, ro, rfl, p0, p1, p2, p3, p4, p5⟩ := (hasL_own (by have := (hD2.step hb4).row; rw [hn] at this; exact this) hn) j _ hx
      simp only at p0 p1 p2 p3 p4 p5
      have y0 := extA_cell p0
      have y1 := extA_cell p1
      have y2 := extA_cell p2
      have y3 := extA_cell p3
      have y4 := extA_cell p4
      have y5 := extA_cell p5
      have z0 := extA_cell (XN.cell (j := 0) rfl)
      have z1 := extA_cell (XN.cell (j := 1) rfl)
      have z2 := extA_cell (XN.cell (j := 2) rfl)
      have z3 := extA_cell (XN.cell (j := 3) rfl)
      have z4 := extA_cell (XN.cell (j := 4) rfl)
      have z5 := extA_cell (XN.cell (j := 5) rfl)
      have k1 := extA_cell ((X2.step hb4).cell (j := 1) rfl)
      clear p0 p1 p2 p3 p4 p5 XN
      refine wp_region_extB (by kernel_rfl) (by kernel_rfl) ?_
      repeat
        (first
          | go_big_quiet_skip
          | (go_big_quiet_want
             go_big_quiet_op
             first
               | go_big_quiet_on
               | (apply Exists.intro
                  refine ⟨fun w' hC => ?_, ?_⟩
                  · (first
                      | with_reducible rfl
                      | (go_at_call 12; refine (num_any _ _).mono ?_; rintro e w2 ⟨rfl, rfl⟩; exact ⟨rfl, hC⟩)
                      | (go_simp; done)
                      | (go_simp; with_reducible rfl))
                  go_big_quiet_on)))
      refine wpQuiet_nil ?_
      intro wq hq
      clear y0 y1 y2 y3 y4 y5 z0 z1 z2 z3 z4 z5 k1
      have hb5 : ExtA w0 _ := extA_then hb4 hq
      go_wp2
      go_roundw
      case rel => exact ⟨j + 1, by go_num, by omega, hb5⟩
      case measure => simp [intOf]; omega
    · obtain rfl : j = n := by omega
      have q0 := (X2.step hb).cell (j := 1) rfl
      go_wp2_with fail
      clear q0
      go_loopw [8] (fun i wr2 => ∃ (k : Nat), i = .int .i64 k ∧ k ≤ 16 ∧ ExtA w0 wr2) (fun i _ => 16 - (intOf i).toNat)
      case atStart => exact ⟨0, rfl, by omega, hb⟩
      case round =>
        obtain ⟨k, rfl, hk, hbk⟩ := hrel
        by_cases hk16 : k < 16
        · have hkI : (k : Int) < 16 := by omega
          have hob : ofB (k : Int) = true := by simp [ofB]; exact hkI
          have hox : ofX t (k : Int) = stOf k t.L := by unfold ofX; rw [hob, ← hG.say k hk16]; simp
          have hoe : ofE (k : Int) = 0 := by unfold ofE; rw [hob]; rfl
          have cO := of_any base g v t (k : Int) wr (h2.step hbk)
          rw [hox, hoe] at cO
          clear hob hox hoe
          have cR := fun W hW => refOf_any t.L a c sl (k : Int) W hW (by omega)
          rw [hn] at cR
          generalize stOf (k : Int) t.L = S at cO cR
          obtain ⟨x, y, z⟩ := S
          change Calls Tryd.prog 25 #[.pointer (some ⟨g, 0, none⟩), .int .i64 k] wr fun r w' => r = .returned (.tuple #[.agg #[.bool x, .int .i64 y, .int .i64 z], .int .i64 0]) ∧ Below wr.heap.size wr w' at cO
          change ∀ W, HasL W a t.L → Calls Tryd.prog 26 #[.agg #[.int .i64 sl, .slice a j c], .int .i64 k] W fun r w' => r = .returned (.agg #[.bool x, .int .i64 y, .int .i64 z]) ∧ Below W.heap.size W w' at cR
          go_wp2_with fail
          refine (cO).mono ?_
          rintro e w2 ⟨rfl, hb3⟩
          have hb4 : ExtA w0 (w2.alloc (.cells #[.bool x, .int .i64 y, .int .i64 z] 64)) := extA_then (extA_then hbk hb3) ((Below.refl _ _).alloc (Nat.le_refl _) _)
          have XN := Blk.newA' (W := w2) rfl 64 #[.bool x, .int .i64 y, .int .i64 z]
          clear hb3 cO
          go_wp2_with fail
          generalize w2.alloc (.cells #[.bool x, .int .i64 y, .int .i64 z] 64) = w3 at *
          generalize w2.heap.size = gn at *
          have hrow : ∀ W, ExtA w3 W → HasL W a t.L := fun W hW => hasL_own (by have := ((hD2.step hb4).step hW).row; rw [hn] at this; exact this) hn
          have z0 := extA_cell (XN.cell (j := 0) rfl)
          have z1 := extA_cell (XN.cell (j := 1) rfl)
          have z2 := extA_cell (XN.cell (j := 2) rfl)
          have k0 := extA_cell ((X2.step hb4).cell (j := 0) rfl)
          have k1 := extA_cell ((X2.step hb4).cell (j := 1) rfl)
          clear XN
          refine wp_region_extB (by kernel_rfl) (by kernel_rfl) ?_
          repeat
            (first
              | go_big_quiet_skip
              | (go_big_quiet_want
                 go_big_quiet_op
                 first
                   | go_big_quiet_on
                   | (apply Exists.intro
                      refine ⟨fun w' hC => ?_, ?_⟩
                      · (first
                          | with_reducible rfl
                          | (go_at_call 12; refine (num_any _ _).mono ?_; rintro e w2 ⟨rfl, rfl⟩; exact ⟨rfl, hC⟩) | (go_at_call 26; refine (cR _ (hrow _ hC)).mono ?_; rintro e w2 ⟨rfl, hb9⟩; exact ⟨rfl, extA_then hC hb9⟩)
                          | (go_simp; done)
                          | (go_simp; with_reducible rfl))
                      go_big_quiet_on)))
          refine wpQuiet_nil ?_
          intro wq hq
          clear z0 z1 z2 k0 k1 cR hrow
          have hb5 : ExtA w0 _ := extA_then hb4 hq
          go_wp2
          go_roundw
          case rel => exact ⟨k + 1, by go_num, by omega, hb5⟩
          case measure => simp [intOf]; omega
        · obtain rfl : k = 16 := by omega
          have hbf : Below B w wr := hb2.trans (Below.mono hbk (by have := hb2.size; omega))
          go_wp2
          go_ret
          exact ⟨rfl, by rw [hB]; exact hbf⟩
end Go.Proofs.YtndechodaegkiaaDoor
