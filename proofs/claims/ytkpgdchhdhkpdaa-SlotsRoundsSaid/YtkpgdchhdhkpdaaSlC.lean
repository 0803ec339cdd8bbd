
/- The places' slots as an iterator: slots.Own, slots.Next. -/
import Derived.Test.YtkpgdchhdhkpdaaSlB
import Derived.Test.YtkpgdchhdhkpdaaIter
import Derived.Shelf.Abstract
import Derived.Shelf.RegionOpen
import Derived.OwnWalkIn
import Derived.TacticsInMore
import Derived.LoopNIn
import Derived.LoopIn
namespace Go.Proofs.Ytkpgdchhdhkpdaa
open Go.RowKit Go.Shelf
attribute [local go_sem] Oper.semAt_some

def ownL (c p f t : Int) : List Int := if betweenB c p f t then (List.range (manyI c p f t).toNat).map (fun k : Nat => nextI c p f + k * c) else []
def ownLb (b : Nat) : Array Value := #[.pointer (some ⟨b, 0, none⟩), .pointer (some ⟨b + 1, 0, none⟩), .pointer (some ⟨b + 2, 0, none⟩), .pointer (some ⟨b + 3, 0, none⟩)]
def CellsOwn (w : World) (b : Nat) (c p f t : Int) : Prop :=
  w.cell? ⟨b, 0, none⟩ = some (.int .i64 c) ∧ w.cell? ⟨b + 1, 0, none⟩ = some (.int .i64 p) ∧ w.cell? ⟨b + 2, 0, none⟩ = some (.int .i64 f) ∧ w.cell? ⟨b + 3, 0, none⟩ = some (.int .i64 t)
set_option maxRecDepth 100000 in
set_option maxHeartbeats 400000 in
theorem own_any (c p f t : Int) (w : World) :
    Calls Try.prog 26 #[.int .i64 c, .int .i64 p, .int .i64 f, .int .i64 t] w fun e w' => e = .returned (.func (.func 39) #[] (ownLb w.heap.size)) ∧ Below w.heap.size w w' ∧ w.heap.size + 3 < w'.heap.size ∧ CellsOwn w' w.heap.size c p f t := by
  unfold CellsOwn ownLb
  go_enter Try.func26, Try.ntmps26
  go_wp2
  go_ret
  exact ⟨rfl, ((((Below.refl _ _).alloc (Nat.le_refl _) _).alloc (by simp) _).alloc (by simp; omega) _).alloc (by simp; omega) _, by simp, by go_simp, by go_simp, by go_simp, by go_simp⟩

def ownEnc (x : Int) : Array Value := #[.int .i64 x]
def ownS (b k : Nat) : Prop := b ≤ k ∧ k ≤ b + 3
theorem own_lt {c p f t : Int} (h : betweenB c p f t = true) (k : Nat) : nextI c p f + k * c < t ↔ k < (manyI c p f t).toNat := by
  obtain ⟨⟨h1, h2, h3, h4⟩, h5, h6, h7⟩ := between_bd h
  have hr : rightB c = true := by unfold betweenB placeB at h; simp at h; exact h.1.1
  unfold manyI
  rw [if_pos h]
  generalize nextI c p f = x
  rcases right_cases hr with rfl | rfl | rfl | rfl <;> omega
theorem own_get {c p f t : Int} (h : betweenB c p f t = true) (k : Nat) (hk : k < (manyI c p f t).toNat) : (ownL c p f t)[k]? = some (nextI c p f + k * c) := by
  unfold ownL; rw [if_pos h]; simp [hk]
theorem own_len {c p f t : Int} (h : betweenB c p f t = true) : (ownL c p f t).length = (manyI c p f t).toNat := by
  unfold ownL; rw [if_pos h]; simp

set_option maxRecDepth 100000 in
set_option maxHeartbeats 1000000 in
theorem own_xs (c p f t : Int) (b : Nat) (w : World) (hb : b + 3 < w.heap.size) (hc : CellsOwn w b c p f t) :
    SeqXs Try.prog 39 (ownLb b) ownEnc (ownL c p f t) (Kb (ownS b)) w := by
  intro l J Jx W hW hJ hJx hY h0
  have hsz := hW.size
  obtain ⟨c0, c1, c2, c3⟩ := hc
  have d0 := (hW.cell (p := ⟨b, 0, none⟩) (show b < _ by omega)).trans c0
  have d1 := (hW.cell (p := ⟨b + 1, 0, none⟩) (show b + 1 < _ by omega)).trans c1
  have d2 := (hW.cell (p := ⟨b + 2, 0, none⟩) (show b + 2 < _ by omega)).trans c2
  have d3 := (hW.cell (p := ⟨b + 3, 0, none⟩) (show b + 3 < _ by omega)).trans c3
  clear c0 c1 c2 c3
  unfold ownLb
  cases hbt : betweenB c p f t
  · have hx : ownL c p f t = [] := by simp [ownL, hbt]
    have HB := Lib.hid hbt
    clear hbt hY
    rw [hx]
    refine callsIn_of_wp Try.func39 rfl trivial ?_ rfl
    simp only [Try.ntmps39, List.size_toArray, List.length_cons, List.length_nil, Nat.reduceAdd, Nat.reduceSub, Array.replicate_succ, Array.replicate_zero, List.push_toArray, List.append_toArray, List.nil_append, List.cons_append]
    refine wpIn_scope_wide ?_
    gi_wp2_with (apply wpIn_label)
    refine ⟨trivial, ?_⟩
    refine (callsIn_wide.2 (between_at _ _ _ _ _ HB.out _)).mono ?_
    rintro e w1 ⟨rfl, hb1⟩
    gi_wp2
    rw [Exit.noGoto_ret]
    refine bodyPost_ret (results_none rfl _ _ _) rfl ?_
    exact ⟨⟨_, rfl⟩, .inl (abides_below hJ h0 hb1)⟩
  · obtain ⟨⟨h1, h2, h3, h4⟩, h5, h6, h7⟩ := between_bd hbt
    obtain ⟨g1, g2⟩ := next_bd (p := p) (f := f) h1 h2
    rw [own_len hbt]
    have HB := Lib.hid hbt
    clear hbt
    have HY := Lib.hid hY
    clear hY
    refine callsIn_of_wp Try.func39 rfl trivial ?_ rfl
    simp only [Try.ntmps39, List.size_toArray, List.length_cons, List.length_nil, Nat.reduceAdd, Nat.reduceSub, Array.replicate_succ, Array.replicate_zero, List.push_toArray, List.append_toArray, List.nil_append, List.cons_append]
    refine wpIn_scope_wide ?_
    gi_wp2_with (apply wpIn_label)
    refine ⟨trivial, ?_⟩
    refine (callsIn_wide.2 (between_at _ _ _ _ _ HB.out _)).mono ?_
    rintro e w1 ⟨rfl, hb1⟩
    have e0 := (hb1.cell (p := ⟨b, 0, none⟩) (show b < _ by omega)).trans d0
    have e1 := (hb1.cell (p := ⟨b + 1, 0, none⟩) (show b + 1 < _ by omega)).trans d1
    have e2 := (hb1.cell (p := ⟨b + 2, 0, none⟩) (show b + 2 < _ by omega)).trans d2
    have e3 := (hb1.cell (p := ⟨b + 3, 0, none⟩) (show b + 3 < _ by omega)).trans d3
    have h01 := abides_below hJ h0 hb1
    clear d0 d1 d2 d3
    gi_wp2_with (apply wpIn_label)
    refine ⟨trivial, ?_⟩
    refine (callsIn_wide.2 (next_any _ _ _ _ h1 h2 h3 h4 h5 (by omega))).mono ?_
    rintro e w2 ⟨rfl, rfl⟩
    gi_wp2_with (apply wpIn_label)
    gi_loopw [6] (fun s wr => ∃ k : Nat, k ≤ (manyI c p f t).toNat ∧ s = .int .i64 (nextI c p f + k * c) ∧ J k wr ∧ Kb (ownS b) w1 wr) (fun s _ => (t + 10 - intOf s).toNat)
    case atStart => exact ⟨0, by omega, by simp, h01, Kb.refl _ _⟩
    case round =>
      obtain ⟨k, hk, rfl, hJs, hnx⟩ := hrel
      have f0 := (hnx.cell (p := ⟨b, 0, none⟩) ⟨by simp, by simp⟩).trans e0
      have f3 := (hnx.cell (p := ⟨b + 3, 0, none⟩) ⟨by simp, by simp⟩).trans e3
      by_cases hlt : k < (manyI c p f t).toNat
      · have hst := (own_lt HB.out k).2 hlt
        obtain ⟨fn, tmps, assign, body, hy, hR⟩ := HY.out k _ wr (own_get HB.out k hlt) hJs
        have HR := Lib.hid hR
        clear hR
        dsimp only [ownEnc] at hy
        have hkc : 0 ≤ (k : Int) * c := Int.mul_nonneg (by omega) (by omega)
        gi_wp2
        refine HR.out.mono ?_
        rintro e W3 (⟨rfl, hJ3, hk3⟩ | ⟨rfl, hJx3⟩)
        · have i0 := (hk3.cell (p := ⟨b, 0, none⟩) ⟨by simp, by simp⟩).trans f0
          gi_wp2
          go_roundw
          case rel => exact ⟨k + 1, by omega, by congr 1; rw [Int.natCast_add, Int.add_mul]; omega, hJ3, hnx.trans hk3⟩
          case measure => simp [intOf]; omega
        · gi_wp2
          rw [Exit.noGoto_normal]
          refine bodyPost_end (results_none rfl _ _ _) rfl ?_
          exact ⟨⟨_, rfl⟩, .inr ⟨k, hlt, hJx3⟩⟩
      · have hst : t ≤ nextI c p f + k * c := by have := own_lt HB.out k; omega
        have hke : Hid (k = (manyI c p f t).toNat) := Lib.hid (by omega)
        clear hk hlt
        gi_wp2
        rw [Exit.noGoto_normal]
        refine bodyPost_end (results_none rfl _ _ _) rfl ?_
        exact ⟨⟨_, rfl⟩, .inl (hke.out ▸ hJs)⟩

theorem own_first {n p g t x : Int} (hx : (ownL n p g t)[0]? = some x) : x = nextI n p g ∧ nextI n p g < t := by
  cases hb : betweenB n p g t
  · simp [ownL, hb] at hx
  · have h0 : 0 < (manyI n p g t).toNat := by
      rw [← own_len hb]; exact (List.getElem?_eq_some_iff.1 hx).1
    have := own_get hb 0 h0
    rw [this] at hx
    have h1 := (own_lt hb 0).2 h0
    simp at hx h1
    exact ⟨hx.symm, h1⟩
theorem own_none {n p g : Int} (hp : placeB n p = true) (h0 : 0 ≤ g) (h1 : g ≤ 4096) (hl : (ownL n p g 4096).length = 0) : 4096 ≤ nextI n p g := by
  have hb : betweenB n p g 4096 = true := by simp [betweenB, hp, h0, h1]
  rw [own_len hb] at hl
  have := own_lt hb 0
  simp at this
  omega
theorem next_clip {n p f : Int} (hp : placeB n p = true) : (nextI n p (min (max 0 f) 4096) < 4096 ↔ nextFrom n p f < 4096) ∧ (nextFrom n p f < 4096 → nextI n p (min (max 0 f) 4096) = nextFrom n p f) := by
  obtain ⟨h1, h2, h3, h4⟩ := place_bd hp
  have a := next_bd (p := p) (f := max 0 f) h1 h2
  have b := next_bd (p := p) (f := 4096) h1 h2
  unfold nextFrom
  by_cases h : max 0 f ≤ 4096
  · rw [show min (max 0 f) 4096 = max 0 f by omega]; exact ⟨Iff.rfl, fun _ => rfl⟩
  · rw [show min (max 0 f) 4096 = 4096 by omega]; omega

/-! slots.Next. -/
set_option maxRecDepth 100000 in
set_option maxHeartbeats 1000000 in
theorem next_call (n p f : Int) (w : World) (hf : f ≤ 9223372036854775807) :
    Calls Try.prog 21 #[.int .i64 n, .int .i64 p, .int .i64 f] w fun e w' => e = .returned (.tuple #[.int .i64 (nextV n p f), .int .i64 (nextE n p f)]) ∧ Below w.heap.size w w' := by
  refine callsIn_wide (n := 3).1 ?_
  cases hp : placeB n p
  · have e1 : nextV n p f = 0 := by simp [nextV, hp]
    have e2 : nextE n p f = 2 := by simp [nextE, hp]
    rw [e1, e2]
    clear e1 e2
    have Hp := Lib.hid hp
    clear hp
    refine callsIn_of_wp_marks Try.func21 rfl trivial ?_ rfl
    simp only [Try.ntmps21, List.size_toArray, List.length_cons, List.length_nil, Nat.reduceAdd, Nat.reduceSub, Array.replicate_succ, Array.replicate_zero, List.push_toArray, List.append_toArray, List.nil_append, List.cons_append]
    gi_wp2_with (apply wpIn_label)
    refine ⟨trivial, ?_⟩
    refine (callsIn_wide.2 (place_at _ _ _ Hp.out _)).mono ?_
    rintro e w1 ⟨rfl, hb1⟩
    have B0 := box_below ((Boxed.new w 3 (.int .i64 0)).alloc (.cells #[.int .i64 0] 22)) hb1 (by simp; omega)
    have B1 := box_below (Boxed.new (w.alloc (.cells #[.int .i64 0] 3)) 22 (.int .i64 0)) hb1 (by simp)
    simp only [World.size_alloc] at B1
    have c0 := B0.cell
    have f0 := B0.frozen
    have c1 := B1.cell
    have f1 := B1.frozen
    gi_wp2
    obtain ⟨r1, r2⟩ := two_boxes B0 B1 (by omega) (.int .i64 0) (.int .i64 2)
    refine leaves_nil (v := .tuple #[.int .i64 0, .int .i64 2]) rfl (by simp [results, Try.results21, go_sem, r1.cell, r2.cell]) ⟨rfl, ?_⟩
    have hb := ((((Below.refl w.heap.size w).alloc (Nat.le_refl _) (.cells #[.int .i64 0] 3)).alloc (by simp) (.cells #[.int .i64 0] 22)).trans (hb1.mono (by simp; omega)))
    exact (hb.setCell (p := ⟨w.heap.size, 0, none⟩) (Nat.le_refl _) _).setCell (p := ⟨w.heap.size + 1, 0, none⟩) (by simp) _
  · obtain ⟨h1, h2, h3, h4⟩ := place_bd hp
    have Hp := Lib.hid hp
    clear hp
    obtain ⟨g1, hg1⟩ : ∃ g1, (if 0 < f then f else 0) = g1 := ⟨_, rfl⟩
    obtain ⟨g, hg⟩ : ∃ g, (if 4096 < g1 then 4096 else g1) = g := ⟨_, rfl⟩
    have b0 : 0 ≤ g := by split at hg1 <;> split at hg <;> omega
    have b1 : g ≤ 4096 := by split at hg <;> omega
    have b2 : Hid (g = min (max 0 f) 4096) := Lib.hid (by split at hg1 <;> split at hg <;> omega)
    refine callsIn_of_wp_marks Try.func21 rfl trivial ?_ rfl
    simp only [Try.ntmps21, List.size_toArray, List.length_cons, List.length_nil, Nat.reduceAdd, Nat.reduceSub, Array.replicate_succ, Array.replicate_zero, List.push_toArray, List.append_toArray, List.nil_append, List.cons_append]
    gi_wp2_with (apply wpIn_label)
    refine ⟨trivial, ?_⟩
    refine (callsIn_wide.2 (place_at _ _ _ Hp.out _)).mono ?_
    rintro e w1 ⟨rfl, hb1⟩
    have B0 := box_below ((Boxed.new w 3 (.int .i64 0)).alloc (.cells #[.int .i64 0] 22)) hb1 (by simp; omega)
    have B1 := box_below (Boxed.new (w.alloc (.cells #[.int .i64 0] 3)) 22 (.int .i64 0)) hb1 (by simp)
    simp only [World.size_alloc] at B1
    have hb := ((((Below.refl w.heap.size w).alloc (Nat.le_refl _) (.cells #[.int .i64 0] 3)).alloc (by simp) (.cells #[.int .i64 0] 22)).trans (hb1.mono (by simp; omega)))
    have c0 := B0.cell
    have f0 := B0.frozen
    have c1 := B1.cell
    have f1 := B1.frozen
    gi_wp2_with (apply wpIn_label)
    refine ⟨trivial, ?_⟩
    refine (callsIn_wide.2 (own_any _ _ _ _ _)).mono ?_
    rintro e w2 ⟨rfl, hb2, hs2, hco⟩
    gi_wp2_with fail
    have hseq := own_xs n p g 4096 w1.heap.size w2 hs2 hco
    have C0 := box_below B0 hb2 (by have := B0.lt; omega)
    have C1 := box_below B1 hb2 (by have := B1.lt; omega)
    have hb3 := hb.trans (hb2.mono hb.size)
    have hsz := B1.lt
    have hs3 := hb2.size
    apply wpIn_range_xs 39 (ownLb w1.heap.size) rfl (enters_of Try.func39 (by kernel_rfl) rfl) (ownS w1.heap.size) hseq (fun k hk => by have := hk.2; omega) (Below.refl _ _) (fun _ => rfl)
      (fun k W => k = 0 ∧ Boxed W w.heap.size 3 (.int .i64 0) ∧ Boxed W (w.heap.size + 1) 22 (.int .i64 0) ∧ Below w.heap.size w W)
      (fun c k W => (c = .ret ∧ k = 1 ∧ nextI n p g < 4096) ∧ Boxed W w.heap.size 3 (.int .i64 (nextI n p g)) ∧ Boxed W (w.heap.size + 1) 22 (.int .i64 0) ∧ Below w.heap.size w W)
      ((ownFrom_pure _ _).and (((boxed_own _ _ _).from _).and (((boxed_own _ _ _).from _).and (ownFrom_below (Nat.le_refl _) (by omega)))))
      (fun c => (ownFrom_pure _ _).and (((boxed_own _ _ _).from _).and (((boxed_own _ _ _).from _).and (ownFrom_below (Nat.le_refl _) (by omega)))))
      ⟨rfl, C0, C1, hb3⟩
    case hassign =>
      intro l x W K hK
      dsimp only [ownEnc]
      gi_wp2
      exact hK
    case hbody =>
      rintro l k x W hx ⟨rfl, D0, D1, hbW⟩ hsW
      have c0 := D0.cell
      have f0 := D0.frozen
      have c1 := D1.cell
      have f1 := D1.frozen
      gi_wp2
      obtain ⟨rfl, hlt⟩ := own_first hx
      obtain ⟨r1, r2⟩ := two_boxes D0 D1 (by omega) (.int .i64 (nextI n p g)) (.int .i64 0)
      exact ⟨((KeepsOthers.setCell W _ _).trans (KeepsOthers.setCell _ _ _)).from _, ⟨rfl, rfl, hlt⟩, r1, r2, (hbW.setCell (p := ⟨w.heap.size, 0, none⟩) (Nat.le_refl _) _).setCell (p := ⟨w.heap.size + 1, 0, none⟩) (by simp) _⟩
    case hdone =>
      rintro D W hD ⟨hl, D0, D1, hbW⟩ hK
      have c0 := D0.cell
      have f0 := D0.frozen
      have c1 := D1.cell
      have f1 := D1.frozen
      have HL := Lib.hid hl
      clear hl
      gi_wp2
      have hK' := ((KeepsOthers.setCell W ⟨w.heap.size, 0, none⟩ (.int .i64 0)).trans (KeepsOthers.setCell _ ⟨w.heap.size + 1, 0, none⟩ (.int .i64 4))).same D _ hK rfl
      obtain ⟨r1, r2⟩ := two_boxes D0 D1 (by omega) (.int .i64 0) (.int .i64 4)
      have q1 := box_putObj r1 hK' rfl (.deferred none)
      have q2 := box_putObj r2 hK' rfl (.deferred none)
      have hge := own_none Hp.out b0 b1 HL.out
      have hcl := next_clip (f := f) Hp.out
      rw [← b2.out] at hcl
      refine leaves_col (v := .tuple #[.int .i64 0, .int .i64 4]) rfl hK' (by simp [results, Try.results21, go_sem, q1.cell, q2.cell]) ⟨ret_ii ?_ ?_, below_putObj ((hbW.setCell (p := ⟨w.heap.size, 0, none⟩) (Nat.le_refl _) _).setCell (p := ⟨w.heap.size + 1, 0, none⟩) (by simp) _) (by omega) _⟩
      · rw [nextV, if_pos Hp.out, if_neg (by omega)]
      · rw [nextE, if_pos Hp.out, if_neg (by omega)]
    case hstop =>
      rintro D c k W hD hk ⟨⟨rfl, hk1, hlt⟩, D0, D1, hbW⟩ hK
      have HL := Lib.hid hlt
      clear hlt
      gi_wp2
      have q1 := box_putObj D0 hK rfl (.deferred none)
      have q2 := box_putObj D1 hK rfl (.deferred none)
      have hcl := next_clip (f := f) Hp.out
      rw [← b2.out] at hcl
      have hlt := HL.out
      refine leaves_col (v := .tuple #[.int .i64 (nextI n p g), .int .i64 0]) rfl hK (by simp [results, Try.results21, go_sem, q1.cell, q2.cell]) ⟨ret_ii ?_ ?_, below_putObj hbW (by omega) _⟩
      · rw [nextV, if_pos Hp.out, if_pos (hcl.1.1 hlt), hcl.2 (hcl.1.1 hlt)]
      · rw [nextE, if_pos Hp.out, if_pos (hcl.1.1 hlt)]
end Go.Proofs.Ytkpgdchhdhkpdaa
