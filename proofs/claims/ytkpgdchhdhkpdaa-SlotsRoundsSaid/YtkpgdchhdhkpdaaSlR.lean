
/- Package slots: a choir's rounds, in a block that the iterator makes. -/
import Derived.Test.YtkpgdchhdhkpdaaIterG
import Derived.Test.YtkpgdchhdhkpdaaSlE
import Derived.Sort.CutIn
namespace Go.Proofs.Ytkpgdchhdhkpdaa
open Go.RowKit Go.Shelf
attribute [local go_sem] Oper.semAt_some

def offN (c k : Nat) : Nat := min (k * c) 4096
def lnN (c k : Nat) : Nat := min c (4096 - offN c k)
def roundsN (c : Nat) : Nat := (4096 + c - 1) / c
def roundsL (c : Int) : List Nat := if rightB c then List.range (roundsN c.toNat) else []
def encR (c g k : Nat) : Array Value := #[.int .i64 k, .slice (some ⟨g, offN c k, none⟩) (lnN c k) (lnN c k)]
/-- What the block holds ahead of round k. -/
def MR (c k : Nat) (o : Option Obj) : Prop := ∃ cs : List Value, o = some (.cells cs.toArray 3 (0, 0)) ∧ cs.length = 4096 ∧ ∀ j, offN c k ≤ j → j < 4096 → cs[j]? = some (.int .i64 j)
def fillM (m i : Nat) : List Value := (List.range m).map fun j => Value.int .i64 (if j < i then (j : Int) else 0)
theorem fillM_len (m i : Nat) : (fillM m i).length = m := by simp [fillM]
theorem fillM_zero (m : Nat) : fillM m 0 = zerosL m := by
  apply List.ext_getElem
  · simp [fillM, zerosL]
  · intro i h1 h2
    simp [fillM, zerosL]
theorem fillM_set (m i : Nat) : (fillM m i).set i (.int .i64 i) = fillM m (i + 1) := by
  apply List.ext_getElem
  · simp [fillM]
  · intro j h1 h2
    simp only [fillM, List.getElem_set, List.getElem_map, List.getElem_range]
    by_cases e : i = j
    · subst e; simp
    · by_cases h : j < i
      · simp [e, h, Nat.lt_succ_of_lt h]
      · have : ¬ j < i + 1 := by omega
        simp [e, h, this]
theorem fillM_all (m j : Nat) (h : j < m) : (fillM m m)[j]? = some (.int .i64 j) := by simp [fillM, h]
def fillL (i : Nat) : List Value := fillM 4096 i
theorem fill_len (i : Nat) : (fillL i).length = 4096 := fillM_len 4096 i
theorem fill_zero : fillL 0 = zerosL 4096 := fillM_zero 4096
theorem fill_set (i : Nat) : (fillL i).set i (.int .i64 i) = fillL (i + 1) := fillM_set 4096 i
theorem fill_all (j : Nat) (h : j < 4096) : (fillL 4096)[j]? = some (.int .i64 j) := fillM_all 4096 j h
theorem round_facts {c : Int} (hr : rightB c = true) : ∃ n : Nat, c = n ∧ 3 ≤ n ∧ n ≤ 9 ∧ (∀ k, k < roundsN n ↔ offN n k < 4096) ∧ (∀ k, offN n k < 4096 → offN n k = k * n ∧ 1 ≤ lnN n k ∧ offN n (k + 1) = offN n k + lnN n k) := by
  refine ⟨c.toNat, by rcases right_cases hr with rfl | rfl | rfl | rfl <;> rfl, ?_⟩
  rcases right_cases hr with rfl | rfl | rfl | rfl
  all_goals
    refine ⟨by decide, by decide, fun k => ?_, fun k h => ?_⟩
    · unfold roundsN offN; simp only [Int.reduceToNat]; omega
    · unfold lnN offN at *; simp only [Int.reduceToNat] at *; omega
set_option maxRecDepth 100000 in
set_option maxHeartbeats 2000000 in
theorem rounds_g (c : Int) (b : Nat) (w : World) (hB : Boxed w b 25 (.int .i64 c)) :
    SeqG Try.prog 40 #[.pointer (some ⟨b, 0, none⟩)] (encR c.toNat) (roundsL c) (fun k => k = b) (MR c.toNat) w := by
  intro l J Jx W hW hJ hJx hY h0
  have hbW : b < W.heap.size := Nat.lt_of_lt_of_le hB.lt hW.size
  replace hB := box_below hB hW hB.lt
  have c0 := hB.cell
  clear hW
  cases hr : rightB c
  · have hx : roundsL c = [] := by simp [roundsL, hr]
    rw [hx]
    clear hY hx
    refine callsIn_of_wp Try.func40 rfl trivial ?_ rfl
    simp only [Try.ntmps40, List.size_toArray, List.length_cons, List.length_nil, Nat.reduceAdd, Nat.reduceSub, Array.replicate_succ, Array.replicate_zero, List.push_toArray, List.append_toArray, List.nil_append, List.cons_append]
    gi_wp2_with (apply wpIn_label)
    refine ⟨trivial, ?_⟩
    refine (callsIn_wide.2 (right_at c false hr _)).mono ?_
    rintro e w1 ⟨rfl, b1⟩
    gi_wp2
    refine bodyPost_ret (results_none rfl _ _ _) rfl ?_
    exact ⟨⟨_, rfl⟩, .inl (abides_below hJ h0 b1)⟩
  · have hx : roundsL c = List.range (roundsN c.toNat) := by simp [roundsL, hr]
    rw [hx] at hY ⊢
    clear hx
    obtain ⟨n, rfl, hn3, hn9, hlt, hst⟩ := round_facts hr
    rw [Int.toNat_natCast] at hY ⊢
    have HY := Lib.hid hY
    clear hY
    have HLT := Lib.hid hlt
    clear hlt
    have HST := Lib.hid hst
    clear hst
    have hmk : ∀ W, (Instr.makeSlice 38 (.int .i64 4096) (.int .i64 4096)).run Try.prog W = .ok (.slice (some ⟨W.heap.size, 0, none⟩) 4096 4096) (W.alloc (.cells (zerosL 4096).toArray 3)) := fun W => run_make_ints 4096 (by omega) W
    refine callsIn_of_wp Try.func40 rfl trivial ?_ rfl
    simp only [Try.ntmps40, List.size_toArray, List.length_cons, List.length_nil, Nat.reduceAdd, Nat.reduceSub, Array.replicate_succ, Array.replicate_zero, List.push_toArray, List.append_toArray, List.nil_append, List.cons_append]
    gi_wp2_with (apply wpIn_label)
    refine ⟨trivial, ?_⟩
    refine (callsIn_wide.2 (right_at n true hr _)).mono ?_
    rintro e w1 ⟨rfl, b1⟩
    have hgW : W.heap.size ≤ w1.heap.size := b1.size
    have G0 : Blk (w1.alloc (.cells (zerosL 4096).toArray 3)) w1.heap.size 3 (fillL 0) := fill_zero ▸ Blk.new w1 _ _
    have e0 : Below W.heap.size W (w1.alloc (.cells (zerosL 4096).toArray 3)) := b1.alloc b1.size _
    gi_wp2_with fail
    generalize w1.alloc (.cells (zerosL 4096).toArray 3) = W2 at G0 e0 ⊢
    generalize w1.heap.size = g at G0 hgW ⊢
    clear b1 hmk c0
    gi_loopw [14] (fun s wr => ∃ i : Nat, i ≤ 4096 ∧ s = .int .i64 i ∧ Hid (Blk wr g 3 (fillL i) ∧ Below W.heap.size W wr)) (fun s _ => 4096 - (intOf s).toNat)
    case atStart => exact ⟨0, by omega, rfl, Lib.hid ⟨G0, e0⟩⟩
    case round =>
      obtain ⟨i, hi, rfl, hG⟩ := hrel
      by_cases hlti : i < 4096
      · have hi0 : (0 : Int) ≤ (i : Int) := by omega
        have hi1 : (i : Int) < 4096 := by omega
        have z0 := hG.out.1.frozen i
        obtain ⟨u, hu⟩ : ∃ u, (fillL i)[i]? = some u := ⟨_, List.getElem?_eq_getElem (by rw [fill_len]; exact hlti)⟩
        have cu := hG.out.1.cell hu
        clear hu
        gi_wp2_with fail
        go_roundw
        case rel => exact ⟨i + 1, by omega, by go_num, Lib.hid ⟨fill_set i ▸ hG.out.1.set i _, hG.out.2.setCell (p := ⟨g, i, none⟩) hgW _⟩⟩
        case measure => simp [intOf]; omega
      · obtain rfl : i = 4096 := by omega
        obtain ⟨G1, e1⟩ := hG.out
        obtain ⟨W3, rfl⟩ : ∃ W3, W3 = wr := ⟨_, rfl⟩
        have hM0 : MR n 0 W3.heap[g]? := ⟨_, G1, fill_len _, fun j _ hj => fill_all j hj⟩
        have hJ0 := abides_below hJ h0 e1
        have hB3 := box_below hB e1 hbW
        clear hG G0 e0 h0 G1 e1 hB
        gi_wp2_with fail
        gi_loopw [3, 5] (fun s q wr => ∃ k p : Nat, k ≤ roundsN n ∧ q = .int .i64 k ∧ s = .slice (some ⟨g, p, none⟩) (4096 - offN n k) (4096 - offN n k) ∧ Hid (k < roundsN n → p = offN n k) ∧ Hid (J k wr ∧ MR n k wr.heap[g]? ∧ Boxed wr b 25 (.int .i64 n))) (fun _ q _ => roundsN n - (intOf q).toNat)
        case atStart => exact ⟨0, 0, by omega, rfl, by simp [offN], Lib.hid (fun _ => by simp [offN]), Lib.hid ⟨hJ0, hM0, hB3⟩⟩
        case round =>
          obtain ⟨k, p, hk, rfl, rfl, hp, hS⟩ := hrel
          by_cases hltk : k < roundsN n
          · obtain rfl := hp.out hltk
            clear hp
            have ho := (HLT.out k).1 hltk
            obtain ⟨hok, hl1, hon⟩ := HST.out k ho
            have hln : lnN n k = min n (4096 - offN n k) := rfl
            obtain ⟨fn, tmps, assign, body, hy, hR⟩ := HY.out g k k wr hgW (by simp [hltk]) hS.out.1 hS.out.2.1
            obtain ⟨off, hoff⟩ : ∃ off, offN n k = off := ⟨_, rfl⟩
            obtain ⟨m, hm⟩ : ∃ m, lnN n k = m := ⟨_, rfl⟩
            obtain ⟨r, hr'⟩ : ∃ r, 4096 - off = r := ⟨_, rfl⟩
            dsimp only [encR] at hy
            rw [hoff, hm] at hon hy
            rw [hoff, hr', hm] at hln
            rw [hm] at hl1
            rw [hoff] at ho hok
            have HON := Lib.hid hon
            have HR := Lib.hid hR
            have cb := hS.out.2.2.cell
            simp only [hoff, hr']
            have hmn : (if r < n then (r : Int) else (n : Int)) = (m : Int) := by rw [hln]; split <;> omega
            have hm0 : (0 : Int) ≤ (m : Int) := by omega
            have hmr : (m : Int) ≤ (r : Int) := by omega
            have hr0 : (0 : Int) < (r : Int) := by omega
            have hkI : (k : Int) ≤ 4096 := by have := Nat.le_mul_of_pos_right k (show 0 < n by omega); omega
            have hk0 : (0 : Int) ≤ (k : Int) := by omega
            have HX := Lib.hid (show offN n k = off ∧ lnN n k = m ∧ 4096 - off = r ∧ off < 4096 ∧ 1 ≤ m ∧ m ≤ r from ⟨hoff, hm, hr', ho, hl1, by omega⟩)
            clear hR hon hok hln hl1 hoff hm hr' ho hltk hk
            gi_wp2_with fail
            all_goals
              refine HR.out.mono ?_
              rintro e W5 (⟨rfl, hJ5, hK5, hM5⟩ | ⟨rfl, hJx5⟩)
              · gi_wp2
                go_roundw
                case rel =>
                  obtain ⟨x1, x2, x3, x4, x5, x6⟩ := HX.out
                  have x7 := HON.out
                  have x8 := HLT.out (k + 1)
                  have hk1 : k < roundsN n := (HLT.out k).2 (by omega)
                  (repeat apply Exists.intro)
                  refine ⟨?_, rfl⟩
                  by_cases hrm : r = m
                  · first
                      | (exfalso; omega)
                      | exact ⟨k + 1, off, by omega, by go_num, by rw [x7, show 4096 - (off + m) = 0 by omega], Lib.hid (fun h => by have := x8.1 h; omega), Lib.hid ⟨hJ5, hM5, (hK5 b rfl).trans hS.out.2.2⟩⟩
                  · first
                      | (exfalso; omega)
                      | exact ⟨k + 1, off + m, by omega, by go_num, by rw [x7, show 4096 - (off + m) = r - m by omega], Lib.hid (fun _ => x7.symm), Lib.hid ⟨hJ5, hM5, (hK5 b rfl).trans hS.out.2.2⟩⟩
                case measure =>
                  have hk1 : k < roundsN n := (HLT.out k).2 (by have := HX.out; omega)
                  simp [intOf]; omega
              · gi_wp2
                refine bodyPost_ret (results_none rfl _ _ _) rfl ?_
                have hk1 : k < roundsN n := (HLT.out k).2 (by have := HX.out; omega)
                exact ⟨⟨_, rfl⟩, .inr ⟨k, by simpa using hk1, hJx5⟩⟩
          · obtain rfl : k = roundsN n := by omega
            have hz : 4096 - offN n (roundsN n) = 0 := by
              have := HLT.out (roundsN n)
              omega
            rw [hz]
            gi_wp2
            refine bodyPost_end (results_none rfl _ _ _) rfl ?_
            exact ⟨⟨_, rfl⟩, .inl (by simpa using hS.out.1)⟩
end Go.Proofs.Ytkpgdchhdhkpdaa
