
/- Rows of bytes; package text: Fold, and the document's. -/
import Derived.Test.YtehjglaofhgjfaaDoorTyB
import Derived.Laws.IdiomStrings
namespace Go.Proofs.YtehjglaofhgjfaaDoor
set_option linter.unusedSimpArgs false
set_option linter.unusedVariables false
open Go.RowKit

theorem Blk.newV {W : World} {g : Nat} (hg : W.heap.size = g) (t : TypeId) (cs : Array Value) : Blk (W.alloc (.cells cs t)) g t cs.toList := hg ▸ World.alloc_heap_new W _
def encB (b : UInt8) : Value := .int .u8 b.toNat
/-- Block g begins with these bytes, none of them shared by a string. -/
def ByR (W : World) (g : Nat) (l : BL) : Prop := ∃ (pad : List Value) (fz : Nat × Nat), W.heap[g]? = some (.cells (l.map encB ++ pad).toArray 5 fz) ∧ (l.length ≤ fz.1 ∨ fz = (0, 0))
theorem ByR.lt {W : World} {g : Nat} {l : BL} (h : ByR W g l) : g < W.heap.size := by
  obtain ⟨p, fz, h, -⟩ := h
  exact (Array.getElem?_eq_some_iff.1 h).1
theorem ByR.step {W W' : World} {g : Nat} {l : BL} (h : ByR W g l) (hb : Below W.heap.size W W') : ByR W' g l := by
  have hl := h.lt
  obtain ⟨p, fz, h, k⟩ := h
  exact ⟨p, fz, (hb.block g hl).trans h, k⟩
theorem ByR.kx {ws : List Nat} {W W' : World} {g : Nat} {l : BL} (h : ByR W g l) (hb : Kx ws W W') (hw : g ∉ ws) : ByR W' g l := by
  have hl := h.lt
  obtain ⟨p, fz, h, k⟩ := h
  exact ⟨p, fz, (hb.block g hl hw).trans h, k⟩
theorem ByR.cell {W : World} {g : Nat} {l : BL} (h : ByR W g l) {j : Nat} {b : UInt8} (hj : l[j]? = some b) : W.cell? ⟨g, j, none⟩ = some (.int .u8 b.toNat) := by
  obtain ⟨p, fz, h, k⟩ := h
  have hlt := (List.getElem?_eq_some_iff.1 hj).1
  have : (l.map encB ++ p)[j]? = some (.int .u8 b.toNat) := by
    rw [List.getElem?_append_left (by rw [List.length_map]; exact hlt), List.getElem?_map, hj]; rfl
  simp [World.cell?, h, this]
theorem ByR.frozen {W : World} {g : Nat} {l : BL} (h : ByR W g l) {j : Nat} (hj : j < l.length) : W.frozen? ⟨g, j, none⟩ = false := by
  obtain ⟨p, fz, h, k⟩ := h
  rcases k with k | rfl
  · simp [World.frozen?, h]; omega
  · simp [World.frozen?, h]
theorem ByR.set {W : World} {g : Nat} {l : BL} (h : ByR W g l) (j : Nat) (hj : j < l.length) (b : UInt8) : ByR (W.setCell ⟨g, j, none⟩ (.int .u8 b.toNat)) g (l.set j b) := by
  have hl := h.lt
  obtain ⟨p, fz, h, k⟩ := h
  have hg : W.heap[g] = .cells (l.map encB ++ p).toArray 5 fz := by simpa [Array.getElem?_eq_getElem hl] using h
  refine ⟨p, fz, ?_, by rw [List.length_set]; exact k⟩
  show (W.heap.modify g _)[g]? = _
  rw [Array.getElem?_eq_getElem (by rw [Array.size_modify]; exact hl), Array.getElem_modify_self, hg]
  have e : (l.map encB ++ p).set j (.int .u8 b.toNat) = (l.set j b).map encB ++ p := by
    rw [List.set_append_left _ _ (by rw [List.length_map]; exact hj), List.map_set]; rfl
  rw [← e]
  simp
theorem bytes_made (W : World) (s : ByteArray) : ∃ cap W', (convert 9 42 (.string s)).run Tryd.prog W = .ok (.slice (some ⟨W.heap.size, 0, none⟩) s.size cap) W' ∧ ByR W' W.heap.size s.data.toList ∧ Below W.heap.size W W' := by
  have hrow : bytesRow s (grownCap W s.size 0 5) = (s.data.toList.map encB ++ List.replicate (grownCap W s.size 0 5 - s.size) (Value.int .u8 0)).toArray := by
    apply Array.toList_inj.1
    simp [bytesRow, encB]
  refine ⟨_, _, run_bytes_of_string W 9 42 5 s Tryd.underlying9 Tryd.underlying42 Tryd.underlying5,
    ⟨List.replicate (grownCap W s.size 0 5 - s.size) (.int .u8 0), ((bytesRow s (grownCap W s.size 0 5)).size, (bytesRow s (grownCap W s.size 0 5)).size + 1), ?_, .inl ?_⟩, ?_⟩
  · rw [show W.heap.size = W.drew.heap.size from rfl, World.alloc_heap_new, ← hrow]
  · rw [← Lib.size_eq, hrow]
    simp [← Lib.size_eq]
  · exact (Below.refl _ W).drew.alloc (Nat.le_refl _) _
theorem ByR.back {W : World} {g : Nat} {l : BL} (h : ByR W g l) (cap : Nat) : (convert 42 9 (.slice (some ⟨g, 0, none⟩) l.length cap)).run Tryd.prog W = .ok (.string (mkS l)) W := by
  refine run_convert_bytes_back W 42 9 5 ⟨g, 0, none⟩ cap l Tryd.underlying42 Tryd.underlying5 Tryd.underlying9 fun j hj => ?_
  rw [show (⟨g, 0, none⟩ : Addr).add j = ⟨g, j, none⟩ by simp [Addr.add_lit]]
  exact h.cell (List.getElem?_eq_getElem hj)
def foldS (s : ByteArray) : ByteArray := mkS (foldL s.data.toList)
theorem or32 (c : UInt8) (h : 65 ≤ c.toNat ∧ c.toNat ≤ 90) : ((foldB c).toNat : Int) = (c.toNat : Int) + 32 := by rw [foldB_nat, if_pos h]; omega
theorem or32_run : ∀ m : Fin 26, ((65 + m.1 : Nat) ||| 32) = 65 + m.1 + 32 := by decide
theorem conv_empty (g c : Nat) (W : World) : (convert 42 9 (.slice (some ⟨g, 0, none⟩) 0 c)).run Tryd.prog W = .ok (.string ⟨#[]⟩) W :=
  run_convert_bytes_back W 42 9 5 ⟨g, 0, none⟩ c [] Tryd.underlying42 Tryd.underlying5 Tryd.underlying9 (fun j hj => by simp at hj)
def foldTo (l : BL) (i : Nat) : BL := foldL (l.take i) ++ l.drop i
theorem foldTo_zero (l : BL) : foldTo l 0 = l := by simp [foldTo, foldL]
theorem foldTo_len (l : BL) (i : Nat) : (foldTo l i).length = l.length := by simp [foldTo, foldL]; omega
theorem foldTo_end (l : BL) : foldTo l l.length = foldL l := by simp [foldTo]
theorem foldTo_at (l : BL) (i : Nat) (c : UInt8) (h : l[i]? = some c) : (foldTo l i)[i]? = some c ∧ (foldTo l i).set i (foldB c) = foldTo l (i + 1) := by
  obtain ⟨hi, rfl⟩ := List.getElem?_eq_some_iff.1 h
  have hl : (foldL (l.take i)).length = i := by simp [foldL]; omega
  have hd := List.drop_eq_getElem_cons hi
  constructor
  · unfold foldTo
    rw [List.getElem?_append_right (by omega), hl, hd]
    simp
  · unfold foldTo
    rw [List.set_append_right _ _ (by omega), hl, hd, Nat.sub_self, List.set_cons_zero, List.take_succ_eq_append_getElem hi]
    simp only [foldL, List.map_append, List.map_cons, List.map_nil, List.append_assoc, List.cons_append, List.nil_append]
theorem foldTo_same (l : BL) (i : Nat) (c : UInt8) (h : l[i]? = some c) (hc : foldB c = c) : foldTo l i = foldTo l (i + 1) := by
  obtain ⟨h1, h2⟩ := foldTo_at l i c h
  rw [← h2, hc]
  obtain ⟨hi, e⟩ := List.getElem?_eq_some_iff.1 h1
  rw [← e, List.set_getElem_self]
theorem or_fin : ∀ m : Fin 26, bits .or .u8 (65 + ((m.1 : Nat) : Int)) 32 = 65 + ((m.1 : Nat) : Int) + 32 := by decide
theorem or_nat (m : Nat) (h1 : 65 ≤ m) (h2 : m ≤ 90) : bits .or .u8 (m : Int) 32 = (m : Int) + 32 := by
  have := or_fin ⟨m - 65, by omega⟩
  simp only at this
  rw [show (65 : Int) + ((m - 65 : Nat) : Int) = (m : Int) by omega] at this
  exact this
set_option maxRecDepth 100000 in
set_option maxHeartbeats 2000000 in
theorem fold_any (s : ByteArray) (n : Nat) (hs0 : s.size = n) (hs : n ≤ 1000000000) (w : World) : Calls Tryd.prog 30 #[.string s] w fun e w' => e = .returned (.string (foldS s)) ∧ Below w.heap.size w w' := by
  have hn : s.data.toList.length = n := (Lib.size_eq s).symm.trans hs0
  obtain ⟨l, hl⟩ : ∃ l, s.data.toList = l := ⟨_, rfl⟩
  have hR : Hid (mkS (foldL l) = foldS s) := Lib.hid (by rw [← hl]; rfl)
  generalize foldS s = R at *
  obtain ⟨cap, W1, hcv, hB, hb⟩ := bytes_made w s
  rw [hl] at hB hn
  rw [hs0] at hcv
  generalize w.heap.size = g at *
  have hB0 : Hid (ByR W1 g (foldTo l 0)) := Lib.hid (by rw [foldTo_zero]; exact hB)
  have hbk := fun (W : World) (h : ByR W g (foldTo l n)) => h.back cap
  simp only [foldTo_len, hn] at hbk
  have HBK := Lib.hid hbk
  clear hbk hB hl
  go_enter Tryd.func30, Tryd.ntmps30
  go_wp2_with fail
  go_loopw [4,5,10] (fun _ _ v wr => ∃ i : Nat, v = .int .i64 i ∧ i ≤ n ∧ Hid (ByR wr g (foldTo l i)) ∧ Below g w wr) (fun _ _ v _ => n - (intOf v).toNat)
  case atStart => exact ⟨0, rfl, by omega, hB0, hb⟩
  case round =>
    obtain ⟨i, rfl, hi, hBy, hbw⟩ := hrel
    clear hB0 hb hcv
    by_cases hlt : i < n
    · obtain ⟨c, hc⟩ : ∃ c, l[i]? = some c := ⟨_, List.getElem?_eq_getElem (by omega)⟩
      obtain ⟨hc2, hset⟩ := foldTo_at l i c hc
      have hcell := hBy.out.cell hc2
      have hfz := hBy.out.frozen (j := i) (by rw [foldTo_len]; omega)
      have i0 : (0 : Int) ≤ (i : Int) := by omega
      have i1 : (i : Int) < (n : Int) := by omega
      have i2 : (i : Int) < 1000000000000 := by omega
      have c0 := c.toNat_lt
      obtain ⟨m, hm⟩ : ∃ m, c.toNat = m := ⟨_, rfl⟩
      by_cases h1 : 65 ≤ m
      · have h1' : (65 : Int) ≤ (m : Int) := by omega
        by_cases h2 : m ≤ 90
        · have h2' : (m : Int) ≤ 90 := by omega
          have hB2 := Lib.hid (hBy.out.set i (by rw [foldTo_len]; omega) (foldB c))
          rw [hset] at hB2
          have hor := or_nat m h1 h2
          have hf := foldB_nat c
          rw [if_pos (by omega)] at hf
          rw [hm] at hcell hf
          rw [hf] at hB2
          have hb2 : Below g w (wr.setCell ⟨g, i, none⟩ (.int .u8 ((m + 32 : Nat) : Int))) := hbw.setCell (Nat.le_refl _) _
          have m1 : (0 : Int) ≤ (m : Int) := by omega
          have m2 : (m : Int) < 256 := by omega
          clear hset hc hc2 hBy hf
          go_wp2_with fail
          go_roundw
          case rel => exact ⟨i + 1, by go_num, by omega, hB2, hb2⟩
          case measure => simp [intOf]; omega
        · have h2' : ¬ (m : Int) ≤ 90 := by omega
          have hB2 : Hid (ByR wr g (foldTo l (i + 1))) := Lib.hid (by rw [← foldTo_same l i c hc (by unfold foldB; rw [if_neg (by omega)])]; exact hBy.out)
          rw [hm] at hcell
          clear hset hc hc2 hBy
          go_wp2_with fail
          go_roundw
          case rel => exact ⟨i + 1, by go_num, by omega, hB2, hbw⟩
          case measure => simp [intOf]; omega
      · have h1' : ¬ (65 : Int) ≤ (m : Int) := by omega
        have hB2 : Hid (ByR wr g (foldTo l (i + 1))) := Lib.hid (by rw [← foldTo_same l i c hc (by unfold foldB; rw [if_neg (by omega)])]; exact hBy.out)
        rw [hm] at hcell
        clear hset hc hc2 hBy
        go_wp2_with fail
        go_roundw
        case rel => exact ⟨i + 1, by go_num, by omega, hB2, hbw⟩
        case measure => simp [intOf]; omega
    · obtain rfl : i = n := by omega
      have hbk := HBK.out _ hBy.out
      have i1 : ¬ (i : Int) < (i : Int) := by omega
      have e : Hid (mkS (foldTo l i) = R) := Lib.hid (by rw [← hR.out, ← hn, foldTo_end])
      go_wp2_with fail
      go_ret
      exact ⟨by rw [← e.out]; rfl, hbw⟩
set_option maxRecDepth 100000 in
set_option maxHeartbeats 2000000 in
theorem rfold_any (s : ByteArray) (n : Nat) (hs0 : s.size = n) (hs : n ≤ 1000000000) (w : World) : Calls Tryd.prog 31 #[.string s] w fun e w' => e = .returned (.string (foldS s)) ∧ Below w.heap.size w w' := by
  have hn : s.data.toList.length = n := (Lib.size_eq s).symm.trans hs0
  obtain ⟨l, hl⟩ : ∃ l, s.data.toList = l := ⟨_, rfl⟩
  have hR : Hid (mkS (foldL l) = foldS s) := Lib.hid (by rw [← hl]; rfl)
  generalize foldS s = R at *
  obtain ⟨cap, W1, hcv, hB, hb⟩ := bytes_made w s
  rw [hl] at hB hn
  rw [hs0] at hcv
  generalize w.heap.size = g at *
  have hB0 : Hid (ByR W1 g (foldTo l 0)) := Lib.hid (by rw [foldTo_zero]; exact hB)
  have hbk := fun (W : World) (h : ByR W g (foldTo l n)) => h.back cap
  simp only [foldTo_len, hn] at hbk
  have HBK := Lib.hid hbk
  clear hbk hB hl
  go_enter Tryd.func31, Tryd.ntmps31
  go_wp2_with fail
  go_loopw [4] (fun v wr => ∃ i : Nat, v = .int .i64 i ∧ i ≤ n ∧ Hid (ByR wr g (foldTo l i)) ∧ Below g w wr) (fun v _ => n - (intOf v).toNat)
  case atStart => exact ⟨0, rfl, by omega, hB0, hb⟩
  case round =>
    obtain ⟨i, rfl, hi, hBy, hbw⟩ := hrel
    clear hB0 hb hcv
    by_cases hlt : i < n
    · obtain ⟨c, hc⟩ : ∃ c, l[i]? = some c := ⟨_, List.getElem?_eq_getElem (by omega)⟩
      obtain ⟨hc2, hset⟩ := foldTo_at l i c hc
      have hcell := hBy.out.cell hc2
      have hfz := hBy.out.frozen (j := i) (by rw [foldTo_len]; omega)
      have i0 : (0 : Int) ≤ (i : Int) := by omega
      have i1 : (i : Int) < (n : Int) := by omega
      have i2 : (i : Int) < 1000000000000 := by omega
      have c0 := c.toNat_lt
      obtain ⟨m, hm⟩ : ∃ m, c.toNat = m := ⟨_, rfl⟩
      by_cases h1 : 65 ≤ m
      · have h1' : (65 : Int) ≤ (m : Int) := by omega
        by_cases h2 : m ≤ 90
        · have h2' : (m : Int) ≤ 90 := by omega
          have hB2 := Lib.hid (hBy.out.set i (by rw [foldTo_len]; omega) (foldB c))
          rw [hset] at hB2
          have hor := or_nat m h1 h2
          have hf := foldB_nat c
          rw [if_pos (by omega)] at hf
          rw [hm] at hcell hf
          rw [hf] at hB2
          have hb2 : Below g w (wr.setCell ⟨g, i, none⟩ (.int .u8 ((m + 32 : Nat) : Int))) := hbw.setCell (Nat.le_refl _) _
          have m1 : (0 : Int) ≤ (m : Int) := by omega
          have m2 : (m : Int) < 256 := by omega
          clear hset hc hc2 hBy hf
          go_wp2_with fail
          go_roundw
          case rel => exact ⟨i + 1, by go_num, by omega, hB2, hb2⟩
          case measure => simp [intOf]; omega
        · have h2' : ¬ (m : Int) ≤ 90 := by omega
          have hB2 : Hid (ByR wr g (foldTo l (i + 1))) := Lib.hid (by rw [← foldTo_same l i c hc (by unfold foldB; rw [if_neg (by omega)])]; exact hBy.out)
          rw [hm] at hcell
          clear hset hc hc2 hBy
          go_wp2_with fail
          go_roundw
          case rel => exact ⟨i + 1, by go_num, by omega, hB2, hbw⟩
          case measure => simp [intOf]; omega
      · have h1' : ¬ (65 : Int) ≤ (m : Int) := by omega
        have hB2 : Hid (ByR wr g (foldTo l (i + 1))) := Lib.hid (by rw [← foldTo_same l i c hc (by unfold foldB; rw [if_neg (by omega)])]; exact hBy.out)
        rw [hm] at hcell
        clear hset hc hc2 hBy
        go_wp2_with fail
        go_roundw
        case rel => exact ⟨i + 1, by go_num, by omega, hB2, hbw⟩
        case measure => simp [intOf]; omega
    · obtain rfl : i = n := by omega
      have hbk := HBK.out _ hBy.out
      have i1 : ¬ (i : Int) < (i : Int) := by omega
      have e : Hid (mkS (foldTo l i) = R) := Lib.hid (by rw [← hR.out, ← hn, foldTo_end])
      go_wp2_with fail
      go_ret
      exact ⟨by rw [← e.out]; rfl, hbw⟩
end Go.Proofs.YtehjglaofhgjfaaDoor
