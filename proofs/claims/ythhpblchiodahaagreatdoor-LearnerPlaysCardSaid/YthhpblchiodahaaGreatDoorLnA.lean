
/- Package learner: what a learner is; its map of what was heard. -/
import Derived.Test.YthhpblchiodahaaGreatDoorMapG
import Derived.Test.YthhpblchiodahaaGreatDoorPrC
import Derived.Test.YthhpblchiodahaaGreatDoorLnB
import Derived.Test.YthhpblchiodahaaGreatDoorEqs
import Derived.DeepKeys5
namespace Go.Proofs.YthhpblchiodahaaGreatDoor
set_option linter.unusedSimpArgs false
set_option linter.unusedVariables false
open Go.RowKit Go.Maps
theorem laidOutL : laidOutB Tryz.prog = true := by kernel_rfl
def okB (x : Int × Int) : Prop := (Lit.int .i64 x.1).wf = true ∧ (Lit.int .i64 x.2).wf = true
def ekB (x : Int × Int) : Value := .agg #[.int .i64 x.1, .int .i64 x.2]
theorem keyB : KeyE Tryz.prog 66 okB ekB where
  keyed := Keyed.of_law (deep_law_gate laidOutL (of_decide_eq_true (by kernel_rfl)) (of_decide_eq_true (by kernel_rfl)) (by kernel_rfl) (by kernel_rfl))
  reads := by
    rintro ⟨r, p⟩ ⟨h1, h2⟩
    simp only at h1 h2
    refine ⟨.string (keyBytes [.int .i64 r, .int .i64 p]), ?_⟩
    have hkt : Tryz.prog.keyType 66 = true := by kernel_rfl
    have hcs : Tryz.prog.cellsOf 66 = 2 := by kernel_rfl
    have hci : Tryz.prog.cellsOf 3 = 1 := by kernel_rfl
    have hc6 : Tryz.prog.cellsOf 2 = 1 := by kernel_rfl
    unfold keyOf ekB
    rw [Tryz.underlying66]
    obtain ⟨m, hm⟩ : ∃ m, Tryz.prog.types.size = m + 1 := ⟨Tryz.prog.types.size - 1, of_decide_eq_true (by kernel_rfl)⟩
    rw [hm]
    simp [hkt, Value.formed, Tryz.underlying66, hcs, Program.keyLits, Value.cells, Tryz.underlying3, Tryz.underlying2, hci, hc6, h1, h2]
  inj := by
    rintro ⟨a, b⟩ ⟨c, d⟩ h
    simp [ekB] at h
    exact Prod.ext h.1 h.2
/-- What was heard by a ballot. -/
structure Hd where (k m n : Int) (s : ByteArray) (vs : List Bool)
def Hd.ok (h : Hd) : Prop := h.vs.length = 9
def evH (h : Hd) : Value := .agg (#[.int .i64 h.k, .int .i64 h.m, .int .i64 h.n, .string h.s] ++ (h.vs.map Value.bool).toArray)
abbrev HMap := List ((Int × Int) × Hd)
def MapH (W : World) (b : Nat) (L : HMap) : Prop := MapG Tryz.prog 66 ekB evH W b L
/-- A learner: its entry, whether it is known, choir, slot. -/
structure Lrn where (k m n : Int) (s : ByteArray) (is : Bool) (c sl : Int)
def lrnL (A : Lrn) (b : Nat) : List Value := [.int .i64 A.k, .int .i64 A.m, .int .i64 A.n, .string A.s, .bool A.is, .int .i64 A.c, .int .i64 A.sl, .map (some b)]
def LW (W : World) (g b : Nat) (A : Lrn) (L : HMap) : Prop := Blk W g 62 (lrnL A b) ∧ MapH W b L
theorem LW.lt {W : World} {g b : Nat} {A : Lrn} {L : HMap} (h : LW W g b A L) : g < W.heap.size := h.1.lt
theorem LW.ltb {W : World} {g b : Nat} {A : Lrn} {L : HMap} (h : LW W g b A L) : b < W.heap.size := MapG.lt h.2
theorem LW.ne {W : World} {g b : Nat} {A : Lrn} {L : HMap} (h : LW W g b A L) : g ≠ b := by
  rintro rfl
  obtain ⟨hb, es, clock, h2, -⟩ := h
  rw [show W.heap[g]? = _ from hb] at h2
  cases h2
theorem LW.step {W w1 : World} {g b : Nat} {A : Lrn} {L : HMap} (h : LW W g b A L) (hb : Below W.heap.size W w1) : LW w1 g b A L := ⟨h.1.step hb, MapG.step h.2 hb⟩
theorem LW.kx {W W' : World} {g b : Nat} {A : Lrn} {L : HMap} {ws : List Nat} (h : LW W g b A L) (hk : Kx ws W W') (hw : g ∉ ws ∧ b ∉ ws) : LW W' g b A L := ⟨h.1.kx hk hw.1, MapG.kx h.2 hk hw.2⟩
set_option maxRecDepth 100000 in
set_option maxHeartbeats 400000 in
theorem none16_at (g : Nat) (c : Int) (b : Bool) (w : World) (hb : (c == 0) = b) (hc : w.cell? ⟨g, 5, none⟩ = some (.int .i64 c)) : Calls Tryz.prog 40 #[.pointer (some ⟨g, 0, none⟩)] w fun e w' => e = .returned (.bool b) ∧ w = w' := by
  by_cases h : c = 0
  · subst h
    obtain rfl : true = b := hb
    go_enter Tryz.func40, Tryz.ntmps40
    go_wp2
    go_ret
    exact ⟨rfl, rfl⟩
  · obtain rfl : b = false := by rw [← hb]; simp [h]
    go_enter Tryz.func40, Tryz.ntmps40
    go_wp2
    go_ret
    exact ⟨by simp, rfl⟩
set_option maxRecDepth 100000 in
set_option maxHeartbeats 400000 in
theorem none16_nil (w : World) : Calls Tryz.prog 40 #[.pointer none] w fun e w' => e = .returned (.bool true) ∧ w = w' := by
  go_enter Tryz.func40, Tryz.ntmps40
  go_wp2
  go_ret
  exact ⟨rfl, rfl⟩
end Go.Proofs.YthhpblchiodahaaGreatDoor
