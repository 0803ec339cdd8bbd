
/- Package proposer: the places of a set, one after the other. -/
import Derived.Test.YthhpblchiodahaaGreatDoorPrA
namespace Go.Proofs.YthhpblchiodahaaGreatDoor
set_option linter.unusedSimpArgs false
set_option linter.unusedVariables false
open Go.RowKit Go.Shelf
attribute [local go_sem] Oper.semAt_some
def SetF (b : Nat) : Value := .func (.func 117) #[] #[.pointer (some ⟨b, 0, none⟩)]
def setV (hs : List Bool) : Value := .agg (hs.map Value.bool).toArray
set_option maxRecDepth 100000 in
set_option maxHeartbeats 400000 in
theorem setall_any (hs : List Bool) (hl : hs.length = 9) (w : World) :
    Calls Tryz.prog 71 #[setV hs] w fun e w' => e = .returned (SetF w.heap.size) ∧ Blk w' w.heap.size 91 (hs.map Value.bool) ∧ Below w.heap.size w w' := by
  unfold SetF setV
  obtain ⟨a0, a1, a2, a3, a4, a5, a6, a7, a8, rfl⟩ := nine hl
  go_enter Tryz.func71, Tryz.ntmps71
  go_wp2
  go_returns
  exact ⟨rfl, Blk.new w 91 _, (Below.refl _ _).alloc (Nat.le_refl _) _⟩
theorem sidx0 (a0 a1 a2 a3 a4 a5 a6 a7 a8 : Bool) (w : World) : (Instr.index 91 (.agg #[.bool a0, .bool a1, .bool a2, .bool a3, .bool a4, .bool a5, .bool a6, .bool a7, .bool a8]) (.int .i64 0)).run Tryz.prog w = .ok (.bool a0) w := by kernel_rfl
theorem sidx1 (a0 a1 a2 a3 a4 a5 a6 a7 a8 : Bool) (w : World) : (Instr.index 91 (.agg #[.bool a0, .bool a1, .bool a2, .bool a3, .bool a4, .bool a5, .bool a6, .bool a7, .bool a8]) (.int .i64 1)).run Tryz.prog w = .ok (.bool a1) w := by kernel_rfl
theorem sidx2 (a0 a1 a2 a3 a4 a5 a6 a7 a8 : Bool) (w : World) : (Instr.index 91 (.agg #[.bool a0, .bool a1, .bool a2, .bool a3, .bool a4, .bool a5, .bool a6, .bool a7, .bool a8]) (.int .i64 2)).run Tryz.prog w = .ok (.bool a2) w := by kernel_rfl
theorem sidx3 (a0 a1 a2 a3 a4 a5 a6 a7 a8 : Bool) (w : World) : (Instr.index 91 (.agg #[.bool a0, .bool a1, .bool a2, .bool a3, .bool a4, .bool a5, .bool a6, .bool a7, .bool a8]) (.int .i64 3)).run Tryz.prog w = .ok (.bool a3) w := by kernel_rfl
theorem sidx4 (a0 a1 a2 a3 a4 a5 a6 a7 a8 : Bool) (w : World) : (Instr.index 91 (.agg #[.bool a0, .bool a1, .bool a2, .bool a3, .bool a4, .bool a5, .bool a6, .bool a7, .bool a8]) (.int .i64 4)).run Tryz.prog w = .ok (.bool a4) w := by kernel_rfl
theorem sidx5 (a0 a1 a2 a3 a4 a5 a6 a7 a8 : Bool) (w : World) : (Instr.index 91 (.agg #[.bool a0, .bool a1, .bool a2, .bool a3, .bool a4, .bool a5, .bool a6, .bool a7, .bool a8]) (.int .i64 5)).run Tryz.prog w = .ok (.bool a5) w := by kernel_rfl
theorem sidx6 (a0 a1 a2 a3 a4 a5 a6 a7 a8 : Bool) (w : World) : (Instr.index 91 (.agg #[.bool a0, .bool a1, .bool a2, .bool a3, .bool a4, .bool a5, .bool a6, .bool a7, .bool a8]) (.int .i64 6)).run Tryz.prog w = .ok (.bool a6) w := by kernel_rfl
theorem sidx7 (a0 a1 a2 a3 a4 a5 a6 a7 a8 : Bool) (w : World) : (Instr.index 91 (.agg #[.bool a0, .bool a1, .bool a2, .bool a3, .bool a4, .bool a5, .bool a6, .bool a7, .bool a8]) (.int .i64 7)).run Tryz.prog w = .ok (.bool a7) w := by kernel_rfl
theorem sidx8 (a0 a1 a2 a3 a4 a5 a6 a7 a8 : Bool) (w : World) : (Instr.index 91 (.agg #[.bool a0, .bool a1, .bool a2, .bool a3, .bool a4, .bool a5, .bool a6, .bool a7, .bool a8]) (.int .i64 8)).run Tryz.prog w = .ok (.bool a8) w := by kernel_rfl
set_option maxRecDepth 100000 in
set_option maxHeartbeats 2000000 in
theorem set_xs (b : Nat) (hs : List Bool) (w : World) (hl : hs.length = 9) (hB : Blk w b 91 (hs.map Value.bool)) :
    SeqXs Tryz.prog 117 #[.pointer (some ⟨b, 0, none⟩)] plEnc (plK 0 hs) (Kb fun _ => False) w := by
  obtain ⟨a0, a1, a2, a3, a4, a5, a6, a7, a8, rfl⟩ := nine hl
  clear hl
  generalize hhs : plK 0 [a0, a1, a2, a3, a4, a5, a6, a7, a8] = xs
  intro l J Jx W hW hJ hJx hY h0
  have hB' := hB.below hW hB.lt
  have c0 := hB'.cell (j := 0) rfl
  have c1 := hB'.cell (j := 1) rfl
  have c2 := hB'.cell (j := 2) rfl
  have c3 := hB'.cell (j := 3) rfl
  have c4 := hB'.cell (j := 4) rfl
  have c5 := hB'.cell (j := 5) rfl
  have c6 := hB'.cell (j := 6) rfl
  have c7 := hB'.cell (j := 7) rfl
  have c8 := hB'.cell (j := 8) rfl
  clear hB' hB
  have HY := Lib.hid hY
  clear hY
  have HH := Lib.hid hhs
  clear hhs
  refine callsIn_of_wp Tryz.func117 rfl trivial ?_ rfl
  simp only [Tryz.ntmps117, List.size_toArray, List.length_cons, List.length_nil, Nat.reduceAdd, Nat.reduceSub, Array.replicate_succ, Array.replicate_zero, List.push_toArray, List.append_toArray, List.nil_append, List.cons_append]
  refine wpIn_scope_wide ?_
  gi_wp2_with (apply wpIn_label)
  clear c0 c1 c2 c3 c4 c5 c6 c7 c8
  have hp0 : Hid (∃ pre : List Int, pre.length = 0 ∧ xs = pre ++ plK (0 : Nat) ([a0, a1, a2, a3, a4, a5, a6, a7, a8].drop 0)) := Lib.hid ⟨[], rfl, HH.out.symm⟩
  clear HH
  gi_loopw [6] (fun s wr => ∃ k n : Nat, k ≤ 9 ∧ s = .int .i64 k ∧ Hid (∃ pre : List Int, pre.length = n ∧ xs = pre ++ plK k ([a0, a1, a2, a3, a4, a5, a6, a7, a8].drop k)) ∧ J n wr) (fun s _ => (9 - intOf s).toNat)
  case atStart => exact ⟨0, 0, by omega, by simp, hp0, h0⟩
  case round =>
    obtain ⟨k, n, hk, rfl, hp, hJs⟩ := hrel
    clear hp0
    by_cases hlt : k < 9
    · have HP := Lib.hid (pl_round xs [a0, a1, a2, a3, a4, a5, a6, a7, a8] k hlt n hp.out)
      clear hp hk
      obtain rfl | rfl | rfl | rfl | rfl | rfl | rfl | rfl | rfl : k = 0 ∨ k = 1 ∨ k = 2 ∨ k = 3 ∨ k = 4 ∨ k = 5 ∨ k = 6 ∨ k = 7 ∨ k = 8 := by omega
      · cases a0
        · have hp' := Lib.hid (HP.out.2 rfl)
          clear HP
          have hix := sidx0 false a1 a2 a3 a4 a5 a6 a7 a8
          gi_wp2
          all_goals
            refine ⟨fun _ _ => trivial, ?_⟩
            gi_wp2
            go_roundw
            case rel => exact ⟨0 + 1, n, by omega, by simp, hp', hJs⟩
            case measure => simp [intOf]
        · obtain ⟨hx, hp'⟩ := HP.out.1 rfl
          replace hx : xs[n]? = some (0 : Int) := hx
          obtain ⟨fn, tmps, assign, body, hy, hR⟩ := HY.out n _ wr hx hJs
          have hlt' : n < xs.length := (List.getElem?_eq_some_iff.1 hx).1
          have HP' := Lib.hid hp'
          clear hp'
          have HX' := Lib.hid hx
          clear hx
          have HLT := Lib.hid hlt'
          clear hlt'
          have HR := Lib.hid hR
          clear hR HP
          dsimp only [plEnc] at hy
          have hix := sidx0 true a1 a2 a3 a4 a5 a6 a7 a8
          gi_wp2
          refine HR.out.mono ?_
          rintro e W3 (⟨rfl, hJ3, -⟩ | ⟨rfl, hJx3⟩)
          · gi_wp2
            go_roundw
            case rel => exact ⟨0 + 1, n + 1, by omega, by simp, HP', hJ3⟩
            case measure => simp [intOf]
          · gi_wp2
            rw [Exit.noGoto_normal]
            refine bodyPost_end (results_none rfl _ _ _) rfl ?_
            exact ⟨⟨_, rfl⟩, .inr ⟨n, HLT.out, hJx3⟩⟩
      · cases a1
        · have hp' := Lib.hid (HP.out.2 rfl)
          clear HP
          have hix := sidx1 a0 false a2 a3 a4 a5 a6 a7 a8
          gi_wp2
          all_goals
            refine ⟨fun _ _ => trivial, ?_⟩
            gi_wp2
            go_roundw
            case rel => exact ⟨1 + 1, n, by omega, by simp, hp', hJs⟩
            case measure => simp [intOf]
        · obtain ⟨hx, hp'⟩ := HP.out.1 rfl
          replace hx : xs[n]? = some (1 : Int) := hx
          obtain ⟨fn, tmps, assign, body, hy, hR⟩ := HY.out n _ wr hx hJs
          have hlt' : n < xs.length := (List.getElem?_eq_some_iff.1 hx).1
          have HP' := Lib.hid hp'
          clear hp'
          have HX' := Lib.hid hx
          clear hx
          have HLT := Lib.hid hlt'
          clear hlt'
          have HR := Lib.hid hR
          clear hR HP
          dsimp only [plEnc] at hy
          have hix := sidx1 a0 true a2 a3 a4 a5 a6 a7 a8
          gi_wp2
          refine HR.out.mono ?_
          rintro e W3 (⟨rfl, hJ3, -⟩ | ⟨rfl, hJx3⟩)
          · gi_wp2
            go_roundw
            case rel => exact ⟨1 + 1, n + 1, by omega, by simp, HP', hJ3⟩
            case measure => simp [intOf]
          · gi_wp2
            rw [Exit.noGoto_normal]
            refine bodyPost_end (results_none rfl _ _ _) rfl ?_
            exact ⟨⟨_, rfl⟩, .inr ⟨n, HLT.out, hJx3⟩⟩
      · cases a2
        · have hp' := Lib.hid (HP.out.2 rfl)
          clear HP
          have hix := sidx2 a0 a1 false a3 a4 a5 a6 a7 a8
          gi_wp2
          all_goals
            refine ⟨fun _ _ => trivial, ?_⟩
            gi_wp2
            go_roundw
            case rel => exact ⟨2 + 1, n, by omega, by simp, hp', hJs⟩
            case measure => simp [intOf]
        · obtain ⟨hx, hp'⟩ := HP.out.1 rfl
          replace hx : xs[n]? = some (2 : Int) := hx
          obtain ⟨fn, tmps, assign, body, hy, hR⟩ := HY.out n _ wr hx hJs
          have hlt' : n < xs.length := (List.getElem?_eq_some_iff.1 hx).1
          have HP' := Lib.hid hp'
          clear hp'
          have HX' := Lib.hid hx
          clear hx
          have HLT := Lib.hid hlt'
          clear hlt'
          have HR := Lib.hid hR
          clear hR HP
          dsimp only [plEnc] at hy
          have hix := sidx2 a0 a1 true a3 a4 a5 a6 a7 a8
          gi_wp2
          refine HR.out.mono ?_
          rintro e W3 (⟨rfl, hJ3, -⟩ | ⟨rfl, hJx3⟩)
          · gi_wp2
            go_roundw
            case rel => exact ⟨2 + 1, n + 1, by omega, by simp, HP', hJ3⟩
            case measure => simp [intOf]
          · gi_wp2
            rw [Exit.noGoto_normal]
            refine bodyPost_end (results_none rfl _ _ _) rfl ?_
            exact ⟨⟨_, rfl⟩, .inr ⟨n, HLT.out, hJx3⟩⟩
      · cases a3
        · have hp' := Lib.hid (HP.out.2 rfl)
          clear HP
          have hix := sidx3 a0 a1 a2 false a4 a5 a6 a7 a8
          gi_wp2
          all_goals
            refine ⟨fun _ _ => trivial, ?_⟩
            gi_wp2
            go_roundw
            case rel => exact ⟨3 + 1, n, by omega, by simp, hp', hJs⟩
            case measure => simp [intOf]
        · obtain ⟨hx, hp'⟩ := HP.out.1 rfl
          replace hx : xs[n]? = some (3 : Int) := hx
          obtain ⟨fn, tmps, assign, body, hy, hR⟩ := HY.out n _ wr hx hJs
          have hlt' : n < xs.length := (List.getElem?_eq_some_iff.1 hx).1
          have HP' := Lib.hid hp'
          clear hp'
          have HX' := Lib.hid hx
          clear hx
          have HLT := Lib.hid hlt'
          clear hlt'
          have HR := Lib.hid hR
          clear hR HP
          dsimp only [plEnc] at hy
          have hix := sidx3 a0 a1 a2 true a4 a5 a6 a7 a8
          gi_wp2
          refine HR.out.mono ?_
          rintro e W3 (⟨rfl, hJ3, -⟩ | ⟨rfl, hJx3⟩)
          · gi_wp2
            go_roundw
            case rel => exact ⟨3 + 1, n + 1, by omega, by simp, HP', hJ3⟩
            case measure => simp [intOf]
          · gi_wp2
            rw [Exit.noGoto_normal]
            refine bodyPost_end (results_none rfl _ _ _) rfl ?_
            exact ⟨⟨_, rfl⟩, .inr ⟨n, HLT.out, hJx3⟩⟩
      · cases a4
        · have hp' := Lib.hid (HP.out.2 rfl)
          clear HP
          have hix := sidx4 a0 a1 a2 a3 false a5 a6 a7 a8
          gi_wp2
          all_goals
            refine ⟨fun _ _ => trivial, ?_⟩
            gi_wp2
            go_roundw
            case rel => exact ⟨4 + 1, n, by omega, by simp, hp', hJs⟩
            case measure => simp [intOf]
        · obtain ⟨hx, hp'⟩ := HP.out.1 rfl
          replace hx : xs[n]? = some (4 : Int) := hx
          obtain ⟨fn, tmps, assign, body, hy, hR⟩ := HY.out n _ wr hx hJs
          have hlt' : n < xs.length := (List.getElem?_eq_some_iff.1 hx).1
          have HP' := Lib.hid hp'
          clear hp'
          have HX' := Lib.hid hx
          clear hx
          have HLT := Lib.hid hlt'
          clear hlt'
          have HR := Lib.hid hR
          clear hR HP
          dsimp only [plEnc] at hy
          have hix := sidx4 a0 a1 a2 a3 true a5 a6 a7 a8
          gi_wp2
          refine HR.out.mono ?_
          rintro e W3 (⟨rfl, hJ3, -⟩ | ⟨rfl, hJx3⟩)
          · gi_wp2
            go_roundw
            case rel => exact ⟨4 + 1, n + 1, by omega, by simp, HP', hJ3⟩
            case measure => simp [intOf]
          · gi_wp2
            rw [Exit.noGoto_normal]
            refine bodyPost_end (results_none rfl _ _ _) rfl ?_
            exact ⟨⟨_, rfl⟩, .inr ⟨n, HLT.out, hJx3⟩⟩
      · cases a5
        · have hp' := Lib.hid (HP.out.2 rfl)
          clear HP
          have hix := sidx5 a0 a1 a2 a3 a4 false a6 a7 a8
          gi_wp2
          all_goals
            refine ⟨fun _ _ => trivial, ?_⟩
            gi_wp2
            go_roundw
            case rel => exact ⟨5 + 1, n, by omega, by simp, hp', hJs⟩
            case measure => simp [intOf]
        · obtain ⟨hx, hp'⟩ := HP.out.1 rfl
          replace hx : xs[n]? = some (5 : Int) := hx
          obtain ⟨fn, tmps, assign, body, hy, hR⟩ := HY.out n _ wr hx hJs
          have hlt' : n < xs.length := (List.getElem?_eq_some_iff.1 hx).1
          have HP' := Lib.hid hp'
          clear hp'
          have HX' := Lib.hid hx
          clear hx
          have HLT := Lib.hid hlt'
          clear hlt'
          have HR := Lib.hid hR
          clear hR HP
          dsimp only [plEnc] at hy
          have hix := sidx5 a0 a1 a2 a3 a4 true a6 a7 a8
          gi_wp2
          refine HR.out.mono ?_
          rintro e W3 (⟨rfl, hJ3, -⟩ | ⟨rfl, hJx3⟩)
          · gi_wp2
            go_roundw
            case rel => exact ⟨5 + 1, n + 1, by omega, by simp, HP', hJ3⟩
            case measure => simp [intOf]
          · gi_wp2
            rw [Exit.noGoto_normal]
            refine bodyPost_end (results_none rfl _ _ _) rfl ?_
            exact ⟨⟨_, rfl⟩, .inr ⟨n, HLT.out, hJx3⟩⟩
      · cases a6
        · have hp' := Lib.hid (HP.out.2 rfl)
          clear HP
          have hix := sidx6 a0 a1 a2 a3 a4 a5 false a7 a8
          gi_wp2
          all_goals
            refine ⟨fun _ _ => trivial, ?_⟩
            gi_wp2
            go_roundw
            case rel => exact ⟨6 + 1, n, by omega, by simp, hp', hJs⟩
            case measure => simp [intOf]
        · obtain ⟨hx, hp'⟩ := HP.out.1 rfl
          replace hx : xs[n]? = some (6 : Int) := hx
          obtain ⟨fn, tmps, assign, body, hy, hR⟩ := HY.out n _ wr hx hJs
          have hlt' : n < xs.length := (List.getElem?_eq_some_iff.1 hx).1
          have HP' := Lib.hid hp'
          clear hp'
          have HX' := Lib.hid hx
          clear hx
          have HLT := Lib.hid hlt'
          clear hlt'
          have HR := Lib.hid hR
          clear hR HP
          dsimp only [plEnc] at hy
          have hix := sidx6 a0 a1 a2 a3 a4 a5 true a7 a8
          gi_wp2
          refine HR.out.mono ?_
          rintro e W3 (⟨rfl, hJ3, -⟩ | ⟨rfl, hJx3⟩)
          · gi_wp2
            go_roundw
            case rel => exact ⟨6 + 1, n + 1, by omega, by simp, HP', hJ3⟩
            case measure => simp [intOf]
          · gi_wp2
            rw [Exit.noGoto_normal]
            refine bodyPost_end (results_none rfl _ _ _) rfl ?_
            exact ⟨⟨_, rfl⟩, .inr ⟨n, HLT.out, hJx3⟩⟩
      · cases a7
        · have hp' := Lib.hid (HP.out.2 rfl)
          clear HP
          have hix := sidx7 a0 a1 a2 a3 a4 a5 a6 false a8
          gi_wp2
          all_goals
            refine ⟨fun _ _ => trivial, ?_⟩
            gi_wp2
            go_roundw
            case rel => exact ⟨7 + 1, n, by omega, by simp, hp', hJs⟩
            case measure => simp [intOf]
        · obtain ⟨hx, hp'⟩ := HP.out.1 rfl
          replace hx : xs[n]? = some (7 : Int) := hx
          obtain ⟨fn, tmps, assign, body, hy, hR⟩ := HY.out n _ wr hx hJs
          have hlt' : n < xs.length := (List.getElem?_eq_some_iff.1 hx).1
          have HP' := Lib.hid hp'
          clear hp'
          have HX' := Lib.hid hx
          clear hx
          have HLT := Lib.hid hlt'
          clear hlt'
          have HR := Lib.hid hR
          clear hR HP
          dsimp only [plEnc] at hy
          have hix := sidx7 a0 a1 a2 a3 a4 a5 a6 true a8
          gi_wp2
          refine HR.out.mono ?_
          rintro e W3 (⟨rfl, hJ3, -⟩ | ⟨rfl, hJx3⟩)
          · gi_wp2
            go_roundw
            case rel => exact ⟨7 + 1, n + 1, by omega, by simp, HP', hJ3⟩
            case measure => simp [intOf]
          · gi_wp2
            rw [Exit.noGoto_normal]
            refine bodyPost_end (results_none rfl _ _ _) rfl ?_
            exact ⟨⟨_, rfl⟩, .inr ⟨n, HLT.out, hJx3⟩⟩
      · cases a8
        · have hp' := Lib.hid (HP.out.2 rfl)
          clear HP
          have hix := sidx8 a0 a1 a2 a3 a4 a5 a6 a7 false
          gi_wp2
          all_goals
            refine ⟨fun _ _ => trivial, ?_⟩
            gi_wp2
            go_roundw
            case rel => exact ⟨8 + 1, n, by omega, by simp, hp', hJs⟩
            case measure => simp [intOf]
        · obtain ⟨hx, hp'⟩ := HP.out.1 rfl
          replace hx : xs[n]? = some (8 : Int) := hx
          obtain ⟨fn, tmps, assign, body, hy, hR⟩ := HY.out n _ wr hx hJs
          have hlt' : n < xs.length := (List.getElem?_eq_some_iff.1 hx).1
          have HP' := Lib.hid hp'
          clear hp'
          have HX' := Lib.hid hx
          clear hx
          have HLT := Lib.hid hlt'
          clear hlt'
          have HR := Lib.hid hR
          clear hR HP
          dsimp only [plEnc] at hy
          have hix := sidx8 a0 a1 a2 a3 a4 a5 a6 a7 true
          gi_wp2
          refine HR.out.mono ?_
          rintro e W3 (⟨rfl, hJ3, -⟩ | ⟨rfl, hJx3⟩)
          · gi_wp2
            go_roundw
            case rel => exact ⟨8 + 1, n + 1, by omega, by simp, HP', hJ3⟩
            case measure => simp [intOf]
          · gi_wp2
            rw [Exit.noGoto_normal]
            refine bodyPost_end (results_none rfl _ _ _) rfl ?_
            exact ⟨⟨_, rfl⟩, .inr ⟨n, HLT.out, hJx3⟩⟩
    · obtain rfl : k = 9 := by omega
      have hn : Hid (n = xs.length) := Lib.hid (by obtain ⟨pre, h1, h2⟩ := hp.out; rw [h2, ← h1]; simp [plK])
      clear hp
      gi_wp2
      rw [Exit.noGoto_normal]
      refine bodyPost_end (results_none rfl _ _ _) rfl ?_
      exact ⟨⟨_, rfl⟩, .inl (hn.out ▸ hJs)⟩
end Go.Proofs.YthhpblchiodahaaGreatDoor
