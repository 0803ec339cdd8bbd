
/- Package chat: Members' iterator. -/
import Derived.Test.YtndechodaegkiaaDoorChMb
namespace Go.Proofs.YtndechodaegkiaaDoor
open Go.RowKit Go.Shelf
attribute [local go_sem] Oper.semAt_some
theorem wpListIn_load_mid {F : Fence} {n : Nat} {P : Program} {w : World} {ops : Array Oper} {rest : List Oper} {op : Oper} {a : Act} {Q : Exit → Act → World → Prop} (hg : op.guard = none) (ty : TypeId) (x : Operand) (ho : op.op = .load ty x)
    (b o : Nat) (hx : a.eval x = .pointer (some ⟨b, o, none⟩)) (cs : List Value) (d : TypeDesc) (hc : w.rangeAt b o cs) (hu : P.underlying ty = some d) (hd : d.isRow = true) (hi : (P.info? ty).map (·.size) = some cs.length)
    (hK : wpListIn F n P ops Q rest (a.put op.dst (.agg cs.toArray)) w) : wpListIn F n P ops Q (op :: rest) a w := by
  refine wpListIn_plain hg fun K hK' => ?_
  unfold Oper.wpIn
  refine ⟨?_, ?_⟩
  · simp [Oper.about, ho]
  · rw [Oper.semAt_plain F _ _ (by rw [ho]; intro c hc'; cases hc')]
    have hr := run_loadVar_mid (P := P) w b o ty cs d hc hu hd hi
    simp [execOp, ho, hx, Instr.loadAt, Instr.sureAddr, Result.andThen, hr]
    exact hK' _ _ hK
def mems (k : Int) : List St → List Int
  | [] => []
  | s :: t => if s.inn then k :: mems (k + 1) t else mems (k + 1) t
theorem mem_round (xs : List Int) (M : List St) (k : Nat) (s : St) (hk : M[k]? = some s) (n : Nat) (h : ∃ pre : List Int, pre.length = n ∧ xs = pre ++ mems k (M.drop k)) :
    (s.inn = true → xs[n]? = some (k : Int) ∧ ∃ pre : List Int, pre.length = n + 1 ∧ xs = pre ++ mems (k + 1 : Nat) (M.drop (k + 1))) ∧
    (s.inn = false → ∃ pre : List Int, pre.length = n ∧ xs = pre ++ mems (k + 1 : Nat) (M.drop (k + 1))) := by
  obtain ⟨hlt, he⟩ := List.getElem?_eq_some_iff.1 hk
  obtain ⟨pre, hp, rfl⟩ := h
  rw [List.drop_eq_getElem_cons hlt, he]
  constructor
  · intro h
    simp only [mems]
    rw [if_pos h]
    refine ⟨by simp [← hp], pre ++ [(k : Int)], by simp [hp], by simp⟩
  · intro h
    simp only [mems]
    rw [if_neg (by simp [h])]
    exact ⟨pre, hp, by simp⟩
def mbEnc (x : Int) : Array Value := #[.int .i64 x]
set_option maxRecDepth 100000 in
set_option maxHeartbeats 2000000 in
theorem members_xs (b : Nat) (M : List St) (w : World) (hM : M.length = 16) (hB : Blk w b 77 (stsL M)) :
    SeqXs Tryd.prog 44 #[.pointer (some ⟨b, 0, none⟩)] mbEnc (mems 0 M) (Kb fun _ => False) w := by
  have hlen : (stsL M).length = 48 := by rw [stsL_len, hM]
  generalize hhs : mems 0 M = xs
  intro l J Jx W hW hJ hJx hY h0
  have hR := (hB.below hW hB.lt).range
  have hi1 : (Tryd.prog.info? 77).map (·.size) = some (stsL M).length := by rw [hlen]; exact info_sts
  have HY := Lib.hid hY
  clear hY
  have HH := Lib.hid hhs
  clear hhs
  refine callsIn_of_wp Tryd.func44 rfl trivial ?_ rfl
  simp only [Tryd.ntmps44, List.size_toArray, List.length_cons, List.length_nil, Nat.reduceAdd, Nat.reduceSub, Array.replicate_succ, Array.replicate_zero, List.push_toArray, List.append_toArray, List.nil_append, List.cons_append]
  refine wpIn_scope_wide ?_
  gi_wp2_with (first
    | (apply wpIn_label)
    | (refine wpListIn_load_mid rfl 77 (.tmp 1) rfl b 0 (by rfl) (stsL M) _ hR Tryd.underlying77 rfl hi1 ?_))
  have hp0 : Hid (∃ pre : List Int, pre.length = 0 ∧ xs = pre ++ mems (0 : Nat) (M.drop 0)) := Lib.hid ⟨[], rfl, HH.out.symm⟩
  clear HH hR hi1 hB hW
  gi_loopw [6] (fun s wr => ∃ k n : Nat, k ≤ 16 ∧ s = .int .i64 k ∧ Hid (∃ pre : List Int, pre.length = n ∧ xs = pre ++ mems k (M.drop k)) ∧ J n wr) (fun s _ => (16 - intOf s).toNat)
  case atStart => exact ⟨0, 0, by omega, by simp, hp0, h0⟩
  case round =>
    obtain ⟨k, n, hk, rfl, hp, hJs⟩ := hrel
    clear hp0
    by_cases hlt : k < 16
    · obtain ⟨s, hs⟩ : ∃ s, M[k]? = some s := ⟨M[k], by simp [hM, hlt]⟩
      have hix := run_index_st M k s hs hM wr
      have HP := mem_round xs M k s hs n hp.out
      obtain ⟨x1, x2, x3⟩ := s
      simp only at hix HP
      have hk0 : (0 : Int) ≤ (k : Int) := by omega
      have hk1 : (k : Int) < 16 := by omega
      have hbE := (Below.refl wr.heap.size wr).alloc (Nat.le_refl _) (.cells #[.bool x1, .int .i64 x2, .int .i64 x3] 64)
      have hJ1 := abides_below hJ hJs hbE
      clear hp hs hbE
      cases x1
      · have HP' := Lib.hid (HP.2 rfl)
        clear HP
        gi_wp2
        all_goals
          refine ⟨fun _ _ => trivial, ?_⟩
          gi_wp2
          go_roundw
          case rel => exact ⟨k + 1, n, by omega, by go_num, HP', hJ1⟩
          case measure => simp [intOf]; omega
      · obtain ⟨hx, hp'⟩ := HP.1 rfl
        obtain ⟨fn, tmps, assign, body, hy, hR⟩ := HY.out n _ _ hx hJ1
        have hlt' : n < xs.length := (List.getElem?_eq_some_iff.1 hx).1
        have HP' := Lib.hid hp'
        clear hp'
        have HX' := Lib.hid hx
        clear hx
        have HLT := Lib.hid hlt'
        clear hlt'
        have HR := Lib.hid hR
        clear hR HP
        dsimp only [mbEnc] at hy
        gi_wp2
        refine HR.out.mono ?_
        rintro e W3 (⟨rfl, hJ3, -⟩ | ⟨rfl, hJx3⟩)
        · gi_wp2
          go_roundw
          case rel => exact ⟨k + 1, n + 1, by omega, by go_num, HP', hJ3⟩
          case measure => simp [intOf]; omega
        · gi_wp2
          (try rw [Exit.noGoto_normal])
          refine bodyPost_end (results_none rfl _ _ _) rfl ?_
          exact ⟨⟨_, rfl⟩, .inr ⟨n, HLT.out, hJx3⟩⟩
    · obtain rfl : k = 16 := by omega
      have hpo := hp.out
      rw [List.drop_eq_nil_of_le (by omega)] at hpo
      obtain ⟨pre, hpl, hpx⟩ := hpo
      simp only [mems, List.append_nil] at hpx
      subst hpx hpl
      gi_wp2
      (try rw [Exit.noGoto_normal])
      refine bodyPost_end (results_none rfl _ _ _) rfl ?_
      exact ⟨⟨_, rfl⟩, .inl hJs⟩
end Go.Proofs.YtndechodaegkiaaDoor
