
/- The document's votes: Add; which are the same. -/
import Derived.Test.YtkohpfkgdigaiaaBbE
import Derived.Deep.Cut
namespace Go.Proofs.Ytkohpfkgdigaiaa
open Go.RowKit
/-- The document's votes as a value. -/
def VD (c : Int) (hs : List Bool) : Value := .agg (voteL c hs).toArray
set_option maxRecDepth 100000 in
set_option maxHeartbeats 1000000 in
theorem refvadd_no (c p : Int) (hs : List Bool) (hl : hs.length = 9) (hp : inB p 0 c = false) (w : World) :
    Calls Try.prog 28 #[VD c hs, .int .i64 p] w fun e w' => e = .returned (.tuple #[VD c hs, .bool false, .int .i64 2]) ∧ Below w.heap.size w w' := by
  obtain ⟨a0, a1, a2, a3, a4, a5, a6, a7, a8, rfl⟩ := nine hl
  change Calls Try.prog 28 #[.agg #[.int .i64 c, .bool a0, .bool a1, .bool a2, .bool a3, .bool a4, .bool a5, .bool a6, .bool a7, .bool a8], .int .i64 p] w fun e w' => e = .returned (.tuple #[.agg #[.int .i64 c, .bool a0, .bool a1, .bool a2, .bool a3, .bool a4, .bool a5, .bool a6, .bool a7, .bool a8], .bool false, .int .i64 2]) ∧ Below w.heap.size w w'
  go_enter Try.func28, Try.ntmps28
  go_wp2_with fail
  refine (refPlace_at _ _ _ hp _).mono ?_
  rintro e w' ⟨rfl, rfl⟩
  go_wp2
  go_returns
  exact ⟨rfl, by go_grown⟩
set_option maxRecDepth 100000 in
set_option maxHeartbeats 1000000 in
theorem refvadd_yes (c : Int) (k : Nat) (hk : k < 9) (hs : List Bool) (hl : hs.length = 9) (hp : inB k 0 c = true) (w : World) :
    Calls Try.prog 28 #[VD c hs, .int .i64 k] w fun e w' => e = .returned (.tuple #[VD c (hs.set k true), .bool (!hs.getD k false), .int .i64 0]) ∧ Below w.heap.size w w' := by
  obtain ⟨v, hv⟩ : ∃ v, hs.getD k false = v := ⟨_, rfl⟩
  rw [hv]
  have hk0 : (0 : Int) ≤ (k : Int) := by omega
  have hk9 : (k : Int) < 9 := by omega
  obtain ⟨ks, hks⟩ : ∃ ks, hs.set k true = ks := ⟨_, rfl⟩
  have hl2 : ks.length = 9 := by rw [← hks]; simp [hl]
  have hset : (voteL c hs).set (1 + k) (.bool true) = voteL c ks := by rw [← hks, Nat.add_comm]; simp [voteL, List.set_cons_succ]
  have hget : (voteL c hs)[1 + k]? = some (.bool v) := by
    rw [← hv, Nat.add_comm]
    have : k < hs.length := by omega
    simp [voteL, this]
  rw [hks]
  clear hks hv
  obtain ⟨a0, a1, a2, a3, a4, a5, a6, a7, a8, rfl⟩ := nine hl
  obtain ⟨b0, b1, b2, b3, b4, b5, b6, b7, b8, rfl⟩ := nine hl2
  have X := (Blk.new w 58 (voteL c [a0, a1, a2, a3, a4, a5, a6, a7, a8])).alloc (.cells #[.int .i64 0, .bool false, .bool false, .bool false, .bool false, .bool false, .bool false, .bool false, .bool false, .bool false] 58)
  have ck := X.cell hget
  have zk := X.frozen (1 + k)
  simp only [voteL, List.map_cons, List.map_nil] at ck zk hset
  clear hget hl hl2 X
  change Calls Try.prog 28 #[.agg #[.int .i64 c, .bool a0, .bool a1, .bool a2, .bool a3, .bool a4, .bool a5, .bool a6, .bool a7, .bool a8], .int .i64 k] w fun e w' => e = .returned (.tuple #[.agg #[.int .i64 c, .bool b0, .bool b1, .bool b2, .bool b3, .bool b4, .bool b5, .bool b6, .bool b7, .bool b8], .bool (!v), .int .i64 0]) ∧ Below w.heap.size w w'
  go_enter Try.func28, Try.ntmps28
  go_wp2_with fail
  refine (refPlace_at _ _ _ hp _).mono ?_
  rintro e w' ⟨rfl, rfl⟩
  go_wp2
  go_returns
  exact ⟨rfl, by go_grown⟩
theorem refvadd_any (c p : Int) (hs : List Bool) (hl : hs.length = 9) (hr : rightB c = true) (w : World) :
    Calls Try.prog 28 #[VD c hs, .int .i64 p] w fun e w' => e = .returned (.tuple #[VD c (addL c p hs), .bool (addB c p hs), .int .i64 (addE c p)]) ∧ Below w.heap.size w w' := by
  cases hp : inB p 0 c
  · rw [show addB c p hs = false by simp [addB, hp], show addE c p = 2 by simp [addE, hp], show addL c p hs = hs by simp [addL, hp]]
    exact refvadd_no c p hs hl hp w
  · obtain ⟨k, rfl⟩ : ∃ k : Nat, p = k := ⟨p.toNat, by unfold inB at hp; simp at hp; omega⟩
    have hk : k < 9 := by have := right_bd hr; unfold inB at hp; simp at hp; omega
    rw [show addB c k hs = !hs.getD k false by simp [addB, hp], show addE c k = 0 by simp [addE, hp], show addL c k hs = hs.set k true by simp [addL, hp]]
    exact refvadd_yes c k hk hs hl hp w
set_option maxRecDepth 100000 in
set_option maxHeartbeats 400000 in
theorem eq9b (a0 a1 a2 a3 a4 a5 a6 a7 a8 b0 b1 b2 b3 b4 b5 b6 b7 b8 : Bool) (w : World) :
    (Op.equalIn 9999 56 (.agg #[.bool a0, .bool a1, .bool a2, .bool a3, .bool a4, .bool a5, .bool a6, .bool a7, .bool a8]) (.agg #[.bool b0, .bool b1, .bool b2, .bool b3, .bool b4, .bool b5, .bool b6, .bool b7, .bool b8])).run Try.prog w =
      .ok (([a0, a1, a2, a3, a4, a5, a6, a7, a8] : List Bool) == [b0, b1, b2, b3, b4, b5, b6, b7, b8]) w := by
  have uB := Try.underlying4
  have aB := Try.isAgg4
  have zB := Try.sizeOf4
  rw [show (9999 : Nat) = 9998 + 1 from rfl, Op.equalIn]
  simp only [Sem.run_bind, run_underlying Try.underlying56, Result.andThen_ok]
  simp only [Std.Legacy.Range.forIn_eq_forIn_range', Std.Legacy.Range.size, Nat.sub_zero, Nat.add_sub_cancel, Nat.div_one, List.range'_succ, List.range'_zero, List.forIn_cons, List.forIn_nil]
  go_simp
  by_cases h0 : a0 = b0
  case neg => simp [h0]
  by_cases h1 : a1 = b1
  case neg => simp [h0, h1]
  by_cases h2 : a2 = b2
  case neg => simp [h0, h1, h2]
  by_cases h3 : a3 = b3
  case neg => simp [h0, h1, h2, h3]
  by_cases h4 : a4 = b4
  case neg => simp [h0, h1, h2, h3, h4]
  by_cases h5 : a5 = b5
  case neg => simp [h0, h1, h2, h3, h4, h5]
  by_cases h6 : a6 = b6
  case neg => simp [h0, h1, h2, h3, h4, h5, h6]
  by_cases h7 : a7 = b7
  case neg => simp [h0, h1, h2, h3, h4, h5, h6, h7]
  by_cases h8 : a8 = b8
  case neg => simp [h0, h1, h2, h3, h4, h5, h6, h7, h8]
  simp [h0, h1, h2, h3, h4, h5, h6, h7, h8]
theorem eqV (c : Int) (a0 a1 a2 a3 a4 a5 a6 a7 a8 b0 b1 b2 b3 b4 b5 b6 b7 b8 : Bool) (w : World) :
    (binOp .eql 58 (.agg #[.int .i64 c, .bool a0, .bool a1, .bool a2, .bool a3, .bool a4, .bool a5, .bool a6, .bool a7, .bool a8]) (.agg #[.int .i64 c, .bool b0, .bool b1, .bool b2, .bool b3, .bool b4, .bool b5, .bool b6, .bool b7, .bool b8])).run Try.prog w =
      .ok (.bool (([a0, a1, a2, a3, a4, a5, a6, a7, a8] : List Bool) == [b0, b1, b2, b3, b4, b5, b6, b7, b8])) w := by
  have h := eq9b a0 a1 a2 a3 a4 a5 a6 a7 a8 b0 b1 b2 b3 b4 b5 b6 b7 b8 w
  generalize (([a0, a1, a2, a3, a4, a5, a6, a7, a8] : List Bool) == [b0, b1, b2, b3, b4, b5, b6, b7, b8]) = q at h ⊢
  go_simp
  cases q <;> rfl
end Go.Proofs.Ytkohpfkgdigaiaa
