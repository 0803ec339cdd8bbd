
/- Comparing ballots, entries, what was accepted, acceptors. -/
import Derived.Test.YthhpblchiodahaaGreatDoorM1
namespace Go.Proofs.YthhpblchiodahaaGreatDoor
set_option linter.unusedSimpArgs false
set_option linter.unusedVariables false
open Go.RowKit
def eq2 (r1 p1 : Int) (r2 p2 : Int) : Bool := decide (r1 = r2 ∧ p1 = p2)
def eq4 (k1 m1 n1 : Int) (s1 : ByteArray) (k2 m2 n2 : Int) (s2 : ByteArray) : Bool := decide (k1 = k2 ∧ m1 = m2 ∧ n1 = n2 ∧ s1.toList = s2.toList)
def eq6 (r1 p1 k1 m1 n1 : Int) (s1 : ByteArray) (r2 p2 k2 m2 n2 : Int) (s2 : ByteArray) : Bool := decide (r1 = r2 ∧ p1 = p2 ∧ k1 = k2 ∧ m1 = m2 ∧ n1 = n2 ∧ s1.toList = s2.toList)
def eq8 (r1 p1 a1 b1 k1 m1 n1 : Int) (s1 : ByteArray) (r2 p2 a2 b2 k2 m2 n2 : Int) (s2 : ByteArray) : Bool := decide (r1 = r2 ∧ p1 = p2 ∧ a1 = a2 ∧ b1 = b2 ∧ k1 = k2 ∧ m1 = m2 ∧ n1 = n2 ∧ s1.toList = s2.toList)
set_option maxRecDepth 100000 in
set_option maxHeartbeats 400000 in
theorem eq_ballot (r1 p1 : Int) (r2 p2 : Int) (w : World) : (binOp .eql 66 (.agg #[.int .i64 r1, .int .i64 p1]) (.agg #[.int .i64 r2, .int .i64 p2])).run Tryz.prog w = .ok (.bool ((eq2 r1 p1 r2 p2))) w := by
  unfold eq2
  go_simp
  by_cases h0 : r1 = r2
  case neg => simp [h0]
  by_cases h1 : p1 = p2
  case neg => simp [h0, h1]
  simp [h0, h1]
set_option maxRecDepth 100000 in
set_option maxHeartbeats 400000 in
theorem ne_ballot (r1 p1 : Int) (r2 p2 : Int) (w : World) : (binOp .neq 66 (.agg #[.int .i64 r1, .int .i64 p1]) (.agg #[.int .i64 r2, .int .i64 p2])).run Tryz.prog w = .ok (.bool (!(eq2 r1 p1 r2 p2))) w := by
  unfold eq2
  go_simp
  by_cases h0 : r1 = r2
  case neg => simp [h0]
  by_cases h1 : p1 = p2
  case neg => simp [h0, h1]
  simp [h0, h1]
set_option maxRecDepth 100000 in
set_option maxHeartbeats 400000 in
theorem eq_entry (k1 m1 n1 : Int) (s1 : ByteArray) (k2 m2 n2 : Int) (s2 : ByteArray) (w : World) : (binOp .eql 24 (.agg #[.int .i64 k1, .int .i64 m1, .int .i64 n1, .string s1]) (.agg #[.int .i64 k2, .int .i64 m2, .int .i64 n2, .string s2])).run Tryz.prog w = .ok (.bool ((eq4 k1 m1 n1 s1 k2 m2 n2 s2))) w := by
  unfold eq4
  go_simp
  by_cases h0 : k1 = k2
  case neg => simp [h0]
  by_cases h1 : m1 = m2
  case neg => simp [h0, h1]
  by_cases h2 : n1 = n2
  case neg => simp [h0, h1, h2]
  by_cases h3 : s1.toList = s2.toList
  case neg => simp [h0, h1, h2, h3]
  simp [h0, h1, h2, h3]
set_option maxRecDepth 100000 in
set_option maxHeartbeats 400000 in
theorem ne_entry (k1 m1 n1 : Int) (s1 : ByteArray) (k2 m2 n2 : Int) (s2 : ByteArray) (w : World) : (binOp .neq 24 (.agg #[.int .i64 k1, .int .i64 m1, .int .i64 n1, .string s1]) (.agg #[.int .i64 k2, .int .i64 m2, .int .i64 n2, .string s2])).run Tryz.prog w = .ok (.bool (!(eq4 k1 m1 n1 s1 k2 m2 n2 s2))) w := by
  unfold eq4
  go_simp
  by_cases h0 : k1 = k2
  case neg => simp [h0]
  by_cases h1 : m1 = m2
  case neg => simp [h0, h1]
  by_cases h2 : n1 = n2
  case neg => simp [h0, h1, h2]
  by_cases h3 : s1.toList = s2.toList
  case neg => simp [h0, h1, h2, h3]
  simp [h0, h1, h2, h3]
set_option maxRecDepth 100000 in
set_option maxHeartbeats 400000 in
theorem eq_accepted (r1 p1 k1 m1 n1 : Int) (s1 : ByteArray) (r2 p2 k2 m2 n2 : Int) (s2 : ByteArray) (w : World) : (binOp .eql 93 (.agg #[.int .i64 r1, .int .i64 p1, .int .i64 k1, .int .i64 m1, .int .i64 n1, .string s1]) (.agg #[.int .i64 r2, .int .i64 p2, .int .i64 k2, .int .i64 m2, .int .i64 n2, .string s2])).run Tryz.prog w = .ok (.bool ((eq6 r1 p1 k1 m1 n1 s1 r2 p2 k2 m2 n2 s2))) w := by
  unfold eq6
  go_simp
  by_cases h0 : r1 = r2
  case neg => simp [h0]
  by_cases h1 : p1 = p2
  case neg => simp [h0, h1]
  by_cases h2 : k1 = k2
  case neg => simp [h0, h1, h2]
  by_cases h3 : m1 = m2
  case neg => simp [h0, h1, h2, h3]
  by_cases h4 : n1 = n2
  case neg => simp [h0, h1, h2, h3, h4]
  by_cases h5 : s1.toList = s2.toList
  case neg => simp [h0, h1, h2, h3, h4, h5]
  simp [h0, h1, h2, h3, h4, h5]
set_option maxRecDepth 100000 in
set_option maxHeartbeats 400000 in
theorem ne_accepted (r1 p1 k1 m1 n1 : Int) (s1 : ByteArray) (r2 p2 k2 m2 n2 : Int) (s2 : ByteArray) (w : World) : (binOp .neq 93 (.agg #[.int .i64 r1, .int .i64 p1, .int .i64 k1, .int .i64 m1, .int .i64 n1, .string s1]) (.agg #[.int .i64 r2, .int .i64 p2, .int .i64 k2, .int .i64 m2, .int .i64 n2, .string s2])).run Tryz.prog w = .ok (.bool (!(eq6 r1 p1 k1 m1 n1 s1 r2 p2 k2 m2 n2 s2))) w := by
  unfold eq6
  go_simp
  by_cases h0 : r1 = r2
  case neg => simp [h0]
  by_cases h1 : p1 = p2
  case neg => simp [h0, h1]
  by_cases h2 : k1 = k2
  case neg => simp [h0, h1, h2]
  by_cases h3 : m1 = m2
  case neg => simp [h0, h1, h2, h3]
  by_cases h4 : n1 = n2
  case neg => simp [h0, h1, h2, h3, h4]
  by_cases h5 : s1.toList = s2.toList
  case neg => simp [h0, h1, h2, h3, h4, h5]
  simp [h0, h1, h2, h3, h4, h5]
set_option maxRecDepth 100000 in
set_option maxHeartbeats 400000 in
theorem eq_acceptor (r1 p1 a1 b1 k1 m1 n1 : Int) (s1 : ByteArray) (r2 p2 a2 b2 k2 m2 n2 : Int) (s2 : ByteArray) (c sl : Int) (w : World) : (binOp .eql 106 (.agg #[.int .i64 r1, .int .i64 p1, .int .i64 a1, .int .i64 b1, .int .i64 k1, .int .i64 m1, .int .i64 n1, .string s1, .int .i64 c, .int .i64 sl]) (.agg #[.int .i64 r2, .int .i64 p2, .int .i64 a2, .int .i64 b2, .int .i64 k2, .int .i64 m2, .int .i64 n2, .string s2, .int .i64 c, .int .i64 sl])).run Tryz.prog w = .ok (.bool ((eq8 r1 p1 a1 b1 k1 m1 n1 s1 r2 p2 a2 b2 k2 m2 n2 s2))) w := by
  unfold eq8
  go_simp
  by_cases h0 : r1 = r2
  case neg => simp [h0]
  by_cases h1 : p1 = p2
  case neg => simp [h0, h1]
  by_cases h2 : a1 = a2
  case neg => simp [h0, h1, h2]
  by_cases h3 : b1 = b2
  case neg => simp [h0, h1, h2, h3]
  by_cases h4 : k1 = k2
  case neg => simp [h0, h1, h2, h3, h4]
  by_cases h5 : m1 = m2
  case neg => simp [h0, h1, h2, h3, h4, h5]
  by_cases h6 : n1 = n2
  case neg => simp [h0, h1, h2, h3, h4, h5, h6]
  by_cases h7 : s1.toList = s2.toList
  case neg => simp [h0, h1, h2, h3, h4, h5, h6, h7]
  simp [h0, h1, h2, h3, h4, h5, h6, h7]
end Go.Proofs.YthhpblchiodahaaGreatDoor
