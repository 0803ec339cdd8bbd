
/- Comparing proposers cell by cell: the package's, the document's. -/
import Derived.Test.YtcahkcbenanfnaaGreatDoorPrU
import Derived.ChangeKeysEq
import Derived.Laws.StructEq
namespace Go.Proofs.YtcahkcbenanfnaaGreatDoor
set_option linter.unusedSimpArgs false
set_option linter.unusedVariables false
open Go.RowKit
theorem eqf_cons {P : Program} {w : World} {d : Nat} {xs ys : Array Value} {f : Field} {fs : List Field} (t : TypeId) (o : Nat) (a b : Value) {r r' : Bool} (hn : (f.name != "_") = true) (ht : f.type = t) (ho : f.offset = o)
    (h1 : (part t xs o).run P w = .ok a w) (h2 : (part t ys o).run P w = .ok b w) (h3 : (Op.equalIn d t a b).run P w = .ok r w) (h4 : (Op.eqFields d xs ys fs).run P w = .ok r' w) : (Op.eqFields d xs ys (f :: fs)).run P w = .ok (r && r') w := by
  subst ht ho
  have hn2 : f.name ≠ "_" := by simpa using hn
  simp only [Op.eqFields, hn2, ne_eq, not_false_eq_true, if_true, Sem.run_bind, h1, h2, h3, Result.andThen_ok]
  cases r
  · simp
  · simpa using h4
theorem eqf_nil {P : Program} {w : World} {d : Nat} {xs ys : Array Value} : (Op.eqFields d xs ys []).run P w = .ok true w := by simp [Op.eqFields]
theorem eqi_cons {P : Program} {w : World} {d c i : Nat} {t : TypeId} {xs ys : Array Value} {is : List Nat} (o : Nat) (a b : Value) {r r' : Bool} (ho : i * c = o)
    (h1 : (part t xs o).run P w = .ok a w) (h2 : (part t ys o).run P w = .ok b w) (h3 : (Op.equalIn d t a b).run P w = .ok r w) (h4 : (Op.eqItems d t c xs ys is).run P w = .ok r' w) : (Op.eqItems d t c xs ys (i :: is)).run P w = .ok (r && r') w := by
  subst ho
  simp only [Op.eqItems, Sem.run_bind, h1, h2, h3, Result.andThen_ok]
  cases r
  · simp
  · simpa using h4
theorem cells_bool15 : Tryz.prog.cellsOf 4 = 1 := by kernel_rfl
theorem info_bool15 : (Tryz.prog.info? 4).isSome = true := by kernel_rfl
set_option maxRecDepth 100000 in
set_option maxHeartbeats 1000000 in
theorem eq_set15 (d : Nat) (a0 a1 a2 a3 a4 a5 a6 a7 a8 b0 b1 b2 b3 b4 b5 b6 b7 b8 : Bool) (w : World) : (Op.equalIn (d + 2) 39 (.agg #[.bool a0, .bool a1, .bool a2, .bool a3, .bool a4, .bool a5, .bool a6, .bool a7, .bool a8]) (.agg #[.bool b0, .bool b1, .bool b2, .bool b3, .bool b4, .bool b5, .bool b6, .bool b7, .bool b8])).run Tryz.prog w = .ok (decide ([a0, a1, a2, a3, a4, a5, a6, a7, a8] = [b0, b1, b2, b3, b4, b5, b6, b7, b8])) w := by
  obtain ⟨i, hi⟩ := Option.isSome_iff_exists.1 info_bool15
  rw [run_equalIn_array w (d + 1) _ _ (show Tryz.prog.underlying 39 = some (.array 9 4) by kernel_rfl) hi, cells_bool15, show List.range 9 = [0, 1, 2, 3, 4, 5, 6, 7, 8] from rfl]
  have hr : (Op.eqItems (d + 1) 4 1 #[.bool a0, .bool a1, .bool a2, .bool a3, .bool a4, .bool a5, .bool a6, .bool a7, .bool a8] #[.bool b0, .bool b1, .bool b2, .bool b3, .bool b4, .bool b5, .bool b6, .bool b7, .bool b8] [0, 1, 2, 3, 4, 5, 6, 7, 8]).run Tryz.prog w = .ok ((a0 == b0) && ((a1 == b1) && ((a2 == b2) && ((a3 == b3) && ((a4 == b4) && ((a5 == b5) && ((a6 == b6) && ((a7 == b7) && ((a8 == b8) && true))))))))) w := by
    refine eqi_cons 0 (.bool a0) (.bool b0) rfl (by kernel_rfl) (by kernel_rfl) (run_equalIn_bool w d _ _ _ (by kernel_rfl)) ?_
    refine eqi_cons 1 (.bool a1) (.bool b1) rfl (by kernel_rfl) (by kernel_rfl) (run_equalIn_bool w d _ _ _ (by kernel_rfl)) ?_
    refine eqi_cons 2 (.bool a2) (.bool b2) rfl (by kernel_rfl) (by kernel_rfl) (run_equalIn_bool w d _ _ _ (by kernel_rfl)) ?_
    refine eqi_cons 3 (.bool a3) (.bool b3) rfl (by kernel_rfl) (by kernel_rfl) (run_equalIn_bool w d _ _ _ (by kernel_rfl)) ?_
    refine eqi_cons 4 (.bool a4) (.bool b4) rfl (by kernel_rfl) (by kernel_rfl) (run_equalIn_bool w d _ _ _ (by kernel_rfl)) ?_
    refine eqi_cons 5 (.bool a5) (.bool b5) rfl (by kernel_rfl) (by kernel_rfl) (run_equalIn_bool w d _ _ _ (by kernel_rfl)) ?_
    refine eqi_cons 6 (.bool a6) (.bool b6) rfl (by kernel_rfl) (by kernel_rfl) (run_equalIn_bool w d _ _ _ (by kernel_rfl)) ?_
    refine eqi_cons 7 (.bool a7) (.bool b7) rfl (by kernel_rfl) (by kernel_rfl) (run_equalIn_bool w d _ _ _ (by kernel_rfl)) ?_
    refine eqi_cons 8 (.bool a8) (.bool b8) rfl (by kernel_rfl) (by kernel_rfl) (run_equalIn_bool w d _ _ _ (by kernel_rfl)) ?_
    simp [Op.eqItems]
  rw [hr]
  congr 1
  rw [Bool.eq_iff_iff]
  simp
set_option maxRecDepth 100000 in
set_option maxHeartbeats 1000000 in
theorem eq_arr15 (d : Nat) (a0 a1 a2 a3 a4 a5 a6 a7 a8 b0 b1 b2 b3 b4 b5 b6 b7 b8 : Bool) (w : World) : (Op.equalIn (d + 2) 31 (.agg #[.bool a0, .bool a1, .bool a2, .bool a3, .bool a4, .bool a5, .bool a6, .bool a7, .bool a8]) (.agg #[.bool b0, .bool b1, .bool b2, .bool b3, .bool b4, .bool b5, .bool b6, .bool b7, .bool b8])).run Tryz.prog w = .ok (decide ([a0, a1, a2, a3, a4, a5, a6, a7, a8] = [b0, b1, b2, b3, b4, b5, b6, b7, b8])) w := by
  obtain ⟨i, hi⟩ := Option.isSome_iff_exists.1 info_bool15
  rw [run_equalIn_array w (d + 1) _ _ (show Tryz.prog.underlying 31 = some (.array 9 4) by kernel_rfl) hi, cells_bool15, show List.range 9 = [0, 1, 2, 3, 4, 5, 6, 7, 8] from rfl]
  have hr : (Op.eqItems (d + 1) 4 1 #[.bool a0, .bool a1, .bool a2, .bool a3, .bool a4, .bool a5, .bool a6, .bool a7, .bool a8] #[.bool b0, .bool b1, .bool b2, .bool b3, .bool b4, .bool b5, .bool b6, .bool b7, .bool b8] [0, 1, 2, 3, 4, 5, 6, 7, 8]).run Tryz.prog w = .ok ((a0 == b0) && ((a1 == b1) && ((a2 == b2) && ((a3 == b3) && ((a4 == b4) && ((a5 == b5) && ((a6 == b6) && ((a7 == b7) && ((a8 == b8) && true))))))))) w := by
    refine eqi_cons 0 (.bool a0) (.bool b0) rfl (by kernel_rfl) (by kernel_rfl) (run_equalIn_bool w d _ _ _ (by kernel_rfl)) ?_
    refine eqi_cons 1 (.bool a1) (.bool b1) rfl (by kernel_rfl) (by kernel_rfl) (run_equalIn_bool w d _ _ _ (by kernel_rfl)) ?_
    refine eqi_cons 2 (.bool a2) (.bool b2) rfl (by kernel_rfl) (by kernel_rfl) (run_equalIn_bool w d _ _ _ (by kernel_rfl)) ?_
    refine eqi_cons 3 (.bool a3) (.bool b3) rfl (by kernel_rfl) (by kernel_rfl) (run_equalIn_bool w d _ _ _ (by kernel_rfl)) ?_
    refine eqi_cons 4 (.bool a4) (.bool b4) rfl (by kernel_rfl) (by kernel_rfl) (run_equalIn_bool w d _ _ _ (by kernel_rfl)) ?_
    refine eqi_cons 5 (.bool a5) (.bool b5) rfl (by kernel_rfl) (by kernel_rfl) (run_equalIn_bool w d _ _ _ (by kernel_rfl)) ?_
    refine eqi_cons 6 (.bool a6) (.bool b6) rfl (by kernel_rfl) (by kernel_rfl) (run_equalIn_bool w d _ _ _ (by kernel_rfl)) ?_
    refine eqi_cons 7 (.bool a7) (.bool b7) rfl (by kernel_rfl) (by kernel_rfl) (run_equalIn_bool w d _ _ _ (by kernel_rfl)) ?_
    refine eqi_cons 8 (.bool a8) (.bool b8) rfl (by kernel_rfl) (by kernel_rfl) (run_equalIn_bool w d _ _ _ (by kernel_rfl)) ?_
    simp [Op.eqItems]
  rw [hr]
  congr 1
  rw [Bool.eq_iff_iff]
  simp
set_option maxRecDepth 100000 in
set_option maxHeartbeats 2000000 in
theorem eqb_in (d : Nat) (r1 p1 r2 p2 : Int) (w : World) : (Op.equalIn (d + 2) 23 (.agg #[.int .i64 r1, .int .i64 p1]) (.agg #[.int .i64 r2, .int .i64 p2])).run Tryz.prog w = .ok ((r1 == r2) && ((p1 == p2) && true)) w := by
  rw [show d + 2 = (d + 1) + 1 from rfl, run_equalIn_struct w (d + 1) _ _ _ Tryz.underlying23 (by kernel_rfl), show (Tryz.prog.fieldsOf 23).toList = [(Tryz.prog.fieldsOf 23)[0]!, (Tryz.prog.fieldsOf 23)[1]!] by kernel_rfl]
  refine eqf_cons 2 0 (.int .i64 r1) (.int .i64 r2) (by kernel_rfl) (by kernel_rfl) (by kernel_rfl) (by kernel_rfl) (by kernel_rfl) (run_equalIn_int w _ _ .i64 .i64 _ _ (by kernel_rfl)) ?_
  refine eqf_cons 3 1 (.int .i64 p1) (.int .i64 p2) (by kernel_rfl) (by kernel_rfl) (by kernel_rfl) (by kernel_rfl) (by kernel_rfl) (run_equalIn_int w _ _ .i64 .i64 _ _ (by kernel_rfl)) ?_
  exact eqf_nil
set_option maxRecDepth 100000 in
set_option maxHeartbeats 2000000 in
theorem eqe_in (d : Nat) (k1 m1 n1 : Int) (s1 : ByteArray) (k2 m2 n2 : Int) (s2 : ByteArray) (w : World) : (Op.equalIn (d + 2) 26 (.agg #[.int .i64 k1, .int .i64 m1, .int .i64 n1, .string s1]) (.agg #[.int .i64 k2, .int .i64 m2, .int .i64 n2, .string s2])).run Tryz.prog w = .ok ((k1 == k2) && ((m1 == m2) && ((n1 == n2) && ((s1.toList == s2.toList) && true)))) w := by
  rw [show d + 2 = (d + 1) + 1 from rfl, run_equalIn_struct w (d + 1) _ _ _ Tryz.underlying26 (by kernel_rfl), show (Tryz.prog.fieldsOf 26).toList = [(Tryz.prog.fieldsOf 26)[0]!, (Tryz.prog.fieldsOf 26)[1]!, (Tryz.prog.fieldsOf 26)[2]!, (Tryz.prog.fieldsOf 26)[3]!] by kernel_rfl]
  refine eqf_cons 24 0 (.int .i64 k1) (.int .i64 k2) (by kernel_rfl) (by kernel_rfl) (by kernel_rfl) (by kernel_rfl) (by kernel_rfl) (run_equalIn_int w _ _ .i64 .i64 _ _ (by kernel_rfl)) ?_
  refine eqf_cons 3 1 (.int .i64 m1) (.int .i64 m2) (by kernel_rfl) (by kernel_rfl) (by kernel_rfl) (by kernel_rfl) (by kernel_rfl) (run_equalIn_int w _ _ .i64 .i64 _ _ (by kernel_rfl)) ?_
  refine eqf_cons 2 2 (.int .i64 n1) (.int .i64 n2) (by kernel_rfl) (by kernel_rfl) (by kernel_rfl) (by kernel_rfl) (by kernel_rfl) (run_equalIn_int w _ _ .i64 .i64 _ _ (by kernel_rfl)) ?_
  refine eqf_cons 9 3 (.string s1) (.string s2) (by kernel_rfl) (by kernel_rfl) (by kernel_rfl) (by kernel_rfl) (by kernel_rfl) (run_equalIn_string w _ _ _ _ (by kernel_rfl)) ?_
  exact eqf_nil
set_option maxRecDepth 100000 in
set_option maxHeartbeats 2000000 in
theorem eqa_in (d : Nat) (r1 p1 k1 m1 n1 : Int) (s1 : ByteArray) (r2 p2 k2 m2 n2 : Int) (s2 : ByteArray) (w : World) : (Op.equalIn (d + 3) 33 (.agg #[.int .i64 r1, .int .i64 p1, .int .i64 k1, .int .i64 m1, .int .i64 n1, .string s1]) (.agg #[.int .i64 r2, .int .i64 p2, .int .i64 k2, .int .i64 m2, .int .i64 n2, .string s2])).run Tryz.prog w = .ok (((r1 == r2) && ((p1 == p2) && true)) && (((k1 == k2) && ((m1 == m2) && ((n1 == n2) && ((s1.toList == s2.toList) && true)))) && true)) w := by
  rw [show d + 3 = (d + 2) + 1 from rfl, run_equalIn_struct w (d + 2) _ _ _ Tryz.underlying33 (by kernel_rfl), show (Tryz.prog.fieldsOf 33).toList = [(Tryz.prog.fieldsOf 33)[0]!, (Tryz.prog.fieldsOf 33)[1]!] by kernel_rfl]
  refine eqf_cons 23 0 (.agg #[.int .i64 r1, .int .i64 p1]) (.agg #[.int .i64 r2, .int .i64 p2]) (by kernel_rfl) (by kernel_rfl) (by kernel_rfl) (by kernel_rfl) (by kernel_rfl) (eqb_in d r1 p1 r2 p2 w) ?_
  refine eqf_cons 26 2 (.agg #[.int .i64 k1, .int .i64 m1, .int .i64 n1, .string s1]) (.agg #[.int .i64 k2, .int .i64 m2, .int .i64 n2, .string s2]) (by kernel_rfl) (by kernel_rfl) (by kernel_rfl) (by kernel_rfl) (by kernel_rfl) (eqe_in d k1 m1 n1 s1 k2 m2 n2 s2 w) ?_
  exact eqf_nil
set_option maxRecDepth 100000 in
set_option maxHeartbeats 2000000 in
theorem eqs_in (d : Nat) (A B : Prp) (a0 a1 a2 a3 a4 a5 a6 a7 a8 b0 b1 b2 b3 b4 b5 b6 b7 b8 c0 c1 c2 c3 c4 c5 c6 c7 c8 f0 f1 f2 f3 f4 f5 f6 f7 f8 : Bool) (w : World) : (Op.equalIn (d + 4) 41 (.agg #[.int .i64 A.ph, .int .i64 A.k, .int .i64 A.m, .int .i64 A.n, .string A.s, .bool a0, .bool a1, .bool a2, .bool a3, .bool a4, .bool a5, .bool a6, .bool a7, .bool a8, .bool c0, .bool c1, .bool c2, .bool c3, .bool c4, .bool c5, .bool c6, .bool c7, .bool c8, .int .i64 A.br, .int .i64 A.bp, .int .i64 A.bk, .int .i64 A.bm, .int .i64 A.bn, .string A.bs, .int .i64 A.ur, .int .i64 A.up]) (.agg #[.int .i64 B.ph, .int .i64 B.k, .int .i64 B.m, .int .i64 B.n, .string B.s, .bool b0, .bool b1, .bool b2, .bool b3, .bool b4, .bool b5, .bool b6, .bool b7, .bool b8, .bool f0, .bool f1, .bool f2, .bool f3, .bool f4, .bool f5, .bool f6, .bool f7, .bool f8, .int .i64 B.br, .int .i64 B.bp, .int .i64 B.bk, .int .i64 B.bm, .int .i64 B.bn, .string B.bs, .int .i64 B.ur, .int .i64 B.up])).run Tryz.prog w = .ok ((A.ph == B.ph) && (((A.k == B.k) && ((A.m == B.m) && ((A.n == B.n) && ((A.s.toList == B.s.toList) && true)))) && (decide ([a0, a1, a2, a3, a4, a5, a6, a7, a8] = [b0, b1, b2, b3, b4, b5, b6, b7, b8]) && (decide ([c0, c1, c2, c3, c4, c5, c6, c7, c8] = [f0, f1, f2, f3, f4, f5, f6, f7, f8]) && ((((A.br == B.br) && ((A.bp == B.bp) && true)) && (((A.bk == B.bk) && ((A.bm == B.bm) && ((A.bn == B.bn) && ((A.bs.toList == B.bs.toList) && true)))) && true)) && (((A.ur == B.ur) && ((A.up == B.up) && true)) && true)))))) w := by
  rw [show d + 4 = (d + 3) + 1 from rfl, run_equalIn_struct w (d + 3) _ _ _ Tryz.underlying41 (by kernel_rfl), show (Tryz.prog.fieldsOf 41).toList = [(Tryz.prog.fieldsOf 41)[0]!, (Tryz.prog.fieldsOf 41)[1]!, (Tryz.prog.fieldsOf 41)[2]!, (Tryz.prog.fieldsOf 41)[3]!, (Tryz.prog.fieldsOf 41)[4]!, (Tryz.prog.fieldsOf 41)[5]!] by kernel_rfl]
  refine eqf_cons 38 0 (.int .i64 A.ph) (.int .i64 B.ph) (by kernel_rfl) (by kernel_rfl) (by kernel_rfl) (by kernel_rfl) (by kernel_rfl) (run_equalIn_int w _ _ .i64 .i64 _ _ (by kernel_rfl)) ?_
  refine eqf_cons 26 1 (.agg #[.int .i64 A.k, .int .i64 A.m, .int .i64 A.n, .string A.s]) (.agg #[.int .i64 B.k, .int .i64 B.m, .int .i64 B.n, .string B.s]) (by kernel_rfl) (by kernel_rfl) (by kernel_rfl) (by kernel_rfl) (by kernel_rfl) (eqe_in _ A.k A.m A.n A.s B.k B.m B.n B.s w) ?_
  refine eqf_cons 39 5 (.agg #[.bool a0, .bool a1, .bool a2, .bool a3, .bool a4, .bool a5, .bool a6, .bool a7, .bool a8]) (.agg #[.bool b0, .bool b1, .bool b2, .bool b3, .bool b4, .bool b5, .bool b6, .bool b7, .bool b8]) (by kernel_rfl) (by kernel_rfl) (by kernel_rfl) (by kernel_rfl) (by kernel_rfl) (eq_set15 _ a0 a1 a2 a3 a4 a5 a6 a7 a8 b0 b1 b2 b3 b4 b5 b6 b7 b8 w) ?_
  refine eqf_cons 39 14 (.agg #[.bool c0, .bool c1, .bool c2, .bool c3, .bool c4, .bool c5, .bool c6, .bool c7, .bool c8]) (.agg #[.bool f0, .bool f1, .bool f2, .bool f3, .bool f4, .bool f5, .bool f6, .bool f7, .bool f8]) (by kernel_rfl) (by kernel_rfl) (by kernel_rfl) (by kernel_rfl) (by kernel_rfl) (eq_set15 _ c0 c1 c2 c3 c4 c5 c6 c7 c8 f0 f1 f2 f3 f4 f5 f6 f7 f8 w) ?_
  refine eqf_cons 33 23 (.agg #[.int .i64 A.br, .int .i64 A.bp, .int .i64 A.bk, .int .i64 A.bm, .int .i64 A.bn, .string A.bs]) (.agg #[.int .i64 B.br, .int .i64 B.bp, .int .i64 B.bk, .int .i64 B.bm, .int .i64 B.bn, .string B.bs]) (by kernel_rfl) (by kernel_rfl) (by kernel_rfl) (by kernel_rfl) (by kernel_rfl) (eqa_in _ A.br A.bp A.bk A.bm A.bn A.bs B.br B.bp B.bk B.bm B.bn B.bs w) ?_
  refine eqf_cons 23 29 (.agg #[.int .i64 A.ur, .int .i64 A.up]) (.agg #[.int .i64 B.ur, .int .i64 B.up]) (by kernel_rfl) (by kernel_rfl) (by kernel_rfl) (by kernel_rfl) (by kernel_rfl) (eqb_in _ A.ur A.up B.ur B.up w) ?_
  exact eqf_nil
set_option maxRecDepth 100000 in
set_option maxHeartbeats 2000000 in
theorem eqp_in (d : Nat) (A B : Prp) (a0 a1 a2 a3 a4 a5 a6 a7 a8 b0 b1 b2 b3 b4 b5 b6 b7 b8 c0 c1 c2 c3 c4 c5 c6 c7 c8 f0 f1 f2 f3 f4 f5 f6 f7 f8 : Bool) (w : World) : (Op.equalIn (d + 5) 44 (.agg #[.int .i64 A.ph, .int .i64 A.k, .int .i64 A.m, .int .i64 A.n, .string A.s, .bool a0, .bool a1, .bool a2, .bool a3, .bool a4, .bool a5, .bool a6, .bool a7, .bool a8, .bool c0, .bool c1, .bool c2, .bool c3, .bool c4, .bool c5, .bool c6, .bool c7, .bool c8, .int .i64 A.br, .int .i64 A.bp, .int .i64 A.bk, .int .i64 A.bm, .int .i64 A.bn, .string A.bs, .int .i64 A.ur, .int .i64 A.up, .int .i64 A.c, .int .i64 A.sl, .int .i64 A.r, .int .i64 A.p]) (.agg #[.int .i64 B.ph, .int .i64 B.k, .int .i64 B.m, .int .i64 B.n, .string B.s, .bool b0, .bool b1, .bool b2, .bool b3, .bool b4, .bool b5, .bool b6, .bool b7, .bool b8, .bool f0, .bool f1, .bool f2, .bool f3, .bool f4, .bool f5, .bool f6, .bool f7, .bool f8, .int .i64 B.br, .int .i64 B.bp, .int .i64 B.bk, .int .i64 B.bm, .int .i64 B.bn, .string B.bs, .int .i64 B.ur, .int .i64 B.up, .int .i64 B.c, .int .i64 B.sl, .int .i64 B.r, .int .i64 B.p])).run Tryz.prog w = .ok (((A.ph == B.ph) && (((A.k == B.k) && ((A.m == B.m) && ((A.n == B.n) && ((A.s.toList == B.s.toList) && true)))) && (decide ([a0, a1, a2, a3, a4, a5, a6, a7, a8] = [b0, b1, b2, b3, b4, b5, b6, b7, b8]) && (decide ([c0, c1, c2, c3, c4, c5, c6, c7, c8] = [f0, f1, f2, f3, f4, f5, f6, f7, f8]) && ((((A.br == B.br) && ((A.bp == B.bp) && true)) && (((A.bk == B.bk) && ((A.bm == B.bm) && ((A.bn == B.bn) && ((A.bs.toList == B.bs.toList) && true)))) && true)) && (((A.ur == B.ur) && ((A.up == B.up) && true)) && true)))))) && ((A.c == B.c) && ((A.sl == B.sl) && (((A.r == B.r) && ((A.p == B.p) && true)) && true)))) w := by
  rw [show d + 5 = (d + 4) + 1 from rfl, run_equalIn_struct w (d + 4) _ _ _ Tryz.underlying44 (by kernel_rfl), show (Tryz.prog.fieldsOf 44).toList = [(Tryz.prog.fieldsOf 44)[0]!, (Tryz.prog.fieldsOf 44)[1]!, (Tryz.prog.fieldsOf 44)[2]!, (Tryz.prog.fieldsOf 44)[3]!] by kernel_rfl]
  refine eqf_cons 41 0 (.agg #[.int .i64 A.ph, .int .i64 A.k, .int .i64 A.m, .int .i64 A.n, .string A.s, .bool a0, .bool a1, .bool a2, .bool a3, .bool a4, .bool a5, .bool a6, .bool a7, .bool a8, .bool c0, .bool c1, .bool c2, .bool c3, .bool c4, .bool c5, .bool c6, .bool c7, .bool c8, .int .i64 A.br, .int .i64 A.bp, .int .i64 A.bk, .int .i64 A.bm, .int .i64 A.bn, .string A.bs, .int .i64 A.ur, .int .i64 A.up]) (.agg #[.int .i64 B.ph, .int .i64 B.k, .int .i64 B.m, .int .i64 B.n, .string B.s, .bool b0, .bool b1, .bool b2, .bool b3, .bool b4, .bool b5, .bool b6, .bool b7, .bool b8, .bool f0, .bool f1, .bool f2, .bool f3, .bool f4, .bool f5, .bool f6, .bool f7, .bool f8, .int .i64 B.br, .int .i64 B.bp, .int .i64 B.bk, .int .i64 B.bm, .int .i64 B.bn, .string B.bs, .int .i64 B.ur, .int .i64 B.up]) (by kernel_rfl) (by kernel_rfl) (by kernel_rfl) (by kernel_rfl) (by kernel_rfl) (eqs_in _ A B a0 a1 a2 a3 a4 a5 a6 a7 a8 b0 b1 b2 b3 b4 b5 b6 b7 b8 c0 c1 c2 c3 c4 c5 c6 c7 c8 f0 f1 f2 f3 f4 f5 f6 f7 f8 w) ?_
  refine eqf_cons 42 31 (.int .i64 A.c) (.int .i64 B.c) (by kernel_rfl) (by kernel_rfl) (by kernel_rfl) (by kernel_rfl) (by kernel_rfl) (run_equalIn_int w _ _ .i64 .i64 _ _ (by kernel_rfl)) ?_
  refine eqf_cons 3 32 (.int .i64 A.sl) (.int .i64 B.sl) (by kernel_rfl) (by kernel_rfl) (by kernel_rfl) (by kernel_rfl) (by kernel_rfl) (run_equalIn_int w _ _ .i64 .i64 _ _ (by kernel_rfl)) ?_
  refine eqf_cons 23 33 (.agg #[.int .i64 A.r, .int .i64 A.p]) (.agg #[.int .i64 B.r, .int .i64 B.p]) (by kernel_rfl) (by kernel_rfl) (by kernel_rfl) (by kernel_rfl) (by kernel_rfl) (eqb_in _ A.r A.p B.r B.p w) ?_
  exact eqf_nil
set_option maxRecDepth 100000 in
set_option maxHeartbeats 2000000 in
theorem eqq_in (d : Nat) (A B : Prp) (a0 a1 a2 a3 a4 a5 a6 a7 a8 b0 b1 b2 b3 b4 b5 b6 b7 b8 c0 c1 c2 c3 c4 c5 c6 c7 c8 f0 f1 f2 f3 f4 f5 f6 f7 f8 : Bool) (w : World) : (Op.equalIn (d + 4) 35 (.agg #[.int .i64 A.c, .int .i64 A.sl, .int .i64 A.r, .int .i64 A.p, .int .i64 A.ph, .int .i64 A.k, .int .i64 A.m, .int .i64 A.n, .string A.s, .bool a0, .bool a1, .bool a2, .bool a3, .bool a4, .bool a5, .bool a6, .bool a7, .bool a8, .bool c0, .bool c1, .bool c2, .bool c3, .bool c4, .bool c5, .bool c6, .bool c7, .bool c8, .int .i64 A.br, .int .i64 A.bp, .int .i64 A.bk, .int .i64 A.bm, .int .i64 A.bn, .string A.bs, .int .i64 A.ur, .int .i64 A.up]) (.agg #[.int .i64 B.c, .int .i64 B.sl, .int .i64 B.r, .int .i64 B.p, .int .i64 B.ph, .int .i64 B.k, .int .i64 B.m, .int .i64 B.n, .string B.s, .bool b0, .bool b1, .bool b2, .bool b3, .bool b4, .bool b5, .bool b6, .bool b7, .bool b8, .bool f0, .bool f1, .bool f2, .bool f3, .bool f4, .bool f5, .bool f6, .bool f7, .bool f8, .int .i64 B.br, .int .i64 B.bp, .int .i64 B.bk, .int .i64 B.bm, .int .i64 B.bn, .string B.bs, .int .i64 B.ur, .int .i64 B.up])).run Tryz.prog w = .ok ((A.c == B.c) && ((A.sl == B.sl) && (((A.r == B.r) && ((A.p == B.p) && true)) && ((A.ph == B.ph) && (((A.k == B.k) && ((A.m == B.m) && ((A.n == B.n) && ((A.s.toList == B.s.toList) && true)))) && (decide ([a0, a1, a2, a3, a4, a5, a6, a7, a8] = [b0, b1, b2, b3, b4, b5, b6, b7, b8]) && (decide ([c0, c1, c2, c3, c4, c5, c6, c7, c8] = [f0, f1, f2, f3, f4, f5, f6, f7, f8]) && ((((A.br == B.br) && ((A.bp == B.bp) && true)) && (((A.bk == B.bk) && ((A.bm == B.bm) && ((A.bn == B.bn) && ((A.bs.toList == B.bs.toList) && true)))) && true)) && (((A.ur == B.ur) && ((A.up == B.up) && true)) && true))))))))) w := by
  rw [show d + 4 = (d + 3) + 1 from rfl, run_equalIn_struct w (d + 3) _ _ _ Tryz.underlying35 (by kernel_rfl), show (Tryz.prog.fieldsOf 35).toList = [(Tryz.prog.fieldsOf 35)[0]!, (Tryz.prog.fieldsOf 35)[1]!, (Tryz.prog.fieldsOf 35)[2]!, (Tryz.prog.fieldsOf 35)[3]!, (Tryz.prog.fieldsOf 35)[4]!, (Tryz.prog.fieldsOf 35)[5]!, (Tryz.prog.fieldsOf 35)[6]!, (Tryz.prog.fieldsOf 35)[7]!, (Tryz.prog.fieldsOf 35)[8]!] by kernel_rfl]
  refine eqf_cons 3 0 (.int .i64 A.c) (.int .i64 B.c) (by kernel_rfl) (by kernel_rfl) (by kernel_rfl) (by kernel_rfl) (by kernel_rfl) (run_equalIn_int w _ _ .i64 .i64 _ _ (by kernel_rfl)) ?_
  refine eqf_cons 3 1 (.int .i64 A.sl) (.int .i64 B.sl) (by kernel_rfl) (by kernel_rfl) (by kernel_rfl) (by kernel_rfl) (by kernel_rfl) (run_equalIn_int w _ _ .i64 .i64 _ _ (by kernel_rfl)) ?_
  refine eqf_cons 23 2 (.agg #[.int .i64 A.r, .int .i64 A.p]) (.agg #[.int .i64 B.r, .int .i64 B.p]) (by kernel_rfl) (by kernel_rfl) (by kernel_rfl) (by kernel_rfl) (by kernel_rfl) (eqb_in _ A.r A.p B.r B.p w) ?_
  refine eqf_cons 3 4 (.int .i64 A.ph) (.int .i64 B.ph) (by kernel_rfl) (by kernel_rfl) (by kernel_rfl) (by kernel_rfl) (by kernel_rfl) (run_equalIn_int w _ _ .i64 .i64 _ _ (by kernel_rfl)) ?_
  refine eqf_cons 26 5 (.agg #[.int .i64 A.k, .int .i64 A.m, .int .i64 A.n, .string A.s]) (.agg #[.int .i64 B.k, .int .i64 B.m, .int .i64 B.n, .string B.s]) (by kernel_rfl) (by kernel_rfl) (by kernel_rfl) (by kernel_rfl) (by kernel_rfl) (eqe_in _ A.k A.m A.n A.s B.k B.m B.n B.s w) ?_
  refine eqf_cons 31 9 (.agg #[.bool a0, .bool a1, .bool a2, .bool a3, .bool a4, .bool a5, .bool a6, .bool a7, .bool a8]) (.agg #[.bool b0, .bool b1, .bool b2, .bool b3, .bool b4, .bool b5, .bool b6, .bool b7, .bool b8]) (by kernel_rfl) (by kernel_rfl) (by kernel_rfl) (by kernel_rfl) (by kernel_rfl) (eq_arr15 _ a0 a1 a2 a3 a4 a5 a6 a7 a8 b0 b1 b2 b3 b4 b5 b6 b7 b8 w) ?_
  refine eqf_cons 31 18 (.agg #[.bool c0, .bool c1, .bool c2, .bool c3, .bool c4, .bool c5, .bool c6, .bool c7, .bool c8]) (.agg #[.bool f0, .bool f1, .bool f2, .bool f3, .bool f4, .bool f5, .bool f6, .bool f7, .bool f8]) (by kernel_rfl) (by kernel_rfl) (by kernel_rfl) (by kernel_rfl) (by kernel_rfl) (eq_arr15 _ c0 c1 c2 c3 c4 c5 c6 c7 c8 f0 f1 f2 f3 f4 f5 f6 f7 f8 w) ?_
  refine eqf_cons 33 27 (.agg #[.int .i64 A.br, .int .i64 A.bp, .int .i64 A.bk, .int .i64 A.bm, .int .i64 A.bn, .string A.bs]) (.agg #[.int .i64 B.br, .int .i64 B.bp, .int .i64 B.bk, .int .i64 B.bm, .int .i64 B.bn, .string B.bs]) (by kernel_rfl) (by kernel_rfl) (by kernel_rfl) (by kernel_rfl) (by kernel_rfl) (eqa_in _ A.br A.bp A.bk A.bm A.bn A.bs B.br B.bp B.bk B.bm B.bn B.bs w) ?_
  refine eqf_cons 23 33 (.agg #[.int .i64 A.ur, .int .i64 A.up]) (.agg #[.int .i64 B.ur, .int .i64 B.up]) (by kernel_rfl) (by kernel_rfl) (by kernel_rfl) (by kernel_rfl) (by kernel_rfl) (eqb_in _ A.ur A.up B.ur B.up w) ?_
  exact eqf_nil
def eqP (A B : Prp) : Bool := decide (A.ph = B.ph ∧ A.k = B.k ∧ A.m = B.m ∧ A.n = B.n ∧ A.s.toList = B.s.toList ∧ A.pr = B.pr ∧ A.ac = B.ac ∧ A.br = B.br ∧ A.bp = B.bp ∧ A.bk = B.bk ∧ A.bm = B.bm ∧ A.bn = B.bn ∧ A.bs.toList = B.bs.toList ∧ A.ur = B.ur ∧ A.up = B.up ∧ A.c = B.c ∧ A.sl = B.sl ∧ A.r = B.r ∧ A.p = B.p)
theorem eqP_refl (A : Prp) : eqP A A = true := by simp [eqP]
theorem eqP_comm (A B : Prp) : eqP A B = eqP B A := by
  unfold eqP
  rw [Bool.eq_iff_iff]
  simp only [decide_eq_true_eq]
  constructor <;> (intro h; simp [h])
set_option maxRecDepth 100000 in
set_option maxHeartbeats 2000000 in
theorem eql_prp (A B : Prp) (hA : A.pr.length = 9) (hA2 : A.ac.length = 9) (hB : B.pr.length = 9) (hB2 : B.ac.length = 9) (w : World) : (binOp .eql 44 (.agg (prpL A).toArray) (.agg (prpL B).toArray)).run Tryz.prog w = .ok (.bool (eqP A B)) w := by
  obtain ⟨a0, a1, a2, a3, a4, a5, a6, a7, a8, ha⟩ := nine hA
  obtain ⟨b0, b1, b2, b3, b4, b5, b6, b7, b8, hb⟩ := nine hB
  obtain ⟨c0, c1, c2, c3, c4, c5, c6, c7, c8, hc⟩ := nine hA2
  obtain ⟨f0, f1, f2, f3, f4, f5, f6, f7, f8, hf⟩ := nine hB2
  unfold eqP prpL
  rw [ha, hb, hc, hf, run_eql_struct]
  have h := eqp_in 9995 A B a0 a1 a2 a3 a4 a5 a6 a7 a8 b0 b1 b2 b3 b4 b5 b6 b7 b8 c0 c1 c2 c3 c4 c5 c6 c7 c8 f0 f1 f2 f3 f4 f5 f6 f7 f8 w
  refine (congrArg (fun r : Result Bool => Result.andThen r fun b w' => Result.ok (Value.bool b) w') h).trans ?_
  rw [Result.andThen_ok]
  congr 2
  rw [Bool.eq_iff_iff]
  simp only [Bool.and_eq_true, beq_iff_eq, decide_eq_true_eq, and_true]
  constructor <;> (intro h; simp only [h, and_self])
set_option maxRecDepth 100000 in
set_option maxHeartbeats 2000000 in
theorem eql_ref15 (A B : Prp) (hA : A.pr.length = 9) (hA2 : A.ac.length = 9) (hB : B.pr.length = 9) (hB2 : B.ac.length = 9) (w : World) : (binOp .eql 35 (.agg (qL A).toArray) (.agg (qL B).toArray)).run Tryz.prog w = .ok (.bool (eqP A B)) w := by
  obtain ⟨a0, a1, a2, a3, a4, a5, a6, a7, a8, ha⟩ := nine hA
  obtain ⟨b0, b1, b2, b3, b4, b5, b6, b7, b8, hb⟩ := nine hB
  obtain ⟨c0, c1, c2, c3, c4, c5, c6, c7, c8, hc⟩ := nine hA2
  obtain ⟨f0, f1, f2, f3, f4, f5, f6, f7, f8, hf⟩ := nine hB2
  unfold eqP qL
  rw [ha, hb, hc, hf, run_eql_struct]
  have h := eqq_in 9996 A B a0 a1 a2 a3 a4 a5 a6 a7 a8 b0 b1 b2 b3 b4 b5 b6 b7 b8 c0 c1 c2 c3 c4 c5 c6 c7 c8 f0 f1 f2 f3 f4 f5 f6 f7 f8 w
  refine (congrArg (fun r : Result Bool => Result.andThen r fun b w' => Result.ok (Value.bool b) w') h).trans ?_
  rw [Result.andThen_ok]
  congr 2
  rw [Bool.eq_iff_iff]
  simp only [Bool.and_eq_true, beq_iff_eq, decide_eq_true_eq, and_true]
  constructor <;> (intro h; simp only [h, and_self])
end Go.Proofs.YtcahkcbenanfnaaGreatDoor
