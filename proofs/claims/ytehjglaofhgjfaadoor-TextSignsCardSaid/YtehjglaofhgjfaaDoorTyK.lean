
/- Package text: the names' iterator. -/
import Derived.Test.YtehjglaofhgjfaaDoorTyJ
import Derived.Test.YtehjglaofhgjfaaDoorTxF
import Derived.Sort.CutIn
namespace Go.Proofs.YtehjglaofhgjfaaDoor
set_option linter.unusedSimpArgs false
set_option linter.unusedVariables false
open Go.RowKit
attribute [local go_sem] Oper.semAt_some
theorem cell_iterAt {W : World} {b k : Nat} {t : TypeId} {v : Value} (h : Boxed W b t v) (hb : b ≠ k) (s : ByteArray) (pos : Nat) : Boxed (W.iterAt k s pos) b t v := (Lib.iterAt_other W k b s pos hb).trans h
set_option maxRecDepth 100000 in
set_option maxHeartbeats 2000000 in
theorem names_xs (b B : Nat) (s : ByteArray) (w : World) (hs : s.size ≤ 1000000000) (hBw : B ≤ w.heap.size) (hB : Boxed w b 9 (.string s)) :
    SeqXs Tryd.prog 63 #[.pointer (some ⟨b, 0, none⟩)] strEnc (nms false s.data.toList) (KbI (fun k => k = b) B) w := by
  obtain ⟨l, hl⟩ : ∃ l, s.data.toList = l := ⟨_, rfl⟩
  have hll : l.length = s.size := by rw [← hl, Lib.size_eq]
  rw [hl]
  generalize hxs : nms false l = xs
  intro lp J Jx W hW hJ hJx hY h0
  have hbx := box_below hB hW hB.lt
  have hbK : b < W.heap.size := hbx.lt
  have hWB : B ≤ W.heap.size := Nat.le_trans hBw hW.size
  have hcb := hbx.cell
  have hJi := abides_below hJ h0 ((Below.refl W.heap.size W).alloc (Nat.le_refl _) (.stringIter s 0))
  have hbi := hbx.alloc (.stringIter s 0)
  have hit0 := World.iter_heap W s 0
  obtain ⟨K, hK⟩ : ∃ K, W.heap.size = K := ⟨_, rfl⟩
  have hp0 : Hid (∃ pre : List BL, pre.length = 0 ∧ xs = pre ++ nms (signR 32) (l.drop 0)) := Lib.hid ⟨[], rfl, hxs.symm⟩
  have HY := Lib.hid hY
  clear hY
  clear hW hB hxs h0 hbx
  refine callsIn_of_wp Tryd.func63 rfl trivial ?_ rfl
  simp only [Tryd.ntmps63, List.size_toArray, List.length_cons, List.length_nil, Nat.reduceAdd, Nat.reduceSub, Array.replicate_succ, Array.replicate_zero, List.push_toArray, List.append_toArray, List.nil_append, List.cons_append]
  refine wpIn_scope_wide ?_
  gi_wp2_with (apply wpIn_label)
  clear hcb
  gi_loopw [3] (fun v3 wr => ∃ (a : Int) (pos n : Nat), v3 = .int .i32 a ∧ wr.heap[K]? = some (.stringIter s pos) ∧ Boxed wr b 9 (.string s) ∧ Hid (∃ pre : List BL, pre.length = n ∧ xs = pre ++ nms (signR a) (l.drop pos)) ∧ J n wr) (fun _ wr => s.size - wr.iterPos K)
  case atStart => exact ⟨32, 0, 0, rfl, by rw [← hK]; exact hit0, hbi, hp0, hJi⟩
  case round =>
    obtain ⟨a, pos, n, rfl, hit, hbx, hp, hJs⟩ := hrel
    clear hp0 hit0 hbi hJi
    have hKlt : K < wr.heap.size := (Array.getElem?_eq_some_iff.1 hit).1
    by_cases hps : pos < s.size
    · obtain ⟨⟨r, d⟩, hd⟩ : ∃ x, Utf8.decode s pos = x := ⟨_, rfl⟩
      have hnx := fun ty => Lib.run_next_any_at (P := Tryd.prog) wr K s pos ty hit hps
      have hst := nms_sign (l.drop pos) (by rw [← hl]; exact drop_ne hps) (signR a)
      have hdl := Lib.decodeL_drop s pos
      rw [hl, hd] at hdl
      rw [hdl] at hst
      rw [hd] at hnx
      have hdb := dec_bd s pos hps
      rw [hd] at hdb
      simp only at hdb hst hnx
      rw [List.drop_drop, List.tail_drop] at hst
      have hit2 := Lib.iterAt_heap wr K s pos (pos + d) hit
      have hbx2 := cell_iterAt hbx (show b ≠ K by omega) s (pos + d)
      have hJ2 := abides_iterAt hJ hJs hit (by omega) (pos + d)
      have hsz2 := Lib.iterAt_size wr K s (pos + d)
      obtain ⟨W1, hW1⟩ : ∃ W1, wr.iterAt K s (pos + d) = W1 := ⟨_, rfl⟩
      rw [hW1] at hit2 hbx2 hJ2 hnx hsz2
      have hmeas : ∀ W' : World, W'.heap[K]? = some (.stringIter s (pos + d)) → s.size - W'.iterPos K < s.size - wr.iterPos K := fun W' h => by
        simp only [World.iterPos, hit, h]
        omega
      clear hW1 hJs hbx hdl hd hit hsz2
      by_cases hr : r = 64
      · subst hr
        obtain ⟨p, hpA⟩ : ∃ p, signR a = p := ⟨_, rfl⟩
        have cS := fun W => signP_any a W
        rw [hpA] at cS hst
        cases p
        · obtain ⟨R, hR⟩ : ∃ R, runN (l.drop (pos + 1)) = R := ⟨_, rfl⟩
          obtain ⟨E, hE⟩ : ∃ E, s.size = E := ⟨_, rfl⟩
          have hcb := hbx2.cell
          have hK1 : K < W1.heap.size := (Array.getElem?_eq_some_iff.1 hit2).1
          have hxd := ext_drop s (pos + 1)
          rw [hl, hE] at hxd
          obtain ⟨T, hT⟩ : ∃ T, mkS (l.drop (pos + 1)) = T := ⟨_, rfl⟩
          have hTd : T.data.toList = l.drop (pos + 1) := by rw [← hT, mkS_data]
          have hTz : T.size = E - (pos + 1) := by rw [← hT, mkS_size, List.length_drop, hll, hE]
          rw [hT] at hxd
          have hpI1 : (pos : Int) + 1 ≤ (E : Int) := by omega
          have hpI0 : (0 : Int) ≤ (pos : Int) + 1 := by omega
          have hpI2 : (pos : Int) < 1000000000 := by omega
          have hpI3 : (0 : Int) ≤ (pos : Int) := by omega
          have hbw2 : ∀ q, Below W1.heap.size W1 (W1.iter T q) := fun q => (Below.refl _ _).alloc (Nat.le_refl _) _
          rw [hR] at hst
          have HST := Lib.hid hst
          clear hst
          gi_wp2
          refine ⟨trivial, ?_⟩
          refine (callsIn_wide.2 (cS _)).mono ?_
          rintro e W' ⟨rfl, rfl⟩
          gi_wp2
          gi_loopw [7] (fun v7 w2 => ∃ q : Nat, v7 = .int .i64 E ∧ w2 = W1.iter T q ∧ Hid (q + runN (T.data.toList.drop q) = R) ∧ q ≤ T.size) (fun _ w2 => T.size - w2.iterPos W1.heap.size)
          case atStart => exact ⟨0, rfl, rfl, Lib.hid (by rw [hTd, List.drop_zero, hR]; omega), by omega⟩
          case round =>
            obtain ⟨q, rfl, rfl, hq, hqz⟩ := hrel
            by_cases hqs : q < T.size
            · have hnx2 : ∀ ty, (Instr.next (.pointer (some ⟨W1.heap.size, 0, none⟩)) true ty).run Tryd.prog (W1.iter T q) = _ := fun ty => run_next_any W1 T q ty hqs
              obtain ⟨⟨r2, d2⟩, hd2⟩ : ∃ x, Utf8.decode T q = x := ⟨_, rfl⟩
              have hrs := runN_sign (T.data.toList.drop q) (drop_ne hqs)
              rw [Lib.decodeL_drop, hd2, List.drop_drop] at hrs
              rw [hd2] at hnx2
              simp only at hrs hnx2
              obtain ⟨p2, hp2⟩ : ∃ p2, signR (r2 : Int) = p2 := ⟨_, rfl⟩
              have cS2 := fun W => signP_any (r2 : Int) W
              rw [hp2] at cS2 hrs
              cases p2
              · have hqR := hrs.2 rfl
                have hqR2 : q = R := by have := hq.out; omega
                subst hqR2
                have hle : (pos : Int) + 1 + (q : Int) ≤ (s.size : Int) := by omega
                have hq9 : q < 1000000000 := by omega
                clear hrs hq hqR hqs hqz hE hxd hTz hpI1
                gi_wp2
                refine ⟨trivial, ?_⟩
                refine (callsIn_wide.2 (cS2 _)).mono ?_
                rintro e W' ⟨rfl, rfl⟩
                clear hnx2 cS2
                have hbz := hbw2 (q + d2)
                have hbx3 := box_step hbx2 hbz
                have hJ3 := abides_below hJ hJ2 (hbz.mono (by omega))
                have hit3 := (hbz.block K hK1).trans hit2
                have hcb3 := hbx3.cell
                have q1 : (q : Int) < 1000000000 := by omega
                have hsub : (pos : Int) + 1 + (q : Int) - (pos : Int) - 1 = (q : Int) := by omega
                gi_upto_region 14 with fail
                by_cases hc1 : 0 < q ∧ q ≤ 16
                · have hc1' : (0 : Int) < (q : Int) := by omega
                  have hc2' : (q : Int) ≤ 16 := by omega
                  have hP := hp.out
                  rw [hpA, HST.out, if_pos (by first | exact ⟨rfl, rfl, hc1⟩ | exact ⟨trivial, trivial, hc1⟩)] at hP
                  have hxx : s.extract (pos + 1) (pos + 1 + q) = mkS ((l.drop (pos + 1)).take q) := by
                    rw [Lib.extract_eq, hl, show pos + 1 + q - (pos + 1) = q by omega]
                    rfl
                  generalize (l.drop (pos + 1)).take q = x at *
                  have hx : xs[n]? = some x := by
                    obtain ⟨pre, h1, h2⟩ := hP
                    rw [h2, ← h1]; simp
                  have hp2 : Hid (∃ pre : List BL, pre.length = n + 1 ∧ xs = pre ++ nms (signR 64) (l.drop (pos + d))) := Lib.hid (by
                    obtain ⟨pre, h1, h2⟩ := hP
                    exact ⟨pre ++ [x], by simp [h1], by rw [h2]; simp⟩)
                  have HLT : Hid (n < xs.length) := Lib.hid (List.getElem?_eq_some_iff.1 hx).1
                  obtain ⟨fn, tmps, assign, body, hy, hRR⟩ := HY.out n x _ hx hJ3
                  have HR := Lib.hid hRR
                  obtain ⟨hn1, hn2⟩ := hc1
                  clear hRR hp HST hP hx
                  dsimp only [strEnc] at hy
                  gi_wp2
                  refine HR.out.mono ?_
                  rintro e W3 (⟨rfl, hJ4, hk4⟩ | ⟨rfl, hJx4⟩)
                  · have hit4 := hk4.2 K _ (by omega) hit3 rfl
                    have hbx4 : Boxed W3 b 9 (.string s) := (hk4.1 b rfl).trans hbx3
                    clear hcb hcb3 hk4 HR hy hbz
                    gi_wp2
                    go_roundw
                    case rel => exact ⟨64, pos + d, n + 1, by first | rfl | simp, hit4, hbx4, hp2, hJ4⟩
                    case measure => exact hmeas _ hit4
                  · gi_wp2
                    (try rw [Exit.noGoto_normal])
                    refine bodyPost_end (results_none rfl _ _ _) rfl ?_
                    exact ⟨⟨_, rfl⟩, .inr ⟨n, HLT.out, hJx4⟩⟩
                · have hp2 : Hid (∃ pre : List BL, pre.length = n ∧ xs = pre ++ nms (signR 64) (l.drop (pos + d))) := Lib.hid (by
                    obtain ⟨pre, h1, h2⟩ := hp.out
                    rw [hpA, HST.out, if_neg (fun e => hc1 e.2.2), List.nil_append] at h2
                    exact ⟨pre, h1, h2⟩)
                  clear hp HST
                  by_cases hc2 : 0 < q
                  · have hc1' : (0 : Int) < (q : Int) := by omega
                    have hc2' : decide ((q : Int) ≤ 16) = false := by rw [decide_eq_false_iff_not]; omega
                    have hc3' : ¬ q ≤ 16 := by omega
                    clear hc1 q1 hsub hle hq9 hpI2 hpI0 hpI3 hs
                    gi_wp2
                    all_goals
                      refine ⟨fun _ _ => trivial, ?_⟩
                      gi_wp2
                      go_roundw
                      case rel => exact ⟨64, pos + d, n, by first | rfl | simp, hit3, hbx3, hp2, hJ3⟩
                      case measure => exact hmeas _ hit3
                  · have hc1' : decide ((0 : Int) < (q : Int)) = false := by rw [decide_eq_false_iff_not]; omega
                    clear hc1 q1 hsub hle hq9 hpI2 hpI0 hpI3 hs
                    gi_wp2
                    all_goals
                      refine ⟨fun _ _ => trivial, ?_⟩
                      gi_wp2
                      go_roundw
                      case rel => exact ⟨64, pos + d, n, by first | rfl | simp, hit3, hbx3, hp2, hJ3⟩
                      case measure => exact hmeas _ hit3
              · obtain ⟨rfl, hq1⟩ := hrs.1 rfl
                have hq2 : Hid ((q + 1) + runN (T.data.toList.drop (q + 1)) = R) := Lib.hid (by have := hq.out; omega)
                clear hrs hq hq1
                gi_wp2
                refine ⟨trivial, ?_⟩
                refine (callsIn_wide.2 (cS2 _)).mono ?_
                rintro e W' ⟨rfl, rfl⟩
                gi_wp2
                go_roundw
                case rel => exact ⟨q + 1, rfl, rfl, hq2, by omega⟩
                case measure => simp; omega
            · have hnx2 : ∀ ty, (Instr.next (.pointer (some ⟨W1.heap.size, 0, none⟩)) true ty).run Tryd.prog (W1.iter T q) = _ := fun ty => run_next_end W1 T q ty hqs
              have hqR2 : q = R := by
                have h1 := hq.out
                rw [drop_nil hqs] at h1
                simpa [runN] using h1
              have hE2 : (E : Int) = (pos : Int) + 1 + (q : Int) := by omega
              subst hqR2
              rw [hE2]
              have hle : (pos : Int) + 1 + (q : Int) ≤ (s.size : Int) := by omega
              have hq9 : q < 1000000000 := by omega
              clear hq hqs hqz hE hE2 hxd hTz hpI1
              have hbz := hbw2 q
              have hbx3 := box_step hbx2 hbz
              have hJ3 := abides_below hJ hJ2 (hbz.mono (by omega))
              have hit3 := (hbz.block K hK1).trans hit2
              have hcb3 := hbx3.cell
              have q1 : (q : Int) < 1000000000 := by omega
              have hsub : (pos : Int) + 1 + (q : Int) - (pos : Int) - 1 = (q : Int) := by omega
              gi_upto_region 14 with fail
              by_cases hc1 : 0 < q ∧ q ≤ 16
              · have hc1' : (0 : Int) < (q : Int) := by omega
                have hc2' : (q : Int) ≤ 16 := by omega
                have hP := hp.out
                rw [hpA, HST.out, if_pos (by first | exact ⟨rfl, rfl, hc1⟩ | exact ⟨trivial, trivial, hc1⟩)] at hP
                have hxx : s.extract (pos + 1) (pos + 1 + q) = mkS ((l.drop (pos + 1)).take q) := by
                  rw [Lib.extract_eq, hl, show pos + 1 + q - (pos + 1) = q by omega]
                  rfl
                generalize (l.drop (pos + 1)).take q = x at *
                have hx : xs[n]? = some x := by
                  obtain ⟨pre, h1, h2⟩ := hP
                  rw [h2, ← h1]; simp
                have hp2 : Hid (∃ pre : List BL, pre.length = n + 1 ∧ xs = pre ++ nms (signR 64) (l.drop (pos + d))) := Lib.hid (by
                  obtain ⟨pre, h1, h2⟩ := hP
                  exact ⟨pre ++ [x], by simp [h1], by rw [h2]; simp⟩)
                have HLT : Hid (n < xs.length) := Lib.hid (List.getElem?_eq_some_iff.1 hx).1
                obtain ⟨fn, tmps, assign, body, hy, hRR⟩ := HY.out n x _ hx hJ3
                have HR := Lib.hid hRR
                obtain ⟨hn1, hn2⟩ := hc1
                clear hRR hp HST hP hx
                dsimp only [strEnc] at hy
                gi_wp2
                refine HR.out.mono ?_
                rintro e W3 (⟨rfl, hJ4, hk4⟩ | ⟨rfl, hJx4⟩)
                · have hit4 := hk4.2 K _ (by omega) hit3 rfl
                  have hbx4 : Boxed W3 b 9 (.string s) := (hk4.1 b rfl).trans hbx3
                  clear hcb hcb3 hk4 HR hy hbz
                  gi_wp2
                  go_roundw
                  case rel => exact ⟨64, pos + d, n + 1, by first | rfl | simp, hit4, hbx4, hp2, hJ4⟩
                  case measure => exact hmeas _ hit4
                · gi_wp2
                  (try rw [Exit.noGoto_normal])
                  refine bodyPost_end (results_none rfl _ _ _) rfl ?_
                  exact ⟨⟨_, rfl⟩, .inr ⟨n, HLT.out, hJx4⟩⟩
              · have hp2 : Hid (∃ pre : List BL, pre.length = n ∧ xs = pre ++ nms (signR 64) (l.drop (pos + d))) := Lib.hid (by
                  obtain ⟨pre, h1, h2⟩ := hp.out
                  rw [hpA, HST.out, if_neg (fun e => hc1 e.2.2), List.nil_append] at h2
                  exact ⟨pre, h1, h2⟩)
                clear hp HST
                by_cases hc2 : 0 < q
                · have hc1' : (0 : Int) < (q : Int) := by omega
                  have hc2' : decide ((q : Int) ≤ 16) = false := by rw [decide_eq_false_iff_not]; omega
                  have hc3' : ¬ q ≤ 16 := by omega
                  clear hc1 q1 hsub hle hq9 hpI2 hpI0 hpI3 hs
                  gi_wp2
                  all_goals
                    refine ⟨fun _ _ => trivial, ?_⟩
                    gi_wp2
                    go_roundw
                    case rel => exact ⟨64, pos + d, n, by first | rfl | simp, hit3, hbx3, hp2, hJ3⟩
                    case measure => exact hmeas _ hit3
                · have hc1' : decide ((0 : Int) < (q : Int)) = false := by rw [decide_eq_false_iff_not]; omega
                  clear hc1 q1 hsub hle hq9 hpI2 hpI0 hpI3 hs
                  gi_wp2
                  all_goals
                    refine ⟨fun _ _ => trivial, ?_⟩
                    gi_wp2
                    go_roundw
                    case rel => exact ⟨64, pos + d, n, by first | rfl | simp, hit3, hbx3, hp2, hJ3⟩
                    case measure => exact hmeas _ hit3
        · have hp2 : Hid (∃ pre : List BL, pre.length = n ∧ xs = pre ++ nms (signR 64) (l.drop (pos + d))) := Lib.hid (by
            obtain ⟨pre, h1, h2⟩ := hp.out
            rw [hpA, hst, if_neg (fun e => by cases e.2.1), List.nil_append] at h2
            exact ⟨pre, h1, h2⟩)
          clear hp hst
          gi_wp2
          refine ⟨trivial, ?_⟩
          refine (callsIn_wide.2 (cS _)).mono ?_
          rintro e W' ⟨rfl, rfl⟩
          gi_wp2
          go_roundw
          case rel => exact ⟨64, pos + d, n, by first | rfl | simp, hit2, hbx2, hp2, hJ2⟩
          case measure => exact hmeas _ hit2
      · have hr' : ((r : Int) != 64) = true := by rw [bne_iff_ne]; omega
        have hp2 : Hid (∃ pre : List BL, pre.length = n ∧ xs = pre ++ nms (signR (r : Int)) (l.drop (pos + d))) := Lib.hid (by
          obtain ⟨pre, h1, h2⟩ := hp.out
          rw [hst, if_neg (fun e => hr e.1), List.nil_append] at h2
          exact ⟨pre, h1, h2⟩)
        clear hp hst
        gi_wp2
        refine ⟨trivial, ?_⟩
        gi_wp2
        go_roundw
        case rel => exact ⟨r, pos + d, n, rfl, hit2, hbx2, hp2, hJ2⟩
        case measure => exact hmeas _ hit2
    · have hnx : ∀ ty, (Instr.next (.pointer (some ⟨K, 0, none⟩)) true ty).run Tryd.prog wr = _ := fun ty => Lib.run_next_end_at wr K s pos ty hit hps
      have hn : Hid (n = xs.length) := Lib.hid (by
        obtain ⟨pre, h1, h2⟩ := hp.out
        rw [List.drop_of_length_le (by omega)] at h2
        rw [h2, ← h1]; simp [nms])
      clear hp
      gi_wp2
      (try rw [Exit.noGoto_normal])
      refine bodyPost_end (results_none rfl _ _ _) rfl ?_
      exact ⟨⟨_, rfl⟩, .inl (hn.out ▸ hJs)⟩
end Go.Proofs.YtehjglaofhgjfaaDoor
