
/- Package text: Quote. -/
import Derived.Test.YtehjglaofhgjfaaDoorTyE
import Derived.Test.YtehjglaofhgjfaaDoorTyF
import Derived.Test.YtehjglaofhgjfaaDoorTail
import Derived.Test.YtehjglaofhgjfaaDoorMem
import Derived.Test.YtehjglaofhgjfaaDoorAcO
namespace Go.Proofs.YtehjglaofhgjfaaDoor
set_option linter.unusedSimpArgs false
set_option linter.unusedVariables false
open Go.RowKit
set_option maxRecDepth 100000 in
theorem and_fin : ∀ m : Fin 256, bits .and .u8 ((m.1 : Nat) : Int) 15 = (((m.1 % 16 : Nat)) : Int) := by decide
theorem and_nat (m : Nat) (h : m < 256) : bits .and .u8 (m : Int) 15 = ((m % 16 : Nat) : Int) := and_fin ⟨m, h⟩
theorem cells_str (a : BL) (x : BL) : Lib.byteCells a ++ Lib.strCells (mkS x) = Lib.byteCells (a ++ x) := by
  rw [Lib.byteCells_append]; rfl
theorem cells_one1 (a : BL) (c : UInt8) : Lib.byteCells a ++ [.int .u8 (c.toNat : Int)] = Lib.byteCells (a ++ [c]) := by
  rw [Lib.byteCells_append]; rfl
theorem cells_len (a : BL) : (Lib.byteCells a).length = a.length := Lib.byteCells_length a
theorem dig_ext (n : Nat) (h : n < 16) : (⟨#[48, 49, 50, 51, 52, 53, 54, 55, 56, 57, 97, 98, 99, 100, 101, 102]⟩ : ByteArray).extract n (n + 1) = mkS [hexd n] := by
  have he : ∀ m : Fin 16, (⟨#[48, 49, 50, 51, 52, 53, 54, 55, 56, 57, 97, 98, 99, 100, 101, 102]⟩ : ByteArray).extract m.1 (m.1 + 1) = mkS [hexd m.1] := by decide
  exact he ⟨n, h⟩
theorem IsB.step {B b : Nat} {bs : List Value} {W W' : World} (h : IsB B b bs W) (hb : Below W.heap.size W W') : IsB B b bs W' := by
  have key : ∀ p, Lib.BuilderAt 67 5 B b p bs W → Lib.BuilderAt 67 5 B b p bs W' := by
    rintro p ⟨hB, v, hv, ho, hn⟩
    exact ⟨hB, v, (hb.block b (Array.getElem?_eq_some_iff.1 hv).1).trans hv, own_step ho hb, hn⟩
  rcases h with h | h
  · exact .inl (key _ h)
  · exact .inr (key _ h)
set_option maxRecDepth 100000 in
set_option maxHeartbeats 4000000 in
theorem quote_any (s : ByteArray) (n : Nat) (hs0 : s.size = n) (hs : n ≤ 1000000000) (w : World) : Calls Tryd.prog 21 #[.string s] w fun e w' => e = .returned (.string (quoteS s)) ∧ Below w.heap.size w w' := by
  have hn : s.data.toList.length = n := (Lib.size_eq s).symm.trans hs0
  obtain ⟨l, hl⟩ : ∃ l, s.data.toList = l := ⟨_, rfl⟩
  have hR : Hid (mkS (quoteL l) = quoteS s) := Lib.hid (by rw [← hl]; rfl)
  rw [hl] at hn
  generalize quoteS s = R at *
  obtain ⟨B, hB⟩ : ∃ B, w.heap.size = B := ⟨_, rfl⟩
  have hI0 := Lib.fresh_isBuilder 67 5 w
  have hb0 : Below w.heap.size w (w.alloc (.cells #[.pointer none, .slice none 0 0] 67)) := (Below.refl _ w).alloc (Nat.le_refl _) _
  rw [hB] at hI0 hb0
  go_enter Tryd.func21, Tryd.ntmps21
  go_upto_region 2 with fail
  generalize w.alloc (.cells #[.pointer none, .slice none 0 0] 67) = w0 at *
  have hsz := hb0.size
  rw [hB] at hsz
  go_wp2_with fail
  refine (writeByte_any B B [] 34 _ hI0 (by simp) hsz).mono ?_
  rintro e w1 ⟨rfl, h1, b1⟩
  replace hI0 : IsB B B (Lib.byteCells (qTo l 0)) w1 := .inr h1
  replace hb0 := hb0.trans b1
  have HI0 := Lib.hid (show IsB B B (Lib.byteCells (qTo l 0)) w1 ∧ Below B w w1 from ⟨hI0, hb0⟩)
  clear hI0 hb0 h1 b1 hsz
  go_wp2_with fail
  go_loopw [4, 5, 9] (fun _ _ v wr => ∃ i : Nat, v = .int .i64 i ∧ i ≤ n ∧ Hid (IsB B B (Lib.byteCells (qTo l i)) wr ∧ Below B w wr)) (fun _ _ v _ => n - (intOf v).toNat)
  case atStart => exact ⟨0, rfl, by omega, HI0⟩
  case round =>
    obtain ⟨i, rfl, hi, hI⟩ := hrel
    clear HI0
    obtain ⟨hIs, hbw⟩ := hI.out
    have hsz := hbw.size
    rw [hB] at hsz
    have hql := qTo_len l i
    by_cases hlt : i < n
    · obtain ⟨c, hc⟩ : ∃ c, l[i]? = some c := ⟨_, List.getElem?_eq_getElem (by omega)⟩
      have hc0 : s.data.toList[i]? = some c := by rw [hl]; exact hc
      have hs1 : (mkS [c]).size = 1 := rfl
      obtain ⟨Z, hZ⟩ : ∃ Z, (mkS (qTo l i)).size = Z := ⟨_, rfl⟩
      have hZ2 : Z ≤ 5000000000 := by
        have := qTo_len l i
        rw [← hZ, mkS_size]
        omega
      have hgi := get_at s i c hc0 (by omega)
      have hex := ext_one s i c hc0
      have i0 : (0 : Int) ≤ (i : Int) := by omega
      have i1 : (i : Int) < (n : Int) := by omega
      have i2 : (i : Int) < 1000000000000 := by omega
      have hlt2 : i < s.size := by omega
      have hsucc := qTo_succ l i c hc
      have c0 := c.toNat_lt
      have hgm : (s[i]'hlt2).toNat = c.toNat := by rw [hgi]
      obtain ⟨m, hm⟩ : ∃ m, c.toNat = m := ⟨_, rfl⟩
      rw [hm] at hgm
      clear hgi hc hc0 hl hn hR
      have cB := fun (k : Int) => writeByte_any B B (Lib.byteCells (qTo l i)) k wr hIs (by rw [cells_len]; omega) hsz
      have cS := fun (x : BL) (hx : x.length ≤ 4) => writeString_any B B (Lib.byteCells (qTo l i)) (mkS x) wr hIs (by rw [cells_len, mkS_size]; omega) hsz
      clear hI
      by_cases h1 : m = 34 ∨ m = 92
      · have hq : qB c = [92, c] := by unfold qB; rw [if_pos (by omega)]
        have ha1 : (⟨#[92]⟩ : ByteArray) ++ mkS [c] = mkS [92, c] := mkS_app [92] [c]
        have cS2 := cS [92, c] (by simp)
        rw [cells_str, show qTo l i ++ [92, c] = qTo l (i + 1) by rw [← hq, hsucc]] at cS2
        clear hsucc hq cS cB hm hIs hql hZ hZ2 hsz
        rcases h1 with rfl | rfl
        · go_wp2_with fail
          refine (cS2).mono ?_
          rintro e w2 ⟨rfl, h2, b2⟩
          have HI2 := Lib.hid (show IsB B B (Lib.byteCells (qTo l (i + 1))) w2 ∧ Below B w w2 from ⟨.inr h2, hbw.trans b2⟩)
          clear h2 b2
          go_wp2_with fail
          go_roundw
          case rel => exact ⟨i + 1, by go_num, by omega, HI2⟩
          case measure => simp [intOf]; omega
        · go_wp2_with fail
          refine (cS2).mono ?_
          rintro e w2 ⟨rfl, h2, b2⟩
          have HI2 := Lib.hid (show IsB B B (Lib.byteCells (qTo l (i + 1))) w2 ∧ Below B w w2 from ⟨.inr h2, hbw.trans b2⟩)
          clear h2 b2
          go_wp2_with fail
          go_roundw
          case rel => exact ⟨i + 1, by go_num, by omega, HI2⟩
          case measure => simp [intOf]; omega
      · have n1' : ((m : Int) == 34) = false := by rw [beq_eq_false_iff_ne]; omega
        have n2' : ((m : Int) == 92) = false := by rw [beq_eq_false_iff_ne]; omega
        by_cases h2 : 32 ≤ m ∧ m < 127
        · have hq : qB c = [c] := by unfold qB; rw [if_neg (by omega), if_pos (by omega)]
          have cB2 := cB (c.toNat : Int)
          rw [cells_one1, show qTo l i ++ [c] = qTo l (i + 1) by rw [← hq, hsucc], hm] at cB2
          have g1 : (32 : Int) ≤ (m : Int) := by omega
          have g2 : (m : Int) < 127 := by omega
          clear hsucc hq h2 h1 cB cS hm c0 hIs hql hZ hZ2 hsz
          go_wp2_with fail
          refine (cB2).mono ?_
          rintro e w2 ⟨rfl, h2, b2⟩
          have HI2 := Lib.hid (show IsB B B (Lib.byteCells (qTo l (i + 1))) w2 ∧ Below B w w2 from ⟨.inr h2, hbw.trans b2⟩)
          clear h2 b2
          go_wp2_with fail
          go_roundw
          case rel => exact ⟨i + 1, by go_num, by omega, HI2⟩
          case measure => simp [intOf]; omega
        · have hq : qB c = [92, 120, hexd (m / 16), hexd (m % 16)] := by unfold qB; rw [if_neg (by omega), if_neg (by omega), hm]
          have hcc : qTo l i ++ [92, 120, hexd (m / 16), hexd (m % 16)] = qTo l (i + 1) := by rw [← hq, hsucc]
          have hbig : (qTo l i).length + [92, 120, hexd (m / 16), hexd (m % 16)].length ≤ 140737488355328 := by simp; omega
          have ha1 : (⟨#[92, 120]⟩ : ByteArray) ++ mkS [hexd (m / 16)] ++ mkS [hexd (m % 16)] = mkS [92, 120, hexd (m / 16), hexd (m % 16)] := by
            rw [show (⟨#[92, 120]⟩ : ByteArray) = mkS [92, 120] from rfl, mkS_app, mkS_app]; rfl
          have m0 : (0 : Int) ≤ (m : Int) := by omega
          have m1 : (m : Int) < 256 := by omega
          have hx1 : (mkS [hexd (m / 16)]).size = 1 := rfl
          have hx2 : (mkS [hexd (m % 16)]).size = 1 := rfl
          have he1 := dig_ext (m / 16) (by omega)
          have he2 := dig_ext (m % 16) (by omega)
          have hand := and_nat m (by omega)
          by_cases g1 : 32 ≤ m
          · have g1' : (32 : Int) ≤ (m : Int) := by omega
            have g2' : ¬ (m : Int) < 127 := by omega
            clear hsucc hq h2 h1 cB cS hm c0 g1 hql hZ hZ2
            go_upto_region 7 with fail
            refine wp_region_head (C := ExtA wr) 14 (by kernel_rfl) (by decide) (by kernel_rfl) ⟨rfl, rfl, rfl, Nat.le_refl _, fun _ _ => rfl⟩ ?_
            simp only [List.take_succ_cons, List.take_zero]
            repeat
              (first
                | go_big_quiet_skip
                | (go_big_quiet_want
                   go_big_quiet_op
                   first
                     | go_big_quiet_on
                     | (apply Exists.intro
                        refine ⟨fun w' hC9 => ?_, ?_⟩
                        · (first
                            | with_reducible rfl
                            | fail
                            | (go_simp; done)
                            | (go_simp; with_reducible rfl))
                        go_big_quiet_on)))
            refine wpQuiet_nil ?_
            intro wq hq
            replace hIs := hIs.step hq
            change wpAny _ _ _ _ (0 + 1) _ _ _
            have c2 := writeString_any B B (Lib.byteCells (qTo l i)) (mkS [92, 120, hexd (m / 16), hexd (m % 16)]) wq hIs (by rw [cells_len, mkS_size]; exact hbig) (Nat.le_trans hsz hq.size)
            rw [cells_str, hcc] at c2
            refine wpAny_ready (rs := [14]) (by kernel_rfl) (by simp) ?_
            refine AllReady.cons rfl (fun K hK => ?_) AllReady.nil
            go_simp
            refine (c2).mono ?_
            rintro e w2 ⟨rfl, h2, b2⟩
            refine hK _ _ ?_
            clear hK K
            refine wpAny_done (by kernel_rfl) ?_ _
            have HI2 := Lib.hid (show IsB B B (Lib.byteCells (qTo l (i + 1))) w2 ∧ Below B w w2 from ⟨.inr h2, (hbw.trans (hq.mono hsz)).trans b2⟩)
            clear h2 b2 hIs
            go_wp2_with fail
            go_roundw
            case rel => exact ⟨i + 1, by go_num, by omega, HI2⟩
            case measure => simp [intOf]; omega
          · have g1' : ¬ (32 : Int) ≤ (m : Int) := by omega
            clear hsucc hq h2 h1 cB cS hm c0 g1 hql hZ hZ2
            go_upto_region 7 with fail
            refine wp_region_head (C := ExtA wr) 14 (by kernel_rfl) (by decide) (by kernel_rfl) ⟨rfl, rfl, rfl, Nat.le_refl _, fun _ _ => rfl⟩ ?_
            simp only [List.take_succ_cons, List.take_zero]
            repeat
              (first
                | go_big_quiet_skip
                | (go_big_quiet_want
                   go_big_quiet_op
                   first
                     | go_big_quiet_on
                     | (apply Exists.intro
                        refine ⟨fun w' hC9 => ?_, ?_⟩
                        · (first
                            | with_reducible rfl
                            | fail
                            | (go_simp; done)
                            | (go_simp; with_reducible rfl))
                        go_big_quiet_on)))
            refine wpQuiet_nil ?_
            intro wq hq
            replace hIs := hIs.step hq
            change wpAny _ _ _ _ (0 + 1) _ _ _
            have c2 := writeString_any B B (Lib.byteCells (qTo l i)) (mkS [92, 120, hexd (m / 16), hexd (m % 16)]) wq hIs (by rw [cells_len, mkS_size]; exact hbig) (Nat.le_trans hsz hq.size)
            rw [cells_str, hcc] at c2
            refine wpAny_ready (rs := [14]) (by kernel_rfl) (by simp) ?_
            refine AllReady.cons rfl (fun K hK => ?_) AllReady.nil
            go_simp
            refine (c2).mono ?_
            rintro e w2 ⟨rfl, h2, b2⟩
            refine hK _ _ ?_
            clear hK K
            refine wpAny_done (by kernel_rfl) ?_ _
            have HI2 := Lib.hid (show IsB B B (Lib.byteCells (qTo l (i + 1))) w2 ∧ Below B w w2 from ⟨.inr h2, (hbw.trans (hq.mono hsz)).trans b2⟩)
            clear h2 b2 hIs
            go_wp2_with fail
            go_roundw
            case rel => exact ⟨i + 1, by go_num, by omega, HI2⟩
            case measure => simp [intOf]; omega
    · obtain rfl : i = n := by omega
      have i1 : ¬ (i : Int) < (i : Int) := by omega
      have cB2 := writeByte_any B B (Lib.byteCells (qTo l i)) 34 wr hIs (by rw [cells_len]; omega) hsz
      have e : Lib.byteCells (qTo l i) ++ [.int .u8 34] = Lib.byteCells (quoteL l) := by rw [← qTo_end, hn]; exact cells_one1 _ 34
      rw [e] at cB2
      clear hI hIs hql e hl hn
      go_wp2_with fail
      refine (cB2).mono ?_
      rintro e w2 ⟨rfl, h2, b2⟩
      have hb2 := hbw.trans b2
      have hsz2 := hb2.size
      rw [hB] at hsz2
      go_wp2_with fail
      refine (builder_string B B (quoteL l) _ (.inr h2) hsz2).mono ?_
      rintro e w3 ⟨rfl, b3⟩
      have e := hR.out
      subst e
      go_wp2_with fail
      go_ret
      exact ⟨rfl, by rw [hB]; exact hb2.trans b3⟩
end Go.Proofs.YtehjglaofhgjfaaDoor
