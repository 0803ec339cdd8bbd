
/- The document's learner: Hear, for every input; SameHeard. -/
import Derived.Test.YthhpblchiodahaaGreatDoorLpH
namespace Go.Proofs.YthhpblchiodahaaGreatDoor
set_option linter.unusedSimpArgs false
set_option linter.unusedVariables false
open Go.RowKit Go.Maps
theorem rhear_any (base : Nat) (A : Lrn) (L : HMap) (a : Option Addr) (N cp : Nat) (pl r p k m n : Int) (s : ByteArray) (w : World) (h : HdR w base (.slice a N cp) (srtB L)) (hbw : base ≤ w.heap.size) (hnd : (L.map (·.1)).Nodup) (hvs : ∀ x ∈ L, x.2.vs.length = 9) (hL : L.length ≤ 1000) (hr : rightB A.c = true)
    (hs : s.size ≤ 9223372036854775807) :
    Calls Tryz.prog 50 #[rV A (.slice a N cp), .int .i64 pl, .agg #[.int .i64 r, .int .i64 p], kV k m n s] w (RHear base A L pl r p k m n s w) := by
  cases hok : hearB A pl r p k m n s
  · refine (rhear_bad A a N cp pl r p k m n s w hs hok).mono ?_
    rintro e w' ⟨rfl, hb⟩
    have e1 : heE A L pl r p k m n s = 2 := by simp [heE, hok]
    have e2 : heV A L pl r p k m n s = false := by simp [heV, heW, e1]
    have e3 : heA A L pl r p k m n s = A := by simp [heA, heW, e1]
    have e4 : heL A L pl r p k m n s = L := by simp [heL, e1]
    unfold RHear
    rw [e1, e2, e3, e4]
    exact ⟨⟨_, rfl, h.step hb⟩, hb⟩
  · exact rhear_ok base A L a N cp pl r p k m n s w h hbw hnd hvs hL hr hs hok
/-- What SameHeard looks at. -/
def hKey (x : (Int × Int) × Hd) : (Int × Int) × Int × Int × Int × ByteArray × List Int := (x.1, x.2.k, x.2.m, x.2.n, x.2.s, plK 0 x.2.vs)
theorem eq4_iff {k m n : Int} {s : ByteArray} {k2 m2 n2 : Int} {s2 : ByteArray} : eq4 k m n s k2 m2 n2 s2 = true ↔ k = k2 ∧ m = m2 ∧ n = n2 ∧ s = s2 := by
  constructor
  · exact eq4_true
  · rintro ⟨rfl, rfl, rfl, rfl⟩
    simp [eq4]
theorem take_step {α : Type} {xs ys : List α} {j : Nat} {x y : α} (h : xs.take j = ys.take j) (hx : xs[j]? = some x) (hy : ys[j]? = some y) (he : x = y) : xs.take (j + 1) = ys.take (j + 1) := by
  rw [List.take_add_one, List.take_add_one, h, hx, hy, he]
theorem not_same {α : Type} {xs ys : List α} {j : Nat} {x y : α} (hx : xs[j]? = some x) (hy : ys[j]? = some y) (he : x ≠ y) : xs ≠ ys := fun h => by
  subst h
  rw [hx] at hy
  injection hy with h
  exact he h
set_option maxRecDepth 100000 in
set_option maxHeartbeats 4000000 in
theorem rsameH_any {base base2 : Nat} {xs ys : HMap} {a a2 : Option Addr} {N N2 cp cp2 : Nat} (w : World) (h : HdR w base (.slice a N cp) xs) (h2 : HdR w base2 (.slice a2 N2 cp2) ys) (hN : N ≤ 10000) (hvx : ∀ x ∈ xs, x.2.vs.length = 9) :
    Calls Tryz.prog 53 #[.slice a N cp, .slice a2 N2 cp2] w fun e w' => (∃ b, e = .returned (.bool b) ∧ (b = true ↔ xs.map hKey = ys.map hKey)) ∧ Below w.heap.size w w' := by
  have hx1 : xs.length = N := by
    obtain ⟨a', c', e, -⟩ := h.form
    injection e with _ e2 _
    exact e2.symm
  have hy1 : ys.length = N2 := by
    obtain ⟨a', c', e, -⟩ := h2.form
    injection e with _ e2 _
    exact e2.symm
  have hb := From.refl w
  by_cases hNN : N = N2
  · subst hNN
    have hen : ((N : Int) != (N : Int)) = false := by simp
    have HX := Lib.hid h
    have HY := Lib.hid h2
    have HV := Lib.hid hvx
    have HLX := Lib.hid hx1
    have HLY := Lib.hid hy1
    clear h h2 hvx hx1 hy1
    go_enter Tryz.func53, Tryz.ntmps53
    go_wp2_with fail
    clear hen
    go_loopw [5, 6] (fun v v6 wr => ∃ j : Nat, v = .int .i64 j ∧ j ≤ N ∧ Hid ((xs.map hKey).take j = (ys.map hKey).take j) ∧ From w wr) (fun v _ _ => N - (intOf v).toNat)
    case atStart => exact ⟨0, rfl, by omega, Lib.hid rfl, hb⟩
    clear hb
    case round =>
      obtain ⟨j, rfl, hj, hT, hb⟩ := hrel
      have j0 : (0 : Int) ≤ (j : Int) := by omega
      by_cases hlt : j < N
      · have j1 : (j : Int) < (N : Int) := by omega
        obtain ⟨x, hx⟩ : ∃ x, xs[j]? = some x := ⟨xs[j]'(by have := HLX.out; omega), List.getElem?_eq_getElem _⟩
        obtain ⟨y, hy⟩ : ∃ y, ys[j]? = some y := ⟨ys[j]'(by have := HLY.out; omega), List.getElem?_eq_getElem _⟩
        obtain ⟨gx, cx, ux, hva, hux, xcell⟩ := HX.out.row hx
        injection hva with e1 e2 e3
        subst e1 e3
        clear e2
        obtain ⟨gy, cy, uy, hva, huy, ycell⟩ := HY.out.row hy
        injection hva with e1 e2 e3
        subst e1 e3
        clear e2
        have hv9 := HV.out x (List.mem_of_getElem? hx)
        have hmx : (xs.map hKey)[j]? = some (hKey x) := by rw [List.getElem?_map, hx]; rfl
        have hmy : (ys.map hKey)[j]? = some (hKey y) := by rw [List.getElem?_map, hy]; rfl
        obtain ⟨⟨⟨xr, xp⟩, ⟨xk, xm, xn, xs', xv⟩⟩, hxe⟩ : ∃ z, x = z := ⟨_, rfl⟩
        subst hxe
        obtain ⟨⟨⟨yr, yp⟩, ⟨yk, ym, yn, ys', yv⟩⟩, hye⟩ : ∃ z, y = z := ⟨_, rfl⟩
        subst hye
        unfold hKey at hmx hmy
        simp only at hux huy hv9 hmx hmy
        have hl9 : (plK 0 xv).length ≤ 9 := hv9 ▸ plK_len 0 xv
        obtain ⟨au, cu, rfl, hca⟩ := hux.cellsAt
        obtain ⟨bu, du, rfl, hcb⟩ := huy.cellsAt
        obtain ⟨A, hA⟩ : ∃ l, plK 0 xv = l := ⟨_, rfl⟩
        obtain ⟨B, hB⟩ : ∃ l, plK 0 yv = l := ⟨_, rfl⟩
        rw [hA] at hl9 hca hmx xcell
        rw [hB] at hcb hmy ycell
        obtain ⟨na, hna⟩ : ∃ n, A.length = n := ⟨_, rfl⟩
        obtain ⟨nb, hnb⟩ : ∃ n, B.length = n := ⟨_, rfl⟩
        rw [hna] at hl9 xcell
        rw [hnb] at ycell
        have HCA := Lib.hid hca
        have HCB := Lib.hid hcb
        have HMX := Lib.hid hmx
        have HMY := Lib.hid hmy
        have HNA := Lib.hid hna
        have HNB := Lib.hid hnb
        clear hca hcb hmx hmy hna hnb hux huy hx hy hv9 hA hB
        have heb := fun W => ne_ballot xr xp yr yp W
        have hee := fun W => ne_entry xk xm xn xs' yk ym yn ys' W
        cases hE : eq2 xr xp yr yp
        · simp only [hE] at heb
          have hne : xs.map hKey ≠ ys.map hKey := not_same HMX.out HMY.out (fun e => by simp only [Prod.mk.injEq] at e; obtain ⟨⟨rfl, rfl⟩, -⟩ := e; simp [eq2] at hE)
          clear hE
          go_upto_region 6 with fail
          have x0 := extA_cell (cell_all (xcell 0 _ rfl) hb)
          have x1 := extA_cell (cell_all (xcell 1 _ rfl) hb)
          have x2 := extA_cell (cell_all (xcell 2 _ rfl) hb)
          have x3 := extA_cell (cell_all (xcell 3 _ rfl) hb)
          have x4 := extA_cell (cell_all (xcell 4 _ rfl) hb)
          have x5 := extA_cell (cell_all (xcell 5 _ rfl) hb)
          have x6 := extA_cell (cell_all (xcell 6 _ rfl) hb)
          have y0 := extA_cell (cell_all (ycell 0 _ rfl) hb)
          have y1 := extA_cell (cell_all (ycell 1 _ rfl) hb)
          have y2 := extA_cell (cell_all (ycell 2 _ rfl) hb)
          have y3 := extA_cell (cell_all (ycell 3 _ rfl) hb)
          have y4 := extA_cell (cell_all (ycell 4 _ rfl) hb)
          have y5 := extA_cell (cell_all (ycell 5 _ rfl) hb)
          have y6 := extA_cell (cell_all (ycell 6 _ rfl) hb)
          simp only [Nat.add_zero] at x0 y0
          refine wp_region_extB (by kernel_rfl) (by kernel_rfl) ?_
          repeat
            (first
              | go_big_quiet_skip
              | (go_big_quiet_want
                 go_big_quiet_op
                 first
                   | go_big_quiet_on
                   | (apply Exists.intro
                      refine ⟨fun w' hC9 => ?_, ?_⟩
                      · (first
                          | with_reducible rfl
                          | fail
                          | (go_simp; done)
                          | (go_simp; with_reducible rfl))
                      go_big_quiet_on)))
          refine wpQuiet_nil ?_
          intro w6 hq
          clear x0 x1 x2 x3 x4 x5 x6 y0 y1 y2 y3 y4 y5 y6
          replace hb := hb.step hq
          clear hq
          go_wp2_with fail
          go_ret
          refine ⟨⟨false, rfl, by simp; exact hne⟩, hb⟩
        · simp only [hE] at heb
          have hE2 : xr = yr ∧ xp = yp := by simpa [eq2] using hE
          have HE2 := Lib.hid hE2
          clear hE hE2
          cases hF : eq4 xk xm xn xs' yk ym yn ys'
          · simp only [hF] at hee
            have hne : xs.map hKey ≠ ys.map hKey := not_same HMX.out HMY.out (fun e => by simp only [Prod.mk.injEq] at e; obtain ⟨-, rfl, rfl, rfl, rfl, -⟩ := e; simp [eq4] at hF)
            clear hF
            go_upto_region 6 with fail
            have x0 := extA_cell (cell_all (xcell 0 _ rfl) hb)
            have x1 := extA_cell (cell_all (xcell 1 _ rfl) hb)
            have x2 := extA_cell (cell_all (xcell 2 _ rfl) hb)
            have x3 := extA_cell (cell_all (xcell 3 _ rfl) hb)
            have x4 := extA_cell (cell_all (xcell 4 _ rfl) hb)
            have x5 := extA_cell (cell_all (xcell 5 _ rfl) hb)
            have x6 := extA_cell (cell_all (xcell 6 _ rfl) hb)
            have y0 := extA_cell (cell_all (ycell 0 _ rfl) hb)
            have y1 := extA_cell (cell_all (ycell 1 _ rfl) hb)
            have y2 := extA_cell (cell_all (ycell 2 _ rfl) hb)
            have y3 := extA_cell (cell_all (ycell 3 _ rfl) hb)
            have y4 := extA_cell (cell_all (ycell 4 _ rfl) hb)
            have y5 := extA_cell (cell_all (ycell 5 _ rfl) hb)
            have y6 := extA_cell (cell_all (ycell 6 _ rfl) hb)
            simp only [Nat.add_zero] at x0 y0
            refine wp_region_extB (by kernel_rfl) (by kernel_rfl) ?_
            repeat
              (first
                | go_big_quiet_skip
                | (go_big_quiet_want
                   go_big_quiet_op
                   first
                     | go_big_quiet_on
                     | (apply Exists.intro
                        refine ⟨fun w' hC9 => ?_, ?_⟩
                        · (first
                            | with_reducible rfl
                            | fail
                            | (go_simp; done)
                            | (go_simp; with_reducible rfl))
                        go_big_quiet_on)))
            refine wpQuiet_nil ?_
            intro w6 hq
            clear x0 x1 x2 x3 x4 x5 x6 y0 y1 y2 y3 y4 y5 y6
            replace hb := hb.step hq
            clear hq
            go_wp2_with fail
            go_ret
            refine ⟨⟨false, rfl, by simp; exact hne⟩, hb⟩
          · simp only [hF] at hee
            have HF2 := Lib.hid (eq4_true hF)
            clear hF
            by_cases hnn : na = nb
            · subst hnn
              have hen : ((na : Int) != (na : Int)) = false := by simp
              go_upto_region 6 with fail
              have x0 := extA_cell (cell_all (xcell 0 _ rfl) hb)
              have x1 := extA_cell (cell_all (xcell 1 _ rfl) hb)
              have x2 := extA_cell (cell_all (xcell 2 _ rfl) hb)
              have x3 := extA_cell (cell_all (xcell 3 _ rfl) hb)
              have x4 := extA_cell (cell_all (xcell 4 _ rfl) hb)
              have x5 := extA_cell (cell_all (xcell 5 _ rfl) hb)
              have x6 := extA_cell (cell_all (xcell 6 _ rfl) hb)
              have y0 := extA_cell (cell_all (ycell 0 _ rfl) hb)
              have y1 := extA_cell (cell_all (ycell 1 _ rfl) hb)
              have y2 := extA_cell (cell_all (ycell 2 _ rfl) hb)
              have y3 := extA_cell (cell_all (ycell 3 _ rfl) hb)
              have y4 := extA_cell (cell_all (ycell 4 _ rfl) hb)
              have y5 := extA_cell (cell_all (ycell 5 _ rfl) hb)
              have y6 := extA_cell (cell_all (ycell 6 _ rfl) hb)
              simp only [Nat.add_zero] at x0 y0
              refine wp_region_extB (by kernel_rfl) (by kernel_rfl) ?_
              repeat
                (first
                  | go_big_quiet_skip
                  | (go_big_quiet_want
                     go_big_quiet_op
                     first
                       | go_big_quiet_on
                       | (apply Exists.intro
                          refine ⟨fun w' hC9 => ?_, ?_⟩
                          · (first
                              | with_reducible rfl
                              | fail
                              | (go_simp; done)
                              | (go_simp; with_reducible rfl))
                          go_big_quiet_on)))
              refine wpQuiet_nil ?_
              intro w6 hq
              clear x0 x1 x2 x3 x4 x5 x6 y0 y1 y2 y3 y4 y5 y6
              replace hb := hb.step hq
              clear hq
              clear hen heb hee
              go_wp2_with fail
              go_loopw [6] (fun v wr => ∃ i : Nat, v = .int .i64 i ∧ i ≤ na ∧ Hid (A.take i = B.take i) ∧ From w wr) (fun v _ => na - (intOf v).toNat)
              case atStart => exact ⟨0, rfl, by omega, Lib.hid rfl, hb⟩
              clear hb
              case round =>
                obtain ⟨i, rfl, hi, hI, hb⟩ := hrel
                have i0 : (0 : Int) ≤ (i : Int) := by omega
                have x6 := cell_all (xcell 6 _ rfl) hb
                by_cases hli : i < na
                · have i1 : (i : Int) < (na : Int) := by omega
                  obtain ⟨xa, hxa⟩ : ∃ x, A[i]? = some x := ⟨A[i]'(by have := HNA.out; omega), List.getElem?_eq_getElem _⟩
                  obtain ⟨xb, hxb⟩ : ∃ x, B[i]? = some x := ⟨B[i]'(by have := HNB.out; omega), List.getElem?_eq_getElem _⟩
                  have HA := Lib.hid hxa
                  have HB := Lib.hid hxb
                  obtain ⟨ga, rfl, ca1⟩ := HCA.out i xa hxa
                  obtain ⟨gb, rfl, cb1⟩ := HCB.out i xb hxb
                  clear hxa hxb
                  by_cases hab : xa = xb
                  · subst hab
                    have e1 : (xa != xa) = false := by simp
                    go_upto_region 11 with fail
                    replace x6 := extA_cell x6
                    have y6 := extA_cell (cell_all (ycell 6 _ rfl) hb)
                    have ca2 := extA_cell (cell_all ca1 hb)
                    have cb2 := extA_cell (cell_all cb1 hb)
                    clear ca1 cb1
                    refine wp_region_extB (by kernel_rfl) (by kernel_rfl) ?_
                    repeat
                      (first
                        | go_big_quiet_skip
                        | (go_big_quiet_want
                           go_big_quiet_op
                           first
                             | go_big_quiet_on
                             | (apply Exists.intro
                                refine ⟨fun w' hC9 => ?_, ?_⟩
                                · (first
                                    | with_reducible rfl
                                    | fail
                                    | (go_simp; done)
                                    | (go_simp; with_reducible rfl))
                                go_big_quiet_on)))
                    refine wpQuiet_nil ?_
                    intro w7 hq
                    clear x6 y6 ca2 cb2
                    replace hb := hb.step hq
                    clear hq
                    go_wp2_with fail
                    go_roundw
                    case rel => exact ⟨i + 1, by go_num, by omega, Lib.hid (take_step hI.out HA.out HB.out rfl), hb⟩
                    case measure => simp [intOf]; omega
                  · have e1 : (xa != xb) = true := by simpa using hab
                    have hne : xs.map hKey ≠ ys.map hKey := not_same HMX.out HMY.out (fun e => by
                      simp only [Prod.mk.injEq] at e
                      exact not_same HA.out HB.out hab e.2.2.2.2.2)
                    clear hab
                    go_upto_region 11 with fail
                    replace x6 := extA_cell x6
                    have y6 := extA_cell (cell_all (ycell 6 _ rfl) hb)
                    have ca2 := extA_cell (cell_all ca1 hb)
                    have cb2 := extA_cell (cell_all cb1 hb)
                    clear ca1 cb1
                    refine wp_region_extB (by kernel_rfl) (by kernel_rfl) ?_
                    repeat
                      (first
                        | go_big_quiet_skip
                        | (go_big_quiet_want
                           go_big_quiet_op
                           first
                             | go_big_quiet_on
                             | (apply Exists.intro
                                refine ⟨fun w' hC9 => ?_, ?_⟩
                                · (first
                                    | with_reducible rfl
                                    | fail
                                    | (go_simp; done)
                                    | (go_simp; with_reducible rfl))
                                go_big_quiet_on)))
                    refine wpQuiet_nil ?_
                    intro w7 hq
                    clear x6 y6 ca2 cb2
                    replace hb := hb.step hq
                    clear hq
                    go_wp2_with fail
                    go_ret
                    refine ⟨⟨false, rfl, by simp; exact hne⟩, hb⟩
                · obtain rfl : na = i := by omega
                  have hAB : A = B := by
                    have := hI.out
                    rw [List.take_of_length_le (by have := HNA.out; omega), List.take_of_length_le (by have := HNB.out; omega)] at this
                    exact this
                  have HAB := Lib.hid hAB
                  clear hAB
                  go_wp2_with fail
                  go_roundw
                  case rel =>
                    refine ⟨j + 1, by go_num, by omega, Lib.hid (take_step hT.out HMX.out HMY.out ?_), hb⟩
                    obtain ⟨rfl, rfl⟩ := HE2.out
                    obtain ⟨rfl, rfl, rfl, rfl⟩ := HF2.out
                    rw [HAB.out]
                  case measure => simp [intOf]; omega
            · have hen : ((na : Int) != (nb : Int)) = true := by simp; omega
              have hne : xs.map hKey ≠ ys.map hKey := not_same HMX.out HMY.out (fun e => by
                simp only [Prod.mk.injEq] at e
                obtain ⟨-, -, -, -, -, rfl⟩ := e
                exact hnn (HNA.out.symm.trans HNB.out))
              go_upto_region 6 with fail
              have x0 := extA_cell (cell_all (xcell 0 _ rfl) hb)
              have x1 := extA_cell (cell_all (xcell 1 _ rfl) hb)
              have x2 := extA_cell (cell_all (xcell 2 _ rfl) hb)
              have x3 := extA_cell (cell_all (xcell 3 _ rfl) hb)
              have x4 := extA_cell (cell_all (xcell 4 _ rfl) hb)
              have x5 := extA_cell (cell_all (xcell 5 _ rfl) hb)
              have x6 := extA_cell (cell_all (xcell 6 _ rfl) hb)
              have y0 := extA_cell (cell_all (ycell 0 _ rfl) hb)
              have y1 := extA_cell (cell_all (ycell 1 _ rfl) hb)
              have y2 := extA_cell (cell_all (ycell 2 _ rfl) hb)
              have y3 := extA_cell (cell_all (ycell 3 _ rfl) hb)
              have y4 := extA_cell (cell_all (ycell 4 _ rfl) hb)
              have y5 := extA_cell (cell_all (ycell 5 _ rfl) hb)
              have y6 := extA_cell (cell_all (ycell 6 _ rfl) hb)
              simp only [Nat.add_zero] at x0 y0
              refine wp_region_extB (by kernel_rfl) (by kernel_rfl) ?_
              repeat
                (first
                  | go_big_quiet_skip
                  | (go_big_quiet_want
                     go_big_quiet_op
                     first
                       | go_big_quiet_on
                       | (apply Exists.intro
                          refine ⟨fun w' hC9 => ?_, ?_⟩
                          · (first
                              | with_reducible rfl
                              | fail
                              | (go_simp; done)
                              | (go_simp; with_reducible rfl))
                          go_big_quiet_on)))
              refine wpQuiet_nil ?_
              intro w6 hq
              clear x0 x1 x2 x3 x4 x5 x6 y0 y1 y2 y3 y4 y5 y6
              replace hb := hb.step hq
              clear hq
              go_wp2_with fail
              go_ret
              refine ⟨⟨false, rfl, by simp; exact hne⟩, hb⟩
      · obtain rfl : N = j := by omega
        go_wp2_with fail
        go_ret
        refine ⟨⟨true, rfl, ?_⟩, hb⟩
        have := hT.out
        rw [List.take_of_length_le (by simp; have := HLX.out; omega), List.take_of_length_le (by simp; have := HLY.out; omega)] at this
        simp [this]
  · have hen : ((N : Int) != (N2 : Int)) = true := by simp; omega
    have hne : xs.map hKey ≠ ys.map hKey := fun e => hNN (by
      have := congrArg List.length e
      simp at this
      omega)
    clear h h2
    go_enter Tryz.func53, Tryz.ntmps53
    go_wp2_with fail
    go_ret
    refine ⟨⟨false, rfl, by simp; exact hne⟩, hb⟩
end Go.Proofs.YthhpblchiodahaaGreatDoor
