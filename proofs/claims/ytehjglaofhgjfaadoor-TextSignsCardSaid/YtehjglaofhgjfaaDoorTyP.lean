
/- Package text: Lines. -/
import Derived.Test.YtehjglaofhgjfaaDoorTyO
import Derived.Test.YtehjglaofhgjfaaDoorTail
import Derived.Test.YtehjglaofhgjfaaDoorAcO
namespace Go.Proofs.YtehjglaofhgjfaaDoor
set_option linter.unusedSimpArgs false
set_option linter.unusedVariables false
open Go.RowKit
def strSz2 : Value → Nat
  | .string s => s.size
  | _ => 0
def outP (outD : List BL) (line : BL) (has : Nat) : List BL := if 0 < has then outD ++ [line] else outD
theorem OwnL.setLast {W : World} {base : Nat} {v : Value} {l : List BL} {y : BL} (h : OwnL W base v (l ++ [y])) (z : BL) :
    ∃ g c, v = .slice (some ⟨g, 0, none⟩) (l.length + 1) c ∧ l.length + 1 ≤ c ∧ base ≤ g ∧ W.cell? ⟨g, l.length, none⟩ = some (.string (mkS y)) ∧ W.frozen? ⟨g, l.length, none⟩ = false ∧ OwnL (W.setCell ⟨g, l.length, none⟩ (.string (mkS z))) base v (l ++ [z]) := by
  obtain ⟨h1, h2⟩ := id h
  have hlen : (l ++ [y]).length = l.length + 1 := by simp
  rcases h2 with ⟨-, h0⟩ | ⟨g, cap, cur, rfl, hg, hh, hn, hc, hs, ht⟩
  · rw [hlen] at h0; omega
  · rw [hlen] at hn
    have hc1 := World.ownsRow.cells h (g := g) rfl l.length (.string (mkS y)) (by simp [strL])
    have hlt := (Array.getElem?_eq_some_iff.1 hh).1
    have hgg : W.heap[g] = .cells cur 9 (0, 0) := by simpa [Array.getElem?_eq_getElem hlt] using hh
    refine ⟨g, cap, by rw [hlen], hn, hg, by simpa [Addr.add_lit] using hc1, by simp [World.frozen?, hh], ?_⟩
    have hlen2 : (l ++ [z]).length = l.length + 1 := by simp
    refine ⟨by simp [strL], .inr ⟨g, cap, cur.setIfInBounds l.length (.string (mkS z)), by rw [hlen, hlen2], hg, ?_, by rw [hlen2]; exact hn, hc, by simp [hs], ?_⟩⟩
    · show (W.heap.modify g _)[g]? = _
      rw [Array.getElem?_eq_getElem (by rw [Array.size_modify]; exact hlt), Array.getElem_modify_self, hgg]
      simp
    · rw [hlen2]
      rw [hlen] at ht
      rw [Array.toList_setIfInBounds, List.take_set, ht]
      unfold strL
      rw [List.map_append, List.map_append]
      rw [List.set_append_right _ _ (by simp)]
      simp
theorem ownsRow_mono2 {W : World} {B B' : Nat} {e : TypeId} {size : Nat} {v : Value} {n : Nat} {xs : List Value} (h : W.ownsRow B e size v n xs) (hB : B' ≤ B) : W.ownsRow B' e size v n xs := by
  refine ⟨h.1, ?_⟩
  rcases h.2 with h | ⟨g, c, cur, hv, hg, r⟩
  · exact .inl h
  · exact .inr ⟨g, c, cur, hv, Nat.le_trans hB hg, r⟩
theorem cutV_mk (n : Nat) (l : BL) : cutV (n : Int) (mkS l) = mkS (cutB n l) := by unfold cutV; rw [mkS_data]; rfl
theorem splitW_step (width : Nat) (k : Nat) (w : BL) (h : width < lenB w) : splitW width (k + 1) w = (cutB width w :: (splitW width k (w.drop (posF width w))).1, (splitW width k (w.drop (posF width w))).2) := by
  rw [splitW, if_pos h]
theorem splitW_stop (width : Nat) (k : Nat) (w : BL) (h : ¬ width < lenB w) : splitW width k w = ([], w) := by
  cases k with
  | zero => rfl
  | succ k => rw [splitW, if_neg h]
theorem splitW_len (width : Nat) (hw : 0 < width) : ∀ (k : Nat) (w : BL), (splitW width k w).1.length ≤ w.length ∧ (splitW width k w).2.length ≤ w.length
  | 0, w => by simp [splitW]
  | k + 1, w => by
    unfold splitW
    split
    · rename_i h
      have hp : 0 < posF width w := by
        obtain ⟨j, rfl⟩ : ∃ j, width = j + 1 := ⟨width - 1, by omega⟩
        have hne : w ≠ [] := fun e => by subst e; simp [lenB_nil] at h
        have := Lib.decodeL_width w
        rw [posF, if_neg hne]
        omega
      have := posF_lt width w h
      obtain ⟨h1, h2⟩ := splitW_len width hw k (w.drop (posF width w))
      rw [List.length_drop] at h1 h2
      simp only [List.length_cons]
      omega
    · simp
/-- Where Lines is, ahead of the pieces ws. -/
structure LS (w : World) (gO gD gL gR gZ gP : Nat) (width : Nat) (all ws : List BL) (RES : List BL) (c : Nat) (W : World) (outD : List BL) (line : BL) (has : Nat) (room : Int) (v : Value) : Prop where
  h : LW w gO gD gL gR gZ width (outP outD line has) line room v W
  P : Blk W gP 9 (strL all)
  roomE : 0 < has → room = (width : Int) - has
  zero : has = 0 ↔ line = []
  res : linesF width (ws.filter full) outD line has = RES
  l1 : line.length ≤ c
  l2 : (outP outD line has).length ≤ c
  rm : -1000 ≤ room ∧ room ≤ 1000
  hs : has ≤ 1000
theorem LS.step {w : World} {gO gD gL gR gZ gP width : Nat} {all ws RES : List BL} {c : Nat} {W W' : World} {outD : List BL} {line : BL} {has : Nat} {room : Int} {v : Value} (h : LS w gO gD gL gR gZ gP width all ws RES c W outD line has room v) (hb : Below W.heap.size W W') : LS w gO gD gL gR gZ gP width all ws RES c W' outD line has room v :=
  ⟨h.h.step hb, h.P.step hb, h.roomE, h.zero, h.res, h.l1, h.l2, h.rm, h.hs⟩
theorem LW.setL {w : World} {gO gD gL gR gZ : Nat} {wd : Int} {out : List BL} {line : BL} {room : Int} {v : Value} {W : World} (h : LW w gO gD gL gR gZ wd out line room v W) (z : BL) (h1 : gO ≠ gL) (h2 : gD ≠ gL) (h3 : gR ≠ gL) (h4 : gL < gZ) (h5 : w.heap.size ≤ gL) :
    LW w gO gD gL gR gZ wd out z room v (W.setCell ⟨gL, 0, none⟩ (.string (mkS z))) :=
  ⟨h.O.other h1 0 _, h.D.other h2 0 _, h.L.set 0 _, h.R.other h3 0 _, h.own.other h4 _, Below.setCell h.hb (p := ⟨gL, 0, none⟩) h5 _, by rw [World.size_setCell]; exact h.le⟩
theorem LW.setR {w : World} {gO gD gL gR gZ : Nat} {wd : Int} {out : List BL} {line : BL} {room : Int} {v : Value} {W : World} (h : LW w gO gD gL gR gZ wd out line room v W) (z : Int) (h1 : gO ≠ gR) (h2 : gD ≠ gR) (h3 : gL ≠ gR) (h4 : gR < gZ) (h5 : w.heap.size ≤ gR) :
    LW w gO gD gL gR gZ wd out line z v (W.setCell ⟨gR, 0, none⟩ (.int .i64 z)) :=
  ⟨h.O.other h1 0 _, h.D.other h2 0 _, h.L.other h3 0 _, h.R.set 0 _, h.own.other h4 _, Below.setCell h.hb (p := ⟨gR, 0, none⟩) h5 _, by rw [World.size_setCell]; exact h.le⟩
theorem LW.setLast {w : World} {gO gD gL gR gZ : Nat} {wd : Int} {o : List BL} {y : BL} {line : BL} {room : Int} {v : Value} {W : World} (h : LW w gO gD gL gR gZ wd (o ++ [y]) line room v W) (z : BL) (h1 : gO < gZ) (h2 : gD < gZ) (h3 : gL < gZ) (h4 : gR < gZ) (h5 : w.heap.size ≤ gZ) :
    ∃ g c, v = .slice (some ⟨g, 0, none⟩) (o.length + 1) c ∧ o.length + 1 ≤ c ∧ gZ ≤ g ∧ W.cell? ⟨g, o.length, none⟩ = some (.string (mkS y)) ∧ W.frozen? ⟨g, o.length, none⟩ = false ∧ LW w gO gD gL gR gZ wd (o ++ [z]) line room v (W.setCell ⟨g, o.length, none⟩ (.string (mkS z))) := by
  obtain ⟨g, c, hv, hc, hg, h7, h8, h9⟩ := h.own.setLast z
  exact ⟨g, c, hv, hc, hg, h7, h8, h.O.other (by omega) _ _, h.D.other (by omega) _ _, h.L.other (by omega) _ _, h.R.other (by omega) _ _, h9, Below.setCell h.hb (p := ⟨g, o.length, none⟩) (by simp; omega) _, by rw [World.size_setCell]; exact h.le⟩
/-- Within a word that is too long: what is put, what is left. -/
structure IV (w : World) (gO gD gL gR gZ gP width : Nat) (all oq : List BL) (x rest : BL) (dn : List BL) (k : Nat) (line' : BL) (room' : Int) (v' : Value) (W : World) : Prop where
  ne : rest ≠ []
  hk : rest.length ≤ k
  sp : splitW width x.length x = (dn ++ (splitW width k rest).1, (splitW width k rest).2)
  hdn : dn.length + rest.length ≤ x.length
  h : LW w gO gD gL gR gZ width (oq ++ dn) line' room' v' W
  P : Blk W gP 9 (strL all)
set_option maxRecDepth 100000 in
set_option maxHeartbeats 4000000 in
theorem lines_any (s : ByteArray) (width : Nat) (hs : s.size ≤ 300) (hw1 : 1 ≤ width) (hw2 : width ≤ 200) (w : World) (hM : MaxL w) :
    Calls Tryd.prog 19 #[.string s, .int .i64 width] w fun e w' => (∃ v, e = .returned (.tuple #[v, .int .i64 0]) ∧ OwnL w' w.heap.size v (linesL width s.data.toList)) ∧ Below w.heap.size w w' := by
  have hsI : ¬ (1048576 : Int) < (s.size : Int) := by omega
  have hwI1 : ¬ (width : Int) < 1 := by omega
  have hwI2 : ¬ (200 : Int) < (width : Int) := by omega
  have hb := From.refl w
  go_enter Tryd.func19, Tryd.ntmps19
  go_upto_region 1 with fail
  obtain ⟨gD, hgD⟩ : ∃ g, (w).heap.size = g := ⟨_, rfl⟩
  have D := Blk.newV hgD 3 #[.int .i64 width]
  have hbn := (Below.refl (w).heap.size w).alloc (Nat.le_refl _) (.cells #[.int .i64 width] 3)
  replace hb := hb.step hbn
  clear hbn
  rw [hgD]
  generalize (w).alloc (.cells #[.int .i64 width] 3) = w1 at *
  have D_0 := D.cell (j := 0) rfl
  go_upto_region 5 with fail
  go_upto_region 6 with fail
  obtain ⟨gO, hgO⟩ : ∃ g, (w1).heap.size = g := ⟨_, rfl⟩
  have lt_D_O := D.lt
  rw [hgO] at lt_D_O
  have O := Blk.newV hgO 28 #[.slice none 0 0]
  have hbn := (Below.refl (w1).heap.size w1).alloc (Nat.le_refl _) (.cells #[.slice none 0 0] 28)
  replace hb := hb.step hbn
  replace D := D.step hbn
  clear hbn
  rw [hgO]
  generalize (w1).alloc (.cells #[.slice none 0 0] 28) = w2 at *
  clear D_0
  go_upto_region 7 with fail
  obtain ⟨gL, hgL⟩ : ∃ g, (w2).heap.size = g := ⟨_, rfl⟩
  have lt_D_L := D.lt
  rw [hgL] at lt_D_L
  have lt_O_L := O.lt
  rw [hgL] at lt_O_L
  have L := Blk.newV hgL 9 #[.string ⟨#[]⟩]
  have hbn := (Below.refl (w2).heap.size w2).alloc (Nat.le_refl _) (.cells #[.string ⟨#[]⟩] 9)
  replace hb := hb.step hbn
  replace D := D.step hbn
  replace O := O.step hbn
  clear hbn
  rw [hgL]
  have szL := alloc_size hgL (.cells #[.string ⟨#[]⟩] 9)
  generalize (w2).alloc (.cells #[.string ⟨#[]⟩] 9) = w3 at *
  obtain ⟨gR, hgR⟩ : ∃ g, (w3).heap.size = g := ⟨_, rfl⟩
  have lt_D_R := D.lt
  rw [hgR] at lt_D_R
  have lt_O_R := O.lt
  rw [hgR] at lt_O_R
  have lt_L_R := L.lt
  rw [hgR] at lt_L_R
  have R := Blk.newV hgR 3 #[.int .i64 0]
  have hbn := (Below.refl (w3).heap.size w3).alloc (Nat.le_refl _) (.cells #[.int .i64 0] 3)
  replace hb := hb.step hbn
  replace D := D.step hbn
  replace O := O.step hbn
  replace L := L.step hbn
  clear hbn
  have egR : gL + 1 = gR := szL.symm.trans hgR
  rw [egR]
  clear szL
  generalize (w3).alloc (.cells #[.int .i64 0] 3) = w4 at *
  have hM4 := hM.step hb
  have hR4 := R.lt
  go_upto_region 8 with fail
  go_wp2_with fail
  refine (split_any s (by omega) w4 hM4).mono ?_
  rintro e w5 ⟨rfl, rfl⟩
  obtain ⟨gP, hgP⟩ : ∃ g, w4.heap.size = g := ⟨_, rfl⟩
  have P := Blk.newV hgP 9 (strL (pcsV s)).toArray
  have hbn := (Below.refl w4.heap.size w4).alloc (Nat.le_refl _) (.cells (strL (pcsV s)).toArray 9)
  replace hb := hb.step hbn
  replace D := D.step hbn
  replace O := O.step hbn
  replace L := L.step hbn
  replace R := R.step hbn
  rw [hgP]
  obtain ⟨gZ, hgZ⟩ : ∃ g, (w4.alloc (.cells (strL (pcsV s)).toArray 9)).heap.size = g := ⟨_, rfl⟩
  have hPZ := P.lt
  rw [hgZ] at hPZ
  have hwD : w.heap.size ≤ gD := by omega
  have hRP : gR < gP := by omega
  clear hbn hgP hM4 hM
  generalize w4.alloc (.cells (strL (pcsV s)).toArray 9) = W0 at *
  obtain ⟨hpl, hpx⟩ := pcs_len s.data.toList []
  rw [← Lib.size_eq] at hpl hpx
  simp only [List.length_nil, Nat.zero_add] at hpx
  have hRES : Hid (linesF width ((pcsV s).filter full) [] [] 0 = linesL width s.data.toList) := Lib.hid (by unfold linesL; rw [wrd_pcs]; rfl)
  replace hpl : (pcsV s).length ≤ s.size + 1 := hpl
  replace hpx : ∀ x ∈ pcsV s, x.length ≤ s.size := hpx
  generalize pcsV s = ws at *
  obtain ⟨RES, hR0⟩ : ∃ RES, linesL width s.data.toList = RES := ⟨_, rfl⟩
  have HR0 := Lib.hid hR0
  rw [hR0] at hRES
  have N0 : LS w gO gD gL gR gZ gP width ws (ws.drop 0) RES 0 W0 [] [] 0 0 (.slice none 0 0) :=
    ⟨⟨O, D, L, R, World.ownsRow_nil _ _ _ _, hb, by omega⟩, P, fun h => absurd h (by omega), by simp, hRES.out, by simp, by simp [outP], by omega, by omega⟩
  have hOD : gO ≠ gD := by omega
  have hOL : gO ≠ gL := by omega
  have hOR : gO ≠ gR := by omega
  have hDL : gD ≠ gL := by omega
  have hDR : gD ≠ gR := by omega
  have hLR : gL ≠ gR := by omega
  have hOZ : gO < gZ := by omega
  have hDZ : gD < gZ := by omega
  have hLZ : gL < gZ := by omega
  have hRZ : gR < gZ := by omega
  have hwZ : w.heap.size ≤ gZ := by omega
  have hwO : w.heap.size ≤ gO := by omega
  have hwL : w.heap.size ≤ gL := by omega
  have hwR : w.heap.size ≤ gR := by omega
  have hPO : gP ≠ gO := by omega
  have hPL : gP ≠ gL := by omega
  have hPR : gP ≠ gR := by omega
  obtain ⟨m, hm⟩ : ∃ m, ws.length = m := ⟨_, rfl⟩
  have hm301 : m ≤ 301 := by omega
  have HN := Lib.hid N0
  clear O D L R P hb hRES N0 hgD hgO hgL hgR lt_D_O lt_D_L lt_O_L lt_D_R lt_O_R lt_L_R egR hR0 hpl
  rw [hm]
  go_wp2_with fail
  go_loopw [11, 12, 28] (fun _ _ v wr => ∃ i : Nat, v = .int .i64 i ∧ i ≤ m ∧ Hid (∃ outD line has room vO, LS w gO gD gL gR gZ gP width ws (ws.drop i) RES (i * 301) wr outD line has room vO)) (fun _ _ v _ => m - (intOf v).toNat)
  case atStart => exact ⟨0, rfl, by omega, Lib.hid ⟨_, _, _, _, _, HN.out⟩⟩
  case round =>
    obtain ⟨i, rfl, hi, hI⟩ := hrel
    clear HN
    have i0 : (0 : Int) ≤ (i : Int) := by omega
    have i2 : (i : Int) < 1000 := by omega
    by_cases hlt : i < m
    · have i1 : (i : Int) < (m : Int) := by omega
      obtain ⟨x, hx⟩ : ∃ x, ws[i]? = some x := ⟨_, List.getElem?_eq_getElem (by omega)⟩
      have hxl := hpx x (List.mem_of_getElem? hx)
      obtain ⟨outD, line, has, room, vO, hLS⟩ := hI.out
      have hdrop : ws.drop i = x :: ws.drop (i + 1) := by
        obtain ⟨hh, rfl⟩ := List.getElem?_eq_some_iff.1 hx
        exact List.drop_eq_getElem_cons hh
      have cP : wr.cell? ⟨gP, i, none⟩ = some (.string (mkS x)) := hLS.P.cell (j := i) (by unfold strL; rw [List.getElem?_map, hx]; rfl)
      have cLen := fun W => len_any (mkS x) (by rw [mkS_size]; omega) W
      rw [mkS_data] at cLen
      obtain ⟨N, hN⟩ : ∃ N, lenB x = N := ⟨_, rfl⟩
      have hNx := lenB_le x
      rw [hN] at cLen hNx
      have HLS := Lib.hid hLS
      clear hI hLS
      by_cases hx0 : x = []
      · have hN0 : N = 0 := by rw [← hN, hx0]; rfl
        subst hN0
        have hL2 : Hid (∃ outD line has room vO, LS w gO gD gL gR gZ gP width ws (ws.drop (i + 1)) RES ((i + 1) * 301) wr outD line has room vO) := Lib.hid (by
          obtain ⟨h, P, hroom, hzero, hres, l1, l2, rm, hs'⟩ := HLS.out
          refine ⟨outD, line, has, room, vO, h, P, hroom, hzero, ?_, by omega, by omega, rm, hs'⟩
          rw [← hres, hdrop, hx0]; rfl)
        clear HLS hdrop hx hpx hx0 hN
        go_wp2_with fail
        refine (cLen _).mono ?_
        rintro e w6 ⟨rfl, hbn⟩
        have hL3 : Hid (∃ outD line has room vO, LS w gO gD gL gR gZ gP width ws (ws.drop (i + 1)) RES ((i + 1) * 301) w6 outD line has room vO) := Lib.hid (by
          obtain ⟨a1, a2, a3, a4, a5, h⟩ := hL2.out
          exact ⟨a1, a2, a3, a4, a5, h.step hbn⟩)
        clear hL2 hbn cP
        go_wp2_with fail
        go_roundw
        case rel => exact ⟨i + 1, by go_num, by omega, hL3⟩
        case measure => simp [intOf]; omega
      · have hN1 : 0 < N := by rw [← hN]; exact lenB_pos x hx0
        have hN0 : ((N : Int) == 0) = false := by rw [beq_eq_false_iff_ne]; omega
        have hNr : ((ws.drop i).filter full) = x :: (ws.drop (i + 1)).filter full := by rw [hdrop, List.filter_cons, if_pos (by simp [full, hx0])]
        go_wp2_with fail
        refine (cLen _).mono ?_
        rintro e w6 ⟨rfl, hbn⟩
        obtain ⟨h, P, hroom, hzero, hres, l1, l2, rm, hs'⟩ := HLS.out.step hbn
        have hxne := hx0
        have hN9 := hN
        have hxl1 := l1
        clear HLS hbn cP hpx hx hdrop
        rw [hNr, linesF, hN] at hres
        clear hNr
        have cL := h.L.cell (j := 0) rfl
        have cR := h.R.cell (j := 0) rfl
        by_cases hA : 0 < has ∧ has + 1 + N ≤ width
        · rw [if_pos hA] at hres
          obtain ⟨hA1, hA2⟩ := hA
          have hrE := hroom hA1
          have hlne : line ≠ [] := fun e => by have := hzero.2 e; omega
          have nS : (mkS line).toList.isEmpty = false := by rw [Lib.toList_data, mkS_data]; cases line with | nil => exact absurd rfl hlne | cons a t => rfl
          have hNroom : (N : Int) < room := by omega
          have fL := h.L.frozen 0
          have hcat : (⟨#[32]⟩ : ByteArray) ++ mkS x = mkS (32 :: x) := mkS_app [32] x
          have hcat2 : mkS line ++ mkS (32 :: x) = mkS (line ++ 32 :: x) := mkS_app line (32 :: x)
          have z1 : (mkS x).size = x.length := mkS_size x
          have z2 : (mkS line).size = line.length := mkS_size line
          have z3 : (mkS (32 :: x)).size = x.length + 1 := mkS_size (32 :: x)
          have hHres := Lib.hid hres
          have hHz := Lib.hid hzero
          have hHr := Lib.hid hrE
          have hN2 : (N : Int) ≤ 300 := by omega
          clear hres hzero hroom hlne hx0 hN hrE
          go_upto_region 20 with fail
          have h7 := h.setL (line ++ 32 :: x) hOL hDL (Ne.symm hLR) hLZ hwL
          have P7 := P.other hPL 0 (.string (mkS (line ++ 32 :: x)))
          have hoP : outP outD line has = outD ++ [line] := by unfold outP; rw [if_pos hA1]
          rw [hoP] at h7 l2
          clear h P cL cR fL hcat hcat2 z1 z2 z3 cLen nS hoP
          generalize w6.setCell ⟨gL, 0, none⟩ (.string (mkS (line ++ 32 :: x))) = w7 at *
          obtain ⟨g, c, rfl, hc, hg, -, -, -⟩ := h7.setLast (line ++ 32 :: x) hOZ hDZ hLZ hRZ hwZ
          have eO := extA_cell (h7.O.cell (j := 0) rfl)
          have eL := extA_cell (h7.L.cell (j := 0) rfl)
          have eR := extA_cell (h7.R.cell (j := 0) rfl)
          obtain ⟨nD, hnD⟩ : ∃ n, outD.length = n := ⟨_, rfl⟩
          have hnD2 : nD + 1 ≤ 100000 := by rw [List.length_append, List.length_singleton] at l2; omega
          have nI0 : (0 : Int) ≤ (nD : Int) := by omega
          have nI1 : (nD : Int) < 100000 := by omega
          have nI2 : (nD : Int) < (nD : Int) + 1 := by omega
          rw [hnD] at eO hc
          have f0 : ∀ W' : World, (W'.cell? ⟨gO, 0, none⟩ = some (.slice (some ⟨g, 0, none⟩) (nD + 1) c) ∧ W'.cell? ⟨gL, 0, none⟩ = some (.string (mkS (line ++ 32 :: x)))) → W'.cell? ⟨gO, 0, none⟩ = some (.slice (some ⟨g, 0, none⟩) (nD + 1) c) := fun _ h => h.1
          have f1 : ∀ W' : World, (W'.cell? ⟨gO, 0, none⟩ = some (.slice (some ⟨g, 0, none⟩) (nD + 1) c) ∧ W'.cell? ⟨gL, 0, none⟩ = some (.string (mkS (line ++ 32 :: x)))) → W'.cell? ⟨gL, 0, none⟩ = some (.string (mkS (line ++ 32 :: x))) := fun _ h => h.2
          have hS0 : w7.cell? ⟨gO, 0, none⟩ = some (.slice (some ⟨g, 0, none⟩) (nD + 1) c) ∧ w7.cell? ⟨gL, 0, none⟩ = some (.string (mkS (line ++ 32 :: x))) := ⟨eO _ (Below.refl _ _), eL _ (Below.refl _ _)⟩
          have hwr : IntKind.i64.wrap (nD : Int) = (nD : Int) := IntWalk.i64_in _ (by omega)
          have hwr2 : IntKind.i64.wrap (room - 1) = room - 1 := IntWalk.i64_in _ (by omega)
          have hwr3 : IntKind.i64.wrap (room - 1 - (N : Int)) = room - 1 - (N : Int) := IntWalk.i64_in _ (by omega)
          clear eO eL eR
          refine wp_region_held (S := fun W' : World => W'.cell? ⟨gO, 0, none⟩ = some (.slice (some ⟨g, 0, none⟩) (nD + 1) c) ∧ W'.cell? ⟨gL, 0, none⟩ = some (.string (mkS (line ++ 32 :: x)))) (by kernel_rfl) ?_
          have hst : Below (w7).heap.size w7 { w7 with drawn := (w7).drawn + 1 } := ⟨rfl, rfl, rfl, Nat.le_refl _, fun _ _ => rfl⟩
          have hS : (fun W' : World => W'.cell? ⟨gO, 0, none⟩ = some (.slice (some ⟨g, 0, none⟩) (nD + 1) c) ∧ W'.cell? ⟨gL, 0, none⟩ = some (.string (mkS (line ++ 32 :: x)))) { w7 with drawn := (w7).drawn + 1 } := by first | exact ⟨rfl, rfl, rfl, Nat.le_refl _, fun _ _ _ => rfl⟩ | exact ⟨rfl, rfl, rfl, Nat.le_refl _, fun _ _ => rfl⟩ | exact hS0
          replace h7 := h7.step hst
          replace P7 := P7.step hst
          clear hst
          generalize ({ w7 with drawn := (w7).drawn + 1 } : World) = wq at *
          refine wpAnyH_take (i := 0) (v := ?_) rfl (by kernel_rfl) (by kernel_rfl) (by kernel_rfl) (fun _ _ _ h => h) (Or.inl ⟨by kernel_rfl, ?_⟩) hS ?_
          rotate_left
          · intro W hSW
            have y0 := f0 _ hSW
            have y1 := f1 _ hSW
            go_simp
            try with_reducible rfl
          dsimp only [Act.put]
          refine wpAnyH_take (i := 1) (v := ?_) rfl (by kernel_rfl) (by kernel_rfl) (by kernel_rfl) (fun _ _ _ h => h) (Or.inl ⟨by kernel_rfl, ?_⟩) hS ?_
          rotate_left
          · intro W hSW
            have y0 := f0 _ hSW
            have y1 := f1 _ hSW
            go_simp
            try with_reducible rfl
          dsimp only [Act.put]
          refine wpAnyH_take (i := 2) (v := ?_) rfl (by kernel_rfl) (by kernel_rfl) (by kernel_rfl) (fun _ _ _ h => h) (Or.inl ⟨by kernel_rfl, ?_⟩) hS ?_
          rotate_left
          · intro W hSW
            have y0 := f0 _ hSW
            have y1 := f1 _ hSW
            go_simp
            try with_reducible rfl
          dsimp only [Act.put]
          refine wpAnyH_take (i := 3) (v := ?_) rfl (by kernel_rfl) (by kernel_rfl) (by kernel_rfl) (fun _ _ _ h => h) (Or.inl ⟨by kernel_rfl, ?_⟩) hS ?_
          rotate_left
          · intro W hSW
            have y0 := f0 _ hSW
            have y1 := f1 _ hSW
            go_simp
            try with_reducible rfl
          dsimp only [Act.put]
          refine wpAnyH_take (i := 4) (v := ?_) rfl (by kernel_rfl) (by kernel_rfl) (by kernel_rfl) (fun _ _ _ h => h) (Or.inl ⟨by kernel_rfl, ?_⟩) hS ?_
          rotate_left
          · intro W hSW
            have y0 := f0 _ hSW
            have y1 := f1 _ hSW
            go_simp
            try with_reducible rfl
          dsimp only [Act.put]
          refine wpAnyH_take (i := 7) (v := ?_) rfl (by kernel_rfl) (by kernel_rfl) (by kernel_rfl) (fun _ _ _ h => h) (Or.inl ⟨by kernel_rfl, ?_⟩) hS ?_
          rotate_left
          · intro W hSW
            have y0 := f0 _ hSW
            have y1 := f1 _ hSW
            go_simp
            try with_reducible rfl
          dsimp only [Act.put]
          refine wpAnyH_take (i := 9) (v := ?_) rfl (by kernel_rfl) (by kernel_rfl) (by kernel_rfl) (fun _ _ _ h => h) (Or.inl ⟨by kernel_rfl, ?_⟩) hS ?_
          rotate_left
          · intro W hSW
            have y0 := f0 _ hSW
            have y1 := f1 _ hSW
            go_simp
            try with_reducible rfl
          dsimp only [Act.put]
          have cR := h7.R.cell (j := 0) rfl
          obtain ⟨g', c', hv', -, -, hcl, hfz, h8⟩ := h7.setLast (line ++ 32 :: x) hOZ hDZ hLZ hRZ hwZ
          rw [hnD] at hv' hcl hfz h8
          obtain ⟨rfl, rfl⟩ : g = g' ∧ c = c' := by injection hv' with e1 e2 e3; injection e1 with e1; injection e1 with e1; exact ⟨e1, e3⟩
          have P8 := P7.other (show gP ≠ g by omega) nD (.string (mkS (line ++ 32 :: x)))
          clear hv' P7 h7
          refine wpAnyH_ready (rs := [5, 10]) (by kernel_rfl) (by simp) ?_
          refine AllReadyH.cons rfl (fun K hK => ?_) (AllReadyH.cons rfl (fun K hK => ?_) AllReadyH.nil)
          ·
            go_simp
            refine hK.out _ _ (hS) (fun hS => ?_)
            clear hK K
            refine wpAnyH_take (i := 6) (v := ?_) rfl (by kernel_rfl) (by kernel_rfl) (by kernel_rfl) (fun _ _ _ h => h) (Or.inl ⟨by kernel_rfl, ?_⟩) hS ?_
            rotate_left
            · intro W hSW
              go_simp
              try with_reducible rfl
            dsimp only [Act.put]
            refine wpAnyH_take (i := 8) (v := ?_) rfl (by kernel_rfl) (by kernel_rfl) (by kernel_rfl) (fun _ _ _ h => h) (Or.inl ⟨by kernel_rfl, ?_⟩) hS ?_
            rotate_left
            · intro W hSW
              go_simp
              try with_reducible rfl
            dsimp only [Act.put]
            refine wpAnyH_ready (rs := [10]) (by kernel_rfl) (by simp) ?_
            refine AllReadyH.cons rfl (fun K hK => ?_) AllReadyH.nil
            go_simp
            refine hK.out _ _ ⟨h8.O.cell (j := 0) rfl, h8.L.cell (j := 0) rfl⟩ (fun hS => ?_)
            clear hcl hfz
            generalize wq.setCell ⟨g, nD, none⟩ (.string (mkS (line ++ 32 :: x))) = w8 at *
            clear hK K
            have cR := h8.R.cell (j := 0) rfl
            have fR := h8.R.frozen 0
            refine wpAnyH_ready (rs := [11]) (by kernel_rfl) (by simp) ?_
            refine AllReadyH.cons rfl (fun K hK => ?_) AllReadyH.nil
            go_simp
            refine hK.out _ _ ⟨(h8.O.other hOR 0 _).cell (j := 0) rfl, (h8.L.other hLR 0 _).cell (j := 0) rfl⟩ (fun hS => ?_)
            have h9 := h8.setR (room - 1 - (N : Int)) hOR hDR hLR hRZ hwR
            have P9 := P8.other hPR 0 (.int .i64 (room - 1 - (N : Int)))
            clear cR fR h8 P8
            generalize w8.setCell ⟨gR, 0, none⟩ (.int .i64 (room - 1 - (N : Int))) = w9 at *
            clear hK K
            refine wpAnyH_done (by kernel_rfl) ?_ _
            have hL3 : Hid (∃ outD line has room vO, LS w gO gD gL gR gZ gP width ws (ws.drop (i + 1)) RES ((i + 1) * 301) w9 outD line has room vO) := Lib.hid (by
              refine ⟨outD, line ++ 32 :: x, has + 1 + N, room - 1 - (N : Int), .slice (some ⟨g, 0, none⟩) (nD + 1) c, ⟨?_, P9, ?_, ?_, hHres.out, ?_, ?_, ?_, ?_⟩⟩
              · have e : outP outD (line ++ 32 :: x) (has + 1 + N) = outD ++ [line ++ 32 :: x] := by unfold outP; rw [if_pos (by omega)]
                rw [e]
                exact h9
              · intro _
                have := hHr.out
                omega
              · constructor
                · intro e; omega
                · intro e; simp at e
              · rw [List.length_append, List.length_cons]; omega
              · have e : outP outD (line ++ 32 :: x) (has + 1 + N) = outD ++ [line ++ 32 :: x] := by unfold outP; rw [if_pos (by omega)]
                rw [e, List.length_append, List.length_singleton]
                rw [List.length_append, List.length_singleton] at l2
                omega
              · omega
              · omega)
            clear h9 P9 hHres hHr hHz l1 l2 rm
            go_wp2_with fail
            go_roundw
            case rel => exact ⟨i + 1, by go_num, by omega, hL3⟩
            case measure => simp [intOf]; omega
          ·
            go_simp
            refine hK.out _ _ ⟨h8.O.cell (j := 0) rfl, h8.L.cell (j := 0) rfl⟩ (fun hS => ?_)
            clear hcl hfz
            generalize wq.setCell ⟨g, nD, none⟩ (.string (mkS (line ++ 32 :: x))) = w8 at *
            clear hK K
            have cR8 := h8.R.cell (j := 0) rfl
            refine wpAnyH_ready (rs := [5]) (by kernel_rfl) (by simp) ?_
            refine AllReadyH.cons rfl (fun K hK => ?_) AllReadyH.nil
            go_simp
            refine hK.out _ _ (hS) (fun hS => ?_)
            clear hK K
            refine wpAnyH_take (i := 6) (v := ?_) rfl (by kernel_rfl) (by kernel_rfl) (by kernel_rfl) (fun _ _ _ h => h) (Or.inl ⟨by kernel_rfl, ?_⟩) hS ?_
            rotate_left
            · intro W hSW
              go_simp
              try with_reducible rfl
            dsimp only [Act.put]
            refine wpAnyH_take (i := 8) (v := ?_) rfl (by kernel_rfl) (by kernel_rfl) (by kernel_rfl) (fun _ _ _ h => h) (Or.inl ⟨by kernel_rfl, ?_⟩) hS ?_
            rotate_left
            · intro W hSW
              go_simp
              try with_reducible rfl
            dsimp only [Act.put]
            have cR := h8.R.cell (j := 0) rfl
            have fR := h8.R.frozen 0
            refine wpAnyH_ready (rs := [11]) (by kernel_rfl) (by simp) ?_
            refine AllReadyH.cons rfl (fun K hK => ?_) AllReadyH.nil
            go_simp
            refine hK.out _ _ ⟨(h8.O.other hOR 0 _).cell (j := 0) rfl, (h8.L.other hLR 0 _).cell (j := 0) rfl⟩ (fun hS => ?_)
            have h9 := h8.setR (room - 1 - (N : Int)) hOR hDR hLR hRZ hwR
            have P9 := P8.other hPR 0 (.int .i64 (room - 1 - (N : Int)))
            clear cR fR h8 P8
            generalize w8.setCell ⟨gR, 0, none⟩ (.int .i64 (room - 1 - (N : Int))) = w9 at *
            clear hK K
            refine wpAnyH_done (by kernel_rfl) ?_ _
            have hL3 : Hid (∃ outD line has room vO, LS w gO gD gL gR gZ gP width ws (ws.drop (i + 1)) RES ((i + 1) * 301) w9 outD line has room vO) := Lib.hid (by
              refine ⟨outD, line ++ 32 :: x, has + 1 + N, room - 1 - (N : Int), .slice (some ⟨g, 0, none⟩) (nD + 1) c, ⟨?_, P9, ?_, ?_, hHres.out, ?_, ?_, ?_, ?_⟩⟩
              · have e : outP outD (line ++ 32 :: x) (has + 1 + N) = outD ++ [line ++ 32 :: x] := by unfold outP; rw [if_pos (by omega)]
                rw [e]
                exact h9
              · intro _
                have := hHr.out
                omega
              · constructor
                · intro e; omega
                · intro e; simp at e
              · rw [List.length_append, List.length_cons]; omega
              · have e : outP outD (line ++ 32 :: x) (has + 1 + N) = outD ++ [line ++ 32 :: x] := by unfold outP; rw [if_pos (by omega)]
                rw [e, List.length_append, List.length_singleton]
                rw [List.length_append, List.length_singleton] at l2
                omega
              · omega
              · omega)
            clear h9 P9 hHres hHr hHz l1 l2 rm
            go_wp2_with fail
            go_roundw
            case rel => exact ⟨i + 1, by go_num, by omega, hL3⟩
            case measure => simp [intOf]; omega
        · rw [if_neg hA] at hres
          have hHres := Lib.hid hres
          clear hres hN hx0
          by_cases hl0 : line = []
          · have nS : (mkS line).toList.isEmpty = true := by rw [Lib.toList_data, mkS_data, hl0]; rfl
            clear hl0 hroom hzero hA
            obtain ⟨oq, hoq⟩ : ∃ oq, outP outD line has = oq := ⟨_, rfl⟩
            rw [hoq] at h l2
            replace hHres : Hid (linesF width ((ws.drop (i + 1)).filter full) (oq ++ (splitW width x.length x).1) (splitW width x.length x).2 (lenB (splitW width x.length x).2) = RES) := Lib.hid (by rw [← hoq]; exact hHres.out)
            have hI0 : Hid (IV w gO gD gL gR gZ gP width ws oq x x [] x.length line room vO w6) := Lib.hid ⟨hxne, Nat.le_refl _, by simp, by simp, by rw [List.append_nil]; exact h, P⟩
            clear h P hoq rm hs'
            go_wp2_with fail
            clear cL cR nS
            go_loopw [11, 12] (fun vw vn wv => ∃ (rest : BL) (dn : List BL) (k : Nat) (line' : BL) (room' : Int) (v' : Value), vw = .string (mkS rest) ∧ vn = .int .i64 (lenB rest : Nat) ∧ Hid (IV w gO gD gL gR gZ gP width ws oq x rest dn k line' room' v' wv)) (fun vw _ _ => strSz2 vw)
            case atStart => exact ⟨x, [], x.length, line, room, vO, rfl, by rw [hN9], hI0⟩
            case round =>
              obtain ⟨rest, dn, k, line', room', v', rfl, rfl, hV⟩ := hrel
              clear hI0
              obtain ⟨hne, hk, hsp, hdn, h, P⟩ := hV.out
              clear hV
              have cD := h.D.cell (j := 0) rfl
              have hrlen := List.length_pos_iff.2 hne
              have hlr := lenB_le rest
              obtain ⟨N2, hN2⟩ : ∃ N, lenB rest = N := ⟨_, rfl⟩
              rw [hN2] at hlr ⊢
              have hoql : (oq ++ dn).length ≤ 2000000 := by rw [List.length_append]; omega
              by_cases hlong : width < N2
              · have hlI : (width : Int) < (N2 : Int) := by omega
                obtain ⟨k1, rfl⟩ : ∃ k1, k = k1 + 1 := ⟨k - 1, by omega⟩
                have hst := splitW_step width k1 rest (by rw [hN2]; exact hlong)
                rw [hst] at hsp
                have hpp : 0 < posF width rest := by
                  obtain ⟨j, rfl⟩ : ∃ j, width = j + 1 := ⟨width - 1, by omega⟩
                  have := Lib.decodeL_width rest
                  rw [posF, if_neg hne]
                  omega
                have hpl := posF_lt width rest (by rw [hN2]; exact hlong)
                have hcl := cutB_length width rest
                have cCut := fun W => cut_any (mkS rest) (width : Int) (by omega) W
                rw [cutV_mk] at cCut
                have hzc : (mkS (cutB width rest)).size = posF width rest := by rw [mkS_size, hcl]
                have hxt := ext_drop (mkS rest) (posF width rest)
                rw [mkS_data, mkS_size] at hxt
                have hzr : (mkS rest).size = rest.length := mkS_size rest
                obtain ⟨rest2, hr2⟩ : ∃ r, rest.drop (posF width rest) = r := ⟨_, rfl⟩
                have hr2l : rest2.length = rest.length - posF width rest := by rw [← hr2, List.length_drop]
                rw [hr2] at hsp hxt
                have cLen2 := fun W => len_any (mkS rest2) (by rw [mkS_size]; omega) W
                rw [mkS_data] at cLen2
                obtain ⟨ct, hct⟩ : ∃ c, cutB width rest = c := ⟨_, rfl⟩
                rw [hct] at hsp cCut hcl hzc
                obtain ⟨pp, hppE⟩ : ∃ p, posF width rest = p := ⟨_, rfl⟩
                rw [hppE] at hpp hpl hcl hzc hxt hr2l
                obtain ⟨rl, hrlE⟩ : ∃ n, rest.length = n := ⟨_, rfl⟩
                rw [hrlE] at hpl hxt hzr hr2l hrlen hk hdn hlr
                have pI0 : (0 : Int) ≤ (pp : Int) := by omega
                have pI1 : (pp : Int) ≤ (rl : Int) := by omega
                have hSP := Lib.hid hsp
                clear hsp hst hr2 hct hppE hne
                go_wp2_with fail
                refine (cCut _).mono ?_
                rintro e w7 ⟨rfl, hbn⟩
                replace h := h.step hbn
                replace P := P.step hbn
                clear hbn cD
                go_wp2_with fail
                obtain ⟨gX, hgX⟩ : ∃ g, w7.heap.size = g := ⟨_, rfl⟩
                have X := Blk.newV hgX 9 #[.string (mkS ct)]
                have hbn := (Below.refl w7.heap.size w7).alloc (Nat.le_refl _) (.cells #[.string (mkS ct)] 9)
                replace h := h.step hbn
                replace P := P.step hbn
                rw [hgX]
                clear hbn hgX
                generalize w7.alloc (.cells #[.string (mkS ct)] 9) = w8 at *
                refine (put_any gX gO gD gL gR gZ (width : Int) room' (oq ++ dn) line' ct v' w w8 h X hOZ hDZ hLZ hRZ hwZ hwO hwL hwR hOD hOL hOR hDL hDR hLR gP (strL ws) P hPZ hPO hPL hPR (by omega) (by omega) hoql).mono ?_
                rintro e w9 ⟨rfl, v9, h9, P9⟩
                clear h P X
                have cD := h9.D.cell (j := 0) rfl
                go_wp2_with fail
                refine (cCut _).mono ?_
                rintro e w10 ⟨rfl, hbn⟩
                replace h9 := h9.step hbn
                replace P9 := P9.step hbn
                clear hbn cD
                go_wp2_with fail
                refine (cLen2 _).mono ?_
                rintro e w11 ⟨rfl, hbn⟩
                replace h9 := h9.step hbn
                replace P9 := P9.step hbn
                clear hbn
                have hV2 : Hid (IV w gO gD gL gR gZ gP width ws oq x rest2 (dn ++ [ct]) k1 ct ((width : Int) - (lenB ct : Nat)) v9 w11) := Lib.hid
                  ⟨by intro e; rw [e] at hr2l; simp at hr2l; omega, by omega, by rw [hSP.out]; simp, by rw [List.length_append, List.length_singleton]; omega, by rw [← List.append_assoc]; exact h9, P9⟩
                clear hSP h9 P9 cCut cLen2 hzc hxt hzr
                go_wp2_with fail
                go_roundw
                case rel => exact ⟨rest2, dn ++ [ct], k1, ct, _, v9, rfl, rfl, hV2⟩
                case measure => simp [strSz2, mkS_size, hrlE]; omega
              · have hlI : ¬ (width : Int) < (N2 : Int) := by omega
                have hst := splitW_stop width k rest (by rw [hN2]; exact hlong)
                rw [hst, List.append_nil] at hsp
                have hhr := hHres.out
                rw [hsp, hN2] at hhr
                have hHr2 := Lib.hid hhr
                have hne1 : 0 < N2 := by rw [← hN2]; exact lenB_pos rest hne
                clear hhr hst hsp hHres hne
                go_wp2_with fail
                obtain ⟨gX, hgX⟩ : ∃ g, wr.heap.size = g := ⟨_, rfl⟩
                have X := Blk.newV hgX 9 #[.string (mkS rest)]
                have hbn := (Below.refl wr.heap.size wr).alloc (Nat.le_refl _) (.cells #[.string (mkS rest)] 9)
                replace h := h.step hbn
                replace P := P.step hbn
                rw [hgX]
                clear hbn hgX cD
                generalize wr.alloc (.cells #[.string (mkS rest)] 9) = w8 at *
                refine (put_any gX gO gD gL gR gZ (width : Int) room' (oq ++ dn) line' rest v' w w8 h X hOZ hDZ hLZ hRZ hwZ hwO hwL hwR hOD hOL hOR hDL hDR hLR gP (strL ws) P hPZ hPO hPL hPR (by omega) (by omega) hoql).mono ?_
                rintro e w9 ⟨rfl, v9, h9, P9⟩
                clear h P X
                have hL3 : Hid (∃ outD line has room vO, LS w gO gD gL gR gZ gP width ws (ws.drop (i + 1)) RES ((i + 1) * 301) w9 outD line has room vO) := Lib.hid (by
                  refine ⟨oq ++ dn, rest, N2, (width : Int) - (N2 : Nat), v9, ⟨?_, P9, fun _ => rfl, ?_, hHr2.out, ?_, ?_, ?_, ?_⟩⟩
                  · have e : outP (oq ++ dn) rest N2 = oq ++ dn ++ [rest] := by unfold outP; rw [if_pos hne1]
                    rw [e]
                    rw [hN2] at h9
                    exact h9
                  · constructor
                    · intro e; omega
                    · intro e; rw [e, lenB_nil] at hN2; omega
                  · omega
                  · have e : outP (oq ++ dn) rest N2 = oq ++ dn ++ [rest] := by unfold outP; rw [if_pos hne1]
                    rw [e, List.length_append, List.length_append, List.length_singleton]
                    omega
                  · omega
                  · omega)
                clear h9 P9 hHr2
                go_wp2_with fail
                go_roundw
                case rel => exact ⟨i + 1, by go_num, by omega, hL3⟩
                case measure => simp [intOf]; omega
          · have nS : (mkS line).toList.isEmpty = false := by rw [Lib.toList_data, mkS_data]; cases line with | nil => exact absurd rfl hl0 | cons a t => rfl
            have hh0 : 0 < has := by
              have : has ≠ 0 := fun e => hl0 (hzero.1 e)
              omega
            have hNroom : decide ((N : Int) < room) = false := by
              have := hroom hh0
              rw [decide_eq_false_iff_not]
              intro e
              exact hA ⟨hh0, by omega⟩
            clear hl0 hroom hzero hA hh0
            obtain ⟨oq, hoq⟩ : ∃ oq, outP outD line has = oq := ⟨_, rfl⟩
            rw [hoq] at h l2
            replace hHres : Hid (linesF width ((ws.drop (i + 1)).filter full) (oq ++ (splitW width x.length x).1) (splitW width x.length x).2 (lenB (splitW width x.length x).2) = RES) := Lib.hid (by rw [← hoq]; exact hHres.out)
            have hI0 : Hid (IV w gO gD gL gR gZ gP width ws oq x x [] x.length line room vO w6) := Lib.hid ⟨hxne, Nat.le_refl _, by simp, by simp, by rw [List.append_nil]; exact h, P⟩
            clear h P hoq rm hs'
            go_wp2_with fail
            clear cL cR nS
            go_loopw [11, 12] (fun vw vn wv => ∃ (rest : BL) (dn : List BL) (k : Nat) (line' : BL) (room' : Int) (v' : Value), vw = .string (mkS rest) ∧ vn = .int .i64 (lenB rest : Nat) ∧ Hid (IV w gO gD gL gR gZ gP width ws oq x rest dn k line' room' v' wv)) (fun vw _ _ => strSz2 vw)
            case atStart => exact ⟨x, [], x.length, line, room, vO, rfl, by rw [hN9], hI0⟩
            case round =>
              obtain ⟨rest, dn, k, line', room', v', rfl, rfl, hV⟩ := hrel
              clear hI0
              obtain ⟨hne, hk, hsp, hdn, h, P⟩ := hV.out
              clear hV
              have cD := h.D.cell (j := 0) rfl
              have hrlen := List.length_pos_iff.2 hne
              have hlr := lenB_le rest
              obtain ⟨N2, hN2⟩ : ∃ N, lenB rest = N := ⟨_, rfl⟩
              rw [hN2] at hlr ⊢
              have hoql : (oq ++ dn).length ≤ 2000000 := by rw [List.length_append]; omega
              by_cases hlong : width < N2
              · have hlI : (width : Int) < (N2 : Int) := by omega
                obtain ⟨k1, rfl⟩ : ∃ k1, k = k1 + 1 := ⟨k - 1, by omega⟩
                have hst := splitW_step width k1 rest (by rw [hN2]; exact hlong)
                rw [hst] at hsp
                have hpp : 0 < posF width rest := by
                  obtain ⟨j, rfl⟩ : ∃ j, width = j + 1 := ⟨width - 1, by omega⟩
                  have := Lib.decodeL_width rest
                  rw [posF, if_neg hne]
                  omega
                have hpl := posF_lt width rest (by rw [hN2]; exact hlong)
                have hcl := cutB_length width rest
                have cCut := fun W => cut_any (mkS rest) (width : Int) (by omega) W
                rw [cutV_mk] at cCut
                have hzc : (mkS (cutB width rest)).size = posF width rest := by rw [mkS_size, hcl]
                have hxt := ext_drop (mkS rest) (posF width rest)
                rw [mkS_data, mkS_size] at hxt
                have hzr : (mkS rest).size = rest.length := mkS_size rest
                obtain ⟨rest2, hr2⟩ : ∃ r, rest.drop (posF width rest) = r := ⟨_, rfl⟩
                have hr2l : rest2.length = rest.length - posF width rest := by rw [← hr2, List.length_drop]
                rw [hr2] at hsp hxt
                have cLen2 := fun W => len_any (mkS rest2) (by rw [mkS_size]; omega) W
                rw [mkS_data] at cLen2
                obtain ⟨ct, hct⟩ : ∃ c, cutB width rest = c := ⟨_, rfl⟩
                rw [hct] at hsp cCut hcl hzc
                obtain ⟨pp, hppE⟩ : ∃ p, posF width rest = p := ⟨_, rfl⟩
                rw [hppE] at hpp hpl hcl hzc hxt hr2l
                obtain ⟨rl, hrlE⟩ : ∃ n, rest.length = n := ⟨_, rfl⟩
                rw [hrlE] at hpl hxt hzr hr2l hrlen hk hdn hlr
                have pI0 : (0 : Int) ≤ (pp : Int) := by omega
                have pI1 : (pp : Int) ≤ (rl : Int) := by omega
                have hSP := Lib.hid hsp
                clear hsp hst hr2 hct hppE hne
                go_wp2_with fail
                refine (cCut _).mono ?_
                rintro e w7 ⟨rfl, hbn⟩
                replace h := h.step hbn
                replace P := P.step hbn
                clear hbn cD
                go_wp2_with fail
                obtain ⟨gX, hgX⟩ : ∃ g, w7.heap.size = g := ⟨_, rfl⟩
                have X := Blk.newV hgX 9 #[.string (mkS ct)]
                have hbn := (Below.refl w7.heap.size w7).alloc (Nat.le_refl _) (.cells #[.string (mkS ct)] 9)
                replace h := h.step hbn
                replace P := P.step hbn
                rw [hgX]
                clear hbn hgX
                generalize w7.alloc (.cells #[.string (mkS ct)] 9) = w8 at *
                refine (put_any gX gO gD gL gR gZ (width : Int) room' (oq ++ dn) line' ct v' w w8 h X hOZ hDZ hLZ hRZ hwZ hwO hwL hwR hOD hOL hOR hDL hDR hLR gP (strL ws) P hPZ hPO hPL hPR (by omega) (by omega) hoql).mono ?_
                rintro e w9 ⟨rfl, v9, h9, P9⟩
                clear h P X
                have cD := h9.D.cell (j := 0) rfl
                go_wp2_with fail
                refine (cCut _).mono ?_
                rintro e w10 ⟨rfl, hbn⟩
                replace h9 := h9.step hbn
                replace P9 := P9.step hbn
                clear hbn cD
                go_wp2_with fail
                refine (cLen2 _).mono ?_
                rintro e w11 ⟨rfl, hbn⟩
                replace h9 := h9.step hbn
                replace P9 := P9.step hbn
                clear hbn
                have hV2 : Hid (IV w gO gD gL gR gZ gP width ws oq x rest2 (dn ++ [ct]) k1 ct ((width : Int) - (lenB ct : Nat)) v9 w11) := Lib.hid
                  ⟨by intro e; rw [e] at hr2l; simp at hr2l; omega, by omega, by rw [hSP.out]; simp, by rw [List.length_append, List.length_singleton]; omega, by rw [← List.append_assoc]; exact h9, P9⟩
                clear hSP h9 P9 cCut cLen2 hzc hxt hzr
                go_wp2_with fail
                go_roundw
                case rel => exact ⟨rest2, dn ++ [ct], k1, ct, _, v9, rfl, rfl, hV2⟩
                case measure => simp [strSz2, mkS_size, hrlE]; omega
              · have hlI : ¬ (width : Int) < (N2 : Int) := by omega
                have hst := splitW_stop width k rest (by rw [hN2]; exact hlong)
                rw [hst, List.append_nil] at hsp
                have hhr := hHres.out
                rw [hsp, hN2] at hhr
                have hHr2 := Lib.hid hhr
                have hne1 : 0 < N2 := by rw [← hN2]; exact lenB_pos rest hne
                clear hhr hst hsp hHres hne
                go_wp2_with fail
                obtain ⟨gX, hgX⟩ : ∃ g, wr.heap.size = g := ⟨_, rfl⟩
                have X := Blk.newV hgX 9 #[.string (mkS rest)]
                have hbn := (Below.refl wr.heap.size wr).alloc (Nat.le_refl _) (.cells #[.string (mkS rest)] 9)
                replace h := h.step hbn
                replace P := P.step hbn
                rw [hgX]
                clear hbn hgX cD
                generalize wr.alloc (.cells #[.string (mkS rest)] 9) = w8 at *
                refine (put_any gX gO gD gL gR gZ (width : Int) room' (oq ++ dn) line' rest v' w w8 h X hOZ hDZ hLZ hRZ hwZ hwO hwL hwR hOD hOL hOR hDL hDR hLR gP (strL ws) P hPZ hPO hPL hPR (by omega) (by omega) hoql).mono ?_
                rintro e w9 ⟨rfl, v9, h9, P9⟩
                clear h P X
                have hL3 : Hid (∃ outD line has room vO, LS w gO gD gL gR gZ gP width ws (ws.drop (i + 1)) RES ((i + 1) * 301) w9 outD line has room vO) := Lib.hid (by
                  refine ⟨oq ++ dn, rest, N2, (width : Int) - (N2 : Nat), v9, ⟨?_, P9, fun _ => rfl, ?_, hHr2.out, ?_, ?_, ?_, ?_⟩⟩
                  · have e : outP (oq ++ dn) rest N2 = oq ++ dn ++ [rest] := by unfold outP; rw [if_pos hne1]
                    rw [e]
                    rw [hN2] at h9
                    exact h9
                  · constructor
                    · intro e; omega
                    · intro e; rw [e, lenB_nil] at hN2; omega
                  · omega
                  · have e : outP (oq ++ dn) rest N2 = oq ++ dn ++ [rest] := by unfold outP; rw [if_pos hne1]
                    rw [e, List.length_append, List.length_append, List.length_singleton]
                    omega
                  · omega
                  · omega)
                clear h9 P9 hHr2
                go_wp2_with fail
                go_roundw
                case rel => exact ⟨i + 1, by go_num, by omega, hL3⟩
                case measure => simp [intOf]; omega
    · obtain rfl : i = m := by omega
      have i1 : ¬ (i : Int) < (i : Int) := by omega
      obtain ⟨outD, line, has, room, vO, hLS⟩ := hI.out
      have hr := hLS.res
      rw [List.drop_of_length_le (by omega)] at hr
      have hown := hLS.h.own
      have hr2 : outP outD line has = RES := by rw [← hr]; rfl
      rw [hr2] at hown
      obtain ⟨ao, co, rfl⟩ := hown.form
      have cO := hLS.h.O.cell (j := 0) rfl
      have hbf := hLS.h.hb
      clear hI hLS hr
      go_wp2_with fail
      go_ret2
      refine ⟨⟨_, rfl, ?_⟩, hbf⟩
      rw [HR0.out]
      exact ownsRow_mono2 hown hwZ
end Go.Proofs.YtehjglaofhgjfaaDoor
