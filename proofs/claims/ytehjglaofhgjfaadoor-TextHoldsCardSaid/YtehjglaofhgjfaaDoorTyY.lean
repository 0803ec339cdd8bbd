
/- The document's Lines. -/
import Derived.Test.YtehjglaofhgjfaaDoorTyX
namespace Go.Proofs.YtehjglaofhgjfaaDoor
set_option linter.unusedSimpArgs false
set_option linter.unusedVariables false
open Go.RowKit
theorem OwnL.low {W : World} {b b' : Nat} {v : Value} {l : List BL} (h : OwnL W b v l) (hb : b' ≤ b) : OwnL W b' v l := by
  refine ⟨h.1, ?_⟩
  rcases h.2 with h | ⟨g, c, cur, hv, hg, hh, r⟩
  · exact .inl h
  · exact .inr ⟨g, c, cur, hv, by omega, hh, r⟩
theorem sgl_any (x : BL) (hx : x.length ≤ 4096) (w : World) : Calls Tryd.prog 25 #[.string (mkS x)] w fun e w' => (∃ ao cap, e = .returned (.slice ao (lenB x) cap)) ∧ Below w.heap.size w w' := by
  refine (signs_any (mkS x) (by rw [mkS_size]; exact hx) w).mono ?_
  rintro e w' ⟨v, rfl, h, hb⟩
  obtain ⟨ao, cap, rfl, -⟩ := signs_own0 h
  rw [signsL_len, mkS_data]
  exact ⟨⟨ao, cap, rfl⟩, hb⟩
theorem rcutl_any (x : BL) (hx : x.length ≤ 4096) (n : Nat) (w : World) : Calls Tryd.prog 29 #[.string (mkS x), .int .i64 n] w fun e w' => e = .returned (.string (mkS (cutB n x))) ∧ Below w.heap.size w w' := by
  have h := rcut_any (mkS x) (by rw [mkS_size]; exact hx) n w
  unfold cutV at h
  rw [mkS_data, Int.toNat_natCast] at h
  exact h
theorem wrd_len : ∀ (l cur : BL), (wrd cur l).length ≤ l.length + 1 ∧ ∀ x ∈ wrd cur l, x.length ≤ cur.length + l.length
  | l, cur => by
    obtain ⟨h1, h2⟩ := pcs_len l cur
    rw [wrd_pcs]
    refine ⟨Nat.le_trans (List.length_filter_le _ _) h1, fun x hx => h2 x (List.mem_filter.1 hx).1⟩
def szOf : Value → Nat | .string s => s.size | _ => 0
/-- What is left to cut: the lines so far, the rest. -/
def SpI (width : Nat) (outF : List BL) (xF : BL) (k : Nat) (out : List BL) (x : BL) : Prop := x.length ≤ k ∧ out ++ (splitW width k x).1 = outF ∧ (splitW width k x).2 = xF
theorem SpI.done {width k : Nat} {outF out : List BL} {xF x : BL} (h : SpI width outF xF k out x) (hn : ¬ width < lenB x) : out = outF ∧ x = xF := by
  obtain ⟨h1, h2, h3⟩ := h
  cases k with
  | zero => exact ⟨by simpa [splitW] using h2, by simpa [splitW] using h3⟩
  | succ k => rw [splitW, if_neg hn] at h2 h3; exact ⟨by simpa using h2, h3⟩
theorem SpI.next {width k : Nat} {outF out : List BL} {xF x : BL} (hw : 1 ≤ width) (h : SpI width outF xF k out x) (hn : width < lenB x) : ∃ k', SpI width outF xF k' (out ++ [cutB width x]) (x.drop (posF width x)) ∧ 1 ≤ posF width x ∧ posF width x ≤ x.length := by
  obtain ⟨h1, h2, h3⟩ := h
  have hx : x ≠ [] := by rintro rfl; rw [lenB_nil] at hn; omega
  have hp : 1 ≤ posF width x := by
    obtain ⟨j, rfl⟩ : ∃ j, width = j + 1 := ⟨width - 1, by omega⟩
    have := Lib.decodeL_width x
    rw [posF, if_neg hx]
    omega
  have hp2 := posF_le width x
  cases k with
  | zero => exact absurd (List.length_eq_zero_iff.1 (by omega)) hx
  | succ k =>
    rw [splitW, if_pos hn] at h2 h3
    exact ⟨k, ⟨by rw [List.length_drop]; omega, by rw [← h2]; simp, h3⟩, hp, hp2⟩
set_option maxRecDepth 100000 in
set_option maxHeartbeats 4000000 in
theorem rlines_any (s : ByteArray) (width : Nat) (hs : s.size ≤ 300) (hw1 : 1 ≤ width) (hw2 : width ≤ 200) (w : World) :
    Calls Tryd.prog 20 #[.string s, .int .i64 width] w fun e w' => (∃ v, e = .returned v ∧ OwnL w' w.heap.size v (linesL width s.data.toList)) ∧ Below w.heap.size w w' := by
  obtain ⟨i0, hi, hz0, hz1, hz2⟩ := info_parts info_str
  obtain ⟨hwl, hwx⟩ := wrd_len s.data.toList []
  rw [← Lib.size_eq] at hwl
  have hwx2 : ∀ x ∈ wrd [] s.data.toList, x.length ≤ 300 := fun x hx => by have := hwx x hx; rw [← Lib.size_eq] at this; simp at this; omega
  clear hwx
  obtain ⟨A, hA⟩ : ∃ A, linesL width s.data.toList = A := ⟨_, rfl⟩
  rw [hA]
  unfold linesL at hA
  go_enter Tryd.func20, Tryd.ntmps20
  go_wp2_with fail
  refine (words_any s _ rfl (by omega) _).mono ?_
  rintro e w1 ⟨⟨vw, rfl, hOw⟩, hb0⟩
  obtain ⟨ao, cw, rfl, hcw⟩ := hOw.strS
  clear hOw
  generalize wrd [] s.data.toList = ws at *
  obtain ⟨N, hN⟩ : ∃ N, ws.length = N := ⟨_, rfl⟩
  obtain ⟨gB, hgB⟩ : ∃ g, w1.heap.size = g := ⟨_, rfl⟩
  have HX := Lib.hid hwx2
  clear hwx2
  have HC := Lib.hid hcw
  clear hcw
  have hbB : w.heap.size ≤ gB := by rw [← hgB]; exact hb0.size
  have hb1 : Below gB w1 w1 := hgB ▸ Below.refl _ _
  have hN9 : (N : Int) ≤ 301 := by omega
  rw [hN]
  go_wp2_with fail
  go_loopw [5, 6, 7, 9] (fun v ln h j wr => ∃ (i has : Nat) (out : List BL) (line : BL), j = .int .i64 i ∧ h = .int .i64 has ∧ ln = .string (mkS line) ∧ OwnL wr gB v out ∧ Hid (linesF width (ws.drop i) out line has = A) ∧ line.length ≤ 301 * i ∧ has ≤ 300 ∧ out.length ≤ 302 * i ∧ i ≤ N ∧ Below gB w1 wr) (fun _ _ _ j _ => N - (intOf j).toNat)
  case atStart => exact ⟨0, 0, [], [], rfl, rfl, rfl, World.ownsRow_nil _ _ _ _, Lib.hid hA, by simp, by simp, by simp, by omega, hb1⟩
  case round =>
    obtain ⟨i, has, out, line, rfl, rfl, rfl, hown, hF, hll, hhas, hol, hin, hb⟩ := hrel
    have q0 : (0 : Int) ≤ (i : Int) := by omega
    have q9 : (i : Int) ≤ 301 := by omega
    have p0 : (0 : Int) ≤ (has : Int) := by omega
    have p9 : (has : Int) ≤ 300 := by omega
    have y0 : (0 : Int) ≤ (width : Int) := by omega
    have y9 : (width : Int) ≤ 200 := by omega
    clear hA hb1
    rcases Nat.lt_or_ge i N with hlt | hlt
    · have q1 : (i : Int) < (N : Int) := by omega
      obtain ⟨x, hx⟩ : ∃ x, ws[i]? = some x := ⟨_, List.getElem?_eq_getElem (by omega)⟩
      have hx3 := HX.out x (List.mem_of_getElem? hx)
      obtain ⟨g, rfl, hc1⟩ := HC.out i x hx
      have hgl := World.block_lt_of_cell? w1 _ hc1
      rw [hgB] at hgl
      have hc2 : wr.cell? ⟨g, i, none⟩ = some (.string (mkS x)) := (hb.cell hgl).trans hc1
      have hF1 := hF.out
      rw [show ws.drop i = x :: ws.drop (i + 1) by obtain ⟨hb, e⟩ := List.getElem?_eq_some_iff.1 hx; rw [List.drop_eq_getElem_cons hb, e], linesF] at hF1
      have cSg := sgl_any x (by omega) wr
      have hlx := lenB_le x
      clear hF hx
      go_wp2_with fail
      refine (cSg).mono ?_
      rintro e w3 ⟨⟨a3, c3, rfl⟩, hbn⟩
      have r0 : (0 : Int) ≤ (lenB x : Int) := by omega
      have r9 : (lenB x : Int) ≤ 300 := by omega
      have hc3 : w3.cell? ⟨g, i, none⟩ = some (.string (mkS x)) := (hbn.cell (World.block_lt_of_cell? wr _ hc2)).trans hc2
      replace hown := hown.step hbn
      replace hb := hb.trans (hbn.mono (by have := hb.size; omega))
      clear hc2 cSg hbn
      by_cases hA1 : 0 < has ∧ has + 1 + lenB x ≤ width
      · rw [if_pos hA1] at hF1
        have HF := Lib.hid hF1
        clear hF1
        have a1 : (0 : Int) < (has : Int) := by omega
        have a2 : (has : Int) + 1 + (lenB x : Int) ≤ (width : Int) := by omega
        obtain ⟨Z, hZ⟩ : ∃ Z, (mkS line).size = Z := ⟨_, rfl⟩
        obtain ⟨Z2, hZ2⟩ : ∃ Z, (mkS x).size = Z := ⟨_, rfl⟩
        have hZa : Z ≤ 100000 := by rw [← hZ, mkS_size]; omega
        have hZb : Z2 ≤ 300 := by rw [← hZ2, mkS_size]; omega
        have hcat : mkS line ++ ⟨#[32]⟩ ++ mkS x = mkS (line ++ 32 :: x) := by
          rw [show (⟨#[32]⟩ : ByteArray) = mkS [32] from rfl, mkS_app, mkS_app]; simp
        clear hA1
        go_wp2_with fail
        go_roundw
        case rel => exact ⟨i + 1, has + 1 + lenB x, out, line ++ 32 :: x, by go_num, by go_num, by first | rw [hcat] | simp only [hcat], hown, HF, by simp; omega, by omega, by omega, by omega, hb⟩
        case measure => (simp [intOf] <;> omega)
      · rw [if_neg hA1] at hF1
        by_cases hp : 0 < has
        · rw [if_pos hp] at hF1
          have a1 : (0 : Int) < (has : Int) := by omega
          have a2 : ¬ (has : Int) + 1 + (lenB x : Int) ≤ (width : Int) := by omega
          clear hA1 hp
          go_wp2_with (at_builtin; refine wpList_append_own _ rfl _ _ 28 rfl gB 9 i0 (.string ⟨#[]⟩) 1 16 Tryd.underlying28 hi hz0 hz1 hz2 rfl (by decide) _ _ _ rfl (World.ownsRow.alloc hown _) ⟨w3.heap.size, 0, none⟩ 1 1 [.string (mkS line)] rfl rfl (Blk.new' rfl 9 [.string (mkS line)]).news (by simp [Value.oneCell']) (by unfold maxLen; omega) (by omega) (by have := hb.size; simp; omega) ?_)
          intro v' w8 hown' hgrow _
          have hb' := (hb.alloc (by have := hb.size; omega) (.cells #[.string (mkS line)] 9)).grown hgrow (by have := hb.size; simp; omega) (fun k e => (World.ownsRow.lt hown k e).1)
          have hown2 : OwnL w8 gB v' (out ++ [line]) := OwnL.snoc hown'
          clear hown' hown hgrow hb hc3
          obtain ⟨oF, hoF⟩ : ∃ o, (out ++ [line]) ++ (splitW width x.length x).1 = o := ⟨_, rfl⟩
          obtain ⟨xF, hxF⟩ : ∃ o, (splitW width x.length x).2 = o := ⟨_, rfl⟩
          rw [hoF, hxF] at hF1
          have HF := Lib.hid hF1
          clear hF1
          have hSp : Hid (SpI width oF xF x.length (out ++ [line]) x) := Lib.hid ⟨Nat.le_refl _, hoF, hxF⟩
          have hxF3 : xF.length ≤ 300 := by rw [← hxF]; exact Nat.le_trans (splitW_len width hw1 x.length x).2 hx3
          clear hoF hxF
          have hoFl : (out ++ [line]).length ≤ 302 * i + 1 := by (try simp); omega
          have hc4 : (w8).cell? ⟨g, i, none⟩ = some (.string (mkS x)) := ((hb').cell hgl).trans hc1
          have hownT : Hid (OwnL (w8) gB (v') (out ++ [line])) := Lib.hid (hown2)
          have hbT : Hid (Below gB w1 (w8)) := Lib.hid (hb')
          clear hown2 hb'
          go_upto_block 2 with fail
          go_cut [5, 11] from 14 to 77 (fun v xx wx => ∃ u, xx = .string u ∧ u = mkS xF ∧ OwnL wx gB v oF ∧ oF.length ≤ 302 * i + 301 ∧ Below gB w1 wx)
          case first =>
            go_wp2_with fail
            clear HF hc4 HC HX hgl hc1
            go_loopw [5, 11] (fun v xx wx => ∃ (k : Nat) (o : List BL) (x2 : BL), xx = .string (mkS x2) ∧ OwnL wx gB v o ∧ Hid (SpI width oF xF k o x2) ∧ x2.length ≤ 300 ∧ o.length + x2.length ≤ 302 * i + 301 ∧ Below gB w1 wx) (fun _ xx _ => szOf xx)
            case atStart => exact ⟨x.length, out ++ [line], x, rfl, hownT.out, hSp, hx3, by omega, hbT.out⟩
            case round =>
              obtain ⟨k, o, x2, rfl, hown5, hSp5, hx25, hol5, hb5⟩ := hrel
              clear hSp hownT hbT hoFl
              have cS5 := sgl_any x2 (by omega) wr
              have hl5 := lenB_le x2
              have s0 : (0 : Int) ≤ (lenB x2 : Int) := by omega
              have s9 : (lenB x2 : Int) ≤ 300 := by omega
              go_wp2_with fail
              refine (cS5).mono ?_
              rintro e w5 ⟨⟨a5, c5, rfl⟩, hbn⟩
              replace hown5 := hown5.step hbn
              replace hb5 := hb5.trans (hbn.mono (by have := hb5.size; omega))
              clear hbn cS5
              by_cases hgt : width < lenB x2
              · have g1 : (width : Int) < (lenB x2 : Int) := by omega
                obtain ⟨k', hSp6, hp1, hp2⟩ := hSp5.out.next hw1 hgt
                obtain ⟨P, hP⟩ : ∃ P, posF width x2 = P := ⟨_, rfl⟩
                rw [hP] at hSp6 hp1 hp2
                have HS6 := Lib.hid hSp6
                clear hSp6
                have cC5 := rcutl_any x2 (by omega) width w5
                clear hSp5 hgt
                go_wp2_with fail
                refine (cC5).mono ?_
                rintro e w6 ⟨rfl, hbn⟩
                replace hown5 := hown5.step hbn
                replace hb5 := hb5.trans (hbn.mono (by have := hb5.size; omega))
                clear hbn cC5
                go_wp2_with (at_builtin; refine wpList_append_own _ rfl _ _ 28 rfl gB 9 i0 (.string ⟨#[]⟩) 1 16 Tryd.underlying28 hi hz0 hz1 hz2 rfl (by decide) _ _ _ rfl (World.ownsRow.alloc hown5 _) ⟨w6.heap.size, 0, none⟩ 1 1 [.string (mkS (cutB width x2))] rfl rfl (Blk.new' rfl 9 [.string (mkS (cutB width x2))]).news (by simp [Value.oneCell']) (by unfold maxLen; omega) (by omega) (by have := hb5.size; simp; omega) ?_)
                intro v' w8 hown' hgrow _
                have hb' := (hb5.alloc (by have := hb5.size; omega) (.cells #[.string (mkS (cutB width x2))] 9)).grown hgrow (by have := hb5.size; simp; omega) (fun k e => (World.ownsRow.lt hown5 k e).1)
                have hown6 : OwnL w8 gB v' (o ++ [cutB width x2]) := OwnL.snoc hown'
                clear hown' hown5 hgrow hb5
                have cC6 := rcutl_any x2 (by omega) width w8
                go_wp2_with fail
                refine (cC6).mono ?_
                rintro e w7 ⟨rfl, hbn⟩
                replace hown6 := hown6.step hbn
                replace hb' := hb'.trans (hbn.mono (by have := hb'.size; omega))
                clear hbn cC6
                have hz1 : (mkS (cutB width x2)).size = P := by rw [mkS_size, cutB_length, hP]
                have hz2 : (mkS x2).size = x2.length := mkS_size x2
                have hxd : (mkS x2).extract P x2.length = mkS (x2.drop P) := by rw [← hz2, ext_drop, mkS_data]
                have t0 : (0 : Int) ≤ (P : Int) := by omega
                have t1 : (P : Int) ≤ (x2.length : Int) := by omega
                clear hP
                go_wp2_with fail
                go_roundw
                case rel => exact ⟨k', o ++ [cutB width x2], x2.drop P, by first | rfl | rw [hxd] | simp only [hxd], hown6, HS6, by rw [List.length_drop]; omega, by rw [List.length_drop, List.length_append, List.length_singleton]; omega, hb'⟩
                case measure => (show (mkS (x2.drop P)).size < (mkS x2).size; rw [mkS_size, mkS_size, List.length_drop]; omega)
              · have g1 : ¬ (width : Int) < (lenB x2 : Int) := by omega
                obtain ⟨rfl, rfl⟩ := hSp5.out.done hgt
                clear hSp5 hgt
                go_wp2_with fail
                go_meet
                case rel => exact ⟨_, rfl, rfl, hown5, by omega, hb5⟩
          case rest =>
            obtain ⟨u, rfl, rfl, hownR, hoR, hbR⟩ := hcut
            have cS5 := sgl_any xF (by omega) wc
            have hl5 := lenB_le xF
            clear hownT hbT hSp
            go_wp2_with fail
            refine (cS5).mono ?_
            rintro e w5 ⟨⟨a5, c5, rfl⟩, hbn⟩
            replace hownR := hownR.step hbn
            replace hbR := hbR.trans (hbn.mono (by have := hbR.size; omega))
            clear hbn cS5
            go_wp2_with fail
            go_roundw
            case rel => exact ⟨i + 1, lenB xF, oF, xF, by go_num, rfl, rfl, hownR, HF, by omega, by omega, by omega, by omega, hbR⟩
            case measure => (simp [intOf] <;> omega)
        · rw [if_neg hp] at hF1
          obtain rfl : has = 0 := by omega
          clear hA1 hp
          obtain ⟨oF, hoF⟩ : ∃ o, (out) ++ (splitW width x.length x).1 = o := ⟨_, rfl⟩
          obtain ⟨xF, hxF⟩ : ∃ o, (splitW width x.length x).2 = o := ⟨_, rfl⟩
          rw [hoF, hxF] at hF1
          have HF := Lib.hid hF1
          clear hF1
          have hSp : Hid (SpI width oF xF x.length (out) x) := Lib.hid ⟨Nat.le_refl _, hoF, hxF⟩
          have hxF3 : xF.length ≤ 300 := by rw [← hxF]; exact Nat.le_trans (splitW_len width hw1 x.length x).2 hx3
          clear hoF hxF
          have hoFl : (out).length ≤ 302 * i + 1 := by (try simp); omega
          have hc4 : (w3).cell? ⟨g, i, none⟩ = some (.string (mkS x)) := ((hb).cell hgl).trans hc1
          have hownT : Hid (OwnL (w3) gB (_) (out)) := Lib.hid (hown)
          have hbT : Hid (Below gB w1 (w3)) := Lib.hid (hb)
          clear hown hb
          go_upto_block 2 with fail
          go_cut [5, 11] from 14 to 77 (fun v xx wx => ∃ u, xx = .string u ∧ u = mkS xF ∧ OwnL wx gB v oF ∧ oF.length ≤ 302 * i + 301 ∧ Below gB w1 wx)
          case first =>
            go_wp2_with fail
            clear HF hc4 HC HX hgl hc1
            go_loopw [5, 11] (fun v xx wx => ∃ (k : Nat) (o : List BL) (x2 : BL), xx = .string (mkS x2) ∧ OwnL wx gB v o ∧ Hid (SpI width oF xF k o x2) ∧ x2.length ≤ 300 ∧ o.length + x2.length ≤ 302 * i + 301 ∧ Below gB w1 wx) (fun _ xx _ => szOf xx)
            case atStart => exact ⟨x.length, out, x, rfl, hownT.out, hSp, hx3, by omega, hbT.out⟩
            case round =>
              obtain ⟨k, o, x2, rfl, hown5, hSp5, hx25, hol5, hb5⟩ := hrel
              clear hSp hownT hbT hoFl
              have cS5 := sgl_any x2 (by omega) wr
              have hl5 := lenB_le x2
              have s0 : (0 : Int) ≤ (lenB x2 : Int) := by omega
              have s9 : (lenB x2 : Int) ≤ 300 := by omega
              go_wp2_with fail
              refine (cS5).mono ?_
              rintro e w5 ⟨⟨a5, c5, rfl⟩, hbn⟩
              replace hown5 := hown5.step hbn
              replace hb5 := hb5.trans (hbn.mono (by have := hb5.size; omega))
              clear hbn cS5
              by_cases hgt : width < lenB x2
              · have g1 : (width : Int) < (lenB x2 : Int) := by omega
                obtain ⟨k', hSp6, hp1, hp2⟩ := hSp5.out.next hw1 hgt
                obtain ⟨P, hP⟩ : ∃ P, posF width x2 = P := ⟨_, rfl⟩
                rw [hP] at hSp6 hp1 hp2
                have HS6 := Lib.hid hSp6
                clear hSp6
                have cC5 := rcutl_any x2 (by omega) width w5
                clear hSp5 hgt
                go_wp2_with fail
                refine (cC5).mono ?_
                rintro e w6 ⟨rfl, hbn⟩
                replace hown5 := hown5.step hbn
                replace hb5 := hb5.trans (hbn.mono (by have := hb5.size; omega))
                clear hbn cC5
                go_wp2_with (at_builtin; refine wpList_append_own _ rfl _ _ 28 rfl gB 9 i0 (.string ⟨#[]⟩) 1 16 Tryd.underlying28 hi hz0 hz1 hz2 rfl (by decide) _ _ _ rfl (World.ownsRow.alloc hown5 _) ⟨w6.heap.size, 0, none⟩ 1 1 [.string (mkS (cutB width x2))] rfl rfl (Blk.new' rfl 9 [.string (mkS (cutB width x2))]).news (by simp [Value.oneCell']) (by unfold maxLen; omega) (by omega) (by have := hb5.size; simp; omega) ?_)
                intro v' w8 hown' hgrow _
                have hb' := (hb5.alloc (by have := hb5.size; omega) (.cells #[.string (mkS (cutB width x2))] 9)).grown hgrow (by have := hb5.size; simp; omega) (fun k e => (World.ownsRow.lt hown5 k e).1)
                have hown6 : OwnL w8 gB v' (o ++ [cutB width x2]) := OwnL.snoc hown'
                clear hown' hown5 hgrow hb5
                have cC6 := rcutl_any x2 (by omega) width w8
                go_wp2_with fail
                refine (cC6).mono ?_
                rintro e w7 ⟨rfl, hbn⟩
                replace hown6 := hown6.step hbn
                replace hb' := hb'.trans (hbn.mono (by have := hb'.size; omega))
                clear hbn cC6
                have hz1 : (mkS (cutB width x2)).size = P := by rw [mkS_size, cutB_length, hP]
                have hz2 : (mkS x2).size = x2.length := mkS_size x2
                have hxd : (mkS x2).extract P x2.length = mkS (x2.drop P) := by rw [← hz2, ext_drop, mkS_data]
                have t0 : (0 : Int) ≤ (P : Int) := by omega
                have t1 : (P : Int) ≤ (x2.length : Int) := by omega
                clear hP
                go_wp2_with fail
                go_roundw
                case rel => exact ⟨k', o ++ [cutB width x2], x2.drop P, by first | rfl | rw [hxd] | simp only [hxd], hown6, HS6, by rw [List.length_drop]; omega, by rw [List.length_drop, List.length_append, List.length_singleton]; omega, hb'⟩
                case measure => (show (mkS (x2.drop P)).size < (mkS x2).size; rw [mkS_size, mkS_size, List.length_drop]; omega)
              · have g1 : ¬ (width : Int) < (lenB x2 : Int) := by omega
                obtain ⟨rfl, rfl⟩ := hSp5.out.done hgt
                clear hSp5 hgt
                go_wp2_with fail
                go_meet
                case rel => exact ⟨_, rfl, rfl, hown5, by omega, hb5⟩
          case rest =>
            obtain ⟨u, rfl, rfl, hownR, hoR, hbR⟩ := hcut
            have cS5 := sgl_any xF (by omega) wc
            have hl5 := lenB_le xF
            clear hownT hbT hSp
            go_wp2_with fail
            refine (cS5).mono ?_
            rintro e w5 ⟨⟨a5, c5, rfl⟩, hbn⟩
            replace hownR := hownR.step hbn
            replace hbR := hbR.trans (hbn.mono (by have := hbR.size; omega))
            clear hbn cS5
            go_wp2_with fail
            go_roundw
            case rel => exact ⟨i + 1, lenB xF, oF, xF, by go_num, rfl, rfl, hownR, HF, by omega, by omega, by omega, by omega, hbR⟩
            case measure => (simp [intOf] <;> omega)
    · have q1 : ¬ (i : Int) < (N : Int) := by omega
      obtain rfl : i = N := by omega
      have hF1 := hF.out
      rw [← hN, List.drop_length, linesF] at hF1
      clear hF HX HC
      by_cases hp : 0 < has
      · rw [if_pos hp] at hF1
        have a1 : (0 : Int) < (has : Int) := by omega
        clear hp
        go_wp2_with (at_builtin; refine wpList_append_own _ rfl _ _ 28 rfl gB 9 i0 (.string ⟨#[]⟩) 1 16 Tryd.underlying28 hi hz0 hz1 hz2 rfl (by decide) _ _ _ rfl (World.ownsRow.alloc hown _) ⟨wr.heap.size, 0, none⟩ 1 1 [.string (mkS line)] rfl rfl (Blk.new' rfl 9 [.string (mkS line)]).news (by simp [Value.oneCell']) (by unfold maxLen; omega) (by omega) (by have := hb.size; simp; omega) ?_)
        intro v' w8 hown' hgrow _
        have hb' := (hb.alloc (by have := hb.size; omega) (.cells #[.string (mkS line)] 9)).grown hgrow (by have := hb.size; simp; omega) (fun k e => (World.ownsRow.lt hown k e).1)
        have hown2 : OwnL w8 gB v' (out ++ [line]) := OwnL.snoc hown'
        rw [hF1] at hown2
        clear hown' hown hgrow hb hF1
        go_wp2_with fail
        go_ret
        exact ⟨⟨_, rfl, hown2.low hbB⟩, hb0.trans (hb'.mono hbB)⟩
      · rw [if_neg hp] at hF1
        obtain rfl : has = 0 := by omega
        rw [hF1] at hown
        clear hF1
        go_wp2_with fail
        go_ret
        exact ⟨⟨_, rfl, hown.low hbB⟩, hb0.trans (hb.mono hbB)⟩
end Go.Proofs.YtehjglaofhgjfaaDoor
