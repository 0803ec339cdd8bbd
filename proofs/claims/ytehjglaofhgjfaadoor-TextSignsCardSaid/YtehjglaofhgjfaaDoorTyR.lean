
/- The chapter's rows (works). -/
import Derived.Test.YtehjglaofhgjfaaDoorTyP
import Derived.Test.YtehjglaofhgjfaaDoorTyM
import Derived.Test.YtehjglaofhgjfaaDoorTyQ
import Derived.Test.YtehjglaofhgjfaaDoorTyI
import Derived.Test.YtehjglaofhgjfaaDoorTxI
namespace Go.Proofs.YtehjglaofhgjfaaDoor
set_option linter.unusedSimpArgs false
set_option linter.unusedVariables false
open Go.RowKit
def bN : BL := [64, 97, 110, 110, 32, 104, 105, 32, 64, 98, 111, 44, 32, 120, 64, 99, 121, 32, 64, 97, 110, 110]
def bL : BL := [111, 110, 101, 32, 116, 119, 111, 32, 116, 104, 114, 101, 101]
def bM : BL := [97, 98, 99, 100, 101, 102, 103, 104, 32, 105, 106]
def rN : List BL := [[97, 110, 110], [98, 111]]
def rL : List BL := [[111, 110, 101, 32, 116, 119, 111], [116, 104, 114, 101, 101]]
def rM : List BL := [[97, 98, 99], [100, 101, 102], [103, 104], [105, 106]]
theorem wkN : namedL bN = rN := by kernel_rfl
theorem wkL : linesL 7 bL = rL := by kernel_rfl
theorem wkM : linesL 3 bM = rM := by kernel_rfl
theorem wkQ : quoteS ⟨#[97, 34, 7]⟩ = ⟨#[34, 97, 92, 34, 92, 120, 48, 55, 34]⟩ := by kernel_rfl
theorem wkU : unqV ⟨#[120]⟩ = ⟨#[]⟩ ∧ unqE ⟨#[120]⟩ = 133 := ⟨by kernel_rfl, by kernel_rfl⟩
theorem wkC : chkT ⟨#[104, 105, 32, 116, 104, 101, 114, 101]⟩ = 0 ∧ chkT ⟨#[]⟩ = 132 ∧ chkT ⟨#[255]⟩ = 130 ∧ chkT ⟨#[97, 9, 98]⟩ = 131 := by
  refine ⟨?_, ?_, ?_, ?_⟩ <;> (rw [chk_eq]; kernel_rfl)
theorem same_yes (va vb : Value) (l : List BL) (w : World) (ha : StrS w va l) (hb : StrS w vb l) (hL : l.length ≤ 9000000) :
    Calls Tryd.prog 17 #[va, vb] w fun e w' => e = .returned (.bool true) ∧ Below w.heap.size w w' := by
  have h := same3_any va vb l l w ha hb hL
  rw [decide_eq_true rfl] at h
  exact h
theorem named_wk (w : World) : Calls Tryd.prog 16 #[.string ⟨#[64, 97, 110, 110, 32, 104, 105, 32, 64, 98, 111, 44, 32, 120, 64, 99, 121, 32, 64, 97, 110, 110]⟩] w fun e w' => (∃ v, e = .returned (.tuple #[v, .int .i64 0]) ∧ StrS w' v rN) ∧ Below w.heap.size w w' := by
  refine (named_any2 ⟨#[64, 97, 110, 110, 32, 104, 105, 32, 64, 98, 111, 44, 32, 120, 64, 99, 121, 32, 64, 97, 110, 110]⟩ (by decide) w).mono ?_
  rintro e w' ⟨⟨v, rfl, h⟩, hb⟩
  have h2 := h.strS
  rw [show namedL (ByteArray.mk #[64, 97, 110, 110, 32, 104, 105, 32, 64, 98, 111, 44, 32, 120, 64, 99, 121, 32, 64, 97, 110, 110]).data.toList = rN from wkN] at h2
  exact ⟨⟨v, rfl, h2⟩, hb⟩
theorem lines_wkL (w : World) (hM : MaxL w) : Calls Tryd.prog 19 #[.string ⟨#[111, 110, 101, 32, 116, 119, 111, 32, 116, 104, 114, 101, 101]⟩, .int .i64 7] w fun e w' => (∃ v, e = .returned (.tuple #[v, .int .i64 0]) ∧ StrS w' v rL) ∧ Below w.heap.size w w' := by
  refine (lines_any ⟨#[111, 110, 101, 32, 116, 119, 111, 32, 116, 104, 114, 101, 101]⟩ 7 (by decide) (by decide) (by decide) w hM).mono ?_
  rintro e w' ⟨⟨v, rfl, h⟩, hb⟩
  have h2 := h.strS
  rw [show linesL 7 (ByteArray.mk #[111, 110, 101, 32, 116, 119, 111, 32, 116, 104, 114, 101, 101]).data.toList = rL from wkL] at h2
  exact ⟨⟨v, rfl, h2⟩, hb⟩
theorem lines_wkM (w : World) (hM : MaxL w) : Calls Tryd.prog 19 #[.string ⟨#[97, 98, 99, 100, 101, 102, 103, 104, 32, 105, 106]⟩, .int .i64 3] w fun e w' => (∃ v, e = .returned (.tuple #[v, .int .i64 0]) ∧ StrS w' v rM) ∧ Below w.heap.size w w' := by
  refine (lines_any ⟨#[97, 98, 99, 100, 101, 102, 103, 104, 32, 105, 106]⟩ 3 (by decide) (by decide) (by decide) w hM).mono ?_
  rintro e w' ⟨⟨v, rfl, h⟩, hb⟩
  have h2 := h.strS
  rw [show linesL 3 (ByteArray.mk #[97, 98, 99, 100, 101, 102, 103, 104, 32, 105, 106]).data.toList = rM from wkM] at h2
  exact ⟨⟨v, rfl, h2⟩, hb⟩
theorem unq_wk (w : World) : Calls Tryd.prog 22 #[.string ⟨#[120]⟩] w fun e w' => e = .returned (.tuple #[.string ⟨#[]⟩, .int .i64 133]) ∧ Below w.heap.size w w' := by
  have h := unquote_any ⟨#[120]⟩ 1 (by decide) (by decide) w
  rw [wkU.1, wkU.2] at h
  exact h
theorem quo_wk (w : World) : Calls Tryd.prog 21 #[.string ⟨#[97, 34, 7]⟩] w fun e w' => e = .returned (.string ⟨#[34, 97, 92, 34, 92, 120, 48, 55, 34]⟩) ∧ Below w.heap.size w w' := by
  have h := quote_any ⟨#[97, 34, 7]⟩ 3 (by decide) (by decide) w
  rw [wkQ] at h
  exact h
theorem chk_wk (s : ByteArray) (n : Int) (h : chkT s = n) (hs : s.size ≤ 9) (w : World) (hT : Tabs w) : Calls Tryd.prog 14 #[.string s] w fun e w' => e = .returned (.int .i64 n) ∧ Below w.heap.size w w' :=
  h ▸ textCheck_any s (by omega) w hT
set_option maxRecDepth 100000 in
set_option maxHeartbeats 4000000 in
theorem works3_any (w : World) (hT : Tabs w) (hM : MaxL w) : Calls Tryd.prog 12 #[] w fun e w' => e = .returned (.bool true) ∧ Below w.heap.size w w' := by
  have hb := From.refl w
  go_enter Tryd.func12, Tryd.ntmps12
  go_wp2_with fail
  refine (named_wk _).mono ?_
  rintro e w1 ⟨⟨vn, rfl, N⟩, hbn⟩
  replace hT := hT.step hbn
  replace hM := hM.step hbn
  replace hb := hb.step hbn
  clear hbn
  go_wp2_with fail
  refine (lines_wkL _ hM).mono ?_
  rintro e w2 ⟨⟨vl, rfl, L⟩, hbn⟩
  replace hT := hT.step hbn
  replace N := N.step hbn
  replace hM := hM.step hbn
  replace hb := hb.step hbn
  clear hbn
  go_wp2_with fail
  refine (lines_wkM _ hM).mono ?_
  rintro e w3 ⟨⟨vm, rfl, M⟩, hbn⟩
  replace hT := hT.step hbn
  replace N := N.step hbn
  replace L := L.step hbn
  replace hb := hb.step hbn
  clear hbn hM
  go_wp2_with fail
  refine (unq_wk _).mono ?_
  rintro e w4 ⟨rfl, hbn⟩
  replace N := N.step hbn
  replace L := L.step hbn
  replace M := M.step hbn
  replace hT := hT.step hbn
  replace hb := hb.step hbn
  clear hbn
  go_wp2_with fail
  refine (num3_any _ _).mono ?_
  rintro e wz ⟨rfl, rfl⟩
  go_wp2_with fail
  refine (num3_any _ _).mono ?_
  rintro e wz ⟨rfl, rfl⟩
  go_wp2_with fail
  refine (num3_any _ _).mono ?_
  rintro e wz ⟨rfl, rfl⟩
  obtain ⟨gX, hgX⟩ : ∃ g, w4.heap.size = g := ⟨_, rfl⟩
  have X := Blk.strS (l := rN) (Blk.newV hgX 9 #[.string ⟨#[97, 110, 110]⟩, .string ⟨#[98, 111]⟩]) 2
  have hbn := (Below.refl w4.heap.size w4).alloc (Nat.le_refl _) (.cells #[.string ⟨#[97, 110, 110]⟩, .string ⟨#[98, 111]⟩] 9)
  have N2 := N.step hbn
  rw [hgX] at hbn
  go_wp2_with fail
  refine (same_yes _ _ rN _ N2 X (by decide)).mono ?_
  rintro e w5 ⟨rfl, hbm⟩
  subst hgX
  clear X N2
  replace hbn := hbn.trans (hbm.mono hbn.size)
  clear hbm
  replace N := N.step hbn
  replace L := L.step hbn
  replace M := M.step hbn
  replace hT := hT.step hbn
  replace hb := hb.step hbn
  clear hbn
  obtain ⟨gX, hgX⟩ : ∃ g, w5.heap.size = g := ⟨_, rfl⟩
  have X := Blk.strS (l := rL) (Blk.newV hgX 9 #[.string ⟨#[111, 110, 101, 32, 116, 119, 111]⟩, .string ⟨#[116, 104, 114, 101, 101]⟩]) 2
  have hbn := (Below.refl w5.heap.size w5).alloc (Nat.le_refl _) (.cells #[.string ⟨#[111, 110, 101, 32, 116, 119, 111]⟩, .string ⟨#[116, 104, 114, 101, 101]⟩] 9)
  have L2 := L.step hbn
  rw [hgX] at hbn
  go_wp2_with fail
  refine (same_yes _ _ rL _ L2 X (by decide)).mono ?_
  rintro e w6 ⟨rfl, hbm⟩
  subst hgX
  clear X L2
  replace hbn := hbn.trans (hbm.mono hbn.size)
  clear hbm
  replace N := N.step hbn
  replace L := L.step hbn
  replace M := M.step hbn
  replace hT := hT.step hbn
  replace hb := hb.step hbn
  clear hbn
  obtain ⟨gX, hgX⟩ : ∃ g, w6.heap.size = g := ⟨_, rfl⟩
  have X := Blk.strS (l := rM) (Blk.newV hgX 9 #[.string ⟨#[97, 98, 99]⟩, .string ⟨#[100, 101, 102]⟩, .string ⟨#[103, 104]⟩, .string ⟨#[105, 106]⟩]) 4
  have hbn := (Below.refl w6.heap.size w6).alloc (Nat.le_refl _) (.cells #[.string ⟨#[97, 98, 99]⟩, .string ⟨#[100, 101, 102]⟩, .string ⟨#[103, 104]⟩, .string ⟨#[105, 106]⟩] 9)
  have M2 := M.step hbn
  rw [hgX] at hbn
  go_wp2_with fail
  refine (same_yes _ _ rM _ M2 X (by decide)).mono ?_
  rintro e w7 ⟨rfl, hbm⟩
  subst hgX
  clear X M2
  replace hbn := hbn.trans (hbm.mono hbn.size)
  clear hbm
  replace N := N.step hbn
  replace L := L.step hbn
  replace M := M.step hbn
  replace hT := hT.step hbn
  replace hb := hb.step hbn
  clear hbn
  go_wp2_with fail
  refine (quo_wk _).mono ?_
  rintro e w8 ⟨rfl, hbn⟩
  replace N := N.step hbn
  replace L := L.step hbn
  replace M := M.step hbn
  replace hT := hT.step hbn
  replace hb := hb.step hbn
  clear hbn
  go_wp2_with fail
  refine (num3_any _ _).mono ?_
  rintro e wz ⟨rfl, rfl⟩
  go_wp2_with fail
  refine (chk_wk _ _ wkC.1 (by decide) _ hT).mono ?_
  rintro e w9 ⟨rfl, hbn⟩
  replace N := N.step hbn
  replace L := L.step hbn
  replace M := M.step hbn
  replace hT := hT.step hbn
  replace hb := hb.step hbn
  clear hbn
  go_wp2_with fail
  refine (num3_any _ _).mono ?_
  rintro e wz ⟨rfl, rfl⟩
  go_wp2_with fail
  refine (chk_wk _ _ wkC.2.1 (by decide) _ hT).mono ?_
  rintro e w10 ⟨rfl, hbn⟩
  replace N := N.step hbn
  replace L := L.step hbn
  replace M := M.step hbn
  replace hT := hT.step hbn
  replace hb := hb.step hbn
  clear hbn
  go_wp2_with fail
  refine (num3_any _ _).mono ?_
  rintro e wz ⟨rfl, rfl⟩
  go_wp2_with fail
  refine (chk_wk _ _ wkC.2.2.1 (by decide) _ hT).mono ?_
  rintro e w11 ⟨rfl, hbn⟩
  replace N := N.step hbn
  replace L := L.step hbn
  replace M := M.step hbn
  replace hT := hT.step hbn
  replace hb := hb.step hbn
  clear hbn
  go_wp2_with fail
  refine (num3_any _ _).mono ?_
  rintro e wz ⟨rfl, rfl⟩
  go_wp2_with fail
  refine (chk_wk _ _ wkC.2.2.2 (by decide) _ hT).mono ?_
  rintro e w12 ⟨rfl, hbn⟩
  replace N := N.step hbn
  replace L := L.step hbn
  replace M := M.step hbn
  replace hT := hT.step hbn
  replace hb := hb.step hbn
  clear hbn
  go_wp2_with fail
  refine (num3_any _ _).mono ?_
  rintro e wz ⟨rfl, rfl⟩
  go_wp2_with fail
  go_ret
  exact ⟨rfl, hb⟩
end Go.Proofs.YtehjglaofhgjfaaDoor
