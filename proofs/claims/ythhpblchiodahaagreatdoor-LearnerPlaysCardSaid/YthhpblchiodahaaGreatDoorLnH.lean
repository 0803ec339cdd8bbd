
/- Package learner: the statements' num, few, say, works. -/
import Derived.Test.YthhpblchiodahaaGreatDoorLnG
namespace Go.Proofs.YthhpblchiodahaaGreatDoor
set_option linter.unusedSimpArgs false
set_option linter.unusedVariables false
open Go.RowKit Go.Maps
theorem num16_any (x : Int) (w : World) : Calls Tryz.prog 8 #[.int .i64 x] w fun e w' => e = .returned (.int .i64 x) ∧ w = w' := by
  go_enter Tryz.func8, Tryz.ntmps8
  go_wp2_with fail
  go_ret
  exact ⟨rfl, rfl⟩
set_option maxRecDepth 100000 in
set_option maxHeartbeats 1000000 in
theorem say16_any (s : ByteArray) (w : World) : Calls Tryz.prog 25 #[.string s] w fun e w' => e = .returned (.agg #[.int .i64 4, .int .i64 0, .int .i64 1, .string s]) ∧ Below w.heap.size w w' := by
  have hb := From.refl w
  go_enter Tryz.func25, Tryz.ntmps25
  go_upto_region 1 with fail
  obtain ⟨gR, hgR⟩ : ∃ g, (w).heap.size = g := ⟨_, rfl⟩
  have R := Blk.newV hgR 24 #[.int .i64 0, .int .i64 0, .int .i64 0, .string ⟨#[]⟩]
  have hbn := (Below.refl (w).heap.size w).alloc (Nat.le_refl _) (.cells #[.int .i64 0, .int .i64 0, .int .i64 0, .string ⟨#[]⟩] 24)
  replace hb := hb.step hbn
  clear hbn
  rw [hgR]
  generalize (w).alloc (.cells #[.int .i64 0, .int .i64 0, .int .i64 0, .string ⟨#[]⟩] 24) = w1 at *
  have R_0 := R.cell (j := 0) rfl
  have R_1 := R.cell (j := 1) rfl
  have R_2 := R.cell (j := 2) rfl
  have R_3 := R.cell (j := 3) rfl
  have Rf0 := R.frozen 0
  have Rf1 := R.frozen 1
  have Rf2 := R.frozen 2
  have Rf3 := R.frozen 3
  go_wp2_with fail
  (try simp only [Exit.inBlock, Exit.then])
  clear R_0 R_1 R_2 R_3
  clear Rf0 Rf1 Rf2 Rf3
  have hkn : Kx [gR] w1 ((((w1.setCell ⟨gR, 0, none⟩ (.int .i64 4)).setCell ⟨gR, 1, none⟩ (.int .i64 0)).setCell ⟨gR, 2, none⟩ (.int .i64 1)).setCell ⟨gR, 3, none⟩ (.string s)) := Kx.setCells [.int .i64 4, .int .i64 0, .int .i64 1, .string s] 0 _ (Kx.refl _ _) (.inl (by simp))
  replace R : Blk ((((w1.setCell ⟨gR, 0, none⟩ (.int .i64 4)).setCell ⟨gR, 1, none⟩ (.int .i64 0)).setCell ⟨gR, 2, none⟩ (.int .i64 1)).setCell ⟨gR, 3, none⟩ (.string s)) gR 24 [.int .i64 4, .int .i64 0, .int .i64 1, .string s] := Blk.puts [.int .i64 4, .int .i64 0, .int .i64 1, .string s] R rfl
  replace hb := hb.kx hkn (by first | (simp; done) | (simp; omega))
  clear hkn
  generalize (((w1.setCell ⟨gR, 0, none⟩ (.int .i64 4)).setCell ⟨gR, 1, none⟩ (.int .i64 0)).setCell ⟨gR, 2, none⟩ (.int .i64 1)).setCell ⟨gR, 3, none⟩ (.string s) = w2 at *
  have R_0 := R.cell (j := 0) rfl
  have R_1 := R.cell (j := 1) rfl
  have R_2 := R.cell (j := 2) rfl
  have R_3 := R.cell (j := 3) rfl
  refine bodyPost_ret (v := .agg #[.int .i64 4, .int .i64 0, .int .i64 1, .string s]) ?_ rfl ⟨rfl, by first | exact hb | (rw [← hgR]; exact hb)⟩
  rw [r_cell1 rfl]
  go_simp
def longP (s : ByteArray) : Bool := decide (300 < (s.size : Int))
/-- A call: What, the place, the ballot (r, p), the entry (k, m, n, s). -/
structure La where (w pl r p k m n : Int) (s : ByteArray)
structure LaAt (w : World) (b o : Nat) (e : La) : Prop where
  h0 : w.cell? ⟨b, o, none⟩ = some (.int .i64 e.w)
  h1 : w.cell? ⟨b, o + 1, none⟩ = some (.int .i64 e.pl)
  h2 : w.cell? ⟨b, o + 2, none⟩ = some (.int .i64 e.r)
  h3 : w.cell? ⟨b, o + 3, none⟩ = some (.int .i64 e.p)
  h4 : w.cell? ⟨b, o + 4, none⟩ = some (.int .i64 e.k)
  h5 : w.cell? ⟨b, o + 5, none⟩ = some (.int .i64 e.m)
  h6 : w.cell? ⟨b, o + 6, none⟩ = some (.int .i64 e.n)
  h7 : w.cell? ⟨b, o + 7, none⟩ = some (.string e.s)
def HasLa (w : World) (ao : Option Addr) (l : List La) : Prop := ∀ k e, l[k]? = some e → ∃ b off, ao = some ⟨b, off, none⟩ ∧ LaAt w b (off + k * 8) e
theorem LaAt.far {w w' : World} {b o : Nat} {e : La} (h : LaAt w b o e) (hb : ∀ q v, w.cell? ⟨b, q, none⟩ = some v → w'.cell? ⟨b, q, none⟩ = some v) : LaAt w' b o e :=
  ⟨hb _ _ h.h0, hb _ _ h.h1, hb _ _ h.h2, hb _ _ h.h3, hb _ _ h.h4, hb _ _ h.h5, hb _ _ h.h6, hb _ _ h.h7⟩
theorem HasLa.step {w w' : World} {ao : Option Addr} {l : List La} (h : HasLa w ao l) (hb : Below w.heap.size w w') : HasLa w' ao l := fun k e he => by
  obtain ⟨b, off, ha, hx⟩ := h k e he
  exact ⟨b, off, ha, hx.far (fun q v hv => cells_kept hb hv)⟩
theorem HasLa.lt {w : World} {ao : Option Addr} {l : List La} (h : HasLa w ao l) {j : Nat} {e : La} (he : l[j]? = some e) : ∀ b off, ao = some ⟨b, off, none⟩ → b < w.heap.size := fun b off ha => by
  obtain ⟨b2, o2, h2, hx⟩ := h j e he
  rw [ha] at h2
  cases h2
  exact World.block_lt_of_cell? w _ hx.h0
def fewL (l : List La) (most : Int) : Bool := l.all (fun e => !longP e.s) && decide ((l.length : Int) ≤ most)
set_option maxRecDepth 100000 in
set_option maxHeartbeats 1000000 in
theorem few16_any (l : List La) (ao : Option Addr) (c : Nat) (most : Int) (w : World) (hE : HasLa w ao l) (hl : l.length ≤ 9223372036854775807) (hs : ∀ e, e ∈ l → e.s.size ≤ 9223372036854775807) :
    Calls Tryz.prog 13 #[.slice ao l.length c, .int .i64 most] w fun r w' => r = .returned (.bool (fewL l most)) ∧ Below w.heap.size w w' := by
  obtain ⟨N, hN⟩ : ∃ N, l.length = N := ⟨_, rfl⟩
  have hNI : (N : Int) ≤ 9223372036854775807 := by omega
  obtain ⟨R, hR⟩ : ∃ R, fewL l most = R := ⟨_, rfl⟩
  rw [hN, hR]
  have HR := Lib.hid hR
  clear hR
  have HS := Lib.hid hs
  clear hs
  go_enter Tryz.func13, Tryz.ntmps13
  go_wp2_with fail
  go_loopw [5] (fun i wr => ∃ (j : Nat), i = .int .i64 j ∧ ExtA w wr ∧ j ≤ N ∧ Hid ((l.take j).all (fun e => !longP e.s) = true)) (fun i _ => N - (intOf i).toNat)
  case atStart => exact ⟨0, rfl, Below.refl _ _, by omega, Lib.hid rfl⟩
  case round =>
    obtain ⟨j, rfl, hx, hj, HA⟩ := hrel
    by_cases hlt : j < N
    · obtain ⟨e, he⟩ : ∃ e, l[j]? = some e := ⟨l[j], by simp [hN, hlt]⟩
      obtain ⟨b, off, rfl, hA⟩ := (hE.step hx) j e he
      have q7 := hA.h7
      have hj0 : (0 : Int) ≤ (j : Int) := by omega
      have hj1 : (j : Int) < (N : Int) := by omega
      have htk : l.take (j + 1) = l.take j ++ [e] := by rw [List.take_add_one, he]; rfl
      have hse := HS.out e (List.mem_of_getElem? he)
      have hsi : (e.s.size : Int) ≤ 9223372036854775807 := by omega
      cases hlb : longP e.s
      · have HA2 : Hid ((l.take (j + 1)).all (fun e => !longP e.s) = true) := Lib.hid (by rw [htk, List.all_append, HA.out]; simp [hlb])
        have hle : ¬ 300 < (e.s.size : Int) := by simpa [longP] using hlb
        clear HA htk he hlb hse hA
        go_wp2_with fail
        go_roundw
        case rel => exact ⟨j + 1, by go_num, hx, by omega, HA2⟩
        case measure => simp [intOf]; omega
      · have hf : fewL l most = false := by
          have : l.all (fun e => !longP e.s) = false := by
            rw [List.all_eq_false]
            exact ⟨_, List.mem_of_getElem? he, by simp [hlb]⟩
          simp [fewL, this]
        obtain rfl : false = R := by rw [← HR.out, hf]
        have hle : 300 < (e.s.size : Int) := by simpa [longP] using hlb
        clear htk he hf HR hlb hse hA
        go_wp2_with fail
        go_ret
        exact ⟨rfl, hx⟩
    · obtain rfl : j = N := by omega
      have hA := HA.out
      rw [List.take_of_length_le (by omega)] at hA
      have hf : decide ((j : Int) ≤ most) = R := by rw [← HR.out]; simp [fewL, hA, hN]
      clear HA hA HR hE
      go_wp2
      go_ret
      exact ⟨by rw [← hf]; rfl, hx⟩
theorem fewL_small {l : List La} {most : Int} (h : fewL l most = true) : (l.length : Int) ≤ most ∧ ∀ e, e ∈ l → e.s.size ≤ 300 := by
  unfold fewL at h
  simp only [Bool.and_eq_true, decide_eq_true_eq, List.all_eq_true] at h
  refine ⟨h.2, fun e he => ?_⟩
  have := h.1 e he
  simp [longP] at this
  omega

def hi16 : ByteArray := ⟨#[104, 105]⟩
def ho16 : ByteArray := ⟨#[104, 111]⟩
def wA0 : Lrn := newA 3 1
def wA3 : Lrn := ⟨4, 0, 1, ⟨#[104, 105]⟩, true, 3, 1⟩
def wL1 : HMap := heL wA0 [] 0 0 1 4 0 1 ⟨#[104, 105]⟩
def wL2 : HMap := heL wA0 wL1 0 0 1 4 0 1 ⟨#[104, 105]⟩
def wL3 : HMap := heL wA0 wL2 2 0 1 4 0 1 ⟨#[104, 105]⟩
def wM1 : HMap := heL wA0 [] 0 1 0 4 0 1 ⟨#[104, 105]⟩
def wM2 : HMap := heL wA0 wM1 1 2 0 4 0 1 ⟨#[104, 105]⟩
theorem goodA0 : GoodL wA0 [] := ⟨by kernel_rfl, fun x h => by cases h⟩
theorem good1 : GoodL wA0 wL1 := by
  have h := goodA0.hear 0 0 1 4 0 1 ⟨#[104, 105]⟩
  rw [show heA wA0 [] 0 0 1 4 0 1 ⟨#[104, 105]⟩ = wA0 by kernel_rfl] at h
  exact h
theorem good2 : GoodL wA0 wL2 := by
  have h := good1.hear 0 0 1 4 0 1 ⟨#[104, 105]⟩
  rw [show heA wA0 wL1 0 0 1 4 0 1 ⟨#[104, 105]⟩ = wA0 by kernel_rfl] at h
  exact h
theorem good3 : GoodL wA3 wL3 := by
  have h := good2.hear 2 0 1 4 0 1 ⟨#[104, 105]⟩
  rw [show heA wA0 wL2 2 0 1 4 0 1 ⟨#[104, 105]⟩ = wA3 by kernel_rfl] at h
  exact h
theorem goodM1 : GoodL wA0 wM1 := by
  have h := goodA0.hear 0 1 0 4 0 1 ⟨#[104, 105]⟩
  rw [show heA wA0 [] 0 1 0 4 0 1 ⟨#[104, 105]⟩ = wA0 by kernel_rfl] at h
  exact h
theorem goodM2 : GoodL wA0 wM2 := by
  have h := goodM1.hear 1 2 0 4 0 1 ⟨#[104, 105]⟩
  rw [show heA wA0 wM1 1 2 0 4 0 1 ⟨#[104, 105]⟩ = wA0 by kernel_rfl] at h
  exact h
theorem wh0 (g b : Nat) (w : World) (h : LW w g b wA0 []) (hT : Tabs w) : Calls Tryz.prog 15 #[.pointer (some ⟨g, 0, none⟩), .int .i64 0, .agg #[.int .i64 0, .int .i64 1], .agg #[.int .i64 4, .int .i64 0, .int .i64 1, .string ⟨#[104, 105]⟩]] w fun e w' => (e = .returned (.tuple #[.bool false, .int .i64 0]) ∧ LW w' g b wA0 wL1) ∧ Kx [g, b] w w' := by
  have h := hear_any g b wA0 [] 0 0 1 4 0 1 ⟨#[104, 105]⟩ w h goodA0 (by decide) hT (of_decide_eq_true (by kernel_rfl))
  rw [show heV wA0 [] 0 0 1 4 0 1 ⟨#[104, 105]⟩ = false by kernel_rfl, show heE wA0 [] 0 0 1 4 0 1 ⟨#[104, 105]⟩ = 0 by kernel_rfl, show heA wA0 [] 0 0 1 4 0 1 ⟨#[104, 105]⟩ = wA0 by kernel_rfl] at h
  exact h
theorem wh1 (g b : Nat) (w : World) (h : LW w g b wA0 wL1) (hT : Tabs w) : Calls Tryz.prog 15 #[.pointer (some ⟨g, 0, none⟩), .int .i64 0, .agg #[.int .i64 0, .int .i64 1], .agg #[.int .i64 4, .int .i64 0, .int .i64 1, .string ⟨#[104, 105]⟩]] w fun e w' => (e = .returned (.tuple #[.bool false, .int .i64 0]) ∧ LW w' g b wA0 wL2) ∧ Kx [g, b] w w' := by
  have h := hear_any g b wA0 wL1 0 0 1 4 0 1 ⟨#[104, 105]⟩ w h good1 (by decide) hT (of_decide_eq_true (by kernel_rfl))
  rw [show heV wA0 wL1 0 0 1 4 0 1 ⟨#[104, 105]⟩ = false by kernel_rfl, show heE wA0 wL1 0 0 1 4 0 1 ⟨#[104, 105]⟩ = 0 by kernel_rfl, show heA wA0 wL1 0 0 1 4 0 1 ⟨#[104, 105]⟩ = wA0 by kernel_rfl] at h
  exact h
theorem wh2 (g b : Nat) (w : World) (h : LW w g b wA0 wL2) (hT : Tabs w) : Calls Tryz.prog 15 #[.pointer (some ⟨g, 0, none⟩), .int .i64 2, .agg #[.int .i64 0, .int .i64 1], .agg #[.int .i64 4, .int .i64 0, .int .i64 1, .string ⟨#[104, 105]⟩]] w fun e w' => (e = .returned (.tuple #[.bool true, .int .i64 0]) ∧ LW w' g b wA3 wL3) ∧ Kx [g, b] w w' := by
  have h := hear_any g b wA0 wL2 2 0 1 4 0 1 ⟨#[104, 105]⟩ w h good2 (by decide) hT (of_decide_eq_true (by kernel_rfl))
  rw [show heV wA0 wL2 2 0 1 4 0 1 ⟨#[104, 105]⟩ = true by kernel_rfl, show heE wA0 wL2 2 0 1 4 0 1 ⟨#[104, 105]⟩ = 0 by kernel_rfl, show heA wA0 wL2 2 0 1 4 0 1 ⟨#[104, 105]⟩ = wA3 by kernel_rfl] at h
  exact h
theorem wh3 (g b : Nat) (w : World) (h : LW w g b wA3 wL3) (hT : Tabs w) : Calls Tryz.prog 15 #[.pointer (some ⟨g, 0, none⟩), .int .i64 1, .agg #[.int .i64 0, .int .i64 1], .agg #[.int .i64 4, .int .i64 0, .int .i64 1, .string ⟨#[104, 111]⟩]] w fun e w' => (e = .returned (.tuple #[.bool false, .int .i64 260]) ∧ LW w' g b wA3 (heL wA3 wL3 1 0 1 4 0 1 ⟨#[104, 111]⟩)) ∧ Kx [g, b] w w' := by
  have h := hear_any g b wA3 wL3 1 0 1 4 0 1 ⟨#[104, 111]⟩ w h good3 (by decide) hT (of_decide_eq_true (by kernel_rfl))
  rw [show heV wA3 wL3 1 0 1 4 0 1 ⟨#[104, 111]⟩ = false by kernel_rfl, show heE wA3 wL3 1 0 1 4 0 1 ⟨#[104, 111]⟩ = 260 by kernel_rfl, show heA wA3 wL3 1 0 1 4 0 1 ⟨#[104, 111]⟩ = wA3 by kernel_rfl] at h
  exact h
theorem wh4 (g b : Nat) (w : World) (h : LW w g b wA0 []) (hT : Tabs w) : Calls Tryz.prog 15 #[.pointer (some ⟨g, 0, none⟩), .int .i64 0, .agg #[.int .i64 1, .int .i64 0], .agg #[.int .i64 4, .int .i64 0, .int .i64 1, .string ⟨#[104, 105]⟩]] w fun e w' => (e = .returned (.tuple #[.bool false, .int .i64 0]) ∧ LW w' g b wA0 wM1) ∧ Kx [g, b] w w' := by
  have h := hear_any g b wA0 [] 0 1 0 4 0 1 ⟨#[104, 105]⟩ w h goodA0 (by decide) hT (of_decide_eq_true (by kernel_rfl))
  rw [show heV wA0 [] 0 1 0 4 0 1 ⟨#[104, 105]⟩ = false by kernel_rfl, show heE wA0 [] 0 1 0 4 0 1 ⟨#[104, 105]⟩ = 0 by kernel_rfl, show heA wA0 [] 0 1 0 4 0 1 ⟨#[104, 105]⟩ = wA0 by kernel_rfl] at h
  exact h
theorem wh5 (g b : Nat) (w : World) (h : LW w g b wA0 wM1) (hT : Tabs w) : Calls Tryz.prog 15 #[.pointer (some ⟨g, 0, none⟩), .int .i64 1, .agg #[.int .i64 2, .int .i64 0], .agg #[.int .i64 4, .int .i64 0, .int .i64 1, .string ⟨#[104, 105]⟩]] w fun e w' => (e = .returned (.tuple #[.bool false, .int .i64 0]) ∧ LW w' g b wA0 wM2) ∧ Kx [g, b] w w' := by
  have h := hear_any g b wA0 wM1 1 2 0 4 0 1 ⟨#[104, 105]⟩ w h goodM1 (by decide) hT (of_decide_eq_true (by kernel_rfl))
  rw [show heV wA0 wM1 1 2 0 4 0 1 ⟨#[104, 105]⟩ = false by kernel_rfl, show heE wA0 wM1 1 2 0 4 0 1 ⟨#[104, 105]⟩ = 0 by kernel_rfl, show heA wA0 wM1 1 2 0 4 0 1 ⟨#[104, 105]⟩ = wA0 by kernel_rfl] at h
  exact h
theorem wtold (g b : Nat) (w : World) (h : LW w g b wA3 wL3) (hT : Tabs w) : Calls Tryz.prog 16 #[.pointer (some ⟨g, 0, none⟩), .agg #[.int .i64 1, .int .i64 0, .int .i64 0, .string ⟨#[]⟩]] w fun e w' => (e = .returned (.tuple #[.bool false, .int .i64 260]) ∧ LW w' g b wA3 wL3) ∧ Kx [g] w w' := by
  have h := told_any g b wA3 wL3 1 0 0 ⟨#[]⟩ w h good3 (by decide) hT
  rw [show teV wA3 1 0 0 ⟨#[]⟩ = false by kernel_rfl, show teE wA3 1 0 0 ⟨#[]⟩ = 260 by kernel_rfl, show teA wA3 1 0 0 ⟨#[]⟩ = wA3 by kernel_rfl] at h
  exact h
theorem wskip0 (g b : Nat) (w : World) (h : LW w g b wA3 wL3) (hT : Tabs w) : Calls Tryz.prog 17 #[.pointer (some ⟨g, 0, none⟩)] w fun e w' => (e = .returned (.tuple #[.bool false, .int .i64 260]) ∧ LW w' g b (teA wA3 1 0 0 ⟨#[]⟩) wL3) ∧ Kx [g] w w' := by
  have h := skipped_any g b wA3 wL3 w h good3 hT
  rw [show teV wA3 1 0 0 ⟨#[]⟩ = false by kernel_rfl, show teE wA3 1 0 0 ⟨#[]⟩ = 260 by kernel_rfl] at h
  exact h
theorem wskip1 (g b : Nat) (w : World) (h : LW w g b wA0 wM2) (hT : Tabs w) : Calls Tryz.prog 17 #[.pointer (some ⟨g, 0, none⟩)] w fun e w' => (e = .returned (.tuple #[.bool true, .int .i64 0]) ∧ LW w' g b (teA wA0 1 0 0 ⟨#[]⟩) wM2) ∧ Kx [g] w w' := by
  have h := skipped_any g b wA0 wM2 w h goodM2 hT
  rw [show teV wA0 1 0 0 ⟨#[]⟩ = true by kernel_rfl, show teE wA0 1 0 0 ⟨#[]⟩ = 0 by kernel_rfl] at h
  exact h
theorem wchos (g b : Nat) (w : World) (h : LW w g b wA3 wL3) : Calls Tryz.prog 18 #[.pointer (some ⟨g, 0, none⟩)] w fun e w' => e = .returned (.tuple #[.agg #[.int .i64 4, .int .i64 0, .int .i64 1, .string ⟨#[104, 105]⟩], .bool true]) ∧ Below w.heap.size w w' :=
  chosen_at g b wA3 wL3 w h (by decide)
theorem wnew (w : World) : Calls Tryz.prog 9 #[.int .i64 3, .int .i64 1] w fun e w' => (∃ g b, e = .returned (.tuple #[.pointer (some ⟨g, 0, none⟩), .int .i64 0]) ∧ LW w' g b wA0 [] ∧ w.heap.size ≤ g ∧ w.heap.size ≤ b) ∧ Below w.heap.size w w' := new16_ok 3 1 w (by kernel_rfl)
end Go.Proofs.YthhpblchiodahaaGreatDoor
