
/- TextPoint: each sign alone, and within a text. -/
import Derived.Test.YtehjglaofhgjfaaDoorTzD
import Derived.Deep.CutBlock
import Derived.Deep.CutRange
namespace Go.Proofs.YtehjglaofhgjfaaDoor
set_option linter.unusedSimpArgs false
set_option linter.unusedVariables false
open Go.RowKit
attribute [local go_sem] Oper.semAt_some
theorem signs_bd (s : ByteArray) : ∀ (k i n : Nat) (x : Sg), (signsFrom s k i)[n]? = some x → x.1 ≤ s.size ∧ x.2.2.1 ≤ 2000000
  | 0, i, n, x, h => by simp [signsFrom] at h
  | k + 1, i, n, x, h => by
    unfold signsFrom at h
    split at h
    · rename_i hi
      cases n with
      | zero =>
        simp at h; subst h
        refine ⟨by simp only; omega, ?_⟩
        have := dec_bd s i hi
        simp only
        omega
      | succ n => rw [List.getElem?_cons_succ] at h; exact signs_bd s k _ n x h
    · simp at h
/-- The signs' cells, in a block below B. -/
def SgC (B : Nat) (W : World) (ao : Option Addr) (l : List Sg) : Prop :=
  ∀ (j : Nat) (x : Sg), l[j]? = some x → ∃ g, ao = some ⟨g, 0, none⟩ ∧ g < B ∧ W.cell? ⟨g, j * 4, none⟩ = some (.int .i64 x.1) ∧ W.cell? ⟨g, j * 4 + 2, none⟩ = some (.int .i64 x.2.2.1)
theorem cell_kx {ws : List Nat} {W W' : World} (h : Kx ws W W') {p : Addr} {v : Value} (hv : W.cell? p = some v) (hw : p.block ∉ ws) : W'.cell? p = some v :=
  (World.cell?_of_block (h.block p.block (World.block_lt_of_cell? W p hv) hw)).trans hv
theorem SgC.kx {ws : List Nat} {B : Nat} {W W' : World} {ao : Option Addr} {l : List Sg} (h : SgC B W ao l) (hk : Kx ws W W') (hw : ∀ g, g ∈ ws → B ≤ g) : SgC B W' ao l := fun j x hx => by
  obtain ⟨g, h1, h2, h3, h4⟩ := h j x hx
  have hg : g ∉ ws := fun e => by have := hw g e; omega
  exact ⟨g, h1, h2, cell_kx hk h3 hg, cell_kx hk h4 hg⟩
theorem SgC.step {B : Nat} {W W' : World} {ao : Option Addr} {l : List Sg} (h : SgC B W ao l) (hb : Below W.heap.size W W') : SgC B W' ao l := h.kx ((Kx.refl [] W).step hb) (fun _ e => by cases e)
theorem keeps_set {B : Nat} {W : World} {g : Nat} (hg : g < B) (v : Value) : KeepsFrom B W (W.setCell ⟨g, 0, none⟩ v) :=
  ⟨by rw [World.size_setCell]; exact Nat.le_refl _, fun i o hB hi _ => (Below.heap_setCell W ⟨g, 0, none⟩ v i (by simp; omega)).trans hi⟩
/-- The counter's state in a range: only it has changed since w0. -/
def CntI (w0 : World) (gI : Nat) (f : Nat → Int) (k : Nat) (W : World) : Prop := Kx [gI] w0 W ∧ Blk W gI 3 [.int .i64 (f k)]
theorem CntI.ownFrom {w0 : World} {gI : Nat} {f : Nat → Int} (hg : gI < w0.heap.size) : OwnFrom w0.heap.size (CntI w0 gI f) := by
  rintro k W W' row ⟨hK, hI⟩ hgr hr
  exact ⟨hK.grown hgr (fun j e => .inr (hr j e).1), (hgr.block gI hI.lt (fun e => by have := (hr gI e.symm).1; omega)).trans hI⟩
theorem CntI.next {w0 : World} {gI : Nat} {f : Nat → Int} {k : Nat} {W : World} (h : CntI w0 gI f k W) (v : Int) (hv : v = f (k + 1)) : CntI w0 gI f (k + 1) (W.setCell ⟨gI, 0, none⟩ (.int .i64 v)) :=
  ⟨h.1.setCell (.inl (by simp)) _, hv ▸ h.2.set 0 _⟩
def bytesOf (vs : List Int) : BL := vs.map fun v => UInt8.ofNat v.toNat
theorem byR_new (W : World) (vs : List Int) (h : ∀ v ∈ vs, 0 ≤ v ∧ v < 256) : ByR (W.alloc (.cells (vs.map fun v => Value.int .u8 v).toArray 5)) W.heap.size (bytesOf vs) := by
  refine ⟨[], (0, 0), ?_, .inr rfl⟩
  rw [World.alloc_heap_new]
  have e : (bytesOf vs).map encB = vs.map fun v => Value.int .u8 v := by
    unfold bytesOf
    rw [List.map_map]
    apply List.map_congr_left
    intro v hv
    have := h v hv
    show encB (UInt8.ofNat v.toNat) = _
    unfold encB
    rw [UInt8.toNat_ofNat']
    congr 1
    omega
  rw [e, List.append_nil]
theorem extA_then {W W' W'' : World} (h : ExtA W W') (hb : Below W'.heap.size W' W'') : ExtA W W'' := Below.trans h (hb.mono h.size)
set_option maxRecDepth 100000 in
set_option maxHeartbeats 4000000 in
theorem TextPoint_walk (n size : Int) (w : World) (hT : Tabs w) (hM : MaxL w) (hn : -9223372036854775808 ≤ n ∧ n ≤ 9223372036854775807) (hz : -9223372036854775808 ≤ size ∧ size ≤ 9223372036854775807) :
    Calls Tryd.prog 10 #[.int .i64 n, .int .i64 size] w fun e w' => e = .returned (.bool true) ∧ Below w.heap.size w w' := by
  refine callsIn_wide (n := 3).1 ?_
  have hb := From.refl w
  refine callsIn_of_wp_marks Tryd.func10 rfl trivial ?_ rfl
  simp only [Tryd.ntmps10, List.size_toArray, List.length_cons, List.length_nil, Nat.reduceAdd, Nat.reduceSub, Array.replicate_succ, Array.replicate_zero, List.push_toArray, List.append_toArray, List.nil_append, List.cons_append]
  refine (wpIn_wide (n := 3)).2 ?_
  go_upto_region 1 with fail
  obtain ⟨gR, hgR⟩ : ∃ g, (w).heap.size = g := ⟨_, rfl⟩
  have R := Blk.newV hgR 4 #[.bool false]
  have hbn := (Below.refl (w).heap.size w).alloc (Nat.le_refl _) (.cells #[.bool false] 4)
  replace hb := hb.step hbn
  clear hbn
  rw [hgR]
  generalize (w).alloc (.cells #[.bool false] 4) = w1 at *
  by_cases hin : n < 0 ∨ 2097151 < n ∨ size < 1 ∨ 4 < size
  · by_cases a1 : n < 0
    · clear hin
      go_wp2_with fail
      refine (works3_any _ (hT.step hb) (hM.step hb)).mono ?_
      rintro e w2 ⟨rfl, hbn⟩
      replace hb := hb.step hbn
      replace R := R.step hbn
      clear hbn
      have fR := R.frozen 0
      have cR := R.cell (j := 0) rfl
      go_wp2_with fail
      have R9 := R.set 0 (.bool true)
      have c9 : (w2.setCell ⟨gR, 0, none⟩ (.bool true)).cell? ⟨gR, 0, none⟩ = some (.bool true) := R9.cell (j := 0) rfl
      have hb9 : Below gR w (w2.setCell ⟨gR, 0, none⟩ (.bool true)) := Below.setCell (hgR ▸ hb.out) (p := ⟨gR, 0, none⟩) (Nat.le_refl _) _
      clear R9 R cR fR hb
      generalize w2.setCell ⟨gR, 0, none⟩ (.bool true) = W9 at *
      refine leaves_nil (v := .bool true) rfl ?_ ⟨rfl, by first | exact hb9 | (rw [hgR]; exact hb9)⟩
      simp [results, Tryd.results10, go_sem, c9]
    · by_cases a2 : 2097151 < n
      · clear hin
        go_wp2_with fail
        refine (works3_any _ (hT.step hb) (hM.step hb)).mono ?_
        rintro e w2 ⟨rfl, hbn⟩
        replace hb := hb.step hbn
        replace R := R.step hbn
        clear hbn
        have fR := R.frozen 0
        have cR := R.cell (j := 0) rfl
        go_wp2_with fail
        have R9 := R.set 0 (.bool true)
        have c9 : (w2.setCell ⟨gR, 0, none⟩ (.bool true)).cell? ⟨gR, 0, none⟩ = some (.bool true) := R9.cell (j := 0) rfl
        have hb9 : Below gR w (w2.setCell ⟨gR, 0, none⟩ (.bool true)) := Below.setCell (hgR ▸ hb.out) (p := ⟨gR, 0, none⟩) (Nat.le_refl _) _
        clear R9 R cR fR hb
        generalize w2.setCell ⟨gR, 0, none⟩ (.bool true) = W9 at *
        refine leaves_nil (v := .bool true) rfl ?_ ⟨rfl, by first | exact hb9 | (rw [hgR]; exact hb9)⟩
        simp [results, Tryd.results10, go_sem, c9]
      · by_cases a3 : size < 1
        · clear hin
          go_wp2_with fail
          refine (works3_any _ (hT.step hb) (hM.step hb)).mono ?_
          rintro e w2 ⟨rfl, hbn⟩
          replace hb := hb.step hbn
          replace R := R.step hbn
          clear hbn
          have fR := R.frozen 0
          have cR := R.cell (j := 0) rfl
          go_wp2_with fail
          have R9 := R.set 0 (.bool true)
          have c9 : (w2.setCell ⟨gR, 0, none⟩ (.bool true)).cell? ⟨gR, 0, none⟩ = some (.bool true) := R9.cell (j := 0) rfl
          have hb9 : Below gR w (w2.setCell ⟨gR, 0, none⟩ (.bool true)) := Below.setCell (hgR ▸ hb.out) (p := ⟨gR, 0, none⟩) (Nat.le_refl _) _
          clear R9 R cR fR hb
          generalize w2.setCell ⟨gR, 0, none⟩ (.bool true) = W9 at *
          refine leaves_nil (v := .bool true) rfl ?_ ⟨rfl, by first | exact hb9 | (rw [hgR]; exact hb9)⟩
          simp [results, Tryd.results10, go_sem, c9]
        · have a4 : 4 < size := by omega
          clear hin
          go_wp2_with fail
          refine (works3_any _ (hT.step hb) (hM.step hb)).mono ?_
          rintro e w2 ⟨rfl, hbn⟩
          replace hb := hb.step hbn
          replace R := R.step hbn
          clear hbn
          have fR := R.frozen 0
          have cR := R.cell (j := 0) rfl
          go_wp2_with fail
          have R9 := R.set 0 (.bool true)
          have c9 : (w2.setCell ⟨gR, 0, none⟩ (.bool true)).cell? ⟨gR, 0, none⟩ = some (.bool true) := R9.cell (j := 0) rfl
          have hb9 : Below gR w (w2.setCell ⟨gR, 0, none⟩ (.bool true)) := Below.setCell (hgR ▸ hb.out) (p := ⟨gR, 0, none⟩) (Nat.le_refl _) _
          clear R9 R cR fR hb
          generalize w2.setCell ⟨gR, 0, none⟩ (.bool true) = W9 at *
          refine leaves_nil (v := .bool true) rfl ?_ ⟨rfl, by first | exact hb9 | (rw [hgR]; exact hb9)⟩
          simp [results, Tryd.results10, go_sem, c9]
  · have g1 : ¬ n < 0 := by omega
    have g2 : ¬ 2097151 < n := by omega
    have g3 : ¬ size < 1 := by omega
    have g4 : ¬ 4 < size := by omega
    go_upto_block 0 with fail
    have hB := byR_new w1 [n % 128] (by simp; omega)
    have hbn := (Below.refl w1.heap.size w1).alloc (Nat.le_refl _) (.cells #[.int .u8 (n % 128)] 5)
    replace hB : ByR (w1.alloc (.cells #[.int .u8 (n % 128)] 5)) w1.heap.size (bytesOf [n % 128]) := hB
    replace hb := hb.step hbn
    replace R := R.step hbn
    clear hbn
    obtain ⟨g0, hg0⟩ : ∃ g, w1.heap.size = g := ⟨_, rfl⟩
    rw [hg0] at hB ⊢
    clear hg0
    generalize w1.alloc (.cells #[.int .u8 (n % 128)] 5) = w2 at *
    go_cut [5] from 11 (fun v wx => ∃ (g : Nat) (l : BL), v = .slice (some ⟨g, 0, none⟩) l.length l.length ∧ l.length ≤ 4 ∧ ByR wx g l ∧ From w wx ∧ Blk wx gR 4 [.bool false])
    case first =>
      clear hin
      rcases (show size = 1 ∨ size = 2 ∨ size = 3 ∨ size = 4 by omega) with rfl | rfl | rfl | rfl
      · go_wp2_with fail
        go_meet
        case rel => exact ⟨g0, bytesOf [n % 128], rfl, by simp [bytesOf], hB, hb, R⟩
      · go_wp2_with fail
        go_meet
        case rel =>
          have hBn := byR_new w2 [192 + n / 64 % 32, 128 + n % 64] (by simp; omega)
          have hbn := (Below.refl w2.heap.size w2).alloc (Nat.le_refl _) (.cells #[.int .u8 (192 + n / 64 % 32), .int .u8 (128 + n % 64)] 5)
          exact ⟨_, bytesOf [192 + n / 64 % 32, 128 + n % 64], rfl, by simp [bytesOf], hBn, hb.step hbn, R.step hbn⟩
      · go_wp2_with fail
        go_meet
        case rel =>
          have hBn := byR_new w2 [224 + n / 4096 % 16, 128 + n / 64 % 64, 128 + n % 64] (by simp; omega)
          have hbn := (Below.refl w2.heap.size w2).alloc (Nat.le_refl _) (.cells #[.int .u8 (224 + n / 4096 % 16), .int .u8 (128 + n / 64 % 64), .int .u8 (128 + n % 64)] 5)
          exact ⟨_, bytesOf [224 + n / 4096 % 16, 128 + n / 64 % 64, 128 + n % 64], rfl, by simp [bytesOf], hBn, hb.step hbn, R.step hbn⟩
      · go_wp2_with fail
        go_meet
        case rel =>
          have hBn := byR_new w2 [240 + n / 262144 % 8, 128 + n / 4096 % 64, 128 + n / 64 % 64, 128 + n % 64] (by simp; omega)
          have hbn := (Below.refl w2.heap.size w2).alloc (Nat.le_refl _) (.cells #[.int .u8 (240 + n / 262144 % 8), .int .u8 (128 + n / 4096 % 64), .int .u8 (128 + n / 64 % 64), .int .u8 (128 + n % 64)] 5)
          exact ⟨_, bytesOf [240 + n / 262144 % 8, 128 + n / 4096 % 64, 128 + n / 64 % 64, 128 + n % 64], rfl, by simp [bytesOf], hBn, hb.step hbn, R.step hbn⟩
    case rest =>
      obtain ⟨gB, l, rfl, hl4, hBl, hbc, Rc⟩ := hcut
      clear hin hz hn g1 g2 g3 g4 hB R hb
      have hTc : Tabs wc := hT.step hbc
      have hMc : MaxL wc := hM.step hbc
      have hT0 := Lib.hid hT
      have hM0 := Lib.hid hM
      have hcv := hBl.back l.length
      have hzl : (mkS l).size = l.length := mkS_size l
      obtain ⟨S, hS⟩ : ∃ S, ⟨#[97]⟩ ++ mkS l ++ ⟨#[122]⟩ = S := ⟨_, rfl⟩
      have hSz : S.size ≤ 6 := by
        rw [← hS, ByteArray.size_append, ByteArray.size_append, hzl]
        show 1 + l.length + 1 ≤ 6
        omega
      have hl5 : (l.length : Int) ≤ 4 := by omega
      go_upto_region 12 with fail
      clear hcv hS hzl hl5
      go_wp2_with fail
      refine (signs_any S (by omega) _).mono ?_
      rintro e w3 ⟨v, rfl, hown, hbn⟩
      replace hbc := hbc.step hbn
      replace Rc := Rc.step hbn
      replace hBl := hBl.step hbn
      obtain ⟨ao, cap, rfl, hcs⟩ := signs_own0 hown
      clear hbn hown
      have hLs := signsL_len S
      obtain ⟨L, hL⟩ : ∃ L, (signsL S).length = L := ⟨_, rfl⟩
      rw [hL]
      go_upto_region 13 with fail
      obtain ⟨gW, hgW⟩ : ∃ g, w3.heap.size = g := ⟨_, rfl⟩
      have Wb := Blk.newV hgW 43 #[.slice ao L cap]
      have hbn := (Below.refl w3.heap.size w3).alloc (Nat.le_refl _) (.cells #[.slice ao L cap] 43)
      rw [hgW] at hbn ⊢
      have hSg : SgC gW w3 ao (signsL S) := fun j x hx => by
        obtain ⟨g, h1, h2, h3⟩ := hcs j x hx
        exact ⟨g, h1, hgW ▸ World.block_lt_of_cell? w3 _ h2, h2, h3⟩
      have hRW : gR < gW := hgW ▸ Rc.lt
      have hBW : gB < gW := hgW ▸ hBl.lt
      have hbd : ∀ (n : Nat) (x : Sg), (signsL S)[n]? = some x → x.1 ≤ S.size ∧ x.2.2.1 ≤ 2000000 := fun n x h => signs_bd S S.size 0 n x h
      have hLL : L ≤ 6 := by rw [← hL, hLs]; have := lenB_le S.data.toList; rw [← Lib.size_eq] at this; omega
      clear hcs hLs
      replace hbn : Below w3.heap.size w3 (w3.alloc (.cells #[.slice ao L cap] 43)) := hgW ▸ hbn
      replace hbc := hbc.step hbn
      replace Rc := Rc.step hbn
      replace hBl := hBl.step hbn
      replace hSg := hSg.step hbn
      clear hbn
      generalize w3.alloc (.cells #[.slice ao L cap] 43) = w4 at *
      clear hgW
      go_upto_region 14 with fail
      obtain ⟨gI, hgI⟩ : ∃ g, w4.heap.size = g := ⟨_, rfl⟩
      have Ib := Blk.newV hgI 3 #[.int .i64 0]
      have hbn := (Below.refl w4.heap.size w4).alloc (Nat.le_refl _) (.cells #[.int .i64 0] 3)
      rw [hgI]
      have hWI : gW < gI := hgI ▸ Wb.lt
      replace hbc := hbc.step hbn
      replace Rc := Rc.step hbn
      replace hBl := hBl.step hbn
      replace hSg := hSg.step hbn
      replace Wb := Wb.step hbn
      clear hbn
      generalize w4.alloc (.cells #[.int .i64 0] 3) = w5 at *
      clear hgI
      have heq : ∀ (f : Fn) (a c : Array Value) (W : World), (binOp .eql 46 (.func f a c) .nilFunc).run Tryd.prog W = .ok (.bool false) W := fun _ _ _ _ => rfl
      go_wp2_with fail
      refine (each_any S _).mono ?_
      rintro e w6 ⟨rfl, -, hbn⟩
      replace hbc := hbc.step hbn
      replace Rc := Rc.step hbn
      replace hBl := hBl.step hbn
      replace hSg := hSg.step hbn
      replace Wb := Wb.step hbn
      replace Ib := Ib.step hbn
      clear hbn
      have hI6 := Ib.lt
      go_wp2_with fail
      refine (each_any S _).mono ?_
      rintro e w7 ⟨rfl, hBx, hbn⟩
      replace hbc := hbc.step hbn
      replace Rc := Rc.step hbn
      replace hBl := hBl.step hbn
      replace hSg := hSg.step hbn
      replace Wb := Wb.step hbn
      replace Ib := Ib.step hbn
      clear hbn
      obtain ⟨b, hbE⟩ : ∃ b, w6.heap.size = b := ⟨_, rfl⟩
      have hIb : gI < b := by rw [← hbE]; exact hI6
      rw [hbE] at hBx ⊢
      have HSQ := each_xs b w7.heap.size S w7 (by omega) (Nat.le_refl _) hBx
      go_wp2_with fail
      have hbW : b < w7.heap.size := hBx.lt
      have hI0 : CntI w7 gI (fun k => (k : Int)) 0 w7 := ⟨Kx.refl _ _, Ib⟩
      have hgIw : gI < w7.heap.size := Ib.lt
      generalize hxs : signsL S = xs at *
      refine (wpIn_wide (n := 3)).1 ?_
      apply wpIn_range_xsI 53 #[.pointer (some ⟨b, 0, none⟩)] rfl (enters_of Tryd.func53 (by kernel_rfl) rfl) (fun k => k = b) HSQ (fun k hk => by omega) (fun _ => rfl)
        (CntI w7 gI (fun k => (k : Int)))
        (fun c k W => False)
        (CntI.ownFrom hgIw)
        (fun c => ownFrom_pure _ _)
        hI0
      case hassign =>
        intro l x W K hK
        dsimp only [sgEnc]
        gi_wp2
        exact hK
      case hbody =>
        rintro ll k x W hx hC hsW
        have hk : k < L := by rw [← hL]; exact (List.getElem?_eq_some_iff.1 hx).1
        obtain ⟨b1, b2⟩ := hbd k x hx
        obtain ⟨g, rfl, hg1, c0, c2⟩ := (hSg.kx hC.1 (fun g hg => by simp at hg; omega)) k x hx
        have cI := hC.2.cell (j := 0) rfl
        have fI := hC.2.frozen 0
        have cW := (hC.1.blk Wb (by simp; omega)).cell (j := 0) rfl
        have k0 : (0 : Int) ≤ (k : Int) := by omega
        have k1 : (k : Int) < (L : Int) := by omega
        have k2 : (k : Int) < 1000 := by omega
        have e0 : ((x.1 : Int) != (x.1 : Int)) = false := by simp
        have e2 : ((x.2.2.1 : Int) != (x.2.2.1 : Int)) = false := by simp
        have r0 : (0 : Int) ≤ (x.2.2.1 : Int) := by omega
        have r1 : (x.2.2.1 : Int) ≤ 2000000 := by omega
        have hN := hC.next ((k : Int) + 1) (by simp)
        have hkf := keeps_set (B := w7.heap.size) (W := W) (g := gI) hgIw (.int .i64 ((k : Int) + 1))
        have hkb : Kb (fun k => k = b) W (W.setCell ⟨gI, 0, none⟩ (.int .i64 ((k : Int) + 1))) := fun j hj => Below.heap_setCell W ⟨gI, 0, none⟩ _ j (by simp; omega)
        clear HSQ hI0 hC
        gi_wp2
        exact ⟨hkf, hkb, hN⟩
      case hdone =>
        rintro D W hD hC hK
        clear HSQ hI0 hT hM hTc hMc
        obtain ⟨hK7, hI7⟩ := hC
        simp only [hL] at hI7
        have hb7 : From w W := hbc.kx hK7 (fun x hx => by simp at hx; omega)
        have R7 := hK7.blk Rc (by simp; omega)
        have B7 : ByR W gB l := hBl.kx hK7 (by simp; omega)
        have W7 := hK7.blk Wb (by simp; omega)
        have cI := hI7.cell (j := 0) rfl
        have cW := W7.cell (j := 0) rfl
        have hT7 := hT0.out.step hb7
        have hM7 := hM0.out.step hb7
        have hRD : gR < D := by omega
        have hK9 := hK
        have cK : ∀ (s : ByteArray) (W' : World), s.size ≤ 6 → Tabs W' → Calls Tryd.prog 14 #[.string s] W' fun e w' => e = .returned (.int .i64 (refChk s)) ∧ Below W'.heap.size W' w' := fun s W' hs hT => chk_eq s ▸ textCheck_any s (by omega) W' hT
        have cR : ∀ (s : ByteArray) (W' : World), s.size ≤ 6 → Calls Tryd.prog 15 #[.string s] W' fun e w' => e = .returned (.int .i64 (refChk s)) ∧ Below W'.heap.size W' w' := fun s W' hs => refCheck3_any s (by omega) W'
        have hz2 : (mkS l).size ≤ 6 := by rw [mkS_size]; omega
        have cI0 := extA_cell cI
        have cW0 := extA_cell cW
        have hcvE : ∀ W', ExtA W W' → (convert 42 9 (.slice (some ⟨gB, 0, none⟩) l.length l.length)).run Tryd.prog W' = .ok (.string (mkS l)) W' := fun W' h => (B7.step h).back l.length
        clear hSg hbd hxs hK7 hI7 W7 hbc Rc hBl Wb Ib hBx cI cW hK
        go_upto_region 22 with fail
        refine wp_region_head (C := ExtA W) 25 (by kernel_rfl) (by decide) (by kernel_rfl) ⟨rfl, rfl, rfl, Nat.le_refl _, fun _ _ => rfl⟩ ?_
        simp only [List.take_succ_cons, List.take_zero]
        repeat
          (first
            | go_big_quiet_skip
            | (go_big_quiet_want
               go_big_quiet_op
               first
                 | go_big_quiet_on
                 | (apply Exists.intro
                    refine ⟨fun w' hC9 => ?_, ?_⟩
                    · (first
                        | with_reducible rfl
                        | (go_at_call 14; refine (cK _ _ (by first | exact hSz | exact hz2) (hT7.step hC9)).mono ?_; rintro e w2 ⟨rfl, hb9⟩; exact ⟨rfl, extA_then hC9 hb9⟩) | (go_at_call 15; refine (cR _ _ (by first | exact hSz | exact hz2)).mono ?_; rintro e w2 ⟨rfl, hb9⟩; exact ⟨rfl, extA_then hC9 hb9⟩) | (go_at_call 13; refine (num3_any _ _).mono ?_; rintro e w2 ⟨rfl, rfl⟩; exact ⟨rfl, hC9⟩) | (go_at_call 12; refine (works3_any _ (hT7.step hC9) (hM7.step hC9)).mono ?_; rintro e w2 ⟨rfl, hb9⟩; exact ⟨rfl, extA_then hC9 hb9⟩)
                        | (go_simp; done)
                        | (go_simp; with_reducible rfl))
                    go_big_quiet_on)))
        refine wpQuiet_nil ?_
        intro wq hq
        have R7q := R7.step hq
        have hb7q := hb7.step hq
        change wpAny _ _ _ _ (0 + 1) _ _ _
        have fR := R7q.frozen 0
        have cRR := R7q.cell (j := 0) rfl
        refine wpAny_ready (rs := [25]) (by kernel_rfl) (by simp) ?_
        refine AllReady.cons rfl (fun K hK => ?_) AllReady.nil
        go_simp
        refine hK _ _ ?_
        clear hK K
        refine wpAny_done (by kernel_rfl) ?_ _
        have hKq : wq.heap[D]? = some (.deferred (some [])) := (Below.block hq D (Array.getElem?_eq_some_iff.1 hK9).1).trans hK9
        have R9 := R7q.set 0 (.bool true)
        have hKs : (wq.setCell ⟨gR, 0, none⟩ (.bool true)).heap[D]? = some (.deferred (some [])) := (Below.heap_setCell wq ⟨gR, 0, none⟩ (.bool true) D (by simp; omega)).trans hKq
        have hb9 : Below gR w (wq.setCell ⟨gR, 0, none⟩ (.bool true)) := Below.setCell (hgR ▸ hb7q.out) (p := ⟨gR, 0, none⟩) (Nat.le_refl _) _
        clear R7q cRR fR hb7q hKq hK9
        generalize wq.setCell ⟨gR, 0, none⟩ (.bool true) = W9 at *
        have c9 := (R9.putObj hKs rfl (.deferred none)).cell (j := 0) rfl
        go_wp2_with fail
        refine leaves_col (v := .bool true) rfl hKs ?_ ⟨rfl, by first | exact below_putObj hb9 (by omega) _ | (rw [hgR]; exact below_putObj hb9 (by omega) _)⟩
        simp [results, Tryd.results10, go_sem, c9]
      case hstop =>
        rintro D c k W hD hk h
        exact h.elim
end Go.Proofs.YtehjglaofhgjfaaDoor
