
/- Package text: Unquote. -/
import Derived.Test.YtehjglaofhgjfaaDoorTyH
import Derived.Deep.QuietTactic
import Derived.BigQuiet
import Derived.Lib.BufferRead
import Derived.Test.YtehjglaofhgjfaaDoorMem
namespace Go.Proofs.YtehjglaofhgjfaaDoor
set_option linter.unusedSimpArgs false
set_option linter.unusedVariables false
open Go.RowKit
def unqV (s : ByteArray) : ByteArray := match resP s.data.toList with | some o => mkS o | none => ⟨#[]⟩
def unqE (s : ByteArray) : Int := if (resP s.data.toList).isSome then 0 else 133
/-- What is read so far, what is left. -/
def Hq (I pre rest : BL) : Prop := unqP I = (unqP rest).map (pre ++ ·)
theorem hq_cons (x : Option BL) (pre : BL) (c : UInt8) : ((x.map (c :: ·)).map (pre ++ ·)) = x.map ((pre ++ [c]) ++ ·) := by
  cases x <;> simp
theorem Hq.plain {I pre t : BL} {c : UInt8} (h : Hq I pre (c :: t)) (hc : c.toNat ≠ 92 ∨ t = []) : Hq I (pre ++ [c]) t := by
  unfold Hq at *
  rw [h, ← hq_cons]
  rcases hc with hc | rfl
  · rw [unqP_plain c t hc]
  · rfl
theorem Hq.esc {I pre t : BL} {c d : UInt8} (h : Hq I pre (c :: d :: t)) (hc : c.toNat = 92) (hd : d.toNat ≠ 120) : Hq I (pre ++ [d]) t := by
  unfold Hq at *
  rw [h, ← hq_cons, unqP_esc c d t hc hd]
theorem Hq.hex {I pre t : BL} {c d a b : UInt8} (h : Hq I pre (c :: d :: a :: b :: t)) (hc : c.toNat = 92) (hd : d.toNat = 120) (hh : 0 ≤ hexv a ∧ 0 ≤ hexv b) : Hq I (pre ++ [byteI (hexv a * 16 + hexv b)]) t := by
  unfold Hq at *
  rw [h, ← hq_cons, unqP_hex c d a b t hc hd hh]
theorem Hq.short {I pre t : BL} {c d : UInt8} (h : Hq I pre (c :: d :: t)) (hc : c.toNat = 92) (hd : d.toNat = 120) (ht : t.length < 2) : unqP I = none := by
  unfold Hq at h
  rw [h, unqP_short c d t hc hd ht]; rfl
theorem Hq.nohex {I pre t : BL} {c d a b : UInt8} (h : Hq I pre (c :: d :: a :: b :: t)) (hc : c.toNat = 92) (hd : d.toNat = 120) (hh : ¬ (0 ≤ hexv a ∧ 0 ≤ hexv b)) : unqP I = none := by
  unfold Hq at h
  rw [h, unqP_nohex c d a b t hc hd hh]; rfl
theorem Hq.done {I pre : BL} (h : Hq I pre []) : unqP I = some pre := by
  unfold Hq at h
  rw [h]; simp [unqP]
theorem inner_ext (s : ByteArray) (n : Nat) (hs : s.size = n) : s.extract 1 (n - 1) = mkS (innerL s.data.toList) := by
  rw [Lib.extract_eq]
  unfold mkS innerL
  rw [List.dropLast_eq_take, List.length_drop, ← Lib.size_eq, hs]
theorem hexv_index : ∀ m : Fin 256, Lib.indexByte [48, 49, 50, 51, 52, 53, 54, 55, 56, 57, 97, 98, 99, 100, 101, 102] (UInt8.ofNat m.1) = hexv (UInt8.ofNat m.1) := by
  set_option maxRecDepth 100000 in decide
theorem index_any (c : UInt8) (w : World) : Calls Tryd.prog 49 #[.string ⟨#[48, 49, 50, 51, 52, 53, 54, 55, 56, 57, 97, 98, 99, 100, 101, 102]⟩, .int .u8 c.toNat] w fun e w' => e = .returned (.int .i64 (hexv c)) ∧ w' = w := by
  have h := Tryd.strings_IndexByte ⟨#[48, 49, 50, 51, 52, 53, 54, 55, 56, 57, 97, 98, 99, 100, 101, 102]⟩ (c.toNat : Int) w
  have e : ((c.toNat : Int)).toNat.toUInt8 = c := by simp
  have e2 := hexv_index ⟨c.toNat, c.toNat_lt⟩
  have e3 : UInt8.ofNat c.toNat = c := by simp
  simp only [e3] at e2
  rw [e] at h
  rw [← e2]
  exact h
def OwnB (W : World) (base : Nat) (v : Value) (l : BL) : Prop := W.ownsRow base 5 1 v l.length (Lib.byteCells l)
theorem OwnB.back {W : World} {base : Nat} {v : Value} {l : BL} (h : OwnB W base v l) : (convert 42 9 v).run Tryd.prog W = .ok (.string (mkS l)) W := by
  obtain ⟨h1, h2⟩ := id h
  rcases h2 with ⟨rfl, h0⟩ | ⟨g, cap, cur, rfl, hg, hh, r1, r2, r3⟩
  · have : l = [] := List.length_eq_zero_iff.1 h0
    subst this
    exact Lib.run_convert_nil_bytes W 42 9 5 0 Tryd.underlying42 Tryd.underlying5 Tryd.underlying9
  · refine run_convert_bytes_back W 42 9 5 ⟨g, 0, none⟩ cap l Tryd.underlying42 Tryd.underlying5 Tryd.underlying9 fun j hj => ?_
    exact World.ownsRow.cells h (g := g) rfl j _ (by simp [Lib.byteCells, hj])
theorem hexv_lt (c : UInt8) : hexv c < 16 := by unfold hexv; repeat' split <;> omega
theorem or_hex_fin : ∀ x y : Fin 16, bits .or .i64 (((x.1 : Nat) : Int) * 16) ((y.1 : Nat) : Int) = ((x.1 : Nat) : Int) * 16 + ((y.1 : Nat) : Int) := by
  set_option maxRecDepth 100000 in decide
theorem or_hex (x y : Int) (h1 : 0 ≤ x) (h2 : x < 16) (h3 : 0 ≤ y) (h4 : y < 16) : bits .or .i64 (x * 16) y % 256 = ((byteI (x * 16 + y)).toNat : Int) := by
  have h := or_hex_fin ⟨x.toNat, by omega⟩ ⟨y.toNat, by omega⟩
  simp only [Int.toNat_of_nonneg h1, Int.toNat_of_nonneg h3] at h
  rw [h, byteI]
  simp
  omega
def strSz : Value → Nat
  | .string s => s.size
  | _ => 0
theorem OwnB.step {W W' : World} {base : Nat} {v : Value} {l : BL} (h : OwnB W base v l) (hb : Below W.heap.size W W') : OwnB W' base v l := own_step h hb
structure UW (w : World) (gX gY gZ : Nat) (W : World) : Prop where
  hb : From w W
  X : Blk W gX 9 [.string ⟨#[]⟩]
  Y : Blk W gY 24 [.int .i64 0]
  le : gZ ≤ W.heap.size
theorem UW.step {w : World} {gX gY gZ : Nat} {W W' : World} (h : UW w gX gY gZ W) (hb : Below W.heap.size W W') : UW w gX gY gZ W' :=
  ⟨h.hb.step hb, h.X.step hb, h.Y.step hb, Nat.le_trans h.le hb.size⟩
theorem Blk.grown {W W' : World} {g : Nat} {t : TypeId} {cs : List Value} {row : Option Nat} (h : Blk W g t cs) (hg : W.grownBy W' row) (hr : ∀ r, row = some r → r ≠ g) : Blk W' g t cs :=
  (hg.block g h.lt (fun e => hr g e.symm rfl)).trans h
theorem UW.grown {w : World} {gX gY gZ : Nat} {W W' : World} {row : Option Nat} (h : UW w gX gY gZ W) (hg : W.grownBy W' row) (hr : ∀ r, row = some r → gZ ≤ r) (h1 : gX < gZ) (h2 : gY < gZ) (h3 : w.heap.size ≤ gX) : UW w gX gY gZ W' :=
  ⟨Below.grown h.hb.out hg (by have := h.le; omega) (fun k e => by have := hr k e; omega), h.X.grown hg (fun r e => by have := hr r e; omega), h.Y.grown hg (fun r e => by have := hr r e; omega), Nat.le_trans h.le hg.size⟩
theorem bl_byte2 : ∃ i, Tryd.prog.info? 5 = some i ∧ i.zero = some (.int .u8 0) ∧ i.size = 1 ∧ i.bytes = 1 := info_parts bl_byte
set_option maxRecDepth 100000 in
set_option maxHeartbeats 4000000 in
theorem unquote_any (s : ByteArray) (n : Nat) (hs0 : s.size = n) (hs : n ≤ 1000000) (w : World) : Calls Tryd.prog 22 #[.string s] w fun e w' => e = .returned (.tuple #[.string (unqV s), .int .i64 (unqE s)]) ∧ Below w.heap.size w w' := by
  have hmf : ∀ (fn : Fn) (first cap : Array Value) (w : World), (Instr.makeFunc fn first cap).run Tryd.prog w = .ok (.func fn first cap) w := fun _ _ _ _ => rfl
  by_cases h2 : n < 2
  · have h2' : decide ((2 : Int) ≤ (n : Int)) = false := by rw [decide_eq_false_iff_not]; omega
    have hb := From.refl w
    go_enter_defers Tryd.func22, Tryd.ntmps22
    go_upto_region 2 with fail
    obtain ⟨gX, hgX⟩ : ∃ g, (w).heap.size = g := ⟨_, rfl⟩
    have X := Blk.newV hgX 9 #[.string ⟨#[]⟩]
    have hbn := (Below.refl (w).heap.size w).alloc (Nat.le_refl _) (.cells #[.string ⟨#[]⟩] 9)
    replace hb := hb.step hbn
    clear hbn
    rw [hgX]
    have szX := alloc_size hgX (.cells #[.string ⟨#[]⟩] 9)
    generalize (w).alloc (.cells #[.string ⟨#[]⟩] 9) = w1 at *
    obtain ⟨gY, hgY⟩ : ∃ g, (w1).heap.size = g := ⟨_, rfl⟩
    have lt_X_Y := X.lt
    rw [hgY] at lt_X_Y
    have Y := Blk.newV hgY 24 #[.int .i64 0]
    have hbn := (Below.refl (w1).heap.size w1).alloc (Nat.le_refl _) (.cells #[.int .i64 0] 24)
    replace hb := hb.step hbn
    replace X := X.step hbn
    clear hbn
    have egY : gX + 1 = gY := szX.symm.trans hgY
    rw [egY]
    clear szX
    generalize (w1).alloc (.cells #[.int .i64 0] 24) = w2 at *
    have hXY : gX ≠ gY := by omega
    have hwX : w.heap.size ≤ gX := by omega
    have hwY : w.heap.size ≤ gY := by omega
    go_wp2_with fail
    refine (must_false _).mono ?_
    rintro e wz ⟨rfl, rfl⟩
    go_wp2_with fail
    refine leaves_cons (f := 47) (args := #[.pointer (some ⟨gX, 0, none⟩), .pointer (some ⟨gY, 0, none⟩)]) (by simp) (by simp [go_sem]) ?_
    refine (catch_panics gX gY _ _ [] _ (X.cell (j := 0) rfl) (X.frozen 0) (Y.cell (j := 0) rfl) (Y.frozen 0) hXY).mono ?_
    rintro e u' w'' ⟨rfl, rfl, rfl⟩
    have Z1 : (((w2.setCell ⟨gX, 0, none⟩ (.string ⟨#[]⟩)).setCell ⟨gY, 0, none⟩ (.int .i64 133)).drew).cell? ⟨gX, 0, none⟩ = some (.string ⟨#[]⟩) := ((X.set 0 (.string ⟨#[]⟩)).other hXY 0 (.int .i64 133)).cell (j := 0) rfl
    have Z2 : (((w2.setCell ⟨gX, 0, none⟩ (.string ⟨#[]⟩)).setCell ⟨gY, 0, none⟩ (.int .i64 133)).drew).cell? ⟨gY, 0, none⟩ = some (.int .i64 133) := ((Y.other (Ne.symm hXY) 0 (.string ⟨#[]⟩)).set 0 (.int .i64 133)).cell (j := 0) rfl
    have hfin : Below w.heap.size w (((w2.setCell ⟨gX, 0, none⟩ (.string ⟨#[]⟩)).setCell ⟨gY, 0, none⟩ (.int .i64 133)).drew) := ((Below.setCell hb (p := ⟨gX, 0, none⟩) hwX _).setCell (p := ⟨gY, 0, none⟩) hwY _).drew
    generalize (((w2.setCell ⟨gX, 0, none⟩ (.string ⟨#[]⟩)).setCell ⟨gY, 0, none⟩ (.int .i64 133)).drew) = W9 at *
    simp [Leaves, settle, results, Tryd.results22, go_sem, Z1, Z2]
    have hl2 : s.data.toList.length < 2 := by rw [← Lib.size_eq]; omega
    have hr : resP s.data.toList = none := by unfold resP; rw [if_pos hl2]
    exact ⟨⟨by unfold unqV; rw [hr], by unfold unqE; rw [hr]; rfl⟩, hfin⟩
  · have h2' : decide ((2 : Int) ≤ (n : Int)) = true := by rw [decide_eq_true_iff]; omega
    obtain ⟨k, hk⟩ : ∃ k, n - 1 = k := ⟨_, rfl⟩
    have hin := inner_ext s n hs0
    rw [hk] at hin
    obtain ⟨I, hI⟩ : ∃ I, innerL s.data.toList = I := ⟨_, rfl⟩
    rw [hI] at hin
    have hIl : I.length + 2 = n := by rw [← hI]; simp [innerL]; omega
    have hres : Hid (resP s.data.toList = match unqP I with | some o => if quoteL o = s.data.toList then some o else none | none => none) := Lib.hid (by unfold resP; rw [if_neg (by rw [← Lib.size_eq]; omega), hI]; cases unqP I <;> rfl)
    have hk1 : (n : Int) - 1 = (k : Int) := by omega
    have hk2 : (1 : Int) ≤ (k : Int) := by omega
    have hk3 : (k : Int) ≤ (n : Int) := by omega
    clear hI
    have hb := From.refl w
    go_enter_defers Tryd.func22, Tryd.ntmps22
    go_upto_region 2 with fail
    obtain ⟨gX, hgX⟩ : ∃ g, (w).heap.size = g := ⟨_, rfl⟩
    have X := Blk.newV hgX 9 #[.string ⟨#[]⟩]
    have hbn := (Below.refl (w).heap.size w).alloc (Nat.le_refl _) (.cells #[.string ⟨#[]⟩] 9)
    replace hb := hb.step hbn
    clear hbn
    rw [hgX]
    have szX := alloc_size hgX (.cells #[.string ⟨#[]⟩] 9)
    generalize (w).alloc (.cells #[.string ⟨#[]⟩] 9) = w1 at *
    obtain ⟨gY, hgY⟩ : ∃ g, (w1).heap.size = g := ⟨_, rfl⟩
    have lt_X_Y := X.lt
    rw [hgY] at lt_X_Y
    have Y := Blk.newV hgY 24 #[.int .i64 0]
    have hbn := (Below.refl (w1).heap.size w1).alloc (Nat.le_refl _) (.cells #[.int .i64 0] 24)
    replace hb := hb.step hbn
    replace X := X.step hbn
    clear hbn
    have egY : gX + 1 = gY := szX.symm.trans hgY
    rw [egY]
    clear szX
    generalize (w1).alloc (.cells #[.int .i64 0] 24) = w2 at *
    have hXY : gX ≠ gY := by omega
    have hwX : w.heap.size ≤ gX := by omega
    have hwY : w.heap.size ≤ gY := by omega
    go_wp2_with fail
    refine (must_true _).mono ?_
    rintro e wz ⟨rfl, rfl⟩
    obtain ⟨gZ, hgZ⟩ : ∃ g, w2.heap.size = g := ⟨_, rfl⟩
    have hYZ : gY < gZ := by rw [← hgZ]; exact Y.lt
    have U0 : Hid (UW w gX gY gZ w2) := Lib.hid ⟨hb, X, Y, by omega⟩
    clear hgX hgY egY X Y hb hgZ
    go_wp2_with fail
    clear hin hk1 hk2 hk3 hk h2'
    go_loopw [4, 5, 6, 7, 8] (fun v x _ _ _ wr => ∃ (pre rest : BL), x = .string (mkS rest) ∧ Hid (OwnB wr gZ v pre) ∧ Hid (Hq I pre rest) ∧ pre.length + rest.length ≤ n ∧ Hid (UW w gX gY gZ wr)) (fun _ x _ _ _ _ => strSz x)
    case atStart => exact ⟨[], I, rfl, Lib.hid (World.ownsRow_nil _ _ _ _), Lib.hid (by simp [Hq]), by simp; omega, U0⟩
    case round =>
      obtain ⟨pre, rest, rfl, hO, hq, hlen, hU⟩ := hrel
      clear U0
      cases rest with
      | nil =>
        rw [show mkS [] = (⟨#[]⟩ : ByteArray) from rfl]
        have hcv := hO.out.back
        have cQ := fun W => quote_any (mkS pre) pre.length (mkS_size pre) (by omega) W
        have hun := hq.out.done
        have hr := hres.out
        rw [hun] at hr
        simp only at hr
        have hqs : quoteS (mkS pre) = mkS (quoteL pre) := by unfold quoteS; rw [mkS_data]
        by_cases hqe : quoteL pre = s.data.toList
        · rw [if_pos hqe] at hr
          rw [hqs, hqe, mkS_self] at cQ
          clear hqs hqe hun hres hq
          go_wp2_with fail
          refine (cQ _).mono ?_
          rintro e wz ⟨rfl, hbz⟩
          have hO1 := hO.out.step hbz
          have hU1 := hU.out.step hbz
          have hcv := hO1.back
          go_wp2_with fail
          refine (must_true _).mono ?_
          rintro e wy ⟨rfl, rfl⟩
          obtain ⟨hb, X, Y, -⟩ := hU1
          have cX := X.cell (j := 0) rfl
          have cY := Y.cell (j := 0) rfl
          have fX := X.frozen 0
          have fY := Y.frozen 0
          have hYX : gY ≠ gX := fun e => hXY e.symm
          go_wp2_with fail
          have X2 := (X.set 0 (.string (mkS pre))).other hXY 0 (.int .i64 0)
          have Y2 := (Y.other hYX 0 (.string (mkS pre))).set 0 (.int .i64 0)
          have hb2 : Below w.heap.size w ((wz.setCell ⟨gX, 0, none⟩ (.string (mkS pre))).setCell ⟨gY, 0, none⟩ (.int .i64 0)) := (Below.setCell hb (p := ⟨gX, 0, none⟩) hwX _).setCell (p := ⟨gY, 0, none⟩) hwY _
          generalize (wz.setCell ⟨gX, 0, none⟩ (.string (mkS pre))).setCell ⟨gY, 0, none⟩ (.int .i64 0) = W9 at *
          refine leaves_cons (f := 47) (args := #[.pointer (some ⟨gX, 0, none⟩), .pointer (some ⟨gY, 0, none⟩)]) (by simp) (by simp [go_sem]) ?_
          refine (catch_idle gX gY _).mono ?_
          rintro e u' w'' ⟨rfl, rfl, rfl⟩
          have Z1 := X2.cell (j := 0) rfl
          have Z2 := Y2.cell (j := 0) rfl
          simp [Leaves, settle, results, Tryd.results22, go_sem, Z1, Z2]
          exact ⟨⟨by unfold unqV; rw [hr], by unfold unqE; rw [hr]; rfl⟩, hb2⟩
        · rw [if_neg hqe] at hr
          rw [hqs] at cQ
          have hne : ¬ mkS (quoteL pre) = s := fun e => hqe (by rw [← e, mkS_data])
          have hne2 : ((mkS (quoteL pre)).toList == s.toList) = false := by rw [beq_eq_false_iff_ne]; exact fun e => hqe (by rw [Lib.toList_data, Lib.toList_data, mkS_data] at e; exact e)
          clear hqs hun hres hq hqe
          generalize mkS (quoteL pre) = Qs at *
          go_wp2_with fail
          refine (cQ _).mono ?_
          rintro e wz ⟨rfl, hbz⟩
          have hO1 := hO.out.step hbz
          have hU1 := hU.out.step hbz
          have hcv := hO1.back
          go_wp2_with fail
          refine (must_false _).mono ?_
          rintro e wy ⟨rfl, rfl⟩
          obtain ⟨hb, X, Y, -⟩ := hU1
          clear hcv hO1 hne hne2 cQ hbz hO hU
          go_wp2_with fail
          refine leaves_cons (f := 47) (args := #[.pointer (some ⟨gX, 0, none⟩), .pointer (some ⟨gY, 0, none⟩)]) (by simp) (by simp [go_sem]) ?_
          refine (catch_panics gX gY _ _ [] _ (X.cell (j := 0) rfl) (X.frozen 0) (Y.cell (j := 0) rfl) (Y.frozen 0) hXY).mono ?_
          rintro e u' w'' ⟨rfl, rfl, rfl⟩
          have Z1 : (((wz.setCell ⟨gX, 0, none⟩ (.string ⟨#[]⟩)).setCell ⟨gY, 0, none⟩ (.int .i64 133)).drew).cell? ⟨gX, 0, none⟩ = some (.string ⟨#[]⟩) := ((X.set 0 (.string ⟨#[]⟩)).other hXY 0 (.int .i64 133)).cell (j := 0) rfl
          have Z2 : (((wz.setCell ⟨gX, 0, none⟩ (.string ⟨#[]⟩)).setCell ⟨gY, 0, none⟩ (.int .i64 133)).drew).cell? ⟨gY, 0, none⟩ = some (.int .i64 133) := ((Y.other (Ne.symm hXY) 0 (.string ⟨#[]⟩)).set 0 (.int .i64 133)).cell (j := 0) rfl
          have hfin : Below w.heap.size w (((wz.setCell ⟨gX, 0, none⟩ (.string ⟨#[]⟩)).setCell ⟨gY, 0, none⟩ (.int .i64 133)).drew) := ((Below.setCell hb (p := ⟨gX, 0, none⟩) hwX _).setCell (p := ⟨gY, 0, none⟩) hwY _).drew
          generalize (((wz.setCell ⟨gX, 0, none⟩ (.string ⟨#[]⟩)).setCell ⟨gY, 0, none⟩ (.int .i64 133)).drew) = W9 at *
          simp [Leaves, settle, results, Tryd.results22, go_sem, Z1, Z2]
          exact ⟨⟨by unfold unqV; rw [hr], by unfold unqE; rw [hr]; rfl⟩, hfin⟩
      | cons c t =>
        obtain ⟨i0, hi0, hz0, hz1, hz2⟩ := bl_byte2
        have hL : pre.length + t.length + 1 ≤ n := by simp at hlen; omega
        obtain ⟨S, hS⟩ : ∃ S, mkS (c :: t) = S := ⟨_, rfl⟩
        have zS : S.size = t.length + 1 := by rw [← hS, mkS_size]; rfl
        have pS : 0 < S.size := by omega
        have gS : (S[0]'pS).toNat = c.toNat := by subst hS; rfl
        have xS : S.extract 1 (t.length + 1) = mkS t := by rw [← zS, ext_drop, ← hS, mkS_data]; rfl
        have nS : S.toList.isEmpty = false := by rw [Lib.toList_data, ← hS, mkS_data]; rfl
        have qS : (0 : Int) < (t.length : Int) + 1 := by omega
        have rS : (1 : Int) ≤ (t.length : Int) + 1 := by omega
        rw [hS]
        clear hS
        obtain ⟨m, hm⟩ : ∃ m, c.toNat = m := ⟨_, rfl⟩
        have hm256 : m < 256 := by rw [← hm]; exact c.toNat_lt
        rw [hm] at gS
        by_cases hc : m = 92
        · subst hc
          have hm' : c.toNat = 92 := hm
          cases t with
          | nil =>
            have hq2 : Hid (Hq I (pre ++ [c]) []) := Lib.hid (hq.out.plain (.inr rfl))
            have hmI : ((c.toNat : Nat) : Int) = 92 := by rw [hm]; rfl
            simp only [List.length_nil, Nat.zero_add] at zS xS
            rw [show mkS [] = (⟨#[]⟩ : ByteArray) from rfl] at xS
            clear qS rS
            go_upto_region 15 with fail
            have OW := hO.out
            have UWw := hU.out
            unfold OwnB at OW
            go_wp2_with (at_builtin; refine wpList_append_own _ rfl _ _ 42 rfl gZ 5 i0 (.int .u8 0) 1 1 Tryd.underlying42 hi0 hz0 hz1 hz2 rfl (by decide) _ _ _ rfl (World.ownsRow.alloc OW _) ⟨(wr).heap.size, 0, none⟩ 1 1 [.int .u8 92] rfl rfl ?c1 ?c2 ?c3 ?c4 ?c5 ?_)
            case c1 =>
              intro j u hj
              match j, hj with
              | 0, hj => simp at hj; subst hj; simp [Addr.add]
            case c2 => intro u hu; simp at hu; subst hu; rfl
            case c3 => unfold maxLen; omega
            case c4 => omega
            case c5 => have := UWw.le; simp; omega
            intro v' w5 hown' hgrow _
            have O5 : Hid (OwnB w5 gZ v' (pre ++ [c])) := Lib.hid (by
              unfold OwnB
              rw [List.length_append, ← cells_one1]
              first
                | exact hown'
                | (rw [hmI]; exact hown'))
            have U5 : Hid (UW w gX gY gZ w5) := Lib.hid ((UWw.step ((Below.refl _ _).alloc (Nat.le_refl _) _)).grown hgrow (fun r e => (World.ownsRow.lt OW r e).1) (by omega) (by omega) hwX)
            clear hown' hgrow OW UWw
            go_wp2_with fail
            go_roundw
            case rel => exact ⟨pre ++ [c], [], rfl, O5, hq2, by simp at hlen ⊢; omega, U5⟩
            case measure => simp [strSz, mkS_size]; first | omega | (simp [*]; omega)
          | cons d t2 =>
            obtain ⟨T, hT⟩ : ∃ S, mkS (d :: t2) = S := ⟨_, rfl⟩
            have zT : T.size = t2.length + 1 := by rw [← hT, mkS_size]; rfl
            have pT : 0 < T.size := by omega
            have gT : (T[0]'pT).toNat = d.toNat := by subst hT; rfl
            have xT : T.extract 1 (t2.length + 1) = mkS t2 := by rw [← zT, ext_drop, ← hT, mkS_data]; rfl
            have nT : T.toList.isEmpty = false := by rw [Lib.toList_data, ← hT, mkS_data]; rfl
            have qT : (0 : Int) < (t2.length : Int) + 1 := by omega
            have rT : (1 : Int) ≤ (t2.length : Int) + 1 := by omega
            rw [hT] at xS
            clear hT
            obtain ⟨j, hj⟩ : ∃ j, d.toNat = j := ⟨_, rfl⟩
            rw [hj] at gT
            simp only [List.length_cons] at zS xS qS rS
            go_upto_region 9 with fail
            go_quiet (fail)
            have hdn : Below wr.heap.size wr (wr.drewN nq) := below_dn (Below.refl _ _) nq
            have hO1 := Lib.hid (hO.out.step hdn)
            have hU1 := Lib.hid (hU.out.step hdn)
            clear hdn hO hU
            generalize wr.drewN nq = W1 at *
            by_cases hd : j = 120
            · subst hd
              have hb120 : ((120 : Int) == 120) = true := rfl
              by_cases ht : t2.length < 2
              · have hdec : decide ((2 : Int) ≤ (t2.length : Int)) = false := by rw [decide_eq_false_iff_not]; omega
                have hnone := hq.out.short hm' hj ht
                have hsz2 : (mkS t2).size = t2.length := mkS_size t2
                go_wp2_with fail
                refine (must_false _).mono ?_
                rintro e wz ⟨rfl, rfl⟩
                obtain ⟨hb, X, Y, -⟩ := hU1.out
                have hr := hres.out
                rw [hnone] at hr
                clear hres hnone hq hO1 hU1 hi0 hz0 hz1 hz2
                go_wp2_with fail
                refine leaves_cons (f := 47) (args := #[.pointer (some ⟨gX, 0, none⟩), .pointer (some ⟨gY, 0, none⟩)]) (by simp) (by simp [go_sem]) ?_
                refine (catch_panics gX gY _ _ [] _ (X.cell (j := 0) rfl) (X.frozen 0) (Y.cell (j := 0) rfl) (Y.frozen 0) hXY).mono ?_
                rintro e u' w'' ⟨rfl, rfl, rfl⟩
                have Z1 : (((W1.setCell ⟨gX, 0, none⟩ (.string ⟨#[]⟩)).setCell ⟨gY, 0, none⟩ (.int .i64 133)).drew).cell? ⟨gX, 0, none⟩ = some (.string ⟨#[]⟩) := ((X.set 0 (.string ⟨#[]⟩)).other hXY 0 (.int .i64 133)).cell (j := 0) rfl
                have Z2 : (((W1.setCell ⟨gX, 0, none⟩ (.string ⟨#[]⟩)).setCell ⟨gY, 0, none⟩ (.int .i64 133)).drew).cell? ⟨gY, 0, none⟩ = some (.int .i64 133) := ((Y.other (Ne.symm hXY) 0 (.string ⟨#[]⟩)).set 0 (.int .i64 133)).cell (j := 0) rfl
                have hfin : Below w.heap.size w (((W1.setCell ⟨gX, 0, none⟩ (.string ⟨#[]⟩)).setCell ⟨gY, 0, none⟩ (.int .i64 133)).drew) := ((Below.setCell hb (p := ⟨gX, 0, none⟩) hwX _).setCell (p := ⟨gY, 0, none⟩) hwY _).drew
                generalize (((W1.setCell ⟨gX, 0, none⟩ (.string ⟨#[]⟩)).setCell ⟨gY, 0, none⟩ (.int .i64 133)).drew) = W9 at *
                simp [Leaves, settle, results, Tryd.results22, go_sem, Z1, Z2]
                exact ⟨⟨by unfold unqV; rw [hr], by unfold unqE; rw [hr]; rfl⟩, hfin⟩
              · obtain ⟨a, b, t3, rfl⟩ : ∃ a b t3, t2 = a :: b :: t3 := by
                  match t2, ht with
                  | [], h => simp at h
                  | [x], h => simp at h
                  | x :: y :: z, _ => exact ⟨x, y, z, rfl⟩
                have hdec : decide ((2 : Int) ≤ ((a :: b :: t3).length : Int)) = true := by rw [decide_eq_true_iff]; simp; omega
                obtain ⟨R2, hR2⟩ : ∃ R2, mkS (a :: b :: t3) = R2 := ⟨_, rfl⟩
                have zR : R2.size = t3.length + 2 := by rw [← hR2, mkS_size]; rfl
                have pR0 : 0 < R2.size := by omega
                have pR1 : 1 < R2.size := by omega
                have gR0 : (R2[0]'pR0).toNat = a.toNat := by subst hR2; rfl
                have gR1 : (R2[1]'pR1).toNat = b.toNat := by subst hR2; rfl
                have xR : R2.extract 2 (t3.length + 2) = mkS t3 := by rw [← zR, ext_drop, ← hR2, mkS_data]; rfl
                rw [hR2] at xT ⊢
                clear hR2
                simp only [List.length_cons] at hdec zT xT zS qS rS qT rT
                have hdec2 : decide ((2 : Int) ≤ (t3.length : Int) + 2) = true := by rw [decide_eq_true_iff]; omega
                have qR0 : (0 : Int) < (t3.length : Int) + 2 := by omega
                have qR1 : (1 : Int) < (t3.length : Int) + 2 := by omega
                have rR : (2 : Int) ≤ (t3.length : Int) + 2 := by omega
                go_wp2_with fail
                refine (must_true _).mono ?_
                rintro e wz ⟨rfl, rfl⟩
                go_upto_region 12 with fail
                have hia := fun W => index_any a W
                have hib := fun W => index_any b W
                go_quiet (first | (go_at_call 49; first | exact Calls.quiet_of_same (hia _) | exact Calls.quiet_of_same (hib _)))
                have hdn : Below W1.heap.size W1 (W1.drewN nq) := below_dn (Below.refl _ _) nq
                have hO2 := Lib.hid (hO1.out.step hdn)
                have hU2 := Lib.hid (hU1.out.step hdn)
                clear hdn hO1 hU1 hia hib
                generalize W1.drewN nq = W2 at *
                have hhx := hexv_lt a
                have hhy := hexv_lt b
                obtain ⟨x, hx⟩ : ∃ x, hexv a = x := ⟨_, rfl⟩
                obtain ⟨y, hy⟩ : ∃ y, hexv b = y := ⟨_, rfl⟩
                rw [hx] at hhx ⊢
                rw [hy] at hhy ⊢
                by_cases hx0 : 0 ≤ x
                · have hdx : decide (0 ≤ x) = true := by rw [decide_eq_true_iff]; exact hx0
                  by_cases hy0 : 0 ≤ y
                  · have hdy : decide (0 ≤ y) = true := by rw [decide_eq_true_iff]; exact hy0
                    go_wp2_with fail
                    refine (must_true _).mono ?_
                    rintro e wz ⟨rfl, rfl⟩
                    go_upto_region 14 with fail
                    go_quiet (fail)
                    rw [or_hex x y hx0 hhx hy0 hhy]
                    have hdn : Below W2.heap.size W2 (W2.drewN nq) := below_dn (Below.refl _ _) nq
                    have hO3 := Lib.hid (hO2.out.step hdn)
                    have hU3 := Lib.hid (hU2.out.step hdn)
                    clear hdn hO2 hU2
                    generalize W2.drewN nq = W3 at *
                    have hq3 := hq.out.hex hm' hj (by rw [hx, hy]; exact ⟨hx0, hy0⟩)
                    rw [hx, hy] at hq3
                    have hq2 := Lib.hid hq3
                    clear hq3
                    generalize byteI (x * 16 + y) = bt at *
                    go_upto_region 15 with fail
                    have OW := hO3.out
                    have UWw := hU3.out
                    unfold OwnB at OW
                    go_wp2_with (at_builtin; refine wpList_append_own _ rfl _ _ 42 rfl gZ 5 i0 (.int .u8 0) 1 1 Tryd.underlying42 hi0 hz0 hz1 hz2 rfl (by decide) _ _ _ rfl (World.ownsRow.alloc OW _) ⟨(W3).heap.size, 0, none⟩ 1 1 [.int .u8 (bt.toNat : Int)] rfl rfl ?c1 ?c2 ?c3 ?c4 ?c5 ?_)
                    case c1 =>
                      intro j u hj
                      match j, hj with
                      | 0, hj => simp at hj; subst hj; simp [Addr.add]
                    case c2 => intro u hu; simp at hu; subst hu; rfl
                    case c3 => unfold maxLen; omega
                    case c4 => omega
                    case c5 => have := UWw.le; simp; omega
                    intro v' w5 hown' hgrow _
                    have O5 : Hid (OwnB w5 gZ v' (pre ++ [bt])) := Lib.hid (by
                      unfold OwnB
                      rw [List.length_append, ← cells_one1]
                      first
                        | exact hown'
                        | (rw [hmI]; exact hown'))
                    have U5 : Hid (UW w gX gY gZ w5) := Lib.hid ((UWw.step ((Below.refl _ _).alloc (Nat.le_refl _) _)).grown hgrow (fun r e => (World.ownsRow.lt OW r e).1) (by omega) (by omega) hwX)
                    clear hown' hgrow OW UWw
                    go_wp2_with fail
                    go_roundw
                    case rel => exact ⟨pre ++ [bt], t3, rfl, O5, hq2, by simp at hlen ⊢; omega, U5⟩
                    case measure => simp [strSz, mkS_size]; first | omega | (simp [*]; omega)
                  · have hdy : decide (0 ≤ y) = false := by rw [decide_eq_false_iff_not]; exact hy0
                    have hnone := hq.out.nohex hm' hj (by rw [hx, hy]; exact fun h => hy0 h.2)
                    go_wp2_with fail
                    refine (must_false _).mono ?_
                    rintro e wz ⟨rfl, rfl⟩
                    obtain ⟨hb, X, Y, -⟩ := hU2.out
                    have hr := hres.out
                    rw [hnone] at hr
                    clear hres hnone hq hO2 hU2 hi0 hz0 hz1 hz2
                    go_wp2_with fail
                    refine leaves_cons (f := 47) (args := #[.pointer (some ⟨gX, 0, none⟩), .pointer (some ⟨gY, 0, none⟩)]) (by simp) (by simp [go_sem]) ?_
                    refine (catch_panics gX gY _ _ [] _ (X.cell (j := 0) rfl) (X.frozen 0) (Y.cell (j := 0) rfl) (Y.frozen 0) hXY).mono ?_
                    rintro e u' w'' ⟨rfl, rfl, rfl⟩
                    have Z1 : (((W2.setCell ⟨gX, 0, none⟩ (.string ⟨#[]⟩)).setCell ⟨gY, 0, none⟩ (.int .i64 133)).drew).cell? ⟨gX, 0, none⟩ = some (.string ⟨#[]⟩) := ((X.set 0 (.string ⟨#[]⟩)).other hXY 0 (.int .i64 133)).cell (j := 0) rfl
                    have Z2 : (((W2.setCell ⟨gX, 0, none⟩ (.string ⟨#[]⟩)).setCell ⟨gY, 0, none⟩ (.int .i64 133)).drew).cell? ⟨gY, 0, none⟩ = some (.int .i64 133) := ((Y.other (Ne.symm hXY) 0 (.string ⟨#[]⟩)).set 0 (.int .i64 133)).cell (j := 0) rfl
                    have hfin : Below w.heap.size w (((W2.setCell ⟨gX, 0, none⟩ (.string ⟨#[]⟩)).setCell ⟨gY, 0, none⟩ (.int .i64 133)).drew) := ((Below.setCell hb (p := ⟨gX, 0, none⟩) hwX _).setCell (p := ⟨gY, 0, none⟩) hwY _).drew
                    generalize (((W2.setCell ⟨gX, 0, none⟩ (.string ⟨#[]⟩)).setCell ⟨gY, 0, none⟩ (.int .i64 133)).drew) = W9 at *
                    simp [Leaves, settle, results, Tryd.results22, go_sem, Z1, Z2]
                    exact ⟨⟨by unfold unqV; rw [hr], by unfold unqE; rw [hr]; rfl⟩, hfin⟩
                · have hdx : decide (0 ≤ x) = false := by rw [decide_eq_false_iff_not]; exact hx0
                  have hnone := hq.out.nohex hm' hj (by rw [hx, hy]; exact fun h => hx0 h.1)
                  go_wp2_with fail
                  refine (must_false _).mono ?_
                  rintro e wz ⟨rfl, rfl⟩
                  obtain ⟨hb, X, Y, -⟩ := hU2.out
                  have hr := hres.out
                  rw [hnone] at hr
                  clear hres hnone hq hO2 hU2 hi0 hz0 hz1 hz2
                  go_wp2_with fail
                  refine leaves_cons (f := 47) (args := #[.pointer (some ⟨gX, 0, none⟩), .pointer (some ⟨gY, 0, none⟩)]) (by simp) (by simp [go_sem]) ?_
                  refine (catch_panics gX gY _ _ [] _ (X.cell (j := 0) rfl) (X.frozen 0) (Y.cell (j := 0) rfl) (Y.frozen 0) hXY).mono ?_
                  rintro e u' w'' ⟨rfl, rfl, rfl⟩
                  have Z1 : (((W2.setCell ⟨gX, 0, none⟩ (.string ⟨#[]⟩)).setCell ⟨gY, 0, none⟩ (.int .i64 133)).drew).cell? ⟨gX, 0, none⟩ = some (.string ⟨#[]⟩) := ((X.set 0 (.string ⟨#[]⟩)).other hXY 0 (.int .i64 133)).cell (j := 0) rfl
                  have Z2 : (((W2.setCell ⟨gX, 0, none⟩ (.string ⟨#[]⟩)).setCell ⟨gY, 0, none⟩ (.int .i64 133)).drew).cell? ⟨gY, 0, none⟩ = some (.int .i64 133) := ((Y.other (Ne.symm hXY) 0 (.string ⟨#[]⟩)).set 0 (.int .i64 133)).cell (j := 0) rfl
                  have hfin : Below w.heap.size w (((W2.setCell ⟨gX, 0, none⟩ (.string ⟨#[]⟩)).setCell ⟨gY, 0, none⟩ (.int .i64 133)).drew) := ((Below.setCell hb (p := ⟨gX, 0, none⟩) hwX _).setCell (p := ⟨gY, 0, none⟩) hwY _).drew
                  generalize (((W2.setCell ⟨gX, 0, none⟩ (.string ⟨#[]⟩)).setCell ⟨gY, 0, none⟩ (.int .i64 133)).drew) = W9 at *
                  simp [Leaves, settle, results, Tryd.results22, go_sem, Z1, Z2]
                  exact ⟨⟨by unfold unqV; rw [hr], by unfold unqE; rw [hr]; rfl⟩, hfin⟩
            · have hb120 : ((j : Int) == 120) = false := by rw [beq_eq_false_iff_ne]; omega
              have hq2 : Hid (Hq I (pre ++ [d]) t2) := Lib.hid (hq.out.esc hm' (by omega))
              have hmI : ((d.toNat : Nat) : Int) = (j : Int) := by rw [hj]
              go_upto_region 15 with fail
              have OW := hO1.out
              have UWw := hU1.out
              unfold OwnB at OW
              go_wp2_with (at_builtin; refine wpList_append_own _ rfl _ _ 42 rfl gZ 5 i0 (.int .u8 0) 1 1 Tryd.underlying42 hi0 hz0 hz1 hz2 rfl (by decide) _ _ _ rfl (World.ownsRow.alloc OW _) ⟨(W1).heap.size, 0, none⟩ 1 1 [.int .u8 (j : Int)] rfl rfl ?c1 ?c2 ?c3 ?c4 ?c5 ?_)
              case c1 =>
                intro j u hj
                match j, hj with
                | 0, hj => simp at hj; subst hj; simp [Addr.add]
              case c2 => intro u hu; simp at hu; subst hu; rfl
              case c3 => unfold maxLen; omega
              case c4 => omega
              case c5 => have := UWw.le; simp; omega
              intro v' w5 hown' hgrow _
              have O5 : Hid (OwnB w5 gZ v' (pre ++ [d])) := Lib.hid (by
                unfold OwnB
                rw [List.length_append, ← cells_one1]
                first
                  | exact hown'
                  | (rw [hmI]; exact hown'))
              have U5 : Hid (UW w gX gY gZ w5) := Lib.hid ((UWw.step ((Below.refl _ _).alloc (Nat.le_refl _) _)).grown hgrow (fun r e => (World.ownsRow.lt OW r e).1) (by omega) (by omega) hwX)
              clear hown' hgrow OW UWw
              go_wp2_with fail
              go_roundw
              case rel => exact ⟨pre ++ [d], t2, rfl, O5, hq2, by simp at hlen ⊢; omega, U5⟩
              case measure => simp [strSz, mkS_size]; first | omega | (simp [*]; omega)
        · have n1' : ((m : Int) == 92) = false := by rw [beq_eq_false_iff_ne]; omega
          have hq2 : Hid (Hq I (pre ++ [c]) t) := Lib.hid (hq.out.plain (.inl (by omega)))
          have hmI : ((c.toNat : Nat) : Int) = (m : Int) := by rw [hm]
          go_upto_region 15 with fail
          have OW := hO.out
          have UWw := hU.out
          unfold OwnB at OW
          go_wp2_with (at_builtin; refine wpList_append_own _ rfl _ _ 42 rfl gZ 5 i0 (.int .u8 0) 1 1 Tryd.underlying42 hi0 hz0 hz1 hz2 rfl (by decide) _ _ _ rfl (World.ownsRow.alloc OW _) ⟨(wr).heap.size, 0, none⟩ 1 1 [.int .u8 (m : Int)] rfl rfl ?c1 ?c2 ?c3 ?c4 ?c5 ?_)
          case c1 =>
            intro j u hj
            match j, hj with
            | 0, hj => simp at hj; subst hj; simp [Addr.add]
          case c2 => intro u hu; simp at hu; subst hu; rfl
          case c3 => unfold maxLen; omega
          case c4 => omega
          case c5 => have := UWw.le; simp; omega
          intro v' w5 hown' hgrow _
          have O5 : Hid (OwnB w5 gZ v' (pre ++ [c])) := Lib.hid (by
            unfold OwnB
            rw [List.length_append, ← cells_one1]
            first
              | exact hown'
              | (rw [hmI]; exact hown'))
          have U5 : Hid (UW w gX gY gZ w5) := Lib.hid ((UWw.step ((Below.refl _ _).alloc (Nat.le_refl _) _)).grown hgrow (fun r e => (World.ownsRow.lt OW r e).1) (by omega) (by omega) hwX)
          clear hown' hgrow OW UWw
          go_wp2_with fail
          go_roundw
          case rel => exact ⟨pre ++ [c], t, rfl, O5, hq2, by simp at hlen ⊢; omega, U5⟩
          case measure => simp [strSz, mkS_size]; first | omega | (simp [*]; omega)
end Go.Proofs.YtehjglaofhgjfaaDoor
