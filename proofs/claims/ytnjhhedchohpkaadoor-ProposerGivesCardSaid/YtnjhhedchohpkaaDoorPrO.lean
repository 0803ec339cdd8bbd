
/- Walk of ProposerGives. -/
import Derived.Test.YtnjhhedchohpkaaDoorPrM
import Derived.Test.YtnjhhedchohpkaaDoorPrN
namespace Go.Proofs.YtnjhhedchohpkaaDoor
set_option linter.unusedSimpArgs false
set_option linter.unusedVariables false
open Go.RowKit


theorem ask_some (c sl r p : Int) (w : World) : Calls Tryd.prog 7 #[.int .i64 c, .int .i64 sl, .agg #[.int .i64 r, .int .i64 p]] w fun e w' => (∃ (v : Value) (E : Int), e = .returned (.tuple #[v, .int .i64 E])) ∧ Below w.heap.size w w' := by
  by_cases he : opErr c sl = 0
  · cases hq : askB c sl r p
    · exact (ask_bad c sl r p w he hq).mono (fun e w' h => ⟨⟨_, _, h.1⟩, h.2⟩)
    · refine (ask_ok c sl r p w he hq).mono ?_
      rintro e w' ⟨⟨g, h, -⟩, hb⟩
      exact ⟨⟨_, _, h⟩, hb⟩
  · exact (ask_no c sl r p w he).mono (fun e w' h => ⟨⟨_, _, h.1⟩, h.2⟩)
def mkE (c sl : Int) (own : Bool) (r p k m n : Int) (s : ByteArray) : Int := if opErr c sl = 0 then (if (if own then entB k m n s else askB c sl r p) then 0 else 2) else opErr c sl
def mkA (c sl : Int) (own : Bool) (r p k m n : Int) (s : ByteArray) : Prp := if own then ownA c sl (ownerI c sl) k m n s else freshA c sl r p
theorem ask_mk (c sl r p : Int) (k m n : Int) (s : ByteArray) (w : World) (h : mkE c sl false r p k m n s ≠ 0) : Calls Tryd.prog 7 #[.int .i64 c, .int .i64 sl, .agg #[.int .i64 r, .int .i64 p]] w fun e w' => e = .returned (.tuple #[.pointer none, .int .i64 (mkE c sl false r p k m n s)]) ∧ Below w.heap.size w w' := by
  unfold mkE at h ⊢
  by_cases he : opErr c sl = 0
  · cases hq : askB c sl r p
    · simpa [he, hq] using ask_bad c sl r p w he hq
    · simp [he, hq] at h
  · simpa [he] using ask_no c sl r p w he
theorem own_mk (c sl r p : Int) (k m n : Int) (s : ByteArray) (w : World) (hs : s.size ≤ 9223372036854775807) (hT : Tabs w) (h : mkE c sl true r p k m n s ≠ 0) : Calls Tryd.prog 8 #[.int .i64 c, .int .i64 sl, .agg #[.int .i64 k, .int .i64 m, .int .i64 n, .string s]] w fun e w' => e = .returned (.tuple #[.pointer none, .int .i64 (mkE c sl true r p k m n s)]) ∧ Below w.heap.size w w' := by
  unfold mkE at h ⊢
  by_cases he : opErr c sl = 0
  · cases hq : entB k m n s
    · simpa [he, hq] using own_bad c sl k m n s w hs hT he hq
    · simp [he, hq] at h
  · simpa [he] using own_no c sl k m n s w he
theorem mk_zero {c sl : Int} {own : Bool} {r p k m n : Int} {s : ByteArray} (h : mkE c sl own r p k m n s = 0) : opErr c sl = 0 ∧ (if own then entB k m n s else askB c sl r p) = true := by
  unfold mkE at h
  by_cases he : opErr c sl = 0
  · cases hq : (if own then entB k m n s else askB c sl r p)
    · simp [he, hq] at h
    · exact ⟨he, rfl⟩
  · simp [he] at h
set_option maxRecDepth 100000 in
set_option maxHeartbeats 2000000 in
theorem gives_few (c sl : Int) (own : Bool) (r p k m n : Int) (s : ByteArray) (l : List Pa) (ao : Option Addr) (cap : Nat) (w : World) (hT : Tabs w) (hE : HasPa w ao l) (hl : l.length ≤ 9223372036854775807) (hs : ∀ e, e ∈ l → e.s.size ≤ 9223372036854775807) (hz : s.size ≤ 9223372036854775807) (hf : fewP l 40 = false) (hg : longP s = longP s) :
    Calls Tryd.prog 3 #[.int .i64 c, .int .i64 sl, .bool own, .agg #[.int .i64 r, .int .i64 p], .agg #[.int .i64 k, .int .i64 m, .int .i64 n, .string s], .slice ao l.length cap] w fun e w' => e = .returned (.bool true) ∧ Below w.heap.size w w' := by
  have cF := fun W (hW : Below w.heap.size w W) => few15_any l ao cap 40 W (hE.step hW) hl hs
  rw [hf] at cF
  clear hf hE hs
  have hzi : (s.size : Int) ≤ 9223372036854775807 := by omega
  skip
  have hb := From.refl w
  go_enter Tryd.func3, Tryd.ntmps3
  go_upto_region 1 with fail
  obtain ⟨gB, hgB⟩ : ∃ g, (w).heap.size = g := ⟨_, rfl⟩
  have B := Blk.newV hgB 23 #[.int .i64 r, .int .i64 p]
  have hbn := (Below.refl (w).heap.size w).alloc (Nat.le_refl _) (.cells #[.int .i64 r, .int .i64 p] 23)
  replace hb := hb.step hbn
  clear hbn
  rw [hgB]
  have szB := alloc_size hgB (.cells #[.int .i64 r, .int .i64 p] 23)
  generalize (w).alloc (.cells #[.int .i64 r, .int .i64 p] 23) = w1 at *
  obtain ⟨gX, hgX⟩ : ∃ g, (w1).heap.size = g := ⟨_, rfl⟩
  have lt_B_X := B.lt
  rw [hgX] at lt_B_X
  have X := Blk.newV hgX 26 #[.int .i64 k, .int .i64 m, .int .i64 n, .string s]
  have hbn := (Below.refl (w1).heap.size w1).alloc (Nat.le_refl _) (.cells #[.int .i64 k, .int .i64 m, .int .i64 n, .string s] 26)
  replace hb := hb.step hbn
  replace B := B.step hbn
  clear hbn
  have egX : gB + 1 = gX := szB.symm.trans hgX
  rw [egX]
  clear szB
  generalize (w1).alloc (.cells #[.int .i64 k, .int .i64 m, .int .i64 n, .string s] 26) = w2 at *
  have X_0 := X.cell (j := 0) rfl
  have X_1 := X.cell (j := 1) rfl
  have X_2 := X.cell (j := 2) rfl
  have X_3 := X.cell (j := 3) rfl
  go_wp2_with fail
  refine (cF _ hb.out).mono ?_
  rintro e w3 ⟨rfl, hbn⟩
  replace hb := hb.step hbn
  replace B := B.step hbn
  replace X := X.step hbn
  replace X_0 := X.cell (j := 0) rfl
  replace X_1 := X.cell (j := 1) rfl
  replace X_2 := X.cell (j := 2) rfl
  replace X_3 := X.cell (j := 3) rfl
  clear hbn
  go_wp2_with fail
  refine (works15_any _ (hT.step hb.out)).mono ?_
  rintro e w4 ⟨rfl, hbn⟩
  replace hb := hb.step hbn
  replace B := B.step hbn
  replace X := X.step hbn
  replace X_0 := X.cell (j := 0) rfl
  replace X_1 := X.cell (j := 1) rfl
  replace X_2 := X.cell (j := 2) rfl
  replace X_3 := X.cell (j := 3) rfl
  clear hbn
  go_wp2_with fail
  go_ret
  exact ⟨rfl, by first | exact hb | (rw [← hgB]; exact hb)⟩
set_option maxRecDepth 100000 in
set_option maxHeartbeats 2000000 in
theorem gives_long (c sl : Int) (own : Bool) (r p k m n : Int) (s : ByteArray) (l : List Pa) (ao : Option Addr) (cap : Nat) (w : World) (hT : Tabs w) (hE : HasPa w ao l) (hl : l.length ≤ 9223372036854775807) (hs : ∀ e, e ∈ l → e.s.size ≤ 9223372036854775807) (hz : s.size ≤ 9223372036854775807) (hf : fewP l 40 = true) (hg : longP s = true) :
    Calls Tryd.prog 3 #[.int .i64 c, .int .i64 sl, .bool own, .agg #[.int .i64 r, .int .i64 p], .agg #[.int .i64 k, .int .i64 m, .int .i64 n, .string s], .slice ao l.length cap] w fun e w' => e = .returned (.bool true) ∧ Below w.heap.size w w' := by
  have cF := fun W (hW : Below w.heap.size w W) => few15_any l ao cap 40 W (hE.step hW) hl hs
  rw [hf] at cF
  clear hf hE hs
  have hzi : (s.size : Int) ≤ 9223372036854775807 := by omega
  have hlong : 300 < (s.size : Int) := by simpa [longP] using hg
  have hb := From.refl w
  go_enter Tryd.func3, Tryd.ntmps3
  go_upto_region 1 with fail
  obtain ⟨gB, hgB⟩ : ∃ g, (w).heap.size = g := ⟨_, rfl⟩
  have B := Blk.newV hgB 23 #[.int .i64 r, .int .i64 p]
  have hbn := (Below.refl (w).heap.size w).alloc (Nat.le_refl _) (.cells #[.int .i64 r, .int .i64 p] 23)
  replace hb := hb.step hbn
  clear hbn
  rw [hgB]
  have szB := alloc_size hgB (.cells #[.int .i64 r, .int .i64 p] 23)
  generalize (w).alloc (.cells #[.int .i64 r, .int .i64 p] 23) = w1 at *
  obtain ⟨gX, hgX⟩ : ∃ g, (w1).heap.size = g := ⟨_, rfl⟩
  have lt_B_X := B.lt
  rw [hgX] at lt_B_X
  have X := Blk.newV hgX 26 #[.int .i64 k, .int .i64 m, .int .i64 n, .string s]
  have hbn := (Below.refl (w1).heap.size w1).alloc (Nat.le_refl _) (.cells #[.int .i64 k, .int .i64 m, .int .i64 n, .string s] 26)
  replace hb := hb.step hbn
  replace B := B.step hbn
  clear hbn
  have egX : gB + 1 = gX := szB.symm.trans hgX
  rw [egX]
  clear szB
  generalize (w1).alloc (.cells #[.int .i64 k, .int .i64 m, .int .i64 n, .string s] 26) = w2 at *
  have X_0 := X.cell (j := 0) rfl
  have X_1 := X.cell (j := 1) rfl
  have X_2 := X.cell (j := 2) rfl
  have X_3 := X.cell (j := 3) rfl
  go_wp2_with fail
  refine (cF _ hb.out).mono ?_
  rintro e w3 ⟨rfl, hbn⟩
  replace hb := hb.step hbn
  replace B := B.step hbn
  replace X := X.step hbn
  replace X_0 := X.cell (j := 0) rfl
  replace X_1 := X.cell (j := 1) rfl
  replace X_2 := X.cell (j := 2) rfl
  replace X_3 := X.cell (j := 3) rfl
  clear hbn
  go_wp2_with fail
  refine (works15_any _ (hT.step hb.out)).mono ?_
  rintro e w4 ⟨rfl, hbn⟩
  replace hb := hb.step hbn
  replace B := B.step hbn
  replace X := X.step hbn
  replace X_0 := X.cell (j := 0) rfl
  replace X_1 := X.cell (j := 1) rfl
  replace X_2 := X.cell (j := 2) rfl
  replace X_3 := X.cell (j := 3) rfl
  clear hbn
  go_wp2_with fail
  go_ret
  exact ⟨rfl, by first | exact hb | (rw [← hgB]; exact hb)⟩
set_option maxRecDepth 100000 in
set_option maxHeartbeats 2000000 in
theorem gives_no_false (c sl : Int) (r p k m n : Int) (s : ByteArray) (l : List Pa) (ao : Option Addr) (cap : Nat) (w : World) (hT : Tabs w) (hE : HasPa w ao l) (hl : l.length ≤ 9223372036854775807) (hs : ∀ e, e ∈ l → e.s.size ≤ 9223372036854775807) (hz : s.size ≤ 9223372036854775807) (hf : fewP l 40 = true) (hg : longP s = false) (h0 : mkE c sl false r p k m n s ≠ 0) :
    Calls Tryd.prog 3 #[.int .i64 c, .int .i64 sl, .bool false, .agg #[.int .i64 r, .int .i64 p], .agg #[.int .i64 k, .int .i64 m, .int .i64 n, .string s], .slice ao l.length cap] w fun e w' => e = .returned (.bool true) ∧ Below w.heap.size w w' := by
  have cF := fun W (hW : Below w.heap.size w W) => few15_any l ao cap 40 W (hE.step hW) hl hs
  rw [hf] at cF
  have hshort : ¬ 300 < (s.size : Int) := by simpa [longP] using hg
  have hl40 := (fewP_small hf).1
  have hzi : (s.size : Int) ≤ 9223372036854775807 := by omega
  obtain ⟨N, hN⟩ : ∃ N, l.length = N := ⟨_, rfl⟩
  rw [hN] at cF hl40 ⊢
  clear hf hg
  have HS := Lib.hid hs
  clear hs
  have HN := Lib.hid hN
  clear hN
  have hb := From.refl w
  have cA := fun W => ask_mk c sl r p k m n s W h0
  generalize mkE c sl false r p k m n s = E at *
  go_enter Tryd.func3, Tryd.ntmps3
  go_upto_region 1 with fail
  obtain ⟨gB, hgB⟩ : ∃ g, (w).heap.size = g := ⟨_, rfl⟩
  have B := Blk.newV hgB 23 #[.int .i64 r, .int .i64 p]
  have hbn := (Below.refl (w).heap.size w).alloc (Nat.le_refl _) (.cells #[.int .i64 r, .int .i64 p] 23)
  replace hb := hb.step hbn
  clear hbn
  rw [hgB]
  have szB := alloc_size hgB (.cells #[.int .i64 r, .int .i64 p] 23)
  generalize (w).alloc (.cells #[.int .i64 r, .int .i64 p] 23) = w1 at *
  obtain ⟨gX, hgX⟩ : ∃ g, (w1).heap.size = g := ⟨_, rfl⟩
  have lt_B_X := B.lt
  rw [hgX] at lt_B_X
  have X := Blk.newV hgX 26 #[.int .i64 k, .int .i64 m, .int .i64 n, .string s]
  have hbn := (Below.refl (w1).heap.size w1).alloc (Nat.le_refl _) (.cells #[.int .i64 k, .int .i64 m, .int .i64 n, .string s] 26)
  replace hb := hb.step hbn
  replace B := B.step hbn
  clear hbn
  have egX : gB + 1 = gX := szB.symm.trans hgX
  rw [egX]
  clear szB
  generalize (w1).alloc (.cells #[.int .i64 k, .int .i64 m, .int .i64 n, .string s] 26) = w2 at *
  have hwX : w.heap.size ≤ gX := by omega
  have hwB : w.heap.size ≤ gB := by omega
  clear hgB hgX egX
  have B_0 := B.cell (j := 0) rfl
  have B_1 := B.cell (j := 1) rfl
  have X_0 := X.cell (j := 0) rfl
  have X_1 := X.cell (j := 1) rfl
  have X_2 := X.cell (j := 2) rfl
  have X_3 := X.cell (j := 3) rfl
  go_wp2_with fail
  refine (cF _ hb.out).mono ?_
  rintro e w3 ⟨rfl, hbn⟩
  replace hb := hb.step hbn
  replace B := B.step hbn
  replace B_0 := B.cell (j := 0) rfl
  replace B_1 := B.cell (j := 1) rfl
  replace X := X.step hbn
  replace X_0 := X.cell (j := 0) rfl
  replace X_1 := X.cell (j := 1) rfl
  replace X_2 := X.cell (j := 2) rfl
  replace X_3 := X.cell (j := 3) rfl
  clear hbn
  go_wp2_with fail
  refine (cA _).mono ?_
  rintro e w5 ⟨rfl, hbn⟩
  replace hb := hb.step hbn
  replace B := B.step hbn
  replace B_0 := B.cell (j := 0) rfl
  replace B_1 := B.cell (j := 1) rfl
  replace X := X.step hbn
  replace X_0 := X.cell (j := 0) rfl
  replace X_1 := X.cell (j := 1) rfl
  replace X_2 := X.cell (j := 2) rfl
  replace X_3 := X.cell (j := 3) rfl
  clear hbn
  go_wp2_with fail
  refine (num15_any _ _).mono ?_
  rintro e wx ⟨rfl, rfl⟩
  go_wp2_with fail
  refine (works15_any _ (hT.step hb.out)).mono ?_
  rintro e w4 ⟨rfl, hbn⟩
  replace hb := hb.step hbn
  replace B := B.step hbn
  replace B_0 := B.cell (j := 0) rfl
  replace B_1 := B.cell (j := 1) rfl
  replace X := X.step hbn
  replace X_0 := X.cell (j := 0) rfl
  replace X_1 := X.cell (j := 1) rfl
  replace X_2 := X.cell (j := 2) rfl
  replace X_3 := X.cell (j := 3) rfl
  clear hbn
  go_wp2_with fail
  go_ret
  exact ⟨rfl, hb⟩
set_option maxRecDepth 100000 in
set_option maxHeartbeats 2000000 in
theorem gives_no_true (c sl : Int) (r p k m n : Int) (s : ByteArray) (l : List Pa) (ao : Option Addr) (cap : Nat) (w : World) (hT : Tabs w) (hE : HasPa w ao l) (hl : l.length ≤ 9223372036854775807) (hs : ∀ e, e ∈ l → e.s.size ≤ 9223372036854775807) (hz : s.size ≤ 9223372036854775807) (hf : fewP l 40 = true) (hg : longP s = false) (h0 : mkE c sl true r p k m n s ≠ 0) :
    Calls Tryd.prog 3 #[.int .i64 c, .int .i64 sl, .bool true, .agg #[.int .i64 r, .int .i64 p], .agg #[.int .i64 k, .int .i64 m, .int .i64 n, .string s], .slice ao l.length cap] w fun e w' => e = .returned (.bool true) ∧ Below w.heap.size w w' := by
  have cF := fun W (hW : Below w.heap.size w W) => few15_any l ao cap 40 W (hE.step hW) hl hs
  rw [hf] at cF
  have hshort : ¬ 300 < (s.size : Int) := by simpa [longP] using hg
  have hl40 := (fewP_small hf).1
  have hzi : (s.size : Int) ≤ 9223372036854775807 := by omega
  obtain ⟨N, hN⟩ : ∃ N, l.length = N := ⟨_, rfl⟩
  rw [hN] at cF hl40 ⊢
  clear hf hg
  have HS := Lib.hid hs
  clear hs
  have HN := Lib.hid hN
  clear hN
  have hb := From.refl w
  have cA := fun W hW => own_mk c sl r p k m n s W hz hW h0
  generalize mkE c sl true r p k m n s = E at *
  go_enter Tryd.func3, Tryd.ntmps3
  go_upto_region 1 with fail
  obtain ⟨gB, hgB⟩ : ∃ g, (w).heap.size = g := ⟨_, rfl⟩
  have B := Blk.newV hgB 23 #[.int .i64 r, .int .i64 p]
  have hbn := (Below.refl (w).heap.size w).alloc (Nat.le_refl _) (.cells #[.int .i64 r, .int .i64 p] 23)
  replace hb := hb.step hbn
  clear hbn
  rw [hgB]
  have szB := alloc_size hgB (.cells #[.int .i64 r, .int .i64 p] 23)
  generalize (w).alloc (.cells #[.int .i64 r, .int .i64 p] 23) = w1 at *
  obtain ⟨gX, hgX⟩ : ∃ g, (w1).heap.size = g := ⟨_, rfl⟩
  have lt_B_X := B.lt
  rw [hgX] at lt_B_X
  have X := Blk.newV hgX 26 #[.int .i64 k, .int .i64 m, .int .i64 n, .string s]
  have hbn := (Below.refl (w1).heap.size w1).alloc (Nat.le_refl _) (.cells #[.int .i64 k, .int .i64 m, .int .i64 n, .string s] 26)
  replace hb := hb.step hbn
  replace B := B.step hbn
  clear hbn
  have egX : gB + 1 = gX := szB.symm.trans hgX
  rw [egX]
  clear szB
  generalize (w1).alloc (.cells #[.int .i64 k, .int .i64 m, .int .i64 n, .string s] 26) = w2 at *
  have hwX : w.heap.size ≤ gX := by omega
  have hwB : w.heap.size ≤ gB := by omega
  clear hgB hgX egX
  have B_0 := B.cell (j := 0) rfl
  have B_1 := B.cell (j := 1) rfl
  have X_0 := X.cell (j := 0) rfl
  have X_1 := X.cell (j := 1) rfl
  have X_2 := X.cell (j := 2) rfl
  have X_3 := X.cell (j := 3) rfl
  go_wp2_with fail
  refine (cF _ hb.out).mono ?_
  rintro e w3 ⟨rfl, hbn⟩
  replace hb := hb.step hbn
  replace B := B.step hbn
  replace B_0 := B.cell (j := 0) rfl
  replace B_1 := B.cell (j := 1) rfl
  replace X := X.step hbn
  replace X_0 := X.cell (j := 0) rfl
  replace X_1 := X.cell (j := 1) rfl
  replace X_2 := X.cell (j := 2) rfl
  replace X_3 := X.cell (j := 3) rfl
  clear hbn
  go_wp2_with fail
  refine (ask_some c sl r p _).mono ?_
  rintro e w5 ⟨⟨v5, E5, rfl⟩, hbn⟩
  replace hb := hb.step hbn
  replace B := B.step hbn
  replace B_0 := B.cell (j := 0) rfl
  replace B_1 := B.cell (j := 1) rfl
  replace X := X.step hbn
  replace X_0 := X.cell (j := 0) rfl
  replace X_1 := X.cell (j := 1) rfl
  replace X_2 := X.cell (j := 2) rfl
  replace X_3 := X.cell (j := 3) rfl
  clear hbn
  go_wp2_with fail
  refine (cA _ (hT.step hb.out)).mono ?_
  rintro e w6 ⟨rfl, hbn⟩
  replace hb := hb.step hbn
  replace B := B.step hbn
  replace B_0 := B.cell (j := 0) rfl
  replace B_1 := B.cell (j := 1) rfl
  replace X := X.step hbn
  replace X_0 := X.cell (j := 0) rfl
  replace X_1 := X.cell (j := 1) rfl
  replace X_2 := X.cell (j := 2) rfl
  replace X_3 := X.cell (j := 3) rfl
  clear hbn
  go_wp2_with fail
  refine (num15_any _ _).mono ?_
  rintro e wx ⟨rfl, rfl⟩
  go_wp2_with fail
  refine (works15_any _ (hT.step hb.out)).mono ?_
  rintro e w4 ⟨rfl, hbn⟩
  replace hb := hb.step hbn
  replace B := B.step hbn
  replace B_0 := B.cell (j := 0) rfl
  replace B_1 := B.cell (j := 1) rfl
  replace X := X.step hbn
  replace X_0 := X.cell (j := 0) rfl
  replace X_1 := X.cell (j := 1) rfl
  replace X_2 := X.cell (j := 2) rfl
  replace X_3 := X.cell (j := 3) rfl
  clear hbn
  go_wp2_with fail
  go_ret
  exact ⟨rfl, hb⟩
end Go.Proofs.YtnjhhedchohpkaaDoor
