
/- Package proposer: Promised, Accepted, Refused. -/
import Derived.Test.YtcahkcbenanfnaaGreatDoorPrJ
namespace Go.Proofs.YtcahkcbenanfnaaGreatDoor
set_option linter.unusedSimpArgs false
set_option linter.unusedVariables false
open Go.RowKit
/-- What may be of a proposer. -/
structure InvP (A : Prp) : Prop where
  ok : opErr A.c A.sl = 0
  ph : A.ph = 1 ∨ A.ph = 2 ∨ A.ph = 3 ∨ A.ph = 4
theorem InvP.right {A : Prp} (h : InvP A) : rightB A.c = true := by
  rcases opErr_cases A.c A.sl with h1 | h1
  · exact h1.2.1
  · exact absurd h.ok h1.1
theorem InvP.ne {A : Prp} (h : InvP A) : A.c ≠ 0 := by have := right_bd h.right; omega
def prE (A : Prp) (place : Int) (x y k m n : Int) (s : ByteArray) : Int := if inB place 0 A.c && toldB A x y k m n s then 0 else 2
def prA (A : Prp) (place : Int) (x y k m n : Int) (s : ByteArray) : Prp := if prE A place x y k m n s = 0 then (if A.ph = 1 then tellA A place.toNat x y k m n s else A) else A
def prV (A : Prp) (place : Int) (x y k m n : Int) (s : ByteArray) : Int := if prE A place x y k m n s = 0 then (prA A place x y k m n s).ph else 0
theorem inB_nat {p c : Int} (h : inB p 0 c = true) (hr : rightB c = true) : ∃ i : Nat, p = i ∧ i < 9 := by
  have hc := right_bd hr
  unfold inB at h
  simp at h
  exact ⟨p.toNat, by omega, by omega⟩
set_option maxRecDepth 100000 in
set_option maxHeartbeats 1000000 in
theorem prom_out (g : Nat) (A : Prp) (place x y k m n : Int) (s : ByteArray) (w : World) (hP : PW w g A) (hI : InvP A) (hs : s.size ≤ 9223372036854775807) (hT : Tabs w) (hin : inB place 0 A.c = false) :
    Calls Tryz.prog 11 #[.pointer (some ⟨g, 0, none⟩), .int .i64 place, .agg #[.int .i64 x, .int .i64 y, .int .i64 k, .int .i64 m, .int .i64 n, .string s]] w fun e w' => e = .returned (.tuple #[.int .i64 0, .int .i64 2]) ∧ PW w' g A ∧ Kx [g] w w' := by
  go_enter Tryz.func11, Tryz.ntmps11
  go_upto_region 1 with fail
  have hb := From.refl w
  obtain ⟨gBP, hgBP⟩ : ∃ g, (w).heap.size = g := ⟨_, rfl⟩
  have lt_hP_BP := hP.lt
  rw [hgBP] at lt_hP_BP
  have BP := Blk.newV hgBP 30 #[.pointer (some ⟨g, 0, none⟩)]
  have hbn := (Below.refl (w).heap.size w).alloc (Nat.le_refl _) (.cells #[.pointer (some ⟨g, 0, none⟩)] 30)
  replace hb := hb.step hbn
  replace hP := hP.step hbn
  clear hbn
  rw [hgBP]
  have szBP := alloc_size hgBP (.cells #[.pointer (some ⟨g, 0, none⟩)] 30)
  generalize (w).alloc (.cells #[.pointer (some ⟨g, 0, none⟩)] 30) = w1 at *
  obtain ⟨gBI, hgBI⟩ : ∃ g, (w1).heap.size = g := ⟨_, rfl⟩
  have lt_hP_BI := hP.lt
  rw [hgBI] at lt_hP_BI
  have lt_BP_BI := BP.lt
  rw [hgBI] at lt_BP_BI
  have BI := Blk.newV hgBI 3 #[.int .i64 place]
  have hbn := (Below.refl (w1).heap.size w1).alloc (Nat.le_refl _) (.cells #[.int .i64 place] 3)
  replace hb := hb.step hbn
  replace hP := hP.step hbn
  replace BP := BP.step hbn
  clear hbn
  have egBI : gBP + 1 = gBI := szBP.symm.trans hgBI
  rw [egBI]
  clear szBP
  have szBI := alloc_size hgBI (.cells #[.int .i64 place] 3)
  generalize (w1).alloc (.cells #[.int .i64 place] 3) = w2 at *
  obtain ⟨gBA, hgBA⟩ : ∃ g, (w2).heap.size = g := ⟨_, rfl⟩
  have lt_hP_BA := hP.lt
  rw [hgBA] at lt_hP_BA
  have lt_BP_BA := BP.lt
  rw [hgBA] at lt_BP_BA
  have lt_BI_BA := BI.lt
  rw [hgBA] at lt_BI_BA
  have BA := Blk.newV hgBA 33 #[.int .i64 x, .int .i64 y, .int .i64 k, .int .i64 m, .int .i64 n, .string s]
  have hbn := (Below.refl (w2).heap.size w2).alloc (Nat.le_refl _) (.cells #[.int .i64 x, .int .i64 y, .int .i64 k, .int .i64 m, .int .i64 n, .string s] 33)
  replace hb := hb.step hbn
  replace hP := hP.step hbn
  replace BP := BP.step hbn
  replace BI := BI.step hbn
  clear hbn
  have egBA : gBI + 1 = gBA := szBI.symm.trans hgBA
  rw [egBA]
  clear szBI
  generalize (w2).alloc (.cells #[.int .i64 x, .int .i64 y, .int .i64 k, .int .i64 m, .int .i64 n, .string s] 33) = w3 at *
  go_upto_region 3 with fail
  obtain ⟨gBF, hgBF⟩ : ∃ g, (w3).heap.size = g := ⟨_, rfl⟩
  have lt_hP_BF := hP.lt
  rw [hgBF] at lt_hP_BF
  have lt_BP_BF := BP.lt
  rw [hgBF] at lt_BP_BF
  have lt_BI_BF := BI.lt
  rw [hgBF] at lt_BI_BF
  have lt_BA_BF := BA.lt
  rw [hgBF] at lt_BA_BF
  have BF := Blk.newV hgBF 125 #[.func (.func 50) #[] #[]]
  have hbn := (Below.refl (w3).heap.size w3).alloc (Nat.le_refl _) (.cells #[.func (.func 50) #[] #[]] 125)
  replace hb := hb.step hbn
  replace hP := hP.step hbn
  replace BP := BP.step hbn
  replace BI := BI.step hbn
  replace BA := BA.step hbn
  clear hbn
  rw [hgBF]
  generalize (w3).alloc (.cells #[.func (.func 50) #[] #[]] 125) = w4 at *
  have BP_0 := BP.cell (j := 0) rfl
  have BI_0 := BI.cell (j := 0) rfl
  have cS := fun W (hW : Below w4.heap.size w4 W) => tell1_any gBA gBP g A x y k m n s W (hP.step hW) (BA.step hW) (BP.step hW) hs ((hT.step hb.out).step hW)
  go_wp2_with fail
  refine (hear_out g A place _ _ _ _ _ _ _ hP hI.ne hin).mono ?_
  rintro e w5 ⟨rfl, hbn⟩
  replace hb := hb.step hbn
  replace hP := hP.step hbn
  replace BP := BP.step hbn
  replace BI := BI.step hbn
  replace BA := BA.step hbn
  replace BF := BF.step hbn
  go_wp2_with fail
  go_ret2
  exact ⟨rfl, hP, (Kx.refl [g] w).step hb.out⟩
set_option maxRecDepth 100000 in
set_option maxHeartbeats 1000000 in
theorem prom_bad (g : Nat) (A : Prp) (place x y k m n : Int) (s : ByteArray) (w : World) (hP : PW w g A) (hI : InvP A) (hs : s.size ≤ 9223372036854775807) (hT : Tabs w) (hin : inB place 0 A.c = true) (ht : toldB A x y k m n s = false) :
    Calls Tryz.prog 11 #[.pointer (some ⟨g, 0, none⟩), .int .i64 place, .agg #[.int .i64 x, .int .i64 y, .int .i64 k, .int .i64 m, .int .i64 n, .string s]] w fun e w' => e = .returned (.tuple #[.int .i64 0, .int .i64 2]) ∧ PW w' g A ∧ Kx [g] w w' := by
  go_enter Tryz.func11, Tryz.ntmps11
  go_upto_region 1 with fail
  have hb := From.refl w
  obtain ⟨gBP, hgBP⟩ : ∃ g, (w).heap.size = g := ⟨_, rfl⟩
  have lt_hP_BP := hP.lt
  rw [hgBP] at lt_hP_BP
  have BP := Blk.newV hgBP 30 #[.pointer (some ⟨g, 0, none⟩)]
  have hbn := (Below.refl (w).heap.size w).alloc (Nat.le_refl _) (.cells #[.pointer (some ⟨g, 0, none⟩)] 30)
  replace hb := hb.step hbn
  replace hP := hP.step hbn
  clear hbn
  rw [hgBP]
  have szBP := alloc_size hgBP (.cells #[.pointer (some ⟨g, 0, none⟩)] 30)
  generalize (w).alloc (.cells #[.pointer (some ⟨g, 0, none⟩)] 30) = w1 at *
  obtain ⟨gBI, hgBI⟩ : ∃ g, (w1).heap.size = g := ⟨_, rfl⟩
  have lt_hP_BI := hP.lt
  rw [hgBI] at lt_hP_BI
  have lt_BP_BI := BP.lt
  rw [hgBI] at lt_BP_BI
  have BI := Blk.newV hgBI 3 #[.int .i64 place]
  have hbn := (Below.refl (w1).heap.size w1).alloc (Nat.le_refl _) (.cells #[.int .i64 place] 3)
  replace hb := hb.step hbn
  replace hP := hP.step hbn
  replace BP := BP.step hbn
  clear hbn
  have egBI : gBP + 1 = gBI := szBP.symm.trans hgBI
  rw [egBI]
  clear szBP
  have szBI := alloc_size hgBI (.cells #[.int .i64 place] 3)
  generalize (w1).alloc (.cells #[.int .i64 place] 3) = w2 at *
  obtain ⟨gBA, hgBA⟩ : ∃ g, (w2).heap.size = g := ⟨_, rfl⟩
  have lt_hP_BA := hP.lt
  rw [hgBA] at lt_hP_BA
  have lt_BP_BA := BP.lt
  rw [hgBA] at lt_BP_BA
  have lt_BI_BA := BI.lt
  rw [hgBA] at lt_BI_BA
  have BA := Blk.newV hgBA 33 #[.int .i64 x, .int .i64 y, .int .i64 k, .int .i64 m, .int .i64 n, .string s]
  have hbn := (Below.refl (w2).heap.size w2).alloc (Nat.le_refl _) (.cells #[.int .i64 x, .int .i64 y, .int .i64 k, .int .i64 m, .int .i64 n, .string s] 33)
  replace hb := hb.step hbn
  replace hP := hP.step hbn
  replace BP := BP.step hbn
  replace BI := BI.step hbn
  clear hbn
  have egBA : gBI + 1 = gBA := szBI.symm.trans hgBA
  rw [egBA]
  clear szBI
  generalize (w2).alloc (.cells #[.int .i64 x, .int .i64 y, .int .i64 k, .int .i64 m, .int .i64 n, .string s] 33) = w3 at *
  go_upto_region 3 with fail
  obtain ⟨gBF, hgBF⟩ : ∃ g, (w3).heap.size = g := ⟨_, rfl⟩
  have lt_hP_BF := hP.lt
  rw [hgBF] at lt_hP_BF
  have lt_BP_BF := BP.lt
  rw [hgBF] at lt_BP_BF
  have lt_BI_BF := BI.lt
  rw [hgBF] at lt_BI_BF
  have lt_BA_BF := BA.lt
  rw [hgBF] at lt_BA_BF
  have BF := Blk.newV hgBF 125 #[.func (.func 50) #[] #[]]
  have hbn := (Below.refl (w3).heap.size w3).alloc (Nat.le_refl _) (.cells #[.func (.func 50) #[] #[]] 125)
  replace hb := hb.step hbn
  replace hP := hP.step hbn
  replace BP := BP.step hbn
  replace BI := BI.step hbn
  replace BA := BA.step hbn
  clear hbn
  rw [hgBF]
  generalize (w3).alloc (.cells #[.func (.func 50) #[] #[]] 125) = w4 at *
  have BP_0 := BP.cell (j := 0) rfl
  have BI_0 := BI.cell (j := 0) rfl
  have cS := fun W (hW : Below w4.heap.size w4 W) => tell1_any gBA gBP g A x y k m n s W (hP.step hW) (BA.step hW) (BP.step hW) hs ((hT.step hb.out).step hW)
  rw [ht] at cS
  go_wp2_with fail
  refine (hear_bad_prom g A place _ _ _ _ _ _ _ _ hP hI.ne hin cS).mono ?_
  rintro e w5 ⟨rfl, hbn⟩
  replace hb := hb.step hbn
  replace hP := hP.step hbn
  replace BP := BP.step hbn
  replace BI := BI.step hbn
  replace BA := BA.step hbn
  replace BF := BF.step hbn
  go_wp2_with fail
  go_ret2
  exact ⟨rfl, hP, (Kx.refl [g] w).step hb.out⟩
set_option maxRecDepth 100000 in
set_option maxHeartbeats 1000000 in
theorem prom_idle2 (g : Nat) (A : Prp) (place x y k m n : Int) (s : ByteArray) (w : World) (hP : PW w g A) (hI : InvP A) (hs : s.size ≤ 9223372036854775807) (hT : Tabs w) (hin : inB place 0 A.c = true) (ht : toldB A x y k m n s = true) (hph : A.ph = 2) :
    Calls Tryz.prog 11 #[.pointer (some ⟨g, 0, none⟩), .int .i64 place, .agg #[.int .i64 x, .int .i64 y, .int .i64 k, .int .i64 m, .int .i64 n, .string s]] w fun e w' => e = .returned (.tuple #[.int .i64 2, .int .i64 0]) ∧ PW w' g A ∧ Kx [g] w w' := by
  go_enter Tryz.func11, Tryz.ntmps11
  go_upto_region 1 with fail
  have hb := From.refl w
  obtain ⟨gBP, hgBP⟩ : ∃ g, (w).heap.size = g := ⟨_, rfl⟩
  have lt_hP_BP := hP.lt
  rw [hgBP] at lt_hP_BP
  have BP := Blk.newV hgBP 30 #[.pointer (some ⟨g, 0, none⟩)]
  have hbn := (Below.refl (w).heap.size w).alloc (Nat.le_refl _) (.cells #[.pointer (some ⟨g, 0, none⟩)] 30)
  replace hb := hb.step hbn
  replace hP := hP.step hbn
  clear hbn
  rw [hgBP]
  have szBP := alloc_size hgBP (.cells #[.pointer (some ⟨g, 0, none⟩)] 30)
  generalize (w).alloc (.cells #[.pointer (some ⟨g, 0, none⟩)] 30) = w1 at *
  obtain ⟨gBI, hgBI⟩ : ∃ g, (w1).heap.size = g := ⟨_, rfl⟩
  have lt_hP_BI := hP.lt
  rw [hgBI] at lt_hP_BI
  have lt_BP_BI := BP.lt
  rw [hgBI] at lt_BP_BI
  have BI := Blk.newV hgBI 3 #[.int .i64 place]
  have hbn := (Below.refl (w1).heap.size w1).alloc (Nat.le_refl _) (.cells #[.int .i64 place] 3)
  replace hb := hb.step hbn
  replace hP := hP.step hbn
  replace BP := BP.step hbn
  clear hbn
  have egBI : gBP + 1 = gBI := szBP.symm.trans hgBI
  rw [egBI]
  clear szBP
  have szBI := alloc_size hgBI (.cells #[.int .i64 place] 3)
  generalize (w1).alloc (.cells #[.int .i64 place] 3) = w2 at *
  obtain ⟨gBA, hgBA⟩ : ∃ g, (w2).heap.size = g := ⟨_, rfl⟩
  have lt_hP_BA := hP.lt
  rw [hgBA] at lt_hP_BA
  have lt_BP_BA := BP.lt
  rw [hgBA] at lt_BP_BA
  have lt_BI_BA := BI.lt
  rw [hgBA] at lt_BI_BA
  have BA := Blk.newV hgBA 33 #[.int .i64 x, .int .i64 y, .int .i64 k, .int .i64 m, .int .i64 n, .string s]
  have hbn := (Below.refl (w2).heap.size w2).alloc (Nat.le_refl _) (.cells #[.int .i64 x, .int .i64 y, .int .i64 k, .int .i64 m, .int .i64 n, .string s] 33)
  replace hb := hb.step hbn
  replace hP := hP.step hbn
  replace BP := BP.step hbn
  replace BI := BI.step hbn
  clear hbn
  have egBA : gBI + 1 = gBA := szBI.symm.trans hgBA
  rw [egBA]
  clear szBI
  generalize (w2).alloc (.cells #[.int .i64 x, .int .i64 y, .int .i64 k, .int .i64 m, .int .i64 n, .string s] 33) = w3 at *
  go_upto_region 3 with fail
  obtain ⟨gBF, hgBF⟩ : ∃ g, (w3).heap.size = g := ⟨_, rfl⟩
  have lt_hP_BF := hP.lt
  rw [hgBF] at lt_hP_BF
  have lt_BP_BF := BP.lt
  rw [hgBF] at lt_BP_BF
  have lt_BI_BF := BI.lt
  rw [hgBF] at lt_BI_BF
  have lt_BA_BF := BA.lt
  rw [hgBF] at lt_BA_BF
  have BF := Blk.newV hgBF 125 #[.func (.func 50) #[] #[]]
  have hbn := (Below.refl (w3).heap.size w3).alloc (Nat.le_refl _) (.cells #[.func (.func 50) #[] #[]] 125)
  replace hb := hb.step hbn
  replace hP := hP.step hbn
  replace BP := BP.step hbn
  replace BI := BI.step hbn
  replace BA := BA.step hbn
  clear hbn
  rw [hgBF]
  generalize (w3).alloc (.cells #[.func (.func 50) #[] #[]] 125) = w4 at *
  have BP_0 := BP.cell (j := 0) rfl
  have BI_0 := BI.cell (j := 0) rfl
  have cS := fun W (hW : Below w4.heap.size w4 W) => tell1_any gBA gBP g A x y k m n s W (hP.step hW) (BA.step hW) (BP.step hW) hs ((hT.step hb.out).step hW)
  rw [ht] at cS
  go_wp2_with fail
  refine (hear_idle_prom_2 g A place _ _ _ _ _ _ _ hP hI.ne hin hph cS).mono ?_
  rintro e w5 ⟨rfl, hbn⟩
  replace hb := hb.step hbn
  replace hP := hP.step hbn
  replace BP := BP.step hbn
  replace BI := BI.step hbn
  replace BA := BA.step hbn
  replace BF := BF.step hbn
  go_wp2_with fail
  go_ret2
  exact ⟨rfl, hP, (Kx.refl [g] w).step hb.out⟩
set_option maxRecDepth 100000 in
set_option maxHeartbeats 1000000 in
theorem prom_idle3 (g : Nat) (A : Prp) (place x y k m n : Int) (s : ByteArray) (w : World) (hP : PW w g A) (hI : InvP A) (hs : s.size ≤ 9223372036854775807) (hT : Tabs w) (hin : inB place 0 A.c = true) (ht : toldB A x y k m n s = true) (hph : A.ph = 3) :
    Calls Tryz.prog 11 #[.pointer (some ⟨g, 0, none⟩), .int .i64 place, .agg #[.int .i64 x, .int .i64 y, .int .i64 k, .int .i64 m, .int .i64 n, .string s]] w fun e w' => e = .returned (.tuple #[.int .i64 3, .int .i64 0]) ∧ PW w' g A ∧ Kx [g] w w' := by
  go_enter Tryz.func11, Tryz.ntmps11
  go_upto_region 1 with fail
  have hb := From.refl w
  obtain ⟨gBP, hgBP⟩ : ∃ g, (w).heap.size = g := ⟨_, rfl⟩
  have lt_hP_BP := hP.lt
  rw [hgBP] at lt_hP_BP
  have BP := Blk.newV hgBP 30 #[.pointer (some ⟨g, 0, none⟩)]
  have hbn := (Below.refl (w).heap.size w).alloc (Nat.le_refl _) (.cells #[.pointer (some ⟨g, 0, none⟩)] 30)
  replace hb := hb.step hbn
  replace hP := hP.step hbn
  clear hbn
  rw [hgBP]
  have szBP := alloc_size hgBP (.cells #[.pointer (some ⟨g, 0, none⟩)] 30)
  generalize (w).alloc (.cells #[.pointer (some ⟨g, 0, none⟩)] 30) = w1 at *
  obtain ⟨gBI, hgBI⟩ : ∃ g, (w1).heap.size = g := ⟨_, rfl⟩
  have lt_hP_BI := hP.lt
  rw [hgBI] at lt_hP_BI
  have lt_BP_BI := BP.lt
  rw [hgBI] at lt_BP_BI
  have BI := Blk.newV hgBI 3 #[.int .i64 place]
  have hbn := (Below.refl (w1).heap.size w1).alloc (Nat.le_refl _) (.cells #[.int .i64 place] 3)
  replace hb := hb.step hbn
  replace hP := hP.step hbn
  replace BP := BP.step hbn
  clear hbn
  have egBI : gBP + 1 = gBI := szBP.symm.trans hgBI
  rw [egBI]
  clear szBP
  have szBI := alloc_size hgBI (.cells #[.int .i64 place] 3)
  generalize (w1).alloc (.cells #[.int .i64 place] 3) = w2 at *
  obtain ⟨gBA, hgBA⟩ : ∃ g, (w2).heap.size = g := ⟨_, rfl⟩
  have lt_hP_BA := hP.lt
  rw [hgBA] at lt_hP_BA
  have lt_BP_BA := BP.lt
  rw [hgBA] at lt_BP_BA
  have lt_BI_BA := BI.lt
  rw [hgBA] at lt_BI_BA
  have BA := Blk.newV hgBA 33 #[.int .i64 x, .int .i64 y, .int .i64 k, .int .i64 m, .int .i64 n, .string s]
  have hbn := (Below.refl (w2).heap.size w2).alloc (Nat.le_refl _) (.cells #[.int .i64 x, .int .i64 y, .int .i64 k, .int .i64 m, .int .i64 n, .string s] 33)
  replace hb := hb.step hbn
  replace hP := hP.step hbn
  replace BP := BP.step hbn
  replace BI := BI.step hbn
  clear hbn
  have egBA : gBI + 1 = gBA := szBI.symm.trans hgBA
  rw [egBA]
  clear szBI
  generalize (w2).alloc (.cells #[.int .i64 x, .int .i64 y, .int .i64 k, .int .i64 m, .int .i64 n, .string s] 33) = w3 at *
  go_upto_region 3 with fail
  obtain ⟨gBF, hgBF⟩ : ∃ g, (w3).heap.size = g := ⟨_, rfl⟩
  have lt_hP_BF := hP.lt
  rw [hgBF] at lt_hP_BF
  have lt_BP_BF := BP.lt
  rw [hgBF] at lt_BP_BF
  have lt_BI_BF := BI.lt
  rw [hgBF] at lt_BI_BF
  have lt_BA_BF := BA.lt
  rw [hgBF] at lt_BA_BF
  have BF := Blk.newV hgBF 125 #[.func (.func 50) #[] #[]]
  have hbn := (Below.refl (w3).heap.size w3).alloc (Nat.le_refl _) (.cells #[.func (.func 50) #[] #[]] 125)
  replace hb := hb.step hbn
  replace hP := hP.step hbn
  replace BP := BP.step hbn
  replace BI := BI.step hbn
  replace BA := BA.step hbn
  clear hbn
  rw [hgBF]
  generalize (w3).alloc (.cells #[.func (.func 50) #[] #[]] 125) = w4 at *
  have BP_0 := BP.cell (j := 0) rfl
  have BI_0 := BI.cell (j := 0) rfl
  have cS := fun W (hW : Below w4.heap.size w4 W) => tell1_any gBA gBP g A x y k m n s W (hP.step hW) (BA.step hW) (BP.step hW) hs ((hT.step hb.out).step hW)
  rw [ht] at cS
  go_wp2_with fail
  refine (hear_idle_prom_3 g A place _ _ _ _ _ _ _ hP hI.ne hin hph cS).mono ?_
  rintro e w5 ⟨rfl, hbn⟩
  replace hb := hb.step hbn
  replace hP := hP.step hbn
  replace BP := BP.step hbn
  replace BI := BI.step hbn
  replace BA := BA.step hbn
  replace BF := BF.step hbn
  go_wp2_with fail
  go_ret2
  exact ⟨rfl, hP, (Kx.refl [g] w).step hb.out⟩
set_option maxRecDepth 100000 in
set_option maxHeartbeats 1000000 in
theorem prom_idle4 (g : Nat) (A : Prp) (place x y k m n : Int) (s : ByteArray) (w : World) (hP : PW w g A) (hI : InvP A) (hs : s.size ≤ 9223372036854775807) (hT : Tabs w) (hin : inB place 0 A.c = true) (ht : toldB A x y k m n s = true) (hph : A.ph = 4) :
    Calls Tryz.prog 11 #[.pointer (some ⟨g, 0, none⟩), .int .i64 place, .agg #[.int .i64 x, .int .i64 y, .int .i64 k, .int .i64 m, .int .i64 n, .string s]] w fun e w' => e = .returned (.tuple #[.int .i64 4, .int .i64 0]) ∧ PW w' g A ∧ Kx [g] w w' := by
  go_enter Tryz.func11, Tryz.ntmps11
  go_upto_region 1 with fail
  have hb := From.refl w
  obtain ⟨gBP, hgBP⟩ : ∃ g, (w).heap.size = g := ⟨_, rfl⟩
  have lt_hP_BP := hP.lt
  rw [hgBP] at lt_hP_BP
  have BP := Blk.newV hgBP 30 #[.pointer (some ⟨g, 0, none⟩)]
  have hbn := (Below.refl (w).heap.size w).alloc (Nat.le_refl _) (.cells #[.pointer (some ⟨g, 0, none⟩)] 30)
  replace hb := hb.step hbn
  replace hP := hP.step hbn
  clear hbn
  rw [hgBP]
  have szBP := alloc_size hgBP (.cells #[.pointer (some ⟨g, 0, none⟩)] 30)
  generalize (w).alloc (.cells #[.pointer (some ⟨g, 0, none⟩)] 30) = w1 at *
  obtain ⟨gBI, hgBI⟩ : ∃ g, (w1).heap.size = g := ⟨_, rfl⟩
  have lt_hP_BI := hP.lt
  rw [hgBI] at lt_hP_BI
  have lt_BP_BI := BP.lt
  rw [hgBI] at lt_BP_BI
  have BI := Blk.newV hgBI 3 #[.int .i64 place]
  have hbn := (Below.refl (w1).heap.size w1).alloc (Nat.le_refl _) (.cells #[.int .i64 place] 3)
  replace hb := hb.step hbn
  replace hP := hP.step hbn
  replace BP := BP.step hbn
  clear hbn
  have egBI : gBP + 1 = gBI := szBP.symm.trans hgBI
  rw [egBI]
  clear szBP
  have szBI := alloc_size hgBI (.cells #[.int .i64 place] 3)
  generalize (w1).alloc (.cells #[.int .i64 place] 3) = w2 at *
  obtain ⟨gBA, hgBA⟩ : ∃ g, (w2).heap.size = g := ⟨_, rfl⟩
  have lt_hP_BA := hP.lt
  rw [hgBA] at lt_hP_BA
  have lt_BP_BA := BP.lt
  rw [hgBA] at lt_BP_BA
  have lt_BI_BA := BI.lt
  rw [hgBA] at lt_BI_BA
  have BA := Blk.newV hgBA 33 #[.int .i64 x, .int .i64 y, .int .i64 k, .int .i64 m, .int .i64 n, .string s]
  have hbn := (Below.refl (w2).heap.size w2).alloc (Nat.le_refl _) (.cells #[.int .i64 x, .int .i64 y, .int .i64 k, .int .i64 m, .int .i64 n, .string s] 33)
  replace hb := hb.step hbn
  replace hP := hP.step hbn
  replace BP := BP.step hbn
  replace BI := BI.step hbn
  clear hbn
  have egBA : gBI + 1 = gBA := szBI.symm.trans hgBA
  rw [egBA]
  clear szBI
  generalize (w2).alloc (.cells #[.int .i64 x, .int .i64 y, .int .i64 k, .int .i64 m, .int .i64 n, .string s] 33) = w3 at *
  go_upto_region 3 with fail
  obtain ⟨gBF, hgBF⟩ : ∃ g, (w3).heap.size = g := ⟨_, rfl⟩
  have lt_hP_BF := hP.lt
  rw [hgBF] at lt_hP_BF
  have lt_BP_BF := BP.lt
  rw [hgBF] at lt_BP_BF
  have lt_BI_BF := BI.lt
  rw [hgBF] at lt_BI_BF
  have lt_BA_BF := BA.lt
  rw [hgBF] at lt_BA_BF
  have BF := Blk.newV hgBF 125 #[.func (.func 50) #[] #[]]
  have hbn := (Below.refl (w3).heap.size w3).alloc (Nat.le_refl _) (.cells #[.func (.func 50) #[] #[]] 125)
  replace hb := hb.step hbn
  replace hP := hP.step hbn
  replace BP := BP.step hbn
  replace BI := BI.step hbn
  replace BA := BA.step hbn
  clear hbn
  rw [hgBF]
  generalize (w3).alloc (.cells #[.func (.func 50) #[] #[]] 125) = w4 at *
  have BP_0 := BP.cell (j := 0) rfl
  have BI_0 := BI.cell (j := 0) rfl
  have cS := fun W (hW : Below w4.heap.size w4 W) => tell1_any gBA gBP g A x y k m n s W (hP.step hW) (BA.step hW) (BP.step hW) hs ((hT.step hb.out).step hW)
  rw [ht] at cS
  go_wp2_with fail
  refine (hear_idle_prom_4 g A place _ _ _ _ _ _ _ hP hI.ne hin hph cS).mono ?_
  rintro e w5 ⟨rfl, hbn⟩
  replace hb := hb.step hbn
  replace hP := hP.step hbn
  replace BP := BP.step hbn
  replace BI := BI.step hbn
  replace BA := BA.step hbn
  replace BF := BF.step hbn
  go_wp2_with fail
  go_ret2
  exact ⟨rfl, hP, (Kx.refl [g] w).step hb.out⟩
set_option maxRecDepth 100000 in
set_option maxHeartbeats 1000000 in
theorem prom_do (g : Nat) (A : Prp) (place x y k m n : Int) (s : ByteArray) (w : World) (hP : PW w g A) (hI : InvP A) (hs : s.size ≤ 9223372036854775807) (hT : Tabs w) (hin : inB place 0 A.c = true) (ht : toldB A x y k m n s = true) (hph : A.ph = 1) :
    Calls Tryz.prog 11 #[.pointer (some ⟨g, 0, none⟩), .int .i64 place, .agg #[.int .i64 x, .int .i64 y, .int .i64 k, .int .i64 m, .int .i64 n, .string s]] w fun e w' => e = .returned (.tuple #[.int .i64 (tellA A place.toNat x y k m n s).ph, .int .i64 0]) ∧ PW w' g (tellA A place.toNat x y k m n s) ∧ Kx [g] w w' := by
  obtain ⟨i, rfl, hi9⟩ := inB_nat hin hI.right
  obtain ⟨place, hpl⟩ : ∃ p : Int, (i : Int) = p := ⟨_, rfl⟩
  rw [Int.toNat_natCast, hpl]
  rw [hpl] at hin
  obtain ⟨A2, hA2⟩ : ∃ A2, tellA A i x y k m n s = A2 := ⟨_, rfl⟩
  rw [hA2]
  go_enter Tryz.func11, Tryz.ntmps11
  go_upto_region 1 with fail
  have hb := From.refl w
  obtain ⟨gBP, hgBP⟩ : ∃ g, (w).heap.size = g := ⟨_, rfl⟩
  have lt_hP_BP := hP.lt
  rw [hgBP] at lt_hP_BP
  have BP := Blk.newV hgBP 30 #[.pointer (some ⟨g, 0, none⟩)]
  have hbn := (Below.refl (w).heap.size w).alloc (Nat.le_refl _) (.cells #[.pointer (some ⟨g, 0, none⟩)] 30)
  replace hb := hb.step hbn
  replace hP := hP.step hbn
  clear hbn
  rw [hgBP]
  have szBP := alloc_size hgBP (.cells #[.pointer (some ⟨g, 0, none⟩)] 30)
  generalize (w).alloc (.cells #[.pointer (some ⟨g, 0, none⟩)] 30) = w1 at *
  obtain ⟨gBI, hgBI⟩ : ∃ g, (w1).heap.size = g := ⟨_, rfl⟩
  have lt_hP_BI := hP.lt
  rw [hgBI] at lt_hP_BI
  have lt_BP_BI := BP.lt
  rw [hgBI] at lt_BP_BI
  have BI := Blk.newV hgBI 3 #[.int .i64 place]
  have hbn := (Below.refl (w1).heap.size w1).alloc (Nat.le_refl _) (.cells #[.int .i64 place] 3)
  replace hb := hb.step hbn
  replace hP := hP.step hbn
  replace BP := BP.step hbn
  clear hbn
  have egBI : gBP + 1 = gBI := szBP.symm.trans hgBI
  rw [egBI]
  clear szBP
  have szBI := alloc_size hgBI (.cells #[.int .i64 place] 3)
  generalize (w1).alloc (.cells #[.int .i64 place] 3) = w2 at *
  obtain ⟨gBA, hgBA⟩ : ∃ g, (w2).heap.size = g := ⟨_, rfl⟩
  have lt_hP_BA := hP.lt
  rw [hgBA] at lt_hP_BA
  have lt_BP_BA := BP.lt
  rw [hgBA] at lt_BP_BA
  have lt_BI_BA := BI.lt
  rw [hgBA] at lt_BI_BA
  have BA := Blk.newV hgBA 33 #[.int .i64 x, .int .i64 y, .int .i64 k, .int .i64 m, .int .i64 n, .string s]
  have hbn := (Below.refl (w2).heap.size w2).alloc (Nat.le_refl _) (.cells #[.int .i64 x, .int .i64 y, .int .i64 k, .int .i64 m, .int .i64 n, .string s] 33)
  replace hb := hb.step hbn
  replace hP := hP.step hbn
  replace BP := BP.step hbn
  replace BI := BI.step hbn
  clear hbn
  have egBA : gBI + 1 = gBA := szBI.symm.trans hgBA
  rw [egBA]
  clear szBI
  generalize (w2).alloc (.cells #[.int .i64 x, .int .i64 y, .int .i64 k, .int .i64 m, .int .i64 n, .string s] 33) = w3 at *
  go_upto_region 3 with fail
  obtain ⟨gBF, hgBF⟩ : ∃ g, (w3).heap.size = g := ⟨_, rfl⟩
  have lt_hP_BF := hP.lt
  rw [hgBF] at lt_hP_BF
  have lt_BP_BF := BP.lt
  rw [hgBF] at lt_BP_BF
  have lt_BI_BF := BI.lt
  rw [hgBF] at lt_BI_BF
  have lt_BA_BF := BA.lt
  rw [hgBF] at lt_BA_BF
  have BF := Blk.newV hgBF 125 #[.func (.func 50) #[] #[]]
  have hbn := (Below.refl (w3).heap.size w3).alloc (Nat.le_refl _) (.cells #[.func (.func 50) #[] #[]] 125)
  replace hb := hb.step hbn
  replace hP := hP.step hbn
  replace BP := BP.step hbn
  replace BI := BI.step hbn
  replace BA := BA.step hbn
  clear hbn
  rw [hgBF]
  generalize (w3).alloc (.cells #[.func (.func 50) #[] #[]] 125) = w4 at *
  have BP_0 := BP.cell (j := 0) rfl
  have BI_0 := BI.cell (j := 0) rfl
  have cS := fun W (hW : Below w4.heap.size w4 W) => tell1_any gBA gBP g A x y k m n s W (hP.step hW) (BA.step hW) (BP.step hW) hs ((hT.step hb.out).step hW)
  rw [ht] at cS
  have cD := fun W (hW : Below w4.heap.size w4 W) => tell3_any gBP gBI gBF gBA g i A x y k m n s W (hP.step hW) (BP.step hW) (by rw [hpl]; exact BI.step hW) (BF.step hW) (BA.step hW) hI.right hi9 (by simp; omega) (by simp; omega) (by simp; omega) (by simp; omega)
  rw [hA2] at cD
  go_wp2_with fail
  refine (hear_do_prom_1 g A A2 place _ _ _ _ _ _ _ _ _ _ _ hP hI.ne hin hph cS cD).mono ?_
  rintro e w5 ⟨rfl, hP2, hk⟩
  go_wp2_with fail
  go_ret2
  exact ⟨rfl, hP2, ((Kx.refl [g] w).step hb.out).trans hk⟩
theorem prom_any (g : Nat) (A : Prp) (place x y k m n : Int) (s : ByteArray) (w : World) (hP : PW w g A) (hI : InvP A) (hs : s.size ≤ 9223372036854775807) (hT : Tabs w) :
    Calls Tryz.prog 11 #[.pointer (some ⟨g, 0, none⟩), .int .i64 place, .agg #[.int .i64 x, .int .i64 y, .int .i64 k, .int .i64 m, .int .i64 n, .string s]] w fun e w' => e = .returned (.tuple #[.int .i64 (prV A place x y k m n s), .int .i64 (prE A place x y k m n s)]) ∧ PW w' g (prA A place x y k m n s) ∧ Kx [g] w w' := by
  unfold prV prA prE
  cases hin : inB place 0 A.c
  · simpa using prom_out g A place x y k m n s w hP hI hs hT hin
  · cases ht : toldB A x y k m n s
    · simpa using prom_bad g A place x y k m n s w hP hI hs hT hin ht
    · rcases hI.ph with h | h | h | h
      · simpa [h] using prom_do g A place x y k m n s w hP hI hs hT hin ht h
      · simpa [h] using prom_idle2 g A place x y k m n s w hP hI hs hT hin ht h
      · simpa [h] using prom_idle3 g A place x y k m n s w hP hI hs hT hin ht h
      · simpa [h] using prom_idle4 g A place x y k m n s w hP hI hs hT hin ht h
def acE (A : Prp) (place : Int) : Int := if inB place 0 A.c then 0 else 2
def acA (A : Prp) (place : Int) : Prp := if acE A place = 0 then (if A.ph = 2 then takeA A place.toNat else A) else A
def acVv (A : Prp) (place : Int) : Int := if acE A place = 0 then (acA A place).ph else 0
set_option maxRecDepth 100000 in
set_option maxHeartbeats 1000000 in
theorem acc_out (g : Nat) (A : Prp) (place : Int) (w : World) (hP : PW w g A) (hI : InvP A) (hin : inB place 0 A.c = false) :
    Calls Tryz.prog 13 #[.pointer (some ⟨g, 0, none⟩), .int .i64 place] w fun e w' => e = .returned (.tuple #[.int .i64 0, .int .i64 2]) ∧ PW w' g A ∧ Kx [g] w w' := by
  go_enter Tryz.func13, Tryz.ntmps13
  go_upto_region 1 with fail
  have hb := From.refl w
  obtain ⟨gBP, hgBP⟩ : ∃ g, (w).heap.size = g := ⟨_, rfl⟩
  have lt_hP_BP := hP.lt
  rw [hgBP] at lt_hP_BP
  have BP := Blk.newV hgBP 30 #[.pointer (some ⟨g, 0, none⟩)]
  have hbn := (Below.refl (w).heap.size w).alloc (Nat.le_refl _) (.cells #[.pointer (some ⟨g, 0, none⟩)] 30)
  replace hb := hb.step hbn
  replace hP := hP.step hbn
  clear hbn
  rw [hgBP]
  have szBP := alloc_size hgBP (.cells #[.pointer (some ⟨g, 0, none⟩)] 30)
  generalize (w).alloc (.cells #[.pointer (some ⟨g, 0, none⟩)] 30) = w1 at *
  obtain ⟨gBI, hgBI⟩ : ∃ g, (w1).heap.size = g := ⟨_, rfl⟩
  have lt_hP_BI := hP.lt
  rw [hgBI] at lt_hP_BI
  have lt_BP_BI := BP.lt
  rw [hgBI] at lt_BP_BI
  have BI := Blk.newV hgBI 3 #[.int .i64 place]
  have hbn := (Below.refl (w1).heap.size w1).alloc (Nat.le_refl _) (.cells #[.int .i64 place] 3)
  replace hb := hb.step hbn
  replace hP := hP.step hbn
  replace BP := BP.step hbn
  clear hbn
  have egBI : gBP + 1 = gBI := szBP.symm.trans hgBI
  rw [egBI]
  clear szBP
  generalize (w1).alloc (.cells #[.int .i64 place] 3) = w4 at *
  have BP_0 := BP.cell (j := 0) rfl
  have BI_0 := BI.cell (j := 0) rfl
  have cS := fun W (hW : Below w4.heap.size w4 W) => acc1_true W
  go_wp2_with fail
  refine (hear_out g A place _ _ _ _ _ _ _ hP hI.ne hin).mono ?_
  rintro e w5 ⟨rfl, hbn⟩
  replace hb := hb.step hbn
  replace hP := hP.step hbn
  replace BP := BP.step hbn
  replace BI := BI.step hbn
  go_wp2_with fail
  go_ret2
  exact ⟨rfl, hP, (Kx.refl [g] w).step hb.out⟩
set_option maxRecDepth 100000 in
set_option maxHeartbeats 1000000 in
theorem acc_idle1 (g : Nat) (A : Prp) (place : Int) (w : World) (hP : PW w g A) (hI : InvP A) (hin : inB place 0 A.c = true) (hph : A.ph = 1) :
    Calls Tryz.prog 13 #[.pointer (some ⟨g, 0, none⟩), .int .i64 place] w fun e w' => e = .returned (.tuple #[.int .i64 1, .int .i64 0]) ∧ PW w' g A ∧ Kx [g] w w' := by
  go_enter Tryz.func13, Tryz.ntmps13
  go_upto_region 1 with fail
  have hb := From.refl w
  obtain ⟨gBP, hgBP⟩ : ∃ g, (w).heap.size = g := ⟨_, rfl⟩
  have lt_hP_BP := hP.lt
  rw [hgBP] at lt_hP_BP
  have BP := Blk.newV hgBP 30 #[.pointer (some ⟨g, 0, none⟩)]
  have hbn := (Below.refl (w).heap.size w).alloc (Nat.le_refl _) (.cells #[.pointer (some ⟨g, 0, none⟩)] 30)
  replace hb := hb.step hbn
  replace hP := hP.step hbn
  clear hbn
  rw [hgBP]
  have szBP := alloc_size hgBP (.cells #[.pointer (some ⟨g, 0, none⟩)] 30)
  generalize (w).alloc (.cells #[.pointer (some ⟨g, 0, none⟩)] 30) = w1 at *
  obtain ⟨gBI, hgBI⟩ : ∃ g, (w1).heap.size = g := ⟨_, rfl⟩
  have lt_hP_BI := hP.lt
  rw [hgBI] at lt_hP_BI
  have lt_BP_BI := BP.lt
  rw [hgBI] at lt_BP_BI
  have BI := Blk.newV hgBI 3 #[.int .i64 place]
  have hbn := (Below.refl (w1).heap.size w1).alloc (Nat.le_refl _) (.cells #[.int .i64 place] 3)
  replace hb := hb.step hbn
  replace hP := hP.step hbn
  replace BP := BP.step hbn
  clear hbn
  have egBI : gBP + 1 = gBI := szBP.symm.trans hgBI
  rw [egBI]
  clear szBP
  generalize (w1).alloc (.cells #[.int .i64 place] 3) = w4 at *
  have BP_0 := BP.cell (j := 0) rfl
  have BI_0 := BI.cell (j := 0) rfl
  have cS := fun W (hW : Below w4.heap.size w4 W) => acc1_true W
  go_wp2_with fail
  refine (hear_idle_acc_1 g A place _ _ _ _ _ hP hI.ne hin hph cS).mono ?_
  rintro e w5 ⟨rfl, hbn⟩
  replace hb := hb.step hbn
  replace hP := hP.step hbn
  replace BP := BP.step hbn
  replace BI := BI.step hbn
  go_wp2_with fail
  go_ret2
  exact ⟨rfl, hP, (Kx.refl [g] w).step hb.out⟩
set_option maxRecDepth 100000 in
set_option maxHeartbeats 1000000 in
theorem acc_idle3 (g : Nat) (A : Prp) (place : Int) (w : World) (hP : PW w g A) (hI : InvP A) (hin : inB place 0 A.c = true) (hph : A.ph = 3) :
    Calls Tryz.prog 13 #[.pointer (some ⟨g, 0, none⟩), .int .i64 place] w fun e w' => e = .returned (.tuple #[.int .i64 3, .int .i64 0]) ∧ PW w' g A ∧ Kx [g] w w' := by
  go_enter Tryz.func13, Tryz.ntmps13
  go_upto_region 1 with fail
  have hb := From.refl w
  obtain ⟨gBP, hgBP⟩ : ∃ g, (w).heap.size = g := ⟨_, rfl⟩
  have lt_hP_BP := hP.lt
  rw [hgBP] at lt_hP_BP
  have BP := Blk.newV hgBP 30 #[.pointer (some ⟨g, 0, none⟩)]
  have hbn := (Below.refl (w).heap.size w).alloc (Nat.le_refl _) (.cells #[.pointer (some ⟨g, 0, none⟩)] 30)
  replace hb := hb.step hbn
  replace hP := hP.step hbn
  clear hbn
  rw [hgBP]
  have szBP := alloc_size hgBP (.cells #[.pointer (some ⟨g, 0, none⟩)] 30)
  generalize (w).alloc (.cells #[.pointer (some ⟨g, 0, none⟩)] 30) = w1 at *
  obtain ⟨gBI, hgBI⟩ : ∃ g, (w1).heap.size = g := ⟨_, rfl⟩
  have lt_hP_BI := hP.lt
  rw [hgBI] at lt_hP_BI
  have lt_BP_BI := BP.lt
  rw [hgBI] at lt_BP_BI
  have BI := Blk.newV hgBI 3 #[.int .i64 place]
  have hbn := (Below.refl (w1).heap.size w1).alloc (Nat.le_refl _) (.cells #[.int .i64 place] 3)
  replace hb := hb.step hbn
  replace hP := hP.step hbn
  replace BP := BP.step hbn
  clear hbn
  have egBI : gBP + 1 = gBI := szBP.symm.trans hgBI
  rw [egBI]
  clear szBP
  generalize (w1).alloc (.cells #[.int .i64 place] 3) = w4 at *
  have BP_0 := BP.cell (j := 0) rfl
  have BI_0 := BI.cell (j := 0) rfl
  have cS := fun W (hW : Below w4.heap.size w4 W) => acc1_true W
  go_wp2_with fail
  refine (hear_idle_acc_3 g A place _ _ _ _ _ hP hI.ne hin hph cS).mono ?_
  rintro e w5 ⟨rfl, hbn⟩
  replace hb := hb.step hbn
  replace hP := hP.step hbn
  replace BP := BP.step hbn
  replace BI := BI.step hbn
  go_wp2_with fail
  go_ret2
  exact ⟨rfl, hP, (Kx.refl [g] w).step hb.out⟩
set_option maxRecDepth 100000 in
set_option maxHeartbeats 1000000 in
theorem acc_idle4 (g : Nat) (A : Prp) (place : Int) (w : World) (hP : PW w g A) (hI : InvP A) (hin : inB place 0 A.c = true) (hph : A.ph = 4) :
    Calls Tryz.prog 13 #[.pointer (some ⟨g, 0, none⟩), .int .i64 place] w fun e w' => e = .returned (.tuple #[.int .i64 4, .int .i64 0]) ∧ PW w' g A ∧ Kx [g] w w' := by
  go_enter Tryz.func13, Tryz.ntmps13
  go_upto_region 1 with fail
  have hb := From.refl w
  obtain ⟨gBP, hgBP⟩ : ∃ g, (w).heap.size = g := ⟨_, rfl⟩
  have lt_hP_BP := hP.lt
  rw [hgBP] at lt_hP_BP
  have BP := Blk.newV hgBP 30 #[.pointer (some ⟨g, 0, none⟩)]
  have hbn := (Below.refl (w).heap.size w).alloc (Nat.le_refl _) (.cells #[.pointer (some ⟨g, 0, none⟩)] 30)
  replace hb := hb.step hbn
  replace hP := hP.step hbn
  clear hbn
  rw [hgBP]
  have szBP := alloc_size hgBP (.cells #[.pointer (some ⟨g, 0, none⟩)] 30)
  generalize (w).alloc (.cells #[.pointer (some ⟨g, 0, none⟩)] 30) = w1 at *
  obtain ⟨gBI, hgBI⟩ : ∃ g, (w1).heap.size = g := ⟨_, rfl⟩
  have lt_hP_BI := hP.lt
  rw [hgBI] at lt_hP_BI
  have lt_BP_BI := BP.lt
  rw [hgBI] at lt_BP_BI
  have BI := Blk.newV hgBI 3 #[.int .i64 place]
  have hbn := (Below.refl (w1).heap.size w1).alloc (Nat.le_refl _) (.cells #[.int .i64 place] 3)
  replace hb := hb.step hbn
  replace hP := hP.step hbn
  replace BP := BP.step hbn
  clear hbn
  have egBI : gBP + 1 = gBI := szBP.symm.trans hgBI
  rw [egBI]
  clear szBP
  generalize (w1).alloc (.cells #[.int .i64 place] 3) = w4 at *
  have BP_0 := BP.cell (j := 0) rfl
  have BI_0 := BI.cell (j := 0) rfl
  have cS := fun W (hW : Below w4.heap.size w4 W) => acc1_true W
  go_wp2_with fail
  refine (hear_idle_acc_4 g A place _ _ _ _ _ hP hI.ne hin hph cS).mono ?_
  rintro e w5 ⟨rfl, hbn⟩
  replace hb := hb.step hbn
  replace hP := hP.step hbn
  replace BP := BP.step hbn
  replace BI := BI.step hbn
  go_wp2_with fail
  go_ret2
  exact ⟨rfl, hP, (Kx.refl [g] w).step hb.out⟩
set_option maxRecDepth 100000 in
set_option maxHeartbeats 1000000 in
theorem acc_do (g : Nat) (A : Prp) (place : Int) (w : World) (hP : PW w g A) (hI : InvP A) (hin : inB place 0 A.c = true) (hph : A.ph = 2) :
    Calls Tryz.prog 13 #[.pointer (some ⟨g, 0, none⟩), .int .i64 place] w fun e w' => e = .returned (.tuple #[.int .i64 (takeA A place.toNat).ph, .int .i64 0]) ∧ PW w' g (takeA A place.toNat) ∧ Kx [g] w w' := by
  obtain ⟨i, rfl, hi9⟩ := inB_nat hin hI.right
  obtain ⟨place, hpl⟩ : ∃ p : Int, (i : Int) = p := ⟨_, rfl⟩
  rw [Int.toNat_natCast, hpl]
  rw [hpl] at hin
  obtain ⟨A2, hA2⟩ : ∃ A2, takeA A i = A2 := ⟨_, rfl⟩
  rw [hA2]
  go_enter Tryz.func13, Tryz.ntmps13
  go_upto_region 1 with fail
  have hb := From.refl w
  obtain ⟨gBP, hgBP⟩ : ∃ g, (w).heap.size = g := ⟨_, rfl⟩
  have lt_hP_BP := hP.lt
  rw [hgBP] at lt_hP_BP
  have BP := Blk.newV hgBP 30 #[.pointer (some ⟨g, 0, none⟩)]
  have hbn := (Below.refl (w).heap.size w).alloc (Nat.le_refl _) (.cells #[.pointer (some ⟨g, 0, none⟩)] 30)
  replace hb := hb.step hbn
  replace hP := hP.step hbn
  clear hbn
  rw [hgBP]
  have szBP := alloc_size hgBP (.cells #[.pointer (some ⟨g, 0, none⟩)] 30)
  generalize (w).alloc (.cells #[.pointer (some ⟨g, 0, none⟩)] 30) = w1 at *
  obtain ⟨gBI, hgBI⟩ : ∃ g, (w1).heap.size = g := ⟨_, rfl⟩
  have lt_hP_BI := hP.lt
  rw [hgBI] at lt_hP_BI
  have lt_BP_BI := BP.lt
  rw [hgBI] at lt_BP_BI
  have BI := Blk.newV hgBI 3 #[.int .i64 place]
  have hbn := (Below.refl (w1).heap.size w1).alloc (Nat.le_refl _) (.cells #[.int .i64 place] 3)
  replace hb := hb.step hbn
  replace hP := hP.step hbn
  replace BP := BP.step hbn
  clear hbn
  have egBI : gBP + 1 = gBI := szBP.symm.trans hgBI
  rw [egBI]
  clear szBP
  generalize (w1).alloc (.cells #[.int .i64 place] 3) = w4 at *
  have BP_0 := BP.cell (j := 0) rfl
  have BI_0 := BI.cell (j := 0) rfl
  have cS := fun W (hW : Below w4.heap.size w4 W) => acc1_true W
  have cD := fun W (hW : Below w4.heap.size w4 W) => take2_any gBP gBI g i A W (hP.step hW) (BP.step hW) (by rw [hpl]; exact BI.step hW) hI.right hi9 (by simp; omega) (by simp; omega)
  rw [hA2] at cD
  go_wp2_with fail
  refine (hear_do_acc_2 g A A2 place _ _ _ _ _ _ _ hP hI.ne hin hph cS cD).mono ?_
  rintro e w5 ⟨rfl, hP2, hk⟩
  go_wp2_with fail
  go_ret2
  exact ⟨rfl, hP2, ((Kx.refl [g] w).step hb.out).trans hk⟩
theorem acc_any (g : Nat) (A : Prp) (place : Int) (w : World) (hP : PW w g A) (hI : InvP A) :
    Calls Tryz.prog 13 #[.pointer (some ⟨g, 0, none⟩), .int .i64 place] w fun e w' => e = .returned (.tuple #[.int .i64 (acVv A place), .int .i64 (acE A place)]) ∧ PW w' g (acA A place) ∧ Kx [g] w w' := by
  unfold acVv acA acE
  cases hin : inB place 0 A.c
  · simpa using acc_out g A place w hP hI hin
  · rcases hI.ph with h | h | h | h
    · simpa [h] using acc_idle1 g A place w hP hI hin h
    · simpa [h] using acc_do g A place w hP hI hin h
    · simpa [h] using acc_idle3 g A place w hP hI hin h
    · simpa [h] using acc_idle4 g A place w hP hI hin h
def rfE (A : Prp) (place x y : Int) : Int := if inB place 0 A.c && refB A x y then 0 else 2
def rfA (A : Prp) (place x y : Int) : Prp := if rfE A place x y = 0 then (if A.ph = 1 ∨ A.ph = 2 then lostA A x y else A) else A
def rfV (A : Prp) (place x y : Int) : Int := if rfE A place x y = 0 then (rfA A place x y).ph else 0
set_option maxRecDepth 100000 in
set_option maxHeartbeats 1000000 in
theorem ref_out (g : Nat) (A : Prp) (place x y : Int) (w : World) (hP : PW w g A) (hI : InvP A) (hin : inB place 0 A.c = false) :
    Calls Tryz.prog 14 #[.pointer (some ⟨g, 0, none⟩), .int .i64 place, .agg #[.int .i64 x, .int .i64 y]] w fun e w' => e = .returned (.tuple #[.int .i64 0, .int .i64 2]) ∧ PW w' g A ∧ Kx [g] w w' := by
  go_enter Tryz.func14, Tryz.ntmps14
  go_upto_region 1 with fail
  have hb := From.refl w
  obtain ⟨gBP, hgBP⟩ : ∃ g, (w).heap.size = g := ⟨_, rfl⟩
  have lt_hP_BP := hP.lt
  rw [hgBP] at lt_hP_BP
  have BP := Blk.newV hgBP 30 #[.pointer (some ⟨g, 0, none⟩)]
  have hbn := (Below.refl (w).heap.size w).alloc (Nat.le_refl _) (.cells #[.pointer (some ⟨g, 0, none⟩)] 30)
  replace hb := hb.step hbn
  replace hP := hP.step hbn
  clear hbn
  rw [hgBP]
  have szBP := alloc_size hgBP (.cells #[.pointer (some ⟨g, 0, none⟩)] 30)
  generalize (w).alloc (.cells #[.pointer (some ⟨g, 0, none⟩)] 30) = w1 at *
  obtain ⟨gBB, hgBB⟩ : ∃ g, (w1).heap.size = g := ⟨_, rfl⟩
  have lt_hP_BB := hP.lt
  rw [hgBB] at lt_hP_BB
  have lt_BP_BB := BP.lt
  rw [hgBB] at lt_BP_BB
  have BB := Blk.newV hgBB 23 #[.int .i64 x, .int .i64 y]
  have hbn := (Below.refl (w1).heap.size w1).alloc (Nat.le_refl _) (.cells #[.int .i64 x, .int .i64 y] 23)
  replace hb := hb.step hbn
  replace hP := hP.step hbn
  replace BP := BP.step hbn
  clear hbn
  have egBB : gBP + 1 = gBB := szBP.symm.trans hgBB
  rw [egBB]
  clear szBP
  generalize (w1).alloc (.cells #[.int .i64 x, .int .i64 y] 23) = w4 at *
  have BP_0 := BP.cell (j := 0) rfl
  have cS := fun W (hW : Below w4.heap.size w4 W) => ref2_any gBB gBP g A x y W (hP.step hW) (BB.step hW) (BP.step hW)
  go_wp2_with fail
  refine (hear_out g A place _ _ _ _ _ _ _ hP hI.ne hin).mono ?_
  rintro e w5 ⟨rfl, hbn⟩
  replace hb := hb.step hbn
  replace hP := hP.step hbn
  replace BP := BP.step hbn
  replace BB := BB.step hbn
  go_wp2_with fail
  go_ret2
  exact ⟨rfl, hP, (Kx.refl [g] w).step hb.out⟩
set_option maxRecDepth 100000 in
set_option maxHeartbeats 1000000 in
theorem ref_bad (g : Nat) (A : Prp) (place x y : Int) (w : World) (hP : PW w g A) (hI : InvP A) (hin : inB place 0 A.c = true) (ht : refB A x y = false) :
    Calls Tryz.prog 14 #[.pointer (some ⟨g, 0, none⟩), .int .i64 place, .agg #[.int .i64 x, .int .i64 y]] w fun e w' => e = .returned (.tuple #[.int .i64 0, .int .i64 2]) ∧ PW w' g A ∧ Kx [g] w w' := by
  go_enter Tryz.func14, Tryz.ntmps14
  go_upto_region 1 with fail
  have hb := From.refl w
  obtain ⟨gBP, hgBP⟩ : ∃ g, (w).heap.size = g := ⟨_, rfl⟩
  have lt_hP_BP := hP.lt
  rw [hgBP] at lt_hP_BP
  have BP := Blk.newV hgBP 30 #[.pointer (some ⟨g, 0, none⟩)]
  have hbn := (Below.refl (w).heap.size w).alloc (Nat.le_refl _) (.cells #[.pointer (some ⟨g, 0, none⟩)] 30)
  replace hb := hb.step hbn
  replace hP := hP.step hbn
  clear hbn
  rw [hgBP]
  have szBP := alloc_size hgBP (.cells #[.pointer (some ⟨g, 0, none⟩)] 30)
  generalize (w).alloc (.cells #[.pointer (some ⟨g, 0, none⟩)] 30) = w1 at *
  obtain ⟨gBB, hgBB⟩ : ∃ g, (w1).heap.size = g := ⟨_, rfl⟩
  have lt_hP_BB := hP.lt
  rw [hgBB] at lt_hP_BB
  have lt_BP_BB := BP.lt
  rw [hgBB] at lt_BP_BB
  have BB := Blk.newV hgBB 23 #[.int .i64 x, .int .i64 y]
  have hbn := (Below.refl (w1).heap.size w1).alloc (Nat.le_refl _) (.cells #[.int .i64 x, .int .i64 y] 23)
  replace hb := hb.step hbn
  replace hP := hP.step hbn
  replace BP := BP.step hbn
  clear hbn
  have egBB : gBP + 1 = gBB := szBP.symm.trans hgBB
  rw [egBB]
  clear szBP
  generalize (w1).alloc (.cells #[.int .i64 x, .int .i64 y] 23) = w4 at *
  have BP_0 := BP.cell (j := 0) rfl
  have cS := fun W (hW : Below w4.heap.size w4 W) => ref2_any gBB gBP g A x y W (hP.step hW) (BB.step hW) (BP.step hW)
  rw [ht] at cS
  go_wp2_with fail
  refine (hear_bad_ref g A place _ _ _ _ _ _ _ _ hP hI.ne hin cS).mono ?_
  rintro e w5 ⟨rfl, hbn⟩
  replace hb := hb.step hbn
  replace hP := hP.step hbn
  replace BP := BP.step hbn
  replace BB := BB.step hbn
  go_wp2_with fail
  go_ret2
  exact ⟨rfl, hP, (Kx.refl [g] w).step hb.out⟩
set_option maxRecDepth 100000 in
set_option maxHeartbeats 1000000 in
theorem ref_idle3 (g : Nat) (A : Prp) (place x y : Int) (w : World) (hP : PW w g A) (hI : InvP A) (hin : inB place 0 A.c = true) (ht : refB A x y = true) (hph : A.ph = 3) :
    Calls Tryz.prog 14 #[.pointer (some ⟨g, 0, none⟩), .int .i64 place, .agg #[.int .i64 x, .int .i64 y]] w fun e w' => e = .returned (.tuple #[.int .i64 3, .int .i64 0]) ∧ PW w' g A ∧ Kx [g] w w' := by
  go_enter Tryz.func14, Tryz.ntmps14
  go_upto_region 1 with fail
  have hb := From.refl w
  obtain ⟨gBP, hgBP⟩ : ∃ g, (w).heap.size = g := ⟨_, rfl⟩
  have lt_hP_BP := hP.lt
  rw [hgBP] at lt_hP_BP
  have BP := Blk.newV hgBP 30 #[.pointer (some ⟨g, 0, none⟩)]
  have hbn := (Below.refl (w).heap.size w).alloc (Nat.le_refl _) (.cells #[.pointer (some ⟨g, 0, none⟩)] 30)
  replace hb := hb.step hbn
  replace hP := hP.step hbn
  clear hbn
  rw [hgBP]
  have szBP := alloc_size hgBP (.cells #[.pointer (some ⟨g, 0, none⟩)] 30)
  generalize (w).alloc (.cells #[.pointer (some ⟨g, 0, none⟩)] 30) = w1 at *
  obtain ⟨gBB, hgBB⟩ : ∃ g, (w1).heap.size = g := ⟨_, rfl⟩
  have lt_hP_BB := hP.lt
  rw [hgBB] at lt_hP_BB
  have lt_BP_BB := BP.lt
  rw [hgBB] at lt_BP_BB
  have BB := Blk.newV hgBB 23 #[.int .i64 x, .int .i64 y]
  have hbn := (Below.refl (w1).heap.size w1).alloc (Nat.le_refl _) (.cells #[.int .i64 x, .int .i64 y] 23)
  replace hb := hb.step hbn
  replace hP := hP.step hbn
  replace BP := BP.step hbn
  clear hbn
  have egBB : gBP + 1 = gBB := szBP.symm.trans hgBB
  rw [egBB]
  clear szBP
  generalize (w1).alloc (.cells #[.int .i64 x, .int .i64 y] 23) = w4 at *
  have BP_0 := BP.cell (j := 0) rfl
  have cS := fun W (hW : Below w4.heap.size w4 W) => ref2_any gBB gBP g A x y W (hP.step hW) (BB.step hW) (BP.step hW)
  rw [ht] at cS
  go_wp2_with fail
  refine (hear_idle_ref_3 g A place _ _ _ _ _ _ _ hP hI.ne hin hph cS).mono ?_
  rintro e w5 ⟨rfl, hbn⟩
  replace hb := hb.step hbn
  replace hP := hP.step hbn
  replace BP := BP.step hbn
  replace BB := BB.step hbn
  go_wp2_with fail
  go_ret2
  exact ⟨rfl, hP, (Kx.refl [g] w).step hb.out⟩
set_option maxRecDepth 100000 in
set_option maxHeartbeats 1000000 in
theorem ref_idle4 (g : Nat) (A : Prp) (place x y : Int) (w : World) (hP : PW w g A) (hI : InvP A) (hin : inB place 0 A.c = true) (ht : refB A x y = true) (hph : A.ph = 4) :
    Calls Tryz.prog 14 #[.pointer (some ⟨g, 0, none⟩), .int .i64 place, .agg #[.int .i64 x, .int .i64 y]] w fun e w' => e = .returned (.tuple #[.int .i64 4, .int .i64 0]) ∧ PW w' g A ∧ Kx [g] w w' := by
  go_enter Tryz.func14, Tryz.ntmps14
  go_upto_region 1 with fail
  have hb := From.refl w
  obtain ⟨gBP, hgBP⟩ : ∃ g, (w).heap.size = g := ⟨_, rfl⟩
  have lt_hP_BP := hP.lt
  rw [hgBP] at lt_hP_BP
  have BP := Blk.newV hgBP 30 #[.pointer (some ⟨g, 0, none⟩)]
  have hbn := (Below.refl (w).heap.size w).alloc (Nat.le_refl _) (.cells #[.pointer (some ⟨g, 0, none⟩)] 30)
  replace hb := hb.step hbn
  replace hP := hP.step hbn
  clear hbn
  rw [hgBP]
  have szBP := alloc_size hgBP (.cells #[.pointer (some ⟨g, 0, none⟩)] 30)
  generalize (w).alloc (.cells #[.pointer (some ⟨g, 0, none⟩)] 30) = w1 at *
  obtain ⟨gBB, hgBB⟩ : ∃ g, (w1).heap.size = g := ⟨_, rfl⟩
  have lt_hP_BB := hP.lt
  rw [hgBB] at lt_hP_BB
  have lt_BP_BB := BP.lt
  rw [hgBB] at lt_BP_BB
  have BB := Blk.newV hgBB 23 #[.int .i64 x, .int .i64 y]
  have hbn := (Below.refl (w1).heap.size w1).alloc (Nat.le_refl _) (.cells #[.int .i64 x, .int .i64 y] 23)
  replace hb := hb.step hbn
  replace hP := hP.step hbn
  replace BP := BP.step hbn
  clear hbn
  have egBB : gBP + 1 = gBB := szBP.symm.trans hgBB
  rw [egBB]
  clear szBP
  generalize (w1).alloc (.cells #[.int .i64 x, .int .i64 y] 23) = w4 at *
  have BP_0 := BP.cell (j := 0) rfl
  have cS := fun W (hW : Below w4.heap.size w4 W) => ref2_any gBB gBP g A x y W (hP.step hW) (BB.step hW) (BP.step hW)
  rw [ht] at cS
  go_wp2_with fail
  refine (hear_idle_ref_4 g A place _ _ _ _ _ _ _ hP hI.ne hin hph cS).mono ?_
  rintro e w5 ⟨rfl, hbn⟩
  replace hb := hb.step hbn
  replace hP := hP.step hbn
  replace BP := BP.step hbn
  replace BB := BB.step hbn
  go_wp2_with fail
  go_ret2
  exact ⟨rfl, hP, (Kx.refl [g] w).step hb.out⟩
set_option maxRecDepth 100000 in
set_option maxHeartbeats 1000000 in
theorem ref_do1 (g : Nat) (A : Prp) (place x y : Int) (w : World) (hP : PW w g A) (hI : InvP A) (hin : inB place 0 A.c = true) (ht : refB A x y = true) (hph : A.ph = 1) :
    Calls Tryz.prog 14 #[.pointer (some ⟨g, 0, none⟩), .int .i64 place, .agg #[.int .i64 x, .int .i64 y]] w fun e w' => e = .returned (.tuple #[.int .i64 (lostA A x y).ph, .int .i64 0]) ∧ PW w' g (lostA A x y) ∧ Kx [g] w w' := by
  obtain ⟨A2, hA2⟩ : ∃ A2, lostA A x y = A2 := ⟨_, rfl⟩
  rw [hA2]
  go_enter Tryz.func14, Tryz.ntmps14
  go_upto_region 1 with fail
  have hb := From.refl w
  obtain ⟨gBP, hgBP⟩ : ∃ g, (w).heap.size = g := ⟨_, rfl⟩
  have lt_hP_BP := hP.lt
  rw [hgBP] at lt_hP_BP
  have BP := Blk.newV hgBP 30 #[.pointer (some ⟨g, 0, none⟩)]
  have hbn := (Below.refl (w).heap.size w).alloc (Nat.le_refl _) (.cells #[.pointer (some ⟨g, 0, none⟩)] 30)
  replace hb := hb.step hbn
  replace hP := hP.step hbn
  clear hbn
  rw [hgBP]
  have szBP := alloc_size hgBP (.cells #[.pointer (some ⟨g, 0, none⟩)] 30)
  generalize (w).alloc (.cells #[.pointer (some ⟨g, 0, none⟩)] 30) = w1 at *
  obtain ⟨gBB, hgBB⟩ : ∃ g, (w1).heap.size = g := ⟨_, rfl⟩
  have lt_hP_BB := hP.lt
  rw [hgBB] at lt_hP_BB
  have lt_BP_BB := BP.lt
  rw [hgBB] at lt_BP_BB
  have BB := Blk.newV hgBB 23 #[.int .i64 x, .int .i64 y]
  have hbn := (Below.refl (w1).heap.size w1).alloc (Nat.le_refl _) (.cells #[.int .i64 x, .int .i64 y] 23)
  replace hb := hb.step hbn
  replace hP := hP.step hbn
  replace BP := BP.step hbn
  clear hbn
  have egBB : gBP + 1 = gBB := szBP.symm.trans hgBB
  rw [egBB]
  clear szBP
  generalize (w1).alloc (.cells #[.int .i64 x, .int .i64 y] 23) = w4 at *
  have BP_0 := BP.cell (j := 0) rfl
  have cS := fun W (hW : Below w4.heap.size w4 W) => ref2_any gBB gBP g A x y W (hP.step hW) (BB.step hW) (BP.step hW)
  rw [ht] at cS
  have cD := fun W (hW : Below w4.heap.size w4 W) => lost1_any gBP gBB g A x y W (hP.step hW) (BP.step hW) (BB.step hW) (by simp; omega) (by simp; omega)
  rw [hA2] at cD
  go_wp2_with fail
  refine (hear_do_ref_1 g A A2 place _ _ _ _ _ _ _ _ _ hP hI.ne hin hph cS cD).mono ?_
  rintro e w5 ⟨rfl, hP2, hk⟩
  go_wp2_with fail
  go_ret2
  exact ⟨rfl, hP2, ((Kx.refl [g] w).step hb.out).trans hk⟩
set_option maxRecDepth 100000 in
set_option maxHeartbeats 1000000 in
theorem ref_do2 (g : Nat) (A : Prp) (place x y : Int) (w : World) (hP : PW w g A) (hI : InvP A) (hin : inB place 0 A.c = true) (ht : refB A x y = true) (hph : A.ph = 2) :
    Calls Tryz.prog 14 #[.pointer (some ⟨g, 0, none⟩), .int .i64 place, .agg #[.int .i64 x, .int .i64 y]] w fun e w' => e = .returned (.tuple #[.int .i64 (lostA A x y).ph, .int .i64 0]) ∧ PW w' g (lostA A x y) ∧ Kx [g] w w' := by
  obtain ⟨A2, hA2⟩ : ∃ A2, lostA A x y = A2 := ⟨_, rfl⟩
  rw [hA2]
  go_enter Tryz.func14, Tryz.ntmps14
  go_upto_region 1 with fail
  have hb := From.refl w
  obtain ⟨gBP, hgBP⟩ : ∃ g, (w).heap.size = g := ⟨_, rfl⟩
  have lt_hP_BP := hP.lt
  rw [hgBP] at lt_hP_BP
  have BP := Blk.newV hgBP 30 #[.pointer (some ⟨g, 0, none⟩)]
  have hbn := (Below.refl (w).heap.size w).alloc (Nat.le_refl _) (.cells #[.pointer (some ⟨g, 0, none⟩)] 30)
  replace hb := hb.step hbn
  replace hP := hP.step hbn
  clear hbn
  rw [hgBP]
  have szBP := alloc_size hgBP (.cells #[.pointer (some ⟨g, 0, none⟩)] 30)
  generalize (w).alloc (.cells #[.pointer (some ⟨g, 0, none⟩)] 30) = w1 at *
  obtain ⟨gBB, hgBB⟩ : ∃ g, (w1).heap.size = g := ⟨_, rfl⟩
  have lt_hP_BB := hP.lt
  rw [hgBB] at lt_hP_BB
  have lt_BP_BB := BP.lt
  rw [hgBB] at lt_BP_BB
  have BB := Blk.newV hgBB 23 #[.int .i64 x, .int .i64 y]
  have hbn := (Below.refl (w1).heap.size w1).alloc (Nat.le_refl _) (.cells #[.int .i64 x, .int .i64 y] 23)
  replace hb := hb.step hbn
  replace hP := hP.step hbn
  replace BP := BP.step hbn
  clear hbn
  have egBB : gBP + 1 = gBB := szBP.symm.trans hgBB
  rw [egBB]
  clear szBP
  generalize (w1).alloc (.cells #[.int .i64 x, .int .i64 y] 23) = w4 at *
  have BP_0 := BP.cell (j := 0) rfl
  have cS := fun W (hW : Below w4.heap.size w4 W) => ref2_any gBB gBP g A x y W (hP.step hW) (BB.step hW) (BP.step hW)
  rw [ht] at cS
  have cD := fun W (hW : Below w4.heap.size w4 W) => lost1_any gBP gBB g A x y W (hP.step hW) (BP.step hW) (BB.step hW) (by simp; omega) (by simp; omega)
  rw [hA2] at cD
  go_wp2_with fail
  refine (hear_do_ref_2 g A A2 place _ _ _ _ _ _ _ _ _ hP hI.ne hin hph cS cD).mono ?_
  rintro e w5 ⟨rfl, hP2, hk⟩
  go_wp2_with fail
  go_ret2
  exact ⟨rfl, hP2, ((Kx.refl [g] w).step hb.out).trans hk⟩
theorem ref_any (g : Nat) (A : Prp) (place x y : Int) (w : World) (hP : PW w g A) (hI : InvP A) :
    Calls Tryz.prog 14 #[.pointer (some ⟨g, 0, none⟩), .int .i64 place, .agg #[.int .i64 x, .int .i64 y]] w fun e w' => e = .returned (.tuple #[.int .i64 (rfV A place x y), .int .i64 (rfE A place x y)]) ∧ PW w' g (rfA A place x y) ∧ Kx [g] w w' := by
  unfold rfV rfA rfE
  cases hin : inB place 0 A.c
  · simpa using ref_out g A place x y w hP hI hin
  · cases ht : refB A x y
    · simpa using ref_bad g A place x y w hP hI hin ht
    · rcases hI.ph with h | h | h | h
      · simpa [h] using ref_do1 g A place x y w hP hI hin ht h
      · simpa [h] using ref_do2 g A place x y w hP hI hin ht h
      · simpa [h] using ref_idle3 g A place x y w hP hI hin ht h
      · simpa [h] using ref_idle4 g A place x y w hP hI hin ht h
end Go.Proofs.YtcahkcbenanfnaaGreatDoor
