
/- Package proposer: what stays so; the statements' helpers (num, nothing, few, works). -/
import Derived.Test.YtcahkcbenanfnaaGreatDoorPrK
namespace Go.Proofs.YtcahkcbenanfnaaGreatDoor
set_option linter.unusedSimpArgs false
set_option linter.unusedVariables false
open Go.RowKit
theorem best_same (A : Prp) (i : Nat) (x y k m n : Int) (s : ByteArray) : (bestA A i x y k m n s).ph = A.ph ∧ (bestA A i x y k m n s).c = A.c ∧ (bestA A i x y k m n s).sl = A.sl ∧ (bestA A i x y k m n s).r = A.r ∧ (bestA A i x y k m n s).p = A.p := by
  unfold bestA
  split <;> exact ⟨rfl, rfl, rfl, rfl, rfl⟩
theorem give_same (B : Prp) : (giveA B).ph = 2 ∧ (giveA B).c = B.c ∧ (giveA B).sl = B.sl ∧ (giveA B).r = B.r ∧ (giveA B).p = B.p := by
  unfold giveA
  split <;> exact ⟨rfl, rfl, rfl, rfl, rfl⟩
theorem tell_same (A : Prp) (i : Nat) (x y k m n : Int) (s : ByteArray) : ((tellA A i x y k m n s).ph = A.ph ∨ (tellA A i x y k m n s).ph = 2) ∧ (tellA A i x y k m n s).c = A.c ∧ (tellA A i x y k m n s).sl = A.sl ∧ (tellA A i x y k m n s).r = A.r ∧ (tellA A i x y k m n s).p = A.p := by
  unfold tellA
  obtain ⟨h1, h2, h3, h4, h5⟩ := best_same A i x y k m n s
  generalize bestA A i x y k m n s = B at *
  obtain ⟨g1, g2, g3, g4, g5⟩ := give_same B
  split
  · exact ⟨.inl rfl, rfl, rfl, rfl, rfl⟩
  · split
    · exact ⟨.inr g1, g2.trans h2, g3.trans h3, g4.trans h4, g5.trans h5⟩
    · exact ⟨.inl h1, h2, h3, h4, h5⟩
theorem take_same (A : Prp) (i : Nat) : ((takeA A i).ph = A.ph ∨ (takeA A i).ph = 3) ∧ (takeA A i).c = A.c ∧ (takeA A i).sl = A.sl ∧ (takeA A i).r = A.r ∧ (takeA A i).p = A.p := by
  unfold takeA
  split
  · exact ⟨.inr rfl, rfl, rfl, rfl, rfl⟩
  · exact ⟨.inl rfl, rfl, rfl, rfl, rfl⟩
theorem InvP.tell {A : Prp} (h : InvP A) (place x y k m n : Int) (s : ByteArray) : InvP (prA A place x y k m n s) := by
  unfold prA
  split
  · split
    next h1 =>
      obtain ⟨g1, g2, g3, -, -⟩ := tell_same A place.toNat x y k m n s
      exact ⟨by rw [g2, g3]; exact h.ok, by omega⟩
    · exact h
  · exact h
theorem InvP.take {A : Prp} (h : InvP A) (place : Int) : InvP (acA A place) := by
  unfold acA
  split
  · split
    next h1 =>
      obtain ⟨g1, g2, g3, -, -⟩ := take_same A place.toNat
      exact ⟨by rw [g2, g3]; exact h.ok, by omega⟩
    · exact h
  · exact h
theorem InvP.ref {A : Prp} (h : InvP A) (place x y : Int) : InvP (rfA A place x y) := by
  unfold rfA
  split
  · split
    · exact ⟨h.ok, .inr (.inr (.inr rfl))⟩
    · exact h
  · exact h
theorem InvP.fresh {c sl r p : Int} (h : opErr c sl = 0) : InvP (freshA c sl r p) := ⟨h, .inl rfl⟩
theorem InvP.own {c sl o k m n : Int} {s : ByteArray} (h : opErr c sl = 0) : InvP (ownA c sl o k m n s) := ⟨h, .inr (.inl rfl)⟩
theorem num15_any (x : Int) (w : World) : Calls Tryz.prog 15 #[.int .i64 x] w fun e w' => e = .returned (.int .i64 x) ∧ w = w' := by
  go_enter Tryz.func15, Tryz.ntmps15
  go_wp2_with fail
  go_ret
  exact ⟨rfl, rfl⟩
set_option maxRecDepth 100000 in
set_option maxHeartbeats 1000000 in
theorem lnothing_any (w : World) : Calls Tryz.prog 12 #[] w fun e w' => e = .returned (.agg #[.int .i64 (-1), .int .i64 0, .int .i64 0, .int .i64 0, .int .i64 0, .string ⟨#[]⟩]) ∧ Below w.heap.size w w' := by
  have hb := From.refl w
  go_enter Tryz.func12, Tryz.ntmps12
  go_upto_region 1 with fail
  obtain ⟨gR, hgR⟩ : ∃ g, (w).heap.size = g := ⟨_, rfl⟩
  have R := Blk.newV hgR 33 #[.int .i64 0, .int .i64 0, .int .i64 0, .int .i64 0, .int .i64 0, .string ⟨#[]⟩]
  have hbn := (Below.refl (w).heap.size w).alloc (Nat.le_refl _) (.cells #[.int .i64 0, .int .i64 0, .int .i64 0, .int .i64 0, .int .i64 0, .string ⟨#[]⟩] 33)
  replace hb := hb.step hbn
  clear hbn
  rw [hgR]
  generalize (w).alloc (.cells #[.int .i64 0, .int .i64 0, .int .i64 0, .int .i64 0, .int .i64 0, .string ⟨#[]⟩] 33) = w1 at *
  have R_0 := R.cell (j := 0) rfl
  have R_1 := R.cell (j := 1) rfl
  have R_2 := R.cell (j := 2) rfl
  have R_3 := R.cell (j := 3) rfl
  have R_4 := R.cell (j := 4) rfl
  have R_5 := R.cell (j := 5) rfl
  have Rf0 := R.frozen 0
  have Rf1 := R.frozen 1
  have Rf2 := R.frozen 2
  have Rf3 := R.frozen 3
  have Rf4 := R.frozen 4
  have Rf5 := R.frozen 5
  go_wp2
  (try simp only [Exit.inBlock, Exit.then])
  refine bodyPost_ret (v := .agg #[.int .i64 (-1), .int .i64 0, .int .i64 0, .int .i64 0, .int .i64 0, .string ⟨#[]⟩]) ?_ rfl ⟨rfl, by rw [← hgR]; exact below6 hb (Nat.le_refl _) _ _ _ _ _ _⟩
  rw [r_cell1 rfl]
  go_simp
def longP (s : ByteArray) : Bool := decide (300 < (s.size : Int))
/-- A call: What, the place, what was accepted (ar, ap: k, m, n, s), the ballot (x, y). -/
structure Pa where (w pl ar ap k m n : Int) (s : ByteArray) (x y : Int)
structure PaAt (w : World) (b o : Nat) (e : Pa) : Prop where
  h0 : w.cell? ⟨b, o, none⟩ = some (.int .i64 e.w)
  h1 : w.cell? ⟨b, o + 1, none⟩ = some (.int .i64 e.pl)
  h2 : w.cell? ⟨b, o + 2, none⟩ = some (.int .i64 e.ar)
  h3 : w.cell? ⟨b, o + 3, none⟩ = some (.int .i64 e.ap)
  h4 : w.cell? ⟨b, o + 4, none⟩ = some (.int .i64 e.k)
  h5 : w.cell? ⟨b, o + 5, none⟩ = some (.int .i64 e.m)
  h6 : w.cell? ⟨b, o + 6, none⟩ = some (.int .i64 e.n)
  h7 : w.cell? ⟨b, o + 7, none⟩ = some (.string e.s)
  h8 : w.cell? ⟨b, o + 8, none⟩ = some (.int .i64 e.x)
  h9 : w.cell? ⟨b, o + 9, none⟩ = some (.int .i64 e.y)
def HasPa (w : World) (ao : Option Addr) (l : List Pa) : Prop := ∀ k e, l[k]? = some e → ∃ b off, ao = some ⟨b, off, none⟩ ∧ PaAt w b (off + k * 10) e
theorem PaAt.far {w w' : World} {b o : Nat} {e : Pa} (h : PaAt w b o e) (hb : ∀ q v, w.cell? ⟨b, q, none⟩ = some v → w'.cell? ⟨b, q, none⟩ = some v) : PaAt w' b o e :=
  ⟨hb _ _ h.h0, hb _ _ h.h1, hb _ _ h.h2, hb _ _ h.h3, hb _ _ h.h4, hb _ _ h.h5, hb _ _ h.h6, hb _ _ h.h7, hb _ _ h.h8, hb _ _ h.h9⟩
theorem HasPa.step {w w' : World} {ao : Option Addr} {l : List Pa} (h : HasPa w ao l) (hb : Below w.heap.size w w') : HasPa w' ao l := fun k e he => by
  obtain ⟨b, off, ha, hx⟩ := h k e he
  exact ⟨b, off, ha, hx.far (fun q v hv => cells_kept hb hv)⟩
def fewP (l : List Pa) (most : Int) : Bool := l.all (fun e => !longP e.s) && decide ((l.length : Int) ≤ most)
set_option maxRecDepth 100000 in
set_option maxHeartbeats 1000000 in
theorem few15_any (l : List Pa) (ao : Option Addr) (c : Nat) (most : Int) (w : World) (hE : HasPa w ao l) (hl : l.length ≤ 9223372036854775807) (hs : ∀ e, e ∈ l → e.s.size ≤ 9223372036854775807) :
    Calls Tryz.prog 8 #[.slice ao l.length c, .int .i64 most] w fun r w' => r = .returned (.bool (fewP l most)) ∧ Below w.heap.size w w' := by
  obtain ⟨N, hN⟩ : ∃ N, l.length = N := ⟨_, rfl⟩
  have hNI : (N : Int) ≤ 9223372036854775807 := by omega
  obtain ⟨R, hR⟩ : ∃ R, fewP l most = R := ⟨_, rfl⟩
  rw [hN, hR]
  have HR := Lib.hid hR
  clear hR
  have HS := Lib.hid hs
  clear hs
  go_enter Tryz.func8, Tryz.ntmps8
  go_wp2_with fail
  go_loopw [5] (fun i wr => ∃ (j : Nat), i = .int .i64 j ∧ ExtA w wr ∧ j ≤ N ∧ Hid ((l.take j).all (fun e => !longP e.s) = true)) (fun i _ => N - (intOf i).toNat)
  case atStart => exact ⟨0, rfl, Below.refl _ _, by omega, Lib.hid rfl⟩
  case round =>
    obtain ⟨j, rfl, hx, hj, HA⟩ := hrel
    by_cases hlt : j < N
    · obtain ⟨e, he⟩ : ∃ e, l[j]? = some e := ⟨l[j], by simp [hN, hlt]⟩
      obtain ⟨b, off, rfl, hA⟩ := (hE.step hx) j e he
      have q7 := hA.h7
      have hj0 : (0 : Int) ≤ (j : Int) := by omega
      have hj1 : (j : Int) < (N : Int) := by omega
      have htk : l.take (j + 1) = l.take j ++ [e] := by rw [List.take_add_one, he]; rfl
      have hse := HS.out e (List.mem_of_getElem? he)
      have hsi : (e.s.size : Int) ≤ 9223372036854775807 := by omega
      cases hlb : longP e.s
      · have HA2 : Hid ((l.take (j + 1)).all (fun e => !longP e.s) = true) := Lib.hid (by rw [htk, List.all_append, HA.out]; simp [hlb])
        have hle : ¬ 300 < (e.s.size : Int) := by simpa [longP] using hlb
        clear HA htk he hlb hse hA
        go_wp2_with fail
        go_roundw
        case rel => exact ⟨j + 1, by go_num, hx, by omega, HA2⟩
        case measure => simp [intOf]; omega
      · have hf : fewP l most = false := by
          have : l.all (fun e => !longP e.s) = false := by
            rw [List.all_eq_false]
            exact ⟨_, List.mem_of_getElem? he, by simp [hlb]⟩
          simp [fewP, this]
        obtain rfl : false = R := by rw [← HR.out, hf]
        have hle : 300 < (e.s.size : Int) := by simpa [longP] using hlb
        clear htk he hf HR hlb hse hA
        go_wp2_with fail
        go_ret
        exact ⟨rfl, hx⟩
    · obtain rfl : j = N := by omega
      have hA := HA.out
      rw [List.take_of_length_le (by omega)] at hA
      have hf : decide ((j : Int) ≤ most) = R := by rw [← HR.out]; simp [fewP, hA, hN]
      clear HA hA HR hE
      go_wp2
      go_ret
      exact ⟨by rw [← hf]; rfl, hx⟩
theorem fewP_small {l : List Pa} {most : Int} (h : fewP l most = true) : (l.length : Int) ≤ most ∧ ∀ e, e ∈ l → e.s.size ≤ 300 := by
  unfold fewP at h
  simp only [Bool.and_eq_true, decide_eq_true_eq, List.all_eq_true] at h
  refine ⟨h.2, fun e he => ?_⟩
  have := h.1 e he
  simp [longP] at this
  omega
def hi15 : ByteArray := ⟨#[104, 105]⟩
theorem hi_ent : entB 4 0 1 hi15 = true := by kernel_rfl
end Go.Proofs.YtcahkcbenanfnaaGreatDoor
