
/- Law 7: a call, as it lies; few; step. -/
import Derived.Test.YtceoehjjebkgpaaDkX
namespace Go.Proofs.Ytceoehjjebkgpaa
set_option linter.unusedSimpArgs false
set_option linter.unusedVariables false
open Go.RowKit Go.Maps
/-- A call: a step (what, name, to, bytes, number), whether it is to stop, a crash by picks. -/
structure A7 where (what : Int) (nm to : ByteArray) (bo : Option Addr) (y : BL) (cb : Nat) (n : Int) (stop crash : Bool) (po : Option Addr) (pk : List Int) (cp : Nat)
def stV (e : A7) : Value := .agg #[.int .i64 e.what, .string e.nm, .string e.to, .slice e.bo e.y.length e.cb, .int .i64 e.n]
structure A7At (w : World) (b o : Nat) (e : A7) : Prop where
  h0 : w.cell? ⟨b, o, none⟩ = some (.int .i64 e.what)
  h1 : w.cell? ⟨b, o + 1, none⟩ = some (.string e.nm)
  h2 : w.cell? ⟨b, o + 2, none⟩ = some (.string e.to)
  h3 : w.cell? ⟨b, o + 3, none⟩ = some (.slice e.bo e.y.length e.cb)
  h4 : w.cell? ⟨b, o + 4, none⟩ = some (.int .i64 e.n)
  h5 : w.cell? ⟨b, o + 5, none⟩ = some (.bool e.stop)
  h6 : w.cell? ⟨b, o + 6, none⟩ = some (.bool e.crash)
  h7 : w.cell? ⟨b, o + 7, none⟩ = some (.slice e.po e.pk.length e.cp)
  hy : ByAt w e.bo e.y
  hp : HasInt w e.po e.pk
def HasA7 (w : World) (ao : Option Addr) (l : List A7) : Prop := ∀ k e, l[k]? = some e → ∃ b off, ao = some ⟨b, off, none⟩ ∧ A7At w b (off + k * 8) e
theorem HasA7.step {w w' : World} {ao : Option Addr} {l : List A7} (h : HasA7 w ao l) (hb : Below w.heap.size w w') : HasA7 w' ao l := fun k e he => by
  obtain ⟨b, off, ha, hx⟩ := h k e he
  have key : ∀ q v, w.cell? ⟨b, q, none⟩ = some v → w'.cell? ⟨b, q, none⟩ = some v := fun q v hv => (hb.cell (World.block_lt_of_cell? w _ hv)).trans hv
  exact ⟨b, off, ha, key _ _ hx.h0, key _ _ hx.h1, key _ _ hx.h2, key _ _ hx.h3, key _ _ hx.h4, key _ _ hx.h5, key _ _ hx.h6, key _ _ hx.h7, hx.hy.step hb, hx.hp.step hb⟩
/-- A call's sizes fit the machine. -/
structure FitA (e : A7) : Prop where
  y : e.y.length ≤ 9223372036854775807
  n : e.nm.size ≤ maxLen
  t : e.to.size ≤ maxLen
  p : e.pk.length ≤ 9223372036854775807
  nb : -9223372036854775808 ≤ e.n ∧ e.n ≤ 9223372036854775807
def longA (e : A7) : Bool := decide (100 < (e.y.length : Int)) || decide (30 < (e.nm.size : Int)) || decide (30 < (e.to.size : Int)) || decide (20 < (e.pk.length : Int))
def fewA (l : List A7) (most : Int) : Bool := l.all (fun e => !longA e) && decide ((l.length : Int) ≤ most)
theorem longA_no {e : A7} (h : longA e = false) : ¬ 100 < (e.y.length : Int) ∧ ¬ 30 < (e.nm.size : Int) ∧ ¬ 30 < (e.to.size : Int) ∧ ¬ 20 < (e.pk.length : Int) := by
  simp only [longA, Bool.or_eq_false_iff, decide_eq_false_iff_not] at h
  exact ⟨h.1.1.1, h.1.1.2, h.1.2, h.2⟩
theorem fewA_small {l : List A7} {most : Int} (h : fewA l most = true) : (l.length : Int) ≤ most ∧ ∀ e, e ∈ l → e.y.length ≤ 100 ∧ e.nm.size ≤ 30 ∧ e.to.size ≤ 30 ∧ e.pk.length ≤ 20 := by
  unfold fewA at h
  simp only [Bool.and_eq_true, decide_eq_true_eq, List.all_eq_true] at h
  refine ⟨h.2, fun e he => ?_⟩
  have := longA_no (e := e) (by simpa using h.1 e he)
  omega
set_option maxRecDepth 100000 in
set_option maxHeartbeats 2000000 in
theorem few07_any (l : List A7) (ao : Option Addr) (c : Nat) (most : Int) (w : World) (hE : HasA7 w ao l) (hl : l.length ≤ 9223372036854775807) (hs : ∀ e, e ∈ l → FitA e) :
    Calls Try.prog 12 #[.slice ao l.length c, .int .i64 most] w fun r w' => r = .returned (.bool (fewA l most)) ∧ w = w' := by
  obtain ⟨N, hN⟩ : ∃ N, l.length = N := ⟨_, rfl⟩
  have hNI : (N : Int) ≤ 9223372036854775807 := by omega
  obtain ⟨R, hR⟩ : ∃ R, fewA l most = R := ⟨_, rfl⟩
  rw [hN, hR]
  have HR := Lib.hid hR
  clear hR
  have HS := Lib.hid hs
  clear hs
  go_enter Try.func12, Try.ntmps12
  go_wp2_with fail
  go_loopw [5] (fun i wr => ∃ (j : Nat), i = .int .i64 j ∧ w = wr ∧ j ≤ N ∧ Hid ((l.take j).all (fun e => !longA e) = true)) (fun i _ => N - (intOf i).toNat)
  case atStart => exact ⟨0, rfl, rfl, by omega, Lib.hid rfl⟩
  case round =>
    obtain ⟨j, rfl, hwr, hj, HA⟩ := hrel
    subst hwr
    by_cases hlt : j < N
    · obtain ⟨e, he⟩ : ∃ e, l[j]? = some e := ⟨l[j], by simp [hN, hlt]⟩
      obtain ⟨b, off, rfl, hA⟩ := hE j e he
      have q1 := hA.h1
      have q2 := hA.h2
      have q3 := hA.h3
      have q7 := hA.h7
      have hj0 : (0 : Int) ≤ (j : Int) := by omega
      have hj1 : (j : Int) < (N : Int) := by omega
      have htk : l.take (j + 1) = l.take j ++ [e] := by rw [List.take_add_one, he]; rfl
      by_cases b1 : 100 < (e.y.length : Int)
      · have hlb : longA e = true := by simp [longA, b1]
        have hf : fewA l most = false := by
          have : l.all (fun e => !longA e) = false := by
            rw [List.all_eq_false]
            exact ⟨_, List.mem_of_getElem? he, by simp [hlb]⟩
          simp [fewA, this]
        obtain rfl : false = R := by rw [← HR.out, hf]
        clear htk he hf HR hlb hA HA
        go_wp2_with fail
        go_ret
        exact ⟨rfl, rfl⟩
      by_cases b2 : 30 < (e.nm.size : Int)
      · have hlb : longA e = true := by simp [longA, b2]
        have hf : fewA l most = false := by
          have : l.all (fun e => !longA e) = false := by
            rw [List.all_eq_false]
            exact ⟨_, List.mem_of_getElem? he, by simp [hlb]⟩
          simp [fewA, this]
        obtain rfl : false = R := by rw [← HR.out, hf]
        clear htk he hf HR hlb hA HA
        go_wp2_with fail
        go_ret
        exact ⟨rfl, rfl⟩
      by_cases b3 : 30 < (e.to.size : Int)
      · have hlb : longA e = true := by simp [longA, b3]
        have hf : fewA l most = false := by
          have : l.all (fun e => !longA e) = false := by
            rw [List.all_eq_false]
            exact ⟨_, List.mem_of_getElem? he, by simp [hlb]⟩
          simp [fewA, this]
        obtain rfl : false = R := by rw [← HR.out, hf]
        clear htk he hf HR hlb hA HA
        go_wp2_with fail
        go_ret
        exact ⟨rfl, rfl⟩
      by_cases b4 : 20 < (e.pk.length : Int)
      · have hlb : longA e = true := by simp [longA, b4]
        have hf : fewA l most = false := by
          have : l.all (fun e => !longA e) = false := by
            rw [List.all_eq_false]
            exact ⟨_, List.mem_of_getElem? he, by simp [hlb]⟩
          simp [fewA, this]
        obtain rfl : false = R := by rw [← HR.out, hf]
        clear htk he hf HR hlb hA HA
        go_wp2_with fail
        go_ret
        exact ⟨rfl, rfl⟩
      have HA2 : Hid ((l.take (j + 1)).all (fun e => !longA e) = true) := Lib.hid (by rw [htk, List.all_append, HA.out]; simp [longA, b1, b2, b3, b4])
      clear HA htk he hA
      go_wp2_with fail
      go_roundw
      case rel => exact ⟨j + 1, by go_num, by first | rfl | trivial, by omega, HA2⟩
      case measure => simp [intOf]; omega
    · obtain rfl : j = N := by omega
      have hA := HA.out
      rw [List.take_of_length_le (by omega)] at hA
      have hf : decide ((j : Int) ≤ most) = R := by rw [← HR.out]; simp [fewA, hA, hN]
      clear HA hA HR hE
      go_wp2
      go_ret
      exact ⟨by rw [← hf]; rfl, rfl⟩
set_option maxRecDepth 100000 in
set_option maxHeartbeats 2000000 in
theorem step07_any (d mb : Nat) (D : Ds) (L : FMap) (e : A7) (w : World) (h : DkW w d mb D L) (hG : GoodD D L) (hn : okS e.nm) (ht : okS e.to) (hy : ByAt w e.bo e.y) (hyl : e.y.length ≤ 16777216) :
    Calls Try.prog 14 #[.pointer (some ⟨d, 0, none⟩), stV e] w (StepQ d mb D L w) := by
  obtain ⟨what, nm, to, bo, y, cb, n, stop, crash, po, pk, cp⟩ := e
  simp only at hn ht hy hyl
  unfold stV
  simp only
  obtain ⟨Y, hY⟩ : ∃ Y, y.length = Y := ⟨_, rfl⟩
  have cA := fun W (hW : Below w.heap.size w W) => app_q d mb D L nm bo y cb W (h.step hW) hG hn (hy.step hW) hyl
  rw [hY] at cA ⊢
  have hb := From.refl w
  go_enter Try.func14, Try.ntmps14
  go_upto_region 1 with fail
  obtain ⟨gX, hgX⟩ : ∃ g, (w).heap.size = g := ⟨_, rfl⟩
  have X := Blk.newV hgX 39 #[.int .i64 what, .string nm, .string to, .slice bo Y cb, .int .i64 n]
  have hbn := (Below.refl (w).heap.size w).alloc (Nat.le_refl _) (.cells #[.int .i64 what, .string nm, .string to, .slice bo Y cb, .int .i64 n] 39)
  replace hb := hb.step hbn
  replace h := h.step hbn
  clear hbn
  rw [hgX]
  generalize (w).alloc (.cells #[.int .i64 what, .string nm, .string to, .slice bo Y cb, .int .i64 n] 39) = w1 at *
  have X_0 := X.cell (j := 0) rfl
  have X_1 := X.cell (j := 1) rfl
  have X_2 := X.cell (j := 2) rfl
  have X_3 := X.cell (j := 3) rfl
  have X_4 := X.cell (j := 4) rfl
  by_cases c0 : what = 0
  · subst c0
    go_wp2_with fail
    refine (cA _ hb.out).mono ?_
    rintro e w2 ⟨r, D', L', rfl, hr, h2, hk2, hR⟩
    go_wp2_with fail
    go_ret
    exact ⟨r, D', L', rfl, hr, h2, (Kx.of_below _ hb.out (Nat.le_refl _)).trans hk2, hR⟩
  have d0 : (what == 0) = false := by simpa using c0
  clear cA
  by_cases c1 : what = 1
  · subst c1
    go_wp2_with fail
    refine (sync_q d mb D L nm _ h hG hn).mono ?_
    rintro e w2 ⟨r, D', L', rfl, hr, h2, hk2, hR⟩
    go_wp2_with fail
    go_ret
    exact ⟨r, D', L', rfl, hr, h2, (Kx.of_below _ hb.out (Nat.le_refl _)).trans hk2, hR⟩
  have d1 : (what == 1) = false := by simpa using c1
  by_cases c2 : what = 2
  · subst c2
    go_wp2_with fail
    refine (cut_q d mb D L nm n _ h hG hn).mono ?_
    rintro e w2 ⟨r, D', L', rfl, hr, h2, hk2, hR⟩
    go_wp2_with fail
    go_ret
    exact ⟨r, D', L', rfl, hr, h2, (Kx.of_below _ hb.out (Nat.le_refl _)).trans hk2, hR⟩
  have d2 : (what == 2) = false := by simpa using c2
  by_cases c3 : what = 3
  · subst c3
    go_wp2_with fail
    refine (rem_q d mb D L nm _ h hG hn).mono ?_
    rintro e w2 ⟨r, D', L', rfl, hr, h2, hk2, hR⟩
    go_wp2_with fail
    go_ret
    exact ⟨r, D', L', rfl, hr, h2, (Kx.of_below _ hb.out (Nat.le_refl _)).trans hk2, hR⟩
  have d3 : (what == 3) = false := by simpa using c3
  go_wp2_with fail
  refine (ren_q d mb D L nm to _ h hG hn ht).mono ?_
  rintro e w2 ⟨r, D', L', rfl, hr, h2, hk2, hR⟩
  go_wp2_with fail
  go_ret
  exact ⟨r, D', L', rfl, hr, h2, (Kx.of_below _ hb.out (Nat.le_refl _)).trans hk2, hR⟩
end Go.Proofs.Ytceoehjjebkgpaa
