
/- DiskStops. -/
import Derived.Test.YtceoehjjebkgpaaDkQ
import Derived.Test.YtceoehjjebkgpaaDkY
namespace Go.Proofs.Ytceoehjjebkgpaa
set_option linter.unusedSimpArgs false
set_option linter.unusedVariables false
set_option linter.unusedSimpArgs false
set_option linter.unusedVariables false
open Go.RowKit Go.Maps
/-- A disk that is to stop: what is told of it. -/
structure StopI (D : Ds) (L : FMap) (j k : Nat) (after : Int) : Prop where
  g : GoodD D L
  r : D.room = 60
  n : L.length ≤ j
  le : (k : Int) ≤ after
  st : (D.stop = true ∧ D.dead = false ∧ D.after + k = after) ∨ (D.dead = true ∧ (k : Int) = after)
theorem good_next {D : Ds} {L L' : FMap} (h : GoodD D L) (hL : L.length ≤ 800) (hn : NextL D.room L L') {D' : Ds} (hr : D'.room = D.room) (h1 : 0 ≤ D'.after) (h2 : D'.after ≤ 9223372036854775807) : GoodD D' L' :=
  ⟨by rw [hr]; exact h.r1, by rw [hr]; exact h.r2, by rw [hr]; exact hn.u, by have := hn.n; omega, hn.k, h1, h2⟩
theorem good_ds {D : Ds} {L : FMap} (h : GoodD D L) {D' : Ds} (hr : D'.room = D.room) (h1 : 0 ≤ D'.after) (h2 : D'.after ≤ 9223372036854775807) : GoodD D' L :=
  ⟨by rw [hr]; exact h.r1, by rw [hr]; exact h.r2, by rw [hr]; exact h.u, h.n, h.k, h1, h2⟩
theorem goD_room (D : Ds) : (goD D).room = D.room ∧ (goD D).dead = D.dead := by unfold goD; split <;> exact ⟨rfl, rfl⟩
theorem stop_next {D D' : Ds} {L L' : FMap} {j k : Nat} {after r : Int} (h : StopI D L j k after) (hj : j ≤ 100) (hR : StR D L r D' L') :
    (r = 0 ∧ D'.dead = false ∧ StopI D' L' (j + 1) (k + 1) after) ∨ (r = 172 ∧ D'.dead = true ∧ (k : Int) = after ∧ StopI D' L' (j + 1) k after) ∨ (r ≠ 0 ∧ r ≠ 172 ∧ (D'.dead = true → (k : Int) = after) ∧ StopI D' L' (j + 1) k after) := by
  have hg := h.g
  rcases hR with ⟨h1, h2, rfl, rfl⟩ | ⟨h1, rfl, ⟨hd, rfl⟩ | ⟨hd, hs, ha, rfl⟩⟩ | ⟨h1, hd, hs, rfl, hn⟩
  · refine .inr (.inr ⟨h1, h2, fun hd => ?_, ⟨h.g, h.r, by have := h.n; omega, h.le, h.st⟩⟩)
    rcases h.st with ⟨-, h3, -⟩ | ⟨-, h3⟩
    · rw [hd] at h3; cases h3
    · exact h3
  · have hk : (k : Int) = after := by
      rcases h.st with ⟨-, h3, -⟩ | ⟨-, h3⟩
      · rw [hd] at h3; cases h3
      · exact h3
    exact .inr (.inl ⟨h1, hd, hk, ⟨h.g, h.r, by have := h.n; omega, h.le, h.st⟩⟩)
  · have hk : (k : Int) = after := by
      rcases h.st with ⟨-, -, h3⟩ | ⟨h3, -⟩
      · omega
      · rw [hd] at h3; cases h3
    exact .inr (.inl ⟨h1, rfl, hk, ⟨good_ds hg rfl hg.a1 hg.a2, h.r, by have := h.n; omega, h.le, .inr ⟨rfl, hk⟩⟩⟩)
  · rcases h.st with ⟨h3, -, h4⟩ | ⟨h3, -⟩
    · have ha : D.after ≠ 0 := by rcases hs with hs | hs; rw [h3] at hs; cases hs; exact hs
      have h5 : goD D = ⟨D.room, D.stop, D.after - 1, D.dead⟩ := by unfold goD; rw [if_pos h3]
      have h6 := hg.a1
      have h7 := hg.a2
      rw [h5]
      refine .inl ⟨h1, hd, ⟨good_next hg (by have := h.n; omega) hn rfl ?_ ?_, h.r, by have := hn.n; have := h.n; omega, ?_, .inl ⟨h3, hd, ?_⟩⟩⟩
      · show 0 ≤ D.after - 1; omega
      · show D.after - 1 ≤ _; omega
      · push_cast; omega
      · show D.after - 1 + ((k + 1 : Nat) : Int) = after
        push_cast; omega
    · rw [hd] at h3; cases h3
set_option maxRecDepth 100000 in
set_option maxHeartbeats 8000000 in
theorem DiskStops_walk (ao : Option Addr) (n c : Nat) (after : Int) (w : World) (hL : ∃ l : List A7, l.length = n ∧ HasA7 w ao l ∧ (∀ e, e ∈ l → FitA e) ∧ n ≤ 9223372036854775807) (hA : -9223372036854775808 ≤ after ∧ after ≤ 9223372036854775807) :
    Calls Try.prog 4 #[.slice ao n c, .int .i64 after] w fun e w' => e = .returned (.bool true) ∧ Below w.heap.size w w' := by
  obtain ⟨l, hln, hl, hfit, hnl⟩ := hL
  have cF := few07_any l ao c 30 w hl (by omega) hfit
  rw [hln] at cF
  cases hf : fewA l 30
  · rw [hf] at cF
    go_enter Try.func4, Try.ntmps4
    go_wp2_with fail
    refine (cF).mono ?_
    rintro e _ ⟨rfl, rfl⟩
    go_wp2_with fail
    refine (works07_any _).mono ?_
    rintro e w1 ⟨rfl, hb⟩
    go_wp2_with fail
    go_ret
    exact ⟨rfl, hb⟩
  obtain ⟨hl30, hsm⟩ := fewA_small hf
  rw [hf] at cF
  by_cases ha0 : after < 0
  · go_enter Try.func4, Try.ntmps4
    go_wp2_with fail
    refine (cF).mono ?_
    rintro e _ ⟨rfl, rfl⟩
    go_wp2_with fail
    refine (works07_any _).mono ?_
    rintro e w1 ⟨rfl, hb⟩
    go_wp2_with fail
    go_ret
    exact ⟨rfl, hb⟩
  by_cases ha4 : 40 < after
  · go_enter Try.func4, Try.ntmps4
    go_wp2_with fail
    refine (cF).mono ?_
    rintro e _ ⟨rfl, rfl⟩
    go_wp2_with fail
    refine (works07_any _).mono ?_
    rintro e w1 ⟨rfl, hb⟩
    go_wp2_with fail
    go_ret
    exact ⟨rfl, hb⟩
  have hb := From.refl w
  have hs2 : ∀ (e : A7), e ∈ l → okS e.nm ∧ okS e.to ∧ e.y.length ≤ 16777216 := fun e he => by
    obtain ⟨h1, h2, h3, h4⟩ := hsm e he
    exact ⟨by unfold okS maxLen; omega, by unfold okS maxLen; omega, by omega⟩
  rw [hln] at hl30
  have hn30 : n ≤ 30 := by omega
  clear hf hsm hfit hnl hl30
  go_enter Try.func4, Try.ntmps4
  go_wp2_with fail
  refine (cF).mono ?_
  rintro e _ ⟨rfl, rfl⟩
  clear cF
  go_wp2_with fail
  refine (dnew_any 60 _ (by decide) (by decide)).mono ?_
  rintro e w2 ⟨⟨d, mb, rfl, h, hwd, hwm⟩, hbn⟩
  replace hb := hb.step hbn
  clear hbn
  have hk2 : ∀ x, x ∈ [d, mb] → w.heap.size ≤ x := by simp; omega
  have hk1 : ∀ x, x ∈ [d] → w.heap.size ≤ x := by simp; omega
  clear hwd hwm
  go_wp2_with fail
  refine (dstop_ok d mb _ _ after _ h (by omega) rfl).mono ?_
  rintro e w3 ⟨rfl, h2, hkn⟩
  replace hb := hb.kx hkn hk1
  clear hkn h hk1
  have h : DkW w3 d mb ⟨60, true, after, false⟩ [] := h2
  clear h2
  have hI : StopI ⟨60, true, after, false⟩ [] 0 0 after := ⟨⟨by show (0 : Int) ≤ 60; decide, by show (60 : Int) ≤ 16777216; decide, by show (0 : Int) ≤ 60; decide, by show 0 ≤ 900; decide, fun p hp => (by cases hp), by show 0 ≤ after; omega, by show after ≤ _; omega⟩, rfl, Nat.le_refl _, by simp; omega, .inl ⟨rfl, rfl, by simp⟩⟩
  go_wp2_with fail
  go_loopw [8, 9] (fun dn i wr => ∃ (j k : Nat) (D : Ds) (L : FMap), i = .int .i64 j ∧ dn = .int .i64 k ∧ j ≤ n ∧ Hid (From w wr) ∧ Hid (DkW wr d mb D L) ∧ Hid (StopI D L j k after)) (fun _ i _ => n - (intOf i).toNat)
  case atStart => exact ⟨0, 0, _, _, rfl, rfl, by omega, Lib.hid hb, Lib.hid h, Lib.hid hI⟩
  case round =>
    clear hb h hI
    obtain ⟨j, k, D, L, rfl, rfl, hj, hb, h, hI⟩ := hrel
    replace hb := hb.out
    replace h := h.out
    replace hI := hI.out
    have hj0 : (0 : Int) ≤ (j : Int) := by omega
    by_cases hlt : j < n
    · have hj1 : (j : Int) < (n : Int) := by omega
      obtain ⟨x, hx⟩ : ∃ x, l[j]? = some x := ⟨l[j], by simp [hln, hlt]⟩
      obtain ⟨b, off, rfl, hX⟩ := (hl.step hb.out) j x hx
      obtain ⟨o1, o2, o3⟩ := hs2 x (List.mem_of_getElem? hx)
      have q0 := hX.h0
      have q1 := hX.h1
      have q2 := hX.h2
      have q3 := hX.h3
      have q4 := hX.h4
      have q5 := hX.h5
      have q6 := hX.h6
      clear hx
      have hI2 : StopI D L (j + 1) k after := ⟨hI.g, hI.r, by have := hI.n; omega, hI.le, hI.st⟩
      cases hst : x.stop
      · cases hcr : x.crash
        · rw [hst] at q5
          rw [hcr] at q6
          go_wp2_with fail
          refine (step07_any d mb D L x wr h hI.g o1 o2 hX.hy o3).mono ?_
          rintro e w5 ⟨r, D', L', rfl, hrb, h5, hkn, hR⟩
          replace hb := hb.kx hkn hk2
          have hN := stop_next hI (by omega) hR
          have hle := hI.le
          clear hkn hR hI hI2 h o1 o2 o3 q0 q1 q2 q3 q4 q5 q6 hX hst hcr
          go_wp2_with fail
          refine (num07_any _ _).mono ?_
          rintro e wx ⟨rfl, rfl⟩
          rcases hN with ⟨rfl, hd, hI⟩ | ⟨rfl, hd, hk, hI⟩ | ⟨h1, h2, hd, hI⟩
          · go_wp2_with fail
            refine (ddead_any d mb D' L' _ h5).mono ?_
            rintro e wx ⟨rfl, rfl⟩
            rw [hd]
            go_wp2_with fail
            go_roundw
            case rel => exact ⟨j + 1, (k + 1), D', L', by go_num, by go_num, by omega, Lib.hid hb.out, Lib.hid h5, Lib.hid hI⟩
            case measure => simp [intOf]; omega
          · have hne : ((k : Int) != after) = false := by simpa using hk
            go_wp2_with fail
            refine (ddead_any d mb D' L' _ h5).mono ?_
            rintro e wx ⟨rfl, rfl⟩
            rw [hd]
            go_wp2_with fail
            go_roundw
            case rel => exact ⟨j + 1, k, D', L', by go_num, by go_num, by omega, Lib.hid hb.out, Lib.hid h5, Lib.hid hI⟩
            case measure => simp [intOf]; omega
          · have e1 : (r == 0) = false := by simpa using h1
            have e2 : (r == 172) = false := by simpa using h2
            go_wp2_with fail
            refine (ddead_any d mb D' L' _ h5).mono ?_
            rintro e wx ⟨rfl, rfl⟩
            cases hdd : D'.dead
            · go_wp2_with fail
              go_roundw
              case rel => exact ⟨j + 1, k, D', L', by go_num, by go_num, by omega, Lib.hid hb.out, Lib.hid h5, Lib.hid hI⟩
              case measure => simp [intOf]; omega
            · have hk := hd hdd
              have hne : ((k : Int) != after) = false := by simpa using hk
              go_wp2_with fail
              go_roundw
              case rel => exact ⟨j + 1, k, D', L', by go_num, by go_num, by omega, Lib.hid hb.out, Lib.hid h5, Lib.hid hI⟩
              case measure => simp [intOf]; omega
        · rw [hst] at q5
          rw [hcr] at q6
          go_wp2_with fail
          go_roundw
          case rel => exact ⟨j + 1, k, D, L, by go_num, by go_num, by omega, Lib.hid hb, Lib.hid h, Lib.hid hI2⟩
          case measure => simp [intOf]; omega
      · rw [hst] at q5
        go_wp2_with fail
        go_roundw
        case rel => exact ⟨j + 1, k, D, L, by go_num, by go_num, by omega, Lib.hid hb, Lib.hid h, Lib.hid hI2⟩
        case measure => simp [intOf]; omega
    · obtain rfl : j = n := by omega
      have hle := hI.le
      clear h hI hk2
      go_wp2_with fail
      refine (num07_any _ _).mono ?_
      rintro e wx ⟨rfl, rfl⟩
      go_wp2_with fail
      refine (num07_any _ _).mono ?_
      rintro e wx ⟨rfl, rfl⟩
      go_wp2_with fail
      refine (works07_any _).mono ?_
      rintro e w9 ⟨rfl, hb9⟩
      replace hb := hb.step hb9
      go_wp2_with fail
      go_ret
      exact ⟨rfl, hb.out⟩
end Go.Proofs.Ytceoehjjebkgpaa
