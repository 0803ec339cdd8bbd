
/- The document's text: one sign, walked. -/
import Derived.Test.YtehjglaofhgjfaaDoorTxC
import Derived.BigQuiet
namespace Go.Proofs.YtehjglaofhgjfaaDoor
set_option linter.unusedSimpArgs false
set_option linter.unusedVariables false
open Go.RowKit

theorem more_t {c : Nat} (h : 128 ≤ c ∧ c < 192) : moreB (c : Int) = true := by unfold moreB; simp; omega
theorem more_f {c : Nat} (h : ¬ (128 ≤ c ∧ c < 192)) : moreB (c : Int) = false := by
  rw [Bool.eq_false_iff]
  unfold moreB
  simp
  omega
theorem below_dn {B : Nat} {a w : World} (h : Below B a w) : ∀ q, Below B a (w.drewN q)
  | 0 => h
  | q + 1 => (below_dn h q).drew
set_option maxRecDepth 100000 in
set_option maxHeartbeats 4000000 in
theorem sign_any (s : ByteArray) (n b0 b1 b2 b3 : Nat) (hn : s.size = n) (hn0 : 0 < n) (hmax : n ≤ 9223372036854775807) (e0 : ∀ h : 0 < s.size, (s[0]'h).toNat = b0) (e1 : ∀ h : 1 < s.size, (s[1]'h).toNat = b1) (e2 : ∀ h : 2 < s.size, (s[2]'h).toNat = b2) (e3 : ∀ h : 3 < s.size, (s[3]'h).toNat = b3)
    (hb : b0 < 256 ∧ b1 < 256 ∧ b2 < 256 ∧ b3 < 256) (w : World) :
    Calls Tryd.prog 52 #[.string s] w fun e w' => e = .returned (.tuple #[.int .i64 (signN n b0 b1 b2 b3).1, .int .i64 (signN n b0 b1 b2 b3).2]) ∧ Below w.heap.size w w' := by
  obtain ⟨z0, z1, z2, z3⟩ := hb
  have y0 : (0 : Int) ≤ (b0 : Int) := by omega
  have x0 : (b0 : Int) < 256 := by omega
  have y1 : (0 : Int) ≤ (b1 : Int) := by omega
  have x1 : (b1 : Int) < 256 := by omega
  have y2 : (0 : Int) ≤ (b2 : Int) := by omega
  have x2 : (b2 : Int) < 256 := by omega
  have y3 : (0 : Int) ≤ (b3 : Int) := by omega
  have x3 : (b3 : Int) < 256 := by omega
  have hnI : (0 : Int) < (n : Int) := by omega
  have e0' := e0 (by omega)
  have hs0 : 0 < s.size := by omega
  by_cases h0 : b0 < 128
  · rw [sign_one h0]
    have h0' : (b0 : Int) < 128 := by omega
    clear e1 e2 e3
    go_enter Tryd.func52, Tryd.ntmps52
    go_wp2
    go_returns
    exact ⟨rfl, Below.refl _ _⟩
  · have h0' : ¬ (b0 : Int) < 128 := by omega
    by_cases t2 : T2 n b0 b1
    · obtain ⟨q1, q2, q3, q4, q5⟩ := id t2
      have r1 : (192 : Int) ≤ (b0 : Int) := by omega
      have r2 : (b0 : Int) < 224 := by omega
      have r2' : ¬ (224 : Int) ≤ (b0 : Int) := by omega
      have r2'' : ¬ (240 : Int) ≤ (b0 : Int) := by omega
      have r3 : (2 : Int) ≤ (n : Int) := by omega
      have cm := more_t ⟨q4, q5⟩
      have e1' := e1 (by omega)
      have hs1 : 1 < s.size := by omega
      rw [sign_two t2]
      obtain ⟨m, hm⟩ : ∃ m, (b0 - 192) * 64 + b1 - 128 = m := ⟨_, rfl⟩
      have hmI : ((b0 : Int) - 192) * 64 + (b1 : Int) - 128 = (m : Int) := by omega
      rw [hm]
      clear t2 e0 e1 e2 e3 hm
      by_cases hv : 128 ≤ m
      · rw [if_pos hv]
        have hv' : (128 : Int) ≤ (m : Int) := by omega
        go_enter Tryd.func52, Tryd.ntmps52
        go_wp2_with (go_at_call 68; refine (more_any _ _).mono ?_; rintro e w' ⟨rfl, rfl⟩)
        go_returns
        exact ⟨rfl, Below.refl _ _⟩
      · rw [if_neg hv]
        have hv' : ¬ (128 : Int) ≤ (m : Int) := by omega
        go_enter Tryd.func52, Tryd.ntmps52
        go_wp2_with (go_at_call 68; refine (more_any _ _).mono ?_; rintro e w' ⟨rfl, rfl⟩)
        go_returns
        exact ⟨rfl, Below.refl _ _⟩
    · by_cases t3 : T3 n b0 b1 b2
      · obtain ⟨q1, q2, q3, ⟨q4, q5⟩, q6, q7⟩ := id t3
        have r1 : (224 : Int) ≤ (b0 : Int) := by omega
        have r0 : (192 : Int) ≤ (b0 : Int) := by omega
        have r1' : ¬ (b0 : Int) < 224 := by omega
        have r2 : (b0 : Int) < 240 := by omega
        have r2'' : ¬ (240 : Int) ≤ (b0 : Int) := by omega
        have r3 : (3 : Int) ≤ (n : Int) := by omega
        have cm := more_t ⟨q4, q5⟩
        have cm2 := more_t ⟨q6, q7⟩
        have e1' := e1 (by omega)
        have e2' := e2 (by omega)
        have hs1 : 1 < s.size := by omega
        have hs2 : 2 < s.size := by omega
        have hi1 : (1 : Int) < (n : Int) := by omega
        have hi2 : (2 : Int) < (n : Int) := by omega
        have v4 : (128 : Int) ≤ (b1 : Int) := by omega
        have v5 : (b1 : Int) < 192 := by omega
        have v6 : (128 : Int) ≤ (b2 : Int) := by omega
        have v7 : (b2 : Int) < 192 := by omega
        rw [sign_three t3]
        obtain ⟨m, hm⟩ : ∃ m, ((b0 - 224) * 64 + b1 - 128) * 64 + b2 - 128 = m := ⟨_, rfl⟩
        have hmI : (((b0 : Int) - 224) * 64 + (b1 : Int) - 128) * 64 + (b2 : Int) - 128 = (m : Int) := by omega
        rw [hm]
        clear t2 t3 e0 e1 e2 e3 hm
        by_cases ha : 2048 ≤ m
        · have ha' : (2048 : Int) ≤ (m : Int) := by omega
          by_cases hb : m < 55296
          · have hb' : (m : Int) < 55296 := by omega
            rw [if_pos ⟨ha, .inl hb⟩]
            go_enter Tryd.func52, Tryd.ntmps52
            go_wp2_with (go_at_call 68; refine (more_any _ _).mono ?_; rintro e w' ⟨rfl, rfl⟩)
            go_quiet (fail)
            go_wp2
            go_returns
            exact ⟨rfl, below_dn (Below.refl _ _) _⟩
          · have hb' : ¬ (m : Int) < 55296 := by omega
            by_cases hc : 57343 < m
            · have hc' : (57343 : Int) < (m : Int) := by omega
              rw [if_pos ⟨ha, .inr hc⟩]
              go_enter Tryd.func52, Tryd.ntmps52
              go_wp2_with (go_at_call 68; refine (more_any _ _).mono ?_; rintro e w' ⟨rfl, rfl⟩)
              go_quiet (fail)
              go_wp2
              go_returns
              exact ⟨rfl, below_dn (Below.refl _ _) _⟩
            · have hc' : ¬ (57343 : Int) < (m : Int) := by omega
              rw [if_neg (by omega)]
              go_enter Tryd.func52, Tryd.ntmps52
              go_wp2_with (go_at_call 68; refine (more_any _ _).mono ?_; rintro e w' ⟨rfl, rfl⟩)
              go_quiet (fail)
              go_wp2
              go_returns
              exact ⟨rfl, below_dn (Below.refl _ _) _⟩
        · have ha' : ¬ (2048 : Int) ≤ (m : Int) := by omega
          rw [if_neg (by omega)]
          go_enter Tryd.func52, Tryd.ntmps52
          go_wp2_with (go_at_call 68; refine (more_any _ _).mono ?_; rintro e w' ⟨rfl, rfl⟩)
          go_quiet (fail)
          go_wp2
          go_returns
          exact ⟨rfl, below_dn (Below.refl _ _) _⟩
      · by_cases t4 : T4 n b0 b1 b2 b3
        · obtain ⟨q1, q2, q3, ⟨q4, q5⟩, ⟨q6, q7⟩, q8, q9⟩ := id t4
          have r1 : (240 : Int) ≤ (b0 : Int) := by omega
          have r0 : (192 : Int) ≤ (b0 : Int) := by omega
          have r0' : (224 : Int) ≤ (b0 : Int) := by omega
          have r1' : ¬ (b0 : Int) < 224 := by omega
          have r2 : (b0 : Int) < 248 := by omega
          have r2'' : ¬ (b0 : Int) < 240 := by omega
          have r3 : (4 : Int) ≤ (n : Int) := by omega
          have cm := more_t ⟨q4, q5⟩
          have cm2 := more_t ⟨q6, q7⟩
          have cm3 := more_t ⟨q8, q9⟩
          have e1' := e1 (by omega)
          have e2' := e2 (by omega)
          have e3' := e3 (by omega)
          have hs1 : 1 < s.size := by omega
          have hs2 : 2 < s.size := by omega
          have hs3 : 3 < s.size := by omega
          have hi1 : (1 : Int) < (n : Int) := by omega
          have hi2 : (2 : Int) < (n : Int) := by omega
          have hi3 : (3 : Int) < (n : Int) := by omega
          have v4 : (128 : Int) ≤ (b1 : Int) := by omega
          have v5 : (b1 : Int) < 192 := by omega
          have v6 : (128 : Int) ≤ (b2 : Int) := by omega
          have v7 : (b2 : Int) < 192 := by omega
          have v8 : (128 : Int) ≤ (b3 : Int) := by omega
          have v9 : (b3 : Int) < 192 := by omega
          rw [sign_four t4]
          obtain ⟨m, hm⟩ : ∃ m, (((b0 - 240) * 64 + b1 - 128) * 64 + b2 - 128) * 64 + b3 - 128 = m := ⟨_, rfl⟩
          have hmI : ((((b0 : Int) - 240) * 64 + (b1 : Int) - 128) * 64 + (b2 : Int) - 128) * 64 + (b3 : Int) - 128 = (m : Int) := by omega
          rw [hm]
          clear t2 t3 t4 e0 e1 e2 e3 hm
          by_cases ha : 65536 ≤ m
          · have ha' : (65536 : Int) ≤ (m : Int) := by omega
            by_cases hb : m ≤ 1114111
            · have hb' : (m : Int) ≤ 1114111 := by omega
              rw [if_pos ⟨ha, hb⟩]
              go_enter Tryd.func52, Tryd.ntmps52
              go_wp2_with (go_at_call 68; refine (more_any _ _).mono ?_; rintro e w' ⟨rfl, rfl⟩)
              go_quiet (fail)
              go_wp2
              go_returns
              exact ⟨rfl, below_dn (Below.refl _ _) _⟩
            · have hb' : ¬ (m : Int) ≤ 1114111 := by omega
              rw [if_neg (by omega)]
              go_enter Tryd.func52, Tryd.ntmps52
              go_wp2_with (go_at_call 68; refine (more_any _ _).mono ?_; rintro e w' ⟨rfl, rfl⟩)
              go_quiet (fail)
              go_wp2
              go_returns
              exact ⟨rfl, below_dn (Below.refl _ _) _⟩
          · have ha' : ¬ (65536 : Int) ≤ (m : Int) := by omega
            rw [if_neg (fun h => ha h.1)]
            have hd : decide ((65536 : Int) ≤ (m : Int)) = false := decide_eq_false ha'
            clear ha ha'
            go_enter Tryd.func52, Tryd.ntmps52
            go_wp2_with (go_at_call 68; refine (more_any _ _).mono ?_; rintro e w' ⟨rfl, rfl⟩)
            go_quiet (fail)
            go_wp2
            go_returns
            exact ⟨rfl, below_dn (Below.refl _ _) _⟩
        · clear e0
          rw [sign_none h0 t2 t3 t4 ⟨z0, z1, z2, z3⟩]
          unfold T2 at t2
          unfold T3 at t3
          unfold T4 at t4
          by_cases k1 : b0 < 192
          · have k1' : ¬ (192 : Int) ≤ (b0 : Int) := by omega
            have k2' : ¬ (224 : Int) ≤ (b0 : Int) := by omega
            have k3' : ¬ (240 : Int) ≤ (b0 : Int) := by omega
            clear t2 t3 t4 e1 e2 e3
            go_enter Tryd.func52, Tryd.ntmps52
            go_wp2_with (go_at_call 68; refine (more_any _ _).mono ?_; rintro e w' ⟨rfl, rfl⟩)
            go_returns
            exact ⟨rfl, Below.refl _ _⟩
          · have k1' : (192 : Int) ≤ (b0 : Int) := by omega
            by_cases k2 : b0 < 224
            · have k2' : (b0 : Int) < 224 := by omega
              have k2'' : ¬ (224 : Int) ≤ (b0 : Int) := by omega
              have k3' : ¬ (240 : Int) ≤ (b0 : Int) := by omega
              by_cases kn : 2 ≤ n
              · have kn' : (2 : Int) ≤ (n : Int) := by omega
                have hi1 : (1 : Int) < (n : Int) := by omega
                have hs1 : 1 < s.size := by omega
                have e1' := e1 (by omega)
                have cm := more_f (c := b1) (by omega)
                clear t2 t3 t4 e1 e2 e3
                go_enter Tryd.func52, Tryd.ntmps52
                go_wp2_with (go_at_call 68; refine (more_any _ _).mono ?_; rintro e w' ⟨rfl, rfl⟩)
                go_returns
                exact ⟨rfl, Below.refl _ _⟩
              · have kn' : ¬ (2 : Int) ≤ (n : Int) := by omega
                clear t2 t3 t4 e1 e2 e3
                go_enter Tryd.func52, Tryd.ntmps52
                go_wp2_with (go_at_call 68; refine (more_any _ _).mono ?_; rintro e w' ⟨rfl, rfl⟩)
                go_returns
                exact ⟨rfl, Below.refl _ _⟩
            · have k2' : ¬ (b0 : Int) < 224 := by omega
              have k2'' : (224 : Int) ≤ (b0 : Int) := by omega
              by_cases k3 : b0 < 240
              · have k3' : (b0 : Int) < 240 := by omega
                have k3'' : ¬ (240 : Int) ≤ (b0 : Int) := by omega
                by_cases kn : 3 ≤ n
                · have kn' : (3 : Int) ≤ (n : Int) := by omega
                  have hi1 : (1 : Int) < (n : Int) := by omega
                  have hi2 : (2 : Int) < (n : Int) := by omega
                  have hs1 : 1 < s.size := by omega
                  have hs2 : 2 < s.size := by omega
                  have e1' := e1 (by omega)
                  have e2' := e2 (by omega)
                  by_cases km : 128 ≤ b1 ∧ b1 < 192
                  · have cm := more_t km
                    have cm2 := more_f (c := b2) (by omega)
                    clear t2 t3 t4 e1 e2 e3
                    go_enter Tryd.func52, Tryd.ntmps52
                    go_wp2_with (go_at_call 68; refine (more_any _ _).mono ?_; rintro e w' ⟨rfl, rfl⟩)
                    go_returns
                    exact ⟨rfl, Below.refl _ _⟩
                  · have cm := more_f km
                    clear t2 t3 t4 e1 e2 e3
                    go_enter Tryd.func52, Tryd.ntmps52
                    go_wp2_with (go_at_call 68; refine (more_any _ _).mono ?_; rintro e w' ⟨rfl, rfl⟩)
                    go_returns
                    exact ⟨rfl, Below.refl _ _⟩
                · have kn' : ¬ (3 : Int) ≤ (n : Int) := by omega
                  clear t2 t3 t4 e1 e2 e3
                  go_enter Tryd.func52, Tryd.ntmps52
                  go_wp2_with (go_at_call 68; refine (more_any _ _).mono ?_; rintro e w' ⟨rfl, rfl⟩)
                  go_returns
                  exact ⟨rfl, Below.refl _ _⟩
              · have k3' : ¬ (b0 : Int) < 240 := by omega
                have k3'' : (240 : Int) ≤ (b0 : Int) := by omega
                by_cases k4 : b0 < 248
                · have k4' : (b0 : Int) < 248 := by omega
                  by_cases kn : 4 ≤ n
                  · have kn' : (4 : Int) ≤ (n : Int) := by omega
                    have hi1 : (1 : Int) < (n : Int) := by omega
                    have hi2 : (2 : Int) < (n : Int) := by omega
                    have hi3 : (3 : Int) < (n : Int) := by omega
                    have hs1 : 1 < s.size := by omega
                    have hs2 : 2 < s.size := by omega
                    have hs3 : 3 < s.size := by omega
                    have e1' := e1 (by omega)
                    have e2' := e2 (by omega)
                    have e3' := e3 (by omega)
                    by_cases km : 128 ≤ b1 ∧ b1 < 192
                    · have cm := more_t km
                      by_cases km2 : 128 ≤ b2 ∧ b2 < 192
                      · have cm2 := more_t km2
                        have cm3 := more_f (c := b3) (by omega)
                        clear t2 t3 t4 e1 e2 e3
                        go_enter Tryd.func52, Tryd.ntmps52
                        go_wp2_with (go_at_call 68; refine (more_any _ _).mono ?_; rintro e w' ⟨rfl, rfl⟩)
                        go_returns
                        exact ⟨rfl, Below.refl _ _⟩
                      · have cm2 := more_f km2
                        clear t2 t3 t4 e1 e2 e3
                        go_enter Tryd.func52, Tryd.ntmps52
                        go_wp2_with (go_at_call 68; refine (more_any _ _).mono ?_; rintro e w' ⟨rfl, rfl⟩)
                        go_returns
                        exact ⟨rfl, Below.refl _ _⟩
                    · have cm := more_f km
                      clear t2 t3 t4 e1 e2 e3
                      go_enter Tryd.func52, Tryd.ntmps52
                      go_wp2_with (go_at_call 68; refine (more_any _ _).mono ?_; rintro e w' ⟨rfl, rfl⟩)
                      go_returns
                      exact ⟨rfl, Below.refl _ _⟩
                  · have kn' : ¬ (4 : Int) ≤ (n : Int) := by omega
                    clear t2 t3 t4 e1 e2 e3
                    go_enter Tryd.func52, Tryd.ntmps52
                    go_wp2_with (go_at_call 68; refine (more_any _ _).mono ?_; rintro e w' ⟨rfl, rfl⟩)
                    go_returns
                    exact ⟨rfl, Below.refl _ _⟩
                · have k4' : ¬ (b0 : Int) < 248 := by omega
                  clear t2 t3 t4 e1 e2 e3
                  go_enter Tryd.func52, Tryd.ntmps52
                  go_wp2_with (go_at_call 68; refine (more_any _ _).mono ?_; rintro e w' ⟨rfl, rfl⟩)
                  go_returns
                  exact ⟨rfl, Below.refl _ _⟩
end Go.Proofs.YtehjglaofhgjfaaDoor
