
/- WheelFull. -/
import Derived.Test.YtfdfmmmfklodgaaWiL
namespace Go.Proofs.Ytfdfmmmfklodgaa
set_option linter.unusedSimpArgs false
set_option linter.unusedVariables false
open Go.RowKit
set_option maxRecDepth 100000 in
set_option maxHeartbeats 8000000 in
theorem full_some (M : Nat) (cancel again : Int) (w : World) (hM : M ≤ 4100) (hw1 : wf64 cancel) (hw2 : wf64 again) :
    Calls Try.prog 4 #[.int .i64 M, .int .i64 cancel, .int .i64 again] w (WorksP w) := by
  have m0 : (0 : Int) ≤ (M : Int) := by omega
  have m1 : (M : Int) ≤ 4100 := by omega
  go_enter Try.func4, Try.ntmps4
  go_wp2_with fail
  refine (new_n w w (From.refl w)).mono ?_
  rintro e w1 ⟨g, rfl, h, -⟩
  go_wp2_with fail
  go_loopw [8] (fun u wr => ∃ (k : Nat) (L : List (Int × Int)), u = .int .i64 k ∧ k ≤ M ∧ Fl (min k 4096) L ∧ WhN w [] wr g 0 L) (fun u _ => M - (intOf u).toNat)
  case atStart => exact ⟨0, [], rfl, by omega, Fl.nil, h⟩
  clear h
  case' round =>
    obtain ⟨k, L, rfl, hk, hF, h⟩ := hrel
    have k0 : (0 : Int) ≤ (k : Int) := by omega
    by_cases hlt : k < M
    · have k1 : (k : Int) < (M : Int) := by omega
      have d0 : (0 : Int) ≤ (k : Int) % 7 := by omega
      have d1 : (k : Int) % 7 < 7 := by omega
      by_cases h4 : k < 4096
      · have k4 : (k : Int) < 4096 := by omega
        rw [Nat.min_eq_left (by omega)] at hF
        obtain ⟨e0, e1, e2⟩ := hF.less h4 (1 + (k : Int) % 7) (by omega) (by omega)
        have h9 := h
        have cs := set_n h k (1 + (k : Int) % 7) (wf_of (by omega) (by omega)) (L2 := setL 0 L k (1 + (k : Int) % 7)) rfl e1 e0
        clear e0 e1 h9
        generalize setL 0 L k (1 + (k : Int) % 7) = L2 at *
        go_wp2_with fail
        refine (cs).mono ?_
        rintro e w2 ⟨rfl, h2, -⟩
        clear cs h
        repeat
          (go_wp2_with fail
           refine (num_any _ _).mono ?_
           rintro e _ ⟨rfl, rfl⟩)
        go_wp2_with fail
        go_roundw
        case rel => exact ⟨k + 1, L2, by go_num, by omega, by rw [Nat.min_eq_left (by omega)]; exact e2, h2⟩
        case measure => simp [intOf]; omega
      · have k4 : ¬ (k : Int) < 4096 := by omega
        rw [Nat.min_eq_right (by omega)] at hF
        obtain ⟨e0, e1, e2⟩ := hF.full k (by omega) (by omega) (1 + (k : Int) % 7) (by omega) (by omega)
        have cs := set_n h k (1 + (k : Int) % 7) (wf_of (by omega) (by omega)) e2 e1 e0
        clear e0 e1 e2
        go_wp2_with fail
        refine (cs).mono ?_
        rintro e w2 ⟨rfl, h2, -⟩
        clear cs h
        repeat
          (go_wp2_with fail
           refine (num_any _ _).mono ?_
           rintro e _ ⟨rfl, rfl⟩)
        go_wp2_with fail
        go_roundw
        case rel => exact ⟨k + 1, L, by go_num, by omega, by rw [Nat.min_eq_right (by omega)]; exact hF, h2⟩
        case measure => simp [intOf]; omega
    · obtain rfl : k = M := by omega
      obtain ⟨P, hP⟩ : ∃ P : Nat, min k 4096 = P := ⟨_, rfl⟩
      rw [hP] at hF
      have hP4 : P ≤ 4096 := by omega
      have hmin : min (k : Int) 4096 = (P : Int) := by omega
      have hnd := h.2.2.choose_spec.2.1.nodup
      obtain ⟨hE, hC⟩ := hF.can hP4 hnd cancel
      have cc := can_n h cancel hw1 (L2 := canL L cancel) (e := canE L cancel) rfl rfl
      clear hP hnd hF h
      generalize canL L cancel = L2 at *
      generalize canE L cancel = E at *
      by_cases c0 : 0 ≤ cancel ∧ cancel < (P : Int)
      · rw [if_pos c0, decide_eq_true c0] at hC
        rw [decide_eq_true c0] at hE
        obtain ⟨c1, c2⟩ := c0
        obtain ⟨N2, hN2⟩ : ∃ N2 : Nat, P - 1 = N2 := ⟨_, rfl⟩
        have hq : (P : Int) - 1 = (N2 : Int) := by omega
        have hN4 : N2 < 4096 := by omega
        have hN5 : (N2 : Int) < 4096 := by omega
        rw [hN2] at hC
        clear hN2
        go_wp2_with fail
        refine (cc).mono ?_
        rintro e w3 ⟨rfl, h, -⟩
        clear cc
        repeat
          (go_wp2_with fail
           refine (num_any _ _).mono ?_
           rintro e _ ⟨rfl, rfl⟩)
        have hnd := h.2.2.choose_spec.2.1.nodup
        obtain ⟨f1, f2, f3, f4⟩ := hC.set hnd again
        have hl := hC.1
        clear hnd hC
        by_cases a0 : 0 ≤ again
        case' neg =>
          have e0 := f1 (by omega)
          have e1 : setE 0 L2 again 3 = 2 ∧ (setL 0 L2 again 3).length = _ := ⟨e0.1, (congrArg List.length e0.2).trans hl⟩
          clear e0
          clear f1 f2 f3 f4 hl
          go_wp2_with fail
          refine (set_n h again 3 hw2 (L2 := setL 0 L2 again 3) (m := setA 0 L2 again 3) (e := 2) rfl rfl e1.1).mono ?_
          rintro e w4 ⟨rfl, h, -⟩
          have cl := len_n h
          rw [e1.2] at cl
          try rw [show ((N2 + 1 : Nat) : Int) = (N2 : Int) + 1 by omega] at cl
          clear e1
          generalize setA 0 L2 again 3 = A3
          repeat
            (go_wp2_with fail
             refine (num_any _ _).mono ?_
             rintro e _ ⟨rfl, rfl⟩)
          go_wp2_with fail
          refine (cl).mono ?_
          rintro e _ ⟨rfl, rfl⟩
          go_wp2_with fail
          refine (works_any _).mono ?_
          rintro e w5 ⟨rfl, hb9⟩
          go_wp2_with fail
          go_ret
          exact ⟨rfl, h.1.step hb9⟩
        by_cases a1 : again ≤ 2147483647
        case' neg =>
          have e0 := f1 (by omega)
          have e1 : setE 0 L2 again 3 = 2 ∧ (setL 0 L2 again 3).length = _ := ⟨e0.1, (congrArg List.length e0.2).trans hl⟩
          clear e0
          have a2 : ¬ again < (P : Int) := by omega
          clear f1 f2 f3 f4 hl
          go_wp2_with fail
          refine (set_n h again 3 hw2 (L2 := setL 0 L2 again 3) (m := setA 0 L2 again 3) (e := 2) rfl rfl e1.1).mono ?_
          rintro e w4 ⟨rfl, h, -⟩
          have cl := len_n h
          rw [e1.2] at cl
          try rw [show ((N2 + 1 : Nat) : Int) = (N2 : Int) + 1 by omega] at cl
          clear e1
          generalize setA 0 L2 again 3 = A3
          repeat
            (go_wp2_with fail
             refine (num_any _ _).mono ?_
             rintro e _ ⟨rfl, rfl⟩)
          go_wp2_with fail
          refine (cl).mono ?_
          rintro e _ ⟨rfl, rfl⟩
          go_wp2_with fail
          refine (works_any _).mono ?_
          rintro e w5 ⟨rfl, hb9⟩
          go_wp2_with fail
          go_ret
          exact ⟨rfl, h.1.step hb9⟩
        by_cases a2 : again < (P : Int)
        · by_cases a3 : again = cancel
          · subst a3
            have e1 := f3 a0 a1 (by simp) hN4
            clear f1 f2 f3 f4 hl
            go_wp2_with fail
            refine (set_n h again 3 hw2 (L2 := setL 0 L2 again 3) (m := setA 0 L2 again 3) (e := 0) rfl rfl e1.1).mono ?_
            rintro e w4 ⟨rfl, h, -⟩
            have cl := len_n h
            rw [e1.2] at cl
            try rw [show ((N2 + 1 : Nat) : Int) = (N2 : Int) + 1 by omega] at cl
            clear e1
            generalize setA 0 L2 again 3 = A3
            repeat
              (go_wp2_with fail
               refine (num_any _ _).mono ?_
               rintro e _ ⟨rfl, rfl⟩)
            go_wp2_with fail
            refine (cl).mono ?_
            rintro e _ ⟨rfl, rfl⟩
            go_wp2_with fail
            refine (works_any _).mono ?_
            rintro e w5 ⟨rfl, hb9⟩
            go_wp2_with fail
            go_ret
            exact ⟨rfl, h.1.step hb9⟩
          · have a4 : (again == cancel) = false := by simpa using a3
            have e1 := f2 a0 a1 ⟨a2, fun h => a3 h.2⟩
            clear a3
            clear f1 f2 f3 f4 hl
            go_wp2_with fail
            refine (set_n h again 3 hw2 (L2 := setL 0 L2 again 3) (m := setA 0 L2 again 3) (e := 0) rfl rfl e1.1).mono ?_
            rintro e w4 ⟨rfl, h, -⟩
            have cl := len_n h
            rw [e1.2] at cl
            try rw [show ((N2 + 1 : Nat) : Int) = (N2 : Int) + 1 by omega] at cl
            clear e1
            generalize setA 0 L2 again 3 = A3
            repeat
              (go_wp2_with fail
               refine (num_any _ _).mono ?_
               rintro e _ ⟨rfl, rfl⟩)
            go_wp2_with fail
            refine (cl).mono ?_
            rintro e _ ⟨rfl, rfl⟩
            go_wp2_with fail
            refine (works_any _).mono ?_
            rintro e w5 ⟨rfl, hb9⟩
            go_wp2_with fail
            go_ret
            exact ⟨rfl, h.1.step hb9⟩
        · have e1 := f3 a0 a1 (fun h => a2 h.1) hN4
          clear f1 f2 f3 f4 hl
          go_wp2_with fail
          refine (set_n h again 3 hw2 (L2 := setL 0 L2 again 3) (m := setA 0 L2 again 3) (e := 0) rfl rfl e1.1).mono ?_
          rintro e w4 ⟨rfl, h, -⟩
          have cl := len_n h
          rw [e1.2] at cl
          try rw [show ((N2 + 1 : Nat) : Int) = (N2 : Int) + 1 by omega] at cl
          clear e1
          generalize setA 0 L2 again 3 = A3
          repeat
            (go_wp2_with fail
             refine (num_any _ _).mono ?_
             rintro e _ ⟨rfl, rfl⟩)
          go_wp2_with fail
          refine (cl).mono ?_
          rintro e _ ⟨rfl, rfl⟩
          go_wp2_with fail
          refine (works_any _).mono ?_
          rintro e w5 ⟨rfl, hb9⟩
          go_wp2_with fail
          go_ret
          exact ⟨rfl, h.1.step hb9⟩
      · rw [if_neg c0, decide_eq_false c0] at hC
        rw [decide_eq_false c0] at hE
        obtain ⟨N2, rfl⟩ : ∃ N2 : Nat, P = N2 := ⟨_, rfl⟩
        by_cases c1 : 0 ≤ cancel
        · have c2 : ¬ cancel < (P : Int) := fun h => c0 ⟨c1, h⟩
          clear c0
          go_wp2_with fail
          refine (cc).mono ?_
          rintro e w3 ⟨rfl, h, -⟩
          clear cc
          repeat
            (go_wp2_with fail
             refine (num_any _ _).mono ?_
             rintro e _ ⟨rfl, rfl⟩)
          have hnd := h.2.2.choose_spec.2.1.nodup
          obtain ⟨f1, f2, f3, f4⟩ := hC.set hnd again
          have hl := hC.1
          clear hnd hC
          by_cases a0 : 0 ≤ again
          case' neg =>
            have e0 := f1 (by omega)
            have e1 : setE 0 L2 again 3 = 2 ∧ (setL 0 L2 again 3).length = _ := ⟨e0.1, (congrArg List.length e0.2).trans hl⟩
            clear e0
            clear f1 f2 f3 f4 hl
            go_wp2_with fail
            refine (set_n h again 3 hw2 (L2 := setL 0 L2 again 3) (m := setA 0 L2 again 3) (e := 2) rfl rfl e1.1).mono ?_
            rintro e w4 ⟨rfl, h, -⟩
            have cl := len_n h
            rw [e1.2] at cl
            try rw [show ((N2 + 1 : Nat) : Int) = (N2 : Int) + 1 by omega] at cl
            clear e1
            generalize setA 0 L2 again 3 = A3
            repeat
              (go_wp2_with fail
               refine (num_any _ _).mono ?_
               rintro e _ ⟨rfl, rfl⟩)
            go_wp2_with fail
            refine (cl).mono ?_
            rintro e _ ⟨rfl, rfl⟩
            go_wp2_with fail
            refine (works_any _).mono ?_
            rintro e w5 ⟨rfl, hb9⟩
            go_wp2_with fail
            go_ret
            exact ⟨rfl, h.1.step hb9⟩
          by_cases a1 : again ≤ 2147483647
          case' neg =>
            have e0 := f1 (by omega)
            have e1 : setE 0 L2 again 3 = 2 ∧ (setL 0 L2 again 3).length = _ := ⟨e0.1, (congrArg List.length e0.2).trans hl⟩
            clear e0
            have a2 : ¬ again < (P : Int) := by omega
            clear f1 f2 f3 f4 hl
            go_wp2_with fail
            refine (set_n h again 3 hw2 (L2 := setL 0 L2 again 3) (m := setA 0 L2 again 3) (e := 2) rfl rfl e1.1).mono ?_
            rintro e w4 ⟨rfl, h, -⟩
            have cl := len_n h
            rw [e1.2] at cl
            try rw [show ((N2 + 1 : Nat) : Int) = (N2 : Int) + 1 by omega] at cl
            clear e1
            generalize setA 0 L2 again 3 = A3
            repeat
              (go_wp2_with fail
               refine (num_any _ _).mono ?_
               rintro e _ ⟨rfl, rfl⟩)
            go_wp2_with fail
            refine (cl).mono ?_
            rintro e _ ⟨rfl, rfl⟩
            go_wp2_with fail
            refine (works_any _).mono ?_
            rintro e w5 ⟨rfl, hb9⟩
            go_wp2_with fail
            go_ret
            exact ⟨rfl, h.1.step hb9⟩
          by_cases a2 : again < (P : Int)
          · have e1 := f2 a0 a1 ⟨a2, fun h => by cases h.1⟩
            clear f1 f2 f3 f4 hl
            go_wp2_with fail
            refine (set_n h again 3 hw2 (L2 := setL 0 L2 again 3) (m := setA 0 L2 again 3) (e := 0) rfl rfl e1.1).mono ?_
            rintro e w4 ⟨rfl, h, -⟩
            have cl := len_n h
            rw [e1.2] at cl
            try rw [show ((N2 + 1 : Nat) : Int) = (N2 : Int) + 1 by omega] at cl
            clear e1
            generalize setA 0 L2 again 3 = A3
            repeat
              (go_wp2_with fail
               refine (num_any _ _).mono ?_
               rintro e _ ⟨rfl, rfl⟩)
            go_wp2_with fail
            refine (cl).mono ?_
            rintro e _ ⟨rfl, rfl⟩
            go_wp2_with fail
            refine (works_any _).mono ?_
            rintro e w5 ⟨rfl, hb9⟩
            go_wp2_with fail
            go_ret
            exact ⟨rfl, h.1.step hb9⟩
          · by_cases a3 : P < 4096
            · have e1 := f3 a0 a1 (fun h => a2 h.1) a3
              have a4 : (P : Int) < 4096 := by omega
              clear f1 f2 f3 f4 hl
              go_wp2_with fail
              refine (set_n h again 3 hw2 (L2 := setL 0 L2 again 3) (m := setA 0 L2 again 3) (e := 0) rfl rfl e1.1).mono ?_
              rintro e w4 ⟨rfl, h, -⟩
              have cl := len_n h
              rw [e1.2] at cl
              try rw [show ((N2 + 1 : Nat) : Int) = (N2 : Int) + 1 by omega] at cl
              clear e1
              generalize setA 0 L2 again 3 = A3
              repeat
                (go_wp2_with fail
                 refine (num_any _ _).mono ?_
                 rintro e _ ⟨rfl, rfl⟩)
              go_wp2_with fail
              refine (cl).mono ?_
              rintro e _ ⟨rfl, rfl⟩
              go_wp2_with fail
              refine (works_any _).mono ?_
              rintro e w5 ⟨rfl, hb9⟩
              go_wp2_with fail
              go_ret
              exact ⟨rfl, h.1.step hb9⟩
            · have e1 := f4 a0 a1 (fun h => a2 h.1) a3
              have a4 : ¬ (P : Int) < 4096 := by omega
              clear f1 f2 f3 f4 hl
              go_wp2_with fail
              refine (set_n h again 3 hw2 (L2 := setL 0 L2 again 3) (m := setA 0 L2 again 3) (e := 3) rfl rfl e1.1).mono ?_
              rintro e w4 ⟨rfl, h, -⟩
              have cl := len_n h
              rw [e1.2] at cl
              try rw [show ((N2 + 1 : Nat) : Int) = (N2 : Int) + 1 by omega] at cl
              clear e1
              generalize setA 0 L2 again 3 = A3
              repeat
                (go_wp2_with fail
                 refine (num_any _ _).mono ?_
                 rintro e _ ⟨rfl, rfl⟩)
              go_wp2_with fail
              refine (cl).mono ?_
              rintro e _ ⟨rfl, rfl⟩
              go_wp2_with fail
              refine (works_any _).mono ?_
              rintro e w5 ⟨rfl, hb9⟩
              go_wp2_with fail
              go_ret
              exact ⟨rfl, h.1.step hb9⟩
        · clear c0
          go_wp2_with fail
          refine (cc).mono ?_
          rintro e w3 ⟨rfl, h, -⟩
          clear cc
          repeat
            (go_wp2_with fail
             refine (num_any _ _).mono ?_
             rintro e _ ⟨rfl, rfl⟩)
          have hnd := h.2.2.choose_spec.2.1.nodup
          obtain ⟨f1, f2, f3, f4⟩ := hC.set hnd again
          have hl := hC.1
          clear hnd hC
          by_cases a0 : 0 ≤ again
          case' neg =>
            have e0 := f1 (by omega)
            have e1 : setE 0 L2 again 3 = 2 ∧ (setL 0 L2 again 3).length = _ := ⟨e0.1, (congrArg List.length e0.2).trans hl⟩
            clear e0
            clear f1 f2 f3 f4 hl
            go_wp2_with fail
            refine (set_n h again 3 hw2 (L2 := setL 0 L2 again 3) (m := setA 0 L2 again 3) (e := 2) rfl rfl e1.1).mono ?_
            rintro e w4 ⟨rfl, h, -⟩
            have cl := len_n h
            rw [e1.2] at cl
            try rw [show ((N2 + 1 : Nat) : Int) = (N2 : Int) + 1 by omega] at cl
            clear e1
            generalize setA 0 L2 again 3 = A3
            repeat
              (go_wp2_with fail
               refine (num_any _ _).mono ?_
               rintro e _ ⟨rfl, rfl⟩)
            go_wp2_with fail
            refine (cl).mono ?_
            rintro e _ ⟨rfl, rfl⟩
            go_wp2_with fail
            refine (works_any _).mono ?_
            rintro e w5 ⟨rfl, hb9⟩
            go_wp2_with fail
            go_ret
            exact ⟨rfl, h.1.step hb9⟩
          by_cases a1 : again ≤ 2147483647
          case' neg =>
            have e0 := f1 (by omega)
            have e1 : setE 0 L2 again 3 = 2 ∧ (setL 0 L2 again 3).length = _ := ⟨e0.1, (congrArg List.length e0.2).trans hl⟩
            clear e0
            have a2 : ¬ again < (P : Int) := by omega
            clear f1 f2 f3 f4 hl
            go_wp2_with fail
            refine (set_n h again 3 hw2 (L2 := setL 0 L2 again 3) (m := setA 0 L2 again 3) (e := 2) rfl rfl e1.1).mono ?_
            rintro e w4 ⟨rfl, h, -⟩
            have cl := len_n h
            rw [e1.2] at cl
            try rw [show ((N2 + 1 : Nat) : Int) = (N2 : Int) + 1 by omega] at cl
            clear e1
            generalize setA 0 L2 again 3 = A3
            repeat
              (go_wp2_with fail
               refine (num_any _ _).mono ?_
               rintro e _ ⟨rfl, rfl⟩)
            go_wp2_with fail
            refine (cl).mono ?_
            rintro e _ ⟨rfl, rfl⟩
            go_wp2_with fail
            refine (works_any _).mono ?_
            rintro e w5 ⟨rfl, hb9⟩
            go_wp2_with fail
            go_ret
            exact ⟨rfl, h.1.step hb9⟩
          by_cases a2 : again < (P : Int)
          · have e1 := f2 a0 a1 ⟨a2, fun h => by cases h.1⟩
            clear f1 f2 f3 f4 hl
            go_wp2_with fail
            refine (set_n h again 3 hw2 (L2 := setL 0 L2 again 3) (m := setA 0 L2 again 3) (e := 0) rfl rfl e1.1).mono ?_
            rintro e w4 ⟨rfl, h, -⟩
            have cl := len_n h
            rw [e1.2] at cl
            try rw [show ((N2 + 1 : Nat) : Int) = (N2 : Int) + 1 by omega] at cl
            clear e1
            generalize setA 0 L2 again 3 = A3
            repeat
              (go_wp2_with fail
               refine (num_any _ _).mono ?_
               rintro e _ ⟨rfl, rfl⟩)
            go_wp2_with fail
            refine (cl).mono ?_
            rintro e _ ⟨rfl, rfl⟩
            go_wp2_with fail
            refine (works_any _).mono ?_
            rintro e w5 ⟨rfl, hb9⟩
            go_wp2_with fail
            go_ret
            exact ⟨rfl, h.1.step hb9⟩
          · by_cases a3 : P < 4096
            · have e1 := f3 a0 a1 (fun h => a2 h.1) a3
              have a4 : (P : Int) < 4096 := by omega
              clear f1 f2 f3 f4 hl
              go_wp2_with fail
              refine (set_n h again 3 hw2 (L2 := setL 0 L2 again 3) (m := setA 0 L2 again 3) (e := 0) rfl rfl e1.1).mono ?_
              rintro e w4 ⟨rfl, h, -⟩
              have cl := len_n h
              rw [e1.2] at cl
              try rw [show ((N2 + 1 : Nat) : Int) = (N2 : Int) + 1 by omega] at cl
              clear e1
              generalize setA 0 L2 again 3 = A3
              repeat
                (go_wp2_with fail
                 refine (num_any _ _).mono ?_
                 rintro e _ ⟨rfl, rfl⟩)
              go_wp2_with fail
              refine (cl).mono ?_
              rintro e _ ⟨rfl, rfl⟩
              go_wp2_with fail
              refine (works_any _).mono ?_
              rintro e w5 ⟨rfl, hb9⟩
              go_wp2_with fail
              go_ret
              exact ⟨rfl, h.1.step hb9⟩
            · have e1 := f4 a0 a1 (fun h => a2 h.1) a3
              have a4 : ¬ (P : Int) < 4096 := by omega
              clear f1 f2 f3 f4 hl
              go_wp2_with fail
              refine (set_n h again 3 hw2 (L2 := setL 0 L2 again 3) (m := setA 0 L2 again 3) (e := 3) rfl rfl e1.1).mono ?_
              rintro e w4 ⟨rfl, h, -⟩
              have cl := len_n h
              rw [e1.2] at cl
              try rw [show ((N2 + 1 : Nat) : Int) = (N2 : Int) + 1 by omega] at cl
              clear e1
              generalize setA 0 L2 again 3 = A3
              repeat
                (go_wp2_with fail
                 refine (num_any _ _).mono ?_
                 rintro e _ ⟨rfl, rfl⟩)
              go_wp2_with fail
              refine (cl).mono ?_
              rintro e _ ⟨rfl, rfl⟩
              go_wp2_with fail
              refine (works_any _).mono ?_
              rintro e w5 ⟨rfl, hb9⟩
              go_wp2_with fail
              go_ret
              exact ⟨rfl, h.1.step hb9⟩
theorem WheelFull_walk (many cancel again : Int) (w : World) (h0 : -9223372036854775808 ≤ many ∧ many ≤ 9223372036854775807) (h1 : -9223372036854775808 ≤ cancel ∧ cancel ≤ 9223372036854775807) (h2 : -9223372036854775808 ≤ again ∧ again ≤ 9223372036854775807) :
    Calls Try.prog 4 #[.int .i64 many, .int .i64 cancel, .int .i64 again] w (WorksP w) := by
  have hw1 : wf64 cancel := wf_of h1.1 h1.2
  have hw2 : wf64 again := wf_of h2.1 h2.2
  clear h1 h2
  by_cases m0 : many < 0
  · go_enter Try.func4, Try.ntmps4
    go_wp2_with fail
    refine (works_any _).mono ?_
    rintro e w1 ⟨rfl, hb9⟩
    go_wp2_with fail
    go_ret
    exact ⟨rfl, hb9⟩
  · by_cases m1 : 4100 < many
    · go_enter Try.func4, Try.ntmps4
      go_wp2_with fail
      refine (works_any _).mono ?_
      rintro e w1 ⟨rfl, hb9⟩
      go_wp2_with fail
      go_ret
      exact ⟨rfl, hb9⟩
    · obtain ⟨M, rfl⟩ : ∃ M : Nat, many = M := ⟨many.toNat, by omega⟩
      exact full_some M cancel again w (by omega) hw1 hw2
end Go.Proofs.Ytfdfmmmfklodgaa
