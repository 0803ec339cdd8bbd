
/- The document's Entry (14). -/
import Derived.Test.YthhpblchiodahaaGreatDoorAcC
namespace Go.Proofs.YthhpblchiodahaaGreatDoor
set_option linter.unusedSimpArgs false
set_option linter.unusedVariables false
open Go.RowKit
set_option linter.unusedSimpArgs false
set_option maxRecDepth 100000 in
set_option maxHeartbeats 2000000 in
theorem ref14_any (k m n : Int) (s : ByteArray) (w : World) (hs : s.size ≤ 9223372036854775807) :
    Calls Tryz.prog 86 #[.agg #[.int .i64 k, .int .i64 m, .int .i64 n, .string s]] w fun e w' => e = .returned (.bool (entB k m n s)) ∧ Below w.heap.size w w' := by
  have he := chk_eq s
  by_cases h0 : 0 ≤ m
  · by_cases h1 : m < 16
    · by_cases h2 : 1 ≤ n
      · by_cases h3 : n ≤ 2147483647
        ·
          go_enter Tryz.func86, Tryz.ntmps86
          go_wp2_with fail
          all_goals
            first
            | (go_ret
               exact ⟨tx_bool (by (simp_all [entB, memB, emptyB, sayB]; try omega)), (Below.refl _ _).alloc (Nat.le_refl _) _⟩)
            | (refine (refCheck3_any s hs _).mono ?_
               rintro e w' ⟨rfl, hb⟩
               go_wp2_with fail
               go_ret
               exact ⟨tx_bool (by (simp_all [entB, memB, emptyB, sayB]; try omega)), ((Below.refl _ _).alloc (Nat.le_refl _) _).trans (hb.mono (by rw [alloc_size rfl]; omega))⟩)
        ·
          go_enter Tryz.func86, Tryz.ntmps86
          go_wp2_with fail
          all_goals
            first
            | (go_ret
               exact ⟨tx_bool (by (simp_all [entB, memB, emptyB, sayB]; try omega)), (Below.refl _ _).alloc (Nat.le_refl _) _⟩)
            | (refine (refCheck3_any s hs _).mono ?_
               rintro e w' ⟨rfl, hb⟩
               go_wp2_with fail
               go_ret
               exact ⟨tx_bool (by (simp_all [entB, memB, emptyB, sayB]; try omega)), ((Below.refl _ _).alloc (Nat.le_refl _) _).trans (hb.mono (by rw [alloc_size rfl]; omega))⟩)
      ·
        go_enter Tryz.func86, Tryz.ntmps86
        go_wp2_with fail
        all_goals
          first
          | (go_ret
             exact ⟨tx_bool (by (simp_all [entB, memB, emptyB, sayB]; try omega)), (Below.refl _ _).alloc (Nat.le_refl _) _⟩)
          | (refine (refCheck3_any s hs _).mono ?_
             rintro e w' ⟨rfl, hb⟩
             go_wp2_with fail
             go_ret
             exact ⟨tx_bool (by (simp_all [entB, memB, emptyB, sayB]; try omega)), ((Below.refl _ _).alloc (Nat.le_refl _) _).trans (hb.mono (by rw [alloc_size rfl]; omega))⟩)
    ·
      go_enter Tryz.func86, Tryz.ntmps86
      go_wp2_with fail
      all_goals
        first
        | (go_ret
           exact ⟨tx_bool (by (simp_all [entB, memB, emptyB, sayB]; try omega)), (Below.refl _ _).alloc (Nat.le_refl _) _⟩)
        | (refine (refCheck3_any s hs _).mono ?_
           rintro e w' ⟨rfl, hb⟩
           go_wp2_with fail
           go_ret
           exact ⟨tx_bool (by (simp_all [entB, memB, emptyB, sayB]; try omega)), ((Below.refl _ _).alloc (Nat.le_refl _) _).trans (hb.mono (by rw [alloc_size rfl]; omega))⟩)
  ·
    go_enter Tryz.func86, Tryz.ntmps86
    go_wp2_with fail
    all_goals
      first
      | (go_ret
         exact ⟨tx_bool (by (simp_all [entB, memB, emptyB, sayB]; try omega)), (Below.refl _ _).alloc (Nat.le_refl _) _⟩)
      | (refine (refCheck3_any s hs _).mono ?_
         rintro e w' ⟨rfl, hb⟩
         go_wp2_with fail
         go_ret
         exact ⟨tx_bool (by (simp_all [entB, memB, emptyB, sayB]; try omega)), ((Below.refl _ _).alloc (Nat.le_refl _) _).trans (hb.mono (by rw [alloc_size rfl]; omega))⟩)
end Go.Proofs.YthhpblchiodahaaGreatDoor
