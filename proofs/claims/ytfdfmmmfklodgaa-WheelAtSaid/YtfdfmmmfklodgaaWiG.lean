
/- WheelAt. -/
import Derived.Test.YtfdfmmmfklodgaaWiF
namespace Go.Proofs.Ytfdfmmmfklodgaa
open Go.RowKit
set_option maxRecDepth 100000 in
set_option maxHeartbeats 8000000 in
theorem WheelAt_walk (ao : Option Addr) (n c : Nat) (id : Int) (w : World) (hA : HasA w ao n ∧ n ≤ 9223372036854775807) (hid : -9223372036854775808 ≤ id ∧ id ≤ 9223372036854775807) :
    Calls Try.prog 6 #[.slice ao n c, .int .i64 id] w (WorksP w) := by
  obtain ⟨hA, hn⟩ := hA
  have hw : wf64 id := wf_of hid.1 hid.2
  clear hid
  have n0 : (0 : Int) ≤ (n : Int) := by omega
  by_cases h30 : 30 < n
  · have n1 : (30 : Int) < (n : Int) := by omega
    go_enter Try.func6, Try.ntmps6
    go_wp2_with fail
    refine (works_any _).mono ?_
    rintro e w1 ⟨rfl, hb⟩
    go_wp2_with fail
    go_ret
    exact ⟨rfl, hb⟩
  have n1 : ¬ (30 : Int) < (n : Int) := by omega
  go_enter Try.func6, Try.ntmps6
  go_wp2_with fail
  refine (small_any ao n c hn _ hA).mono ?_
  rintro e _ ⟨⟨b, rfl⟩, rfl⟩
  cases b
  · go_wp2_with fail
    refine (works_any _).mono ?_
    rintro e w1 ⟨rfl, hb⟩
    go_wp2_with fail
    go_ret
    exact ⟨rfl, hb⟩
  go_wp2_with fail
  refine (played_any ao n c hn _ hA).mono ?_
  rintro e w1 ⟨g, now, L, a, c1, xs, rfl, hP, hx, hb⟩
  replace hb : From w w1 := hb
  have hAt := at_any xs g now L id hw w1 hP.1
  have hp := pos_get L id
  have hll : L.length ≤ 4096 := hP.2.1.len
  have hR := hP.2.2.1
  have hA1 := fun W h => at_any xs g now L id hw W h
  have hRA := fun W h => refAt_any 0 now a c1 L id W h (by omega)
  have hV := hP.1
  obtain ⟨N, hN⟩ : ∃ N, L.length = N := ⟨_, rfl⟩
  rw [hN] at hR hRA hll ⊢
  clear hAt hx hP hA
  go_upto_region 4 with fail
  obtain ⟨gX, hgX⟩ : ∃ g, (w1).heap.size = g := ⟨_, rfl⟩
  have X := Blk.newV hgX 28 #[.int .i64 now, .slice a N c1]
  have hbn := (Below.refl (w1).heap.size w1).alloc (Nat.le_refl _) (.cells #[.int .i64 now, .slice a N c1] 28)
  replace hb := hb.step hbn
  replace hV := hV.step hbn
  replace hR := hR.step hbn
  clear hbn
  rw [hgX]
  generalize (w1).alloc (.cells #[.int .i64 now, .slice a N c1] 28) = w2 at *
  rcases hp with ⟨p1, p2⟩ | ⟨k, q, p1, hk, -, p2⟩
  · rw [p1] at hRA
    rw [p2] at hA1
    simp only [Option.getD_none, Option.isSome_none] at hA1
    go_wp2_with fail
    refine (hA1 _ hV).mono ?_
    rintro e _ ⟨rfl, rfl⟩
    have x0 := X.cell (j := 0) rfl
    have x1 := X.cell (j := 1) rfl
    go_wp2_with fail
    refine (hRA _ hR).mono ?_
    rintro e w3 ⟨rfl, hbn⟩
    replace hb := hb.step hbn
    go_wp2_with fail
    refine (works_any _).mono ?_
    rintro e w1 ⟨rfl, hb9⟩
    go_wp2_with fail
    go_ret
    exact ⟨rfl, hb.step hb9⟩
  · rw [p1] at hRA
    rw [p2] at hA1
    simp only [Option.getD_some, Option.isSome_some] at hA1
    have k0 : (0 : Int) ≤ (k : Int) := by omega
    have k1 : (k : Int) < (N : Int) := by have := (List.getElem?_eq_some_iff.1 hk).1; omega
    go_wp2_with fail
    refine (hA1 _ hV).mono ?_
    rintro e _ ⟨rfl, rfl⟩
    have x0 := X.cell (j := 0) rfl
    have x1 := X.cell (j := 1) rfl
    go_wp2_with fail
    refine (hRA _ hR).mono ?_
    rintro e w3 ⟨rfl, hbn⟩
    replace hb := hb.step hbn
    replace hV := hV.step hbn
    replace hR := hR.step hbn
    replace X := X.step hbn
    clear x0 x1
    have x0 := X.cell (j := 0) rfl
    have x1 := X.cell (j := 1) rfl
    obtain ⟨b3, off, rfl, d0, d1⟩ := hR.has.2.1 k q hk
    go_wp2_with fail
    refine (works_any _).mono ?_
    rintro e w1 ⟨rfl, hb9⟩
    go_wp2_with fail
    go_ret
    exact ⟨rfl, hb.step hb9⟩
end Go.Proofs.Ytfdfmmmfklodgaa
