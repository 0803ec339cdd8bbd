
/- Law 7: left, works: a disk of one file. -/
import Derived.Test.YtceoehjjebkgpaaDkN
namespace Go.Proofs.Ytceoehjjebkgpaa
set_option linter.unusedSimpArgs false
set_option linter.unusedVariables false
open Go.RowKit Go.Maps
abbrev aS : ByteArray := ⟨#[97]⟩
abbrev bS : ByteArray := ⟨#[98]⟩
theorem nm_a : nmB aS = true := by kernel_rfl
theorem nm_b : nmB bS = true := by kernel_rfl
theorem ok_a : okS aS := nm_ok nm_a
theorem ok_b : okS bS := nm_ok nm_b
theorem put_none (s : ByteArray) (m : Fm) : putG ([] : FMap) s m = [(s, m)] := rfl
theorem put_one (s : ByteArray) (m m' : Fm) : putG ([(s, m)] : FMap) s m' = [(s, m')] := by simp [putG, delG]
theorem get_one (s : ByteArray) (m : Fm) : getM ([(s, m)] : FMap) s = m := by simp [getM, getG]
theorem get_none (s : ByteArray) : getM ([] : FMap) s = fm0 := rfl
theorem file_one {s : ByteArray} (m : Fm) (h : nmB s = true) : fileM ([(s, m)] : FMap) s = m ∧ fileE ([(s, m)] : FMap) s = 0 := by
  simp [fileM, fileE, h, getG]
theorem used_one (s : ByteArray) (m : Fm) : usedN ([(s, m)] : FMap) = m.b.length := by simp [usedN]
theorem srt_one (p : ByteArray × Fm) : srt [p] = [p] := by
  have := srt_perm [p]
  exact List.perm_singleton.1 this
theorem one_mem {p : ByteArray × Fm} {s : ByteArray} {m : Fm} (h : p ∈ ([(s, m)] : FMap)) : p = (s, m) := by simpa using h
theorem good_one {D : Ds} {m : Fm} (h1 : 0 ≤ D.room) (h2 : D.room ≤ 16777216) (hu : (m.b.length : Int) ≤ D.room) (h3 : 0 ≤ D.after) (h4 : D.after ≤ 9223372036854775807) : GoodD D [(aS, m)] :=
  ⟨h1, h2, by rw [used_one]; exact hu, by simp, fun p hp => by rw [one_mem hp]; exact ok_a, h3, h4⟩
theorem good_zero {D : Ds} (h1 : 0 ≤ D.room) (h2 : D.room ≤ 16777216) (h3 : 0 ≤ D.after) (h4 : D.after ≤ 9223372036854775807) : GoodD D [] :=
  ⟨h1, h2, by simpa [usedN] using h1, by simp, fun p hp => (by cases hp), h3, h4⟩
theorem crM_one (picks : List Int) (m : Fm) : crM picks [(aS, m)] 1 = [(aS, crF picks 0 (aS, m))] := rfl
theorem blk_at {W : World} {g : Nat} {y : BL} (h : Blk W g 5 (y.map encB)) : ByAt W (some ⟨g, 0, none⟩) y := by
  refine .inr ⟨g, 0, rfl, fun j u hu => ?_⟩
  rw [Nat.zero_add]
  exact h.cell (j := j) (by rw [List.getElem?_map, hu]; rfl)
theorem blk_int {W : World} {g : Nat} {l : List Int} (h : Blk W g 3 (l.map (Value.int .i64))) : HasInt W (some ⟨g, 0, none⟩) l := by
  intro k x hk
  refine ⟨g, 0, rfl, ?_⟩
  rw [Nat.zero_add]
  exact h.cell (j := k) (by rw [List.getElem?_map, hk]; rfl)
theorem int_nil (W : World) (po : Option Addr) : HasInt W po [] := fun k x hk => by simp at hk
set_option maxRecDepth 100000 in
set_option maxHeartbeats 2000000 in
theorem left1 (d mb : Nat) (D : Ds) (m : Fm) (po : Option Addr) (picks : List Int) (cp : Nat) (w : World) (r : ByteArray) (h : DkW w d mb D [(aS, m)]) (hG : GoodD D [(aS, m)]) (hr1 : 1 ≤ D.room) (hS : 0 ≤ m.s ∧ m.s ≤ m.b.length) (hp : HasInt w po picks) (hpl : picks.length ≤ 1000000)
    (hr : mkS (m.b.take (crN picks 0 (aS, m)).toNat) = r) :
    Calls Try.prog 22 #[.pointer (some ⟨d, 0, none⟩), .string aS, .slice po picks.length cp] w fun e w' => e = .returned (.string r) ∧ Below w.heap.size w w' := by
  have cC := dcrash_any d mb D [(aS, m)] po picks cp w h hG hr1 (fun p hp => by rw [one_mem hp]; exact hS) hp hpl
  rw [srt_one] at cC
  simp only [List.length_cons, List.length_nil, Nat.zero_add, crM_one] at cC
  obtain ⟨m2, hcl, hcb, hm2⟩ : ∃ m2 : Fm, m2.b.length ≤ m.b.length ∧ m2.b = m.b.take (crN picks 0 (aS, m)).toNat ∧ crF picks 0 (aS, m) = m2 :=
    ⟨crF picks 0 (aS, m), by simp only [crF, List.length_take]; omega, rfl, rfl⟩
  rw [← hcb] at hr
  rw [hm2] at cC
  clear hm2 hcb
  have hu := hG.u
  rw [used_one] at hu
  have hG2 : GoodD ⟨D.room, false, 0, false⟩ [(aS, m2)] := good_one hG.r1 hG.r2 (by show (m2.b.length : Int) ≤ D.room; omega) (Int.le_refl _) (show (0 : Int) ≤ 9223372036854775807 by decide)
  obtain ⟨hfm, hfe⟩ := file_one m2 nm_a
  have hb := From.refl w
  obtain ⟨np, hnp⟩ : ∃ n, picks.length = n := ⟨_, rfl⟩
  rw [hnp] at cC ⊢
  go_enter Try.func22, Try.ntmps22
  go_wp2_with fail
  refine (cC).mono ?_
  rintro e w2 ⟨⟨c, rfl, hcw, mb2, hmw, hD⟩, hbn⟩
  replace hb := hb.step hbn
  have cR := dread_any c mb2 _ _ aS w2 hD hG2 ok_a
  rw [hfm, hfe] at cR
  go_wp2_with fail
  refine (cR).mono ?_
  rintro e w3 ⟨⟨ao2, c2, rfl, h2⟩, hbn2⟩
  replace hb := hb.step hbn2
  have hcv := bySl_back h2 c2
  rw [hr] at hcv
  go_wp2_with fail
  go_ret
  exact ⟨rfl, hb.out⟩
end Go.Proofs.Ytceoehjjebkgpaa
