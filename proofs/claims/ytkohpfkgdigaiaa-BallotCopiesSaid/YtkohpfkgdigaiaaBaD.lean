
/- Package ballot: the least ballot above others. -/
import Derived.Test.YtkohpfkgdigaiaaBaC
namespace Go.Proofs.Ytkohpfkgdigaiaa
open Go.RowKit

abbrev Bl := Int × Int
def noneB (b : Bl) : Bool := b.1 == -1 && b.2 == 0
def badB (c : Int) (b : Bl) : Bool := !noneB b && !chkB c b.1 b.2
def cellsB (xs : List Bl) : List Value := xs.flatMap fun b => [.int .i64 b.1, .int .i64 b.2]
/-- A slice of ballots whose cells lie at the start of block g. -/
def HasB (w : World) (g : Nat) (xs : List Bl) : Prop := ∀ k (h : k < xs.length), w.cell? ⟨g, k * 2, none⟩ = some (.int .i64 xs[k].1) ∧ w.cell? ⟨g, k * 2 + 1, none⟩ = some (.int .i64 xs[k].2)
theorem HasB.step {w w1 : World} {g : Nat} {xs : List Bl} (h : HasB w g xs) (hb : Below w.heap.size w w1) : HasB w1 g xs := fun k hk => ⟨cells_kept hb (h k hk).1, cells_kept hb (h k hk).2⟩
theorem HasB.below {w w1 : World} {B g : Nat} {xs : List Bl} (h : HasB w g xs) (hb : Below B w w1) (hg : g < B) : HasB w1 g xs :=
  fun k hk => ⟨(hb.cell (p := ⟨g, k * 2, none⟩) hg).trans (h k hk).1, (hb.cell (p := ⟨g, k * 2 + 1, none⟩) hg).trans (h k hk).2⟩

set_option maxRecDepth 100000 in
set_option maxHeartbeats 1000000 in
theorem bad_any (c r p : Int) (b1 b2 : Nat) (v : Bool) (hv : badB c (r, p) = v) (w : World) (h0 : w.cell? ⟨b1, 0, none⟩ = some (.int .i64 (-1))) (h1 : w.cell? ⟨b1, 1, none⟩ = some (.int .i64 0)) (h2 : w.cell? ⟨b2, 0, none⟩ = some (.int .i64 c)) :
    Calls Try.prog 40 #[.agg #[.int .i64 r, .int .i64 p], .pointer (some ⟨b1, 0, none⟩), .pointer (some ⟨b2, 0, none⟩)] w fun e w' => e = .returned (.bool v) ∧ Below w.heap.size w w' := by
  subst hv
  have k0 := keep_alloc h0
  have k1 := keep_alloc h1
  have k2 := keep_alloc h2
  by_cases e1 : r = -1
  · by_cases e2 : p = 0
    · subst e1 e2
      have hv : badB c (-1, 0) = false := by simp [badB, noneB]
      rw [hv]; clear hv
      go_enter Try.func40, Try.ntmps40
      go_wp2_with fail
      go_returns
      exact ⟨rfl, by go_grown⟩
    · have hv : badB c (r, p) = !chkB c r p := by simp [badB, noneB, e2]
      rw [hv]; clear hv
      subst e1
      cases hc : chkB c (-1) p
      · have hk : chkI c (-1) p = 2 := by simp only [chkI, hc]; rfl
        clear hc
        have HK := Lib.hid hk
        clear hk
        go_enter Try.func40, Try.ntmps40
        go_wp2_with fail
        refine (bcheck_at _ _ _ _ HK.out _).mono ?_
        rintro e w2 ⟨rfl, b2⟩
        go_wp2_with fail
        go_returns
        exact ⟨rfl, ((Below.refl _ _).alloc (Nat.le_refl _) _).trans (b2.mono (by simp))⟩
      · have hk : chkI c (-1) p = 0 := by simp only [chkI, hc]; rfl
        clear hc
        have HK := Lib.hid hk
        clear hk
        go_enter Try.func40, Try.ntmps40
        go_wp2_with fail
        refine (bcheck_at _ _ _ _ HK.out _).mono ?_
        rintro e w2 ⟨rfl, b2⟩
        go_wp2_with fail
        go_returns
        exact ⟨rfl, ((Below.refl _ _).alloc (Nat.le_refl _) _).trans (b2.mono (by simp))⟩
  · have hv : badB c (r, p) = !chkB c r p := by simp [badB, noneB, e1]
    rw [hv]; clear hv
    cases hc : chkB c r p
    · have hk : chkI c r p = 2 := by simp only [chkI, hc]; rfl
      clear hc
      have HK := Lib.hid hk
      clear hk
      go_enter Try.func40, Try.ntmps40
      go_wp2_with fail
      refine (bcheck_at _ _ _ _ HK.out _).mono ?_
      rintro e w2 ⟨rfl, b2⟩
      go_wp2_with fail
      go_returns
      exact ⟨rfl, ((Below.refl _ _).alloc (Nat.le_refl _) _).trans (b2.mono (by simp))⟩
    · have hk : chkI c r p = 0 := by simp only [chkI, hc]; rfl
      clear hc
      have HK := Lib.hid hk
      clear hk
      go_enter Try.func40, Try.ntmps40
      go_wp2_with fail
      refine (bcheck_at _ _ _ _ HK.out _).mono ?_
      rintro e w2 ⟨rfl, b2⟩
      go_wp2_with fail
      go_returns
      exact ⟨rfl, ((Below.refl _ _).alloc (Nat.le_refl _) _).trans (b2.mono (by simp))⟩

theorem any_take {p : Bl → Bool} (xs : List Bl) (k : Nat) (h : k < xs.length) : (xs.take (k + 1)).any p = ((xs.take k).any p || p xs[k]) := by
  rw [List.take_succ_eq_append_getElem h, List.any_append]
  simp
theorem any_at {p : Bl → Bool} {xs : List Bl} {k : Nat} (h : k < xs.length) (hp : p xs[k] = true) : xs.any p = true := List.any_eq_true.2 ⟨_, List.getElem_mem h, hp⟩

def idxV (v : Int) (t : Bool) : Prop := (v = -1 ∧ t = false) ∨ (0 ≤ v ∧ t = true)
def BadF (b1 b2 : Nat) : Value := .func (.func 40) #[] #[.pointer (some ⟨b1, 0, none⟩), .pointer (some ⟨b2, 0, none⟩)]
set_option maxRecDepth 100000 in
set_option maxHeartbeats 2000000 in
theorem index_any (c : Int) (g cap b1 b2 n : Nat) (xs : List Bl) (hn : xs.length = n) (hm : n ≤ 1000) (w : World) (hx : HasB w g xs) (h0 : w.cell? ⟨b1, 0, none⟩ = some (.int .i64 (-1))) (h1 : w.cell? ⟨b1, 1, none⟩ = some (.int .i64 0)) (h2 : w.cell? ⟨b2, 0, none⟩ = some (.int .i64 c)) :
    Calls Try.prog 57 #[.slice (some ⟨g, 0, none⟩) n cap, BadF b1 b2] w fun e w' => ∃ v, e = .returned (.int .i64 v) ∧ idxV v (xs.any (badB c)) ∧ Below w.heap.size w w' := by
  unfold BadF
  have HX := Lib.hid hx
  have HN := Lib.hid hn
  have H0 := Lib.hid h0
  have H1 := Lib.hid h1
  have H2 := Lib.hid h2
  clear hx hn h0 h1 h2
  go_enter Try.func57, Try.ntmps57
  go_wp2
  go_loopw [8] (fun i wr => ∃ k : Nat, k ≤ n ∧ i = .int .i64 k ∧ Hid ((xs.take k).any (badB c) = false) ∧ Below w.heap.size w wr) (fun i _ => n - (intOf i).toNat)
  case atStart => exact ⟨0, by omega, rfl, Lib.hid (by simp), Below.refl _ _⟩
  case round =>
    obtain ⟨k, hk, rfl, ht, hb⟩ := hrel
    by_cases hlt : k < n
    · have hlt' : k < xs.length := by rw [HN.out]; exact hlt
      have hcell := (HX.out.step hb) k hlt'
      obtain ⟨v, hv⟩ : ∃ v, badB c (xs[k].1, xs[k].2) = v := ⟨_, rfl⟩
      have HA := Lib.hid (any_take (p := badB c) xs k hlt')
      have HB := Lib.hid (fun h => any_at (p := badB c) hlt' h)
      obtain ⟨r, hr⟩ : ∃ r, xs[k].1 = r := ⟨_, rfl⟩
      obtain ⟨p, hp⟩ : ∃ p, xs[k].2 = p := ⟨_, rfl⟩
      have HE : Hid (xs[k] = (r, p)) := Lib.hid (by rw [← hr, ← hp])
      rw [hr, hp] at hv hcell
      clear hr hp
      obtain ⟨c0, c1⟩ := hcell
      have d0 := cells_kept hb H0.out
      have d1 := cells_kept hb H1.out
      have d2 := cells_kept hb H2.out
      have HV := Lib.hid hv
      clear hv
      cases v
      · go_wp2_with fail
        refine (bad_any _ _ _ _ _ false HV.out _ d0 d1 d2).mono ?_
        rintro e w1 ⟨rfl, b3⟩
        clear c0 c1 d0 d1 d2
        go_wp2_with fail
        go_roundw
        case rel => exact ⟨k + 1, by omega, by go_num, Lib.hid (by rw [HA.out, ht.out, HE.out, HV.out]; rfl), hb.trans (b3.mono hb.size)⟩
        case measure => simp [intOf]; omega
      · go_wp2_with fail
        refine (bad_any _ _ _ _ _ true HV.out _ d0 d1 d2).mono ?_
        rintro e w1 ⟨rfl, b3⟩
        go_wp2_with fail
        go_returns
        exact ⟨_, rfl, .inr ⟨by omega, HB.out (by rw [HE.out, HV.out])⟩, hb.trans (b3.mono hb.size)⟩
    · obtain rfl : k = n := by omega
      go_wp2
      go_returns
      exact ⟨_, rfl, .inl ⟨rfl, by have h := ht.out; rwa [List.take_of_length_le (by rw [HN.out]; exact Nat.le_refl _)] at h⟩, hb⟩
set_option maxRecDepth 100000 in
set_option maxHeartbeats 400000 in
theorem index_nil (f : Value) (w : World) : Calls Try.prog 57 #[.slice none 0 0, f] w fun e w' => ∃ v, e = .returned (.int .i64 v) ∧ idxV v false ∧ Below w.heap.size w w' := by
  go_enter Try.func57, Try.ntmps57
  go_wp2
  refine wp_loop_rounds 1 ?_
  rw [rounds_succ]
  go_wp2
  go_returns
  exact ⟨_, rfl, .inl ⟨rfl, rfl⟩, by go_grown⟩

/-- A slice of ballots: nil, or at the start of a block. -/
def SlB (w : World) (sl : Value) (xs : List Bl) : Prop := (sl = .slice none 0 0 ∧ xs = []) ∨ ∃ g cap, sl = .slice (some ⟨g, 0, none⟩) xs.length cap ∧ xs.length ≤ cap ∧ HasB w g xs ∧ g < w.heap.size
set_option maxRecDepth 100000 in
set_option maxHeartbeats 400000 in
theorem contains_any (c : Int) (sl : Value) (b1 b2 : Nat) (xs : List Bl) (hm : xs.length ≤ 1000) (v : Bool) (hv : xs.any (badB c) = v) (w : World) (hx : SlB w sl xs) (h0 : w.cell? ⟨b1, 0, none⟩ = some (.int .i64 (-1))) (h1 : w.cell? ⟨b1, 1, none⟩ = some (.int .i64 0)) (h2 : w.cell? ⟨b2, 0, none⟩ = some (.int .i64 c)) :
    Calls Try.prog 41 #[sl, BadF b1 b2] w fun e w' => e = .returned (.bool v) ∧ Below w.heap.size w w' := by
  subst hv
  rcases hx with ⟨rfl, rfl⟩ | ⟨g, cap, rfl, -, hx, -⟩
  · clear h0 h1 h2
    go_enter Try.func41, Try.ntmps41
    go_wp2_with fail
    refine (index_nil _ _).mono ?_
    rintro e w1 ⟨v, rfl, hv, b1⟩
    rcases hv with ⟨rfl, -⟩ | ⟨-, h⟩
    · go_wp2_with fail
      go_returns
      exact ⟨rfl, b1⟩
    · cases h
  · have HC := Lib.hid (index_any c g cap b1 b2 _ xs rfl hm w hx h0 h1 h2)
    clear h0 h1 h2 hx
    go_enter Try.func41, Try.ntmps41
    go_wp2_with fail
    refine (HC.out).mono ?_
    rintro e w1 ⟨v, rfl, hv, b1⟩
    rcases hv with ⟨rfl, h⟩ | ⟨h, h'⟩
    · go_wp2_with fail
      go_returns
      exact ⟨ret_bool (by rw [h]), b1⟩
    · go_wp2_with fail
      go_returns
      exact ⟨ret_bool (by rw [h']), b1⟩
end Go.Proofs.Ytkohpfkgdigaiaa
