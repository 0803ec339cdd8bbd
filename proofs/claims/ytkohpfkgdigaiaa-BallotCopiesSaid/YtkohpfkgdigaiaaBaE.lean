
/- Package ballot: the greatest of some ballots. -/
import Derived.Test.YtkohpfkgdigaiaaBaD
import Derived.ArgAppend
import Derived.Deep.AppendLies
namespace Go.Proofs.Ytkohpfkgdigaiaa
open Go.RowKit

def stepB (m x : Bl) : Bl := if 0 < cmpI x.1 x.2 m.1 m.2 then x else m
def topK (ys : List Bl) : Nat → Bl
  | 0 => ys.getD 0 (0, 0)
  | k + 1 => stepB (topK ys k) (ys.getD k (0, 0))
theorem cmp_self (r p : Int) : cmpI r p r p = 0 := by simp [cmpI, or2, c3]
theorem topK_one (ys : List Bl) : topK ys 1 = ys.getD 0 (0, 0) := by simp [topK, stepB, cmp_self]

theorem compare_S (r p s q : Int) (v : Int) (hv : cmpI r p s q = v) (w : World) :
    Calls Try.prog 10 #[.agg #[.int .i64 r, .int .i64 p], .agg #[.int .i64 s, .int .i64 q]] w fun e w' => e = .returned (.int .i64 v) ∧ Below w.heap.size w w' ∧ ∀ (b o : Nat) (u : Value), w.cell? ⟨b, o, none⟩ = some u → w'.cell? ⟨b, o, none⟩ = some u :=
  hv ▸ (compare_any r p s q w).mono fun _ _ h => ⟨h.1, h.2, fun _ _ _ => cells_kept h.2⟩

def CmpF : Value := .func (.func 10) #[] #[]
set_option maxRecDepth 100000 in
set_option maxHeartbeats 4000000 in
theorem max_any (g cap n : Nat) (ys : List Bl) (hn : ys.length = n) (h1 : 1 ≤ n) (hm : n ≤ 1000) (w : World) (hx : HasB w g ys) :
    Calls Try.prog 58 #[.slice (some ⟨g, 0, none⟩) n cap, CmpF] w fun e w' => e = .returned (.agg #[.int .i64 (topK ys n).1, .int .i64 (topK ys n).2]) ∧ Below w.heap.size w w' := by
  unfold CmpF
  obtain ⟨c0, c1⟩ := hx 0 (by omega)
  have ht1 := topK_one ys
  have e0 : ys.getD 0 (0, 0) = ys[0] := by simp [List.getElem?_eq_getElem (show 0 < ys.length by omega)]
  rw [e0] at ht1
  obtain ⟨r, hr⟩ : ∃ r, ys[0].1 = r := ⟨_, rfl⟩
  obtain ⟨p, hp⟩ : ∃ p, ys[0].2 = p := ⟨_, rfl⟩
  rw [hr] at c0
  rw [hp] at c1
  have HT : Hid (topK ys 1 = (r, p)) := Lib.hid (by rw [ht1, ← hr, ← hp])
  clear hr hp e0 ht1
  simp only [Nat.zero_mul, Nat.zero_add] at c0 c1
  have k0 := keep_alloc c0
  have k1 := keep_alloc c1
  have HX := Lib.hid hx
  have HN := Lib.hid hn
  clear hx hn c0 c1
  go_enter Try.func58, Try.ntmps58
  go_wp2
  go_loopw [6] (fun i wr => ∃ k : Nat, 1 ≤ k ∧ k ≤ n ∧ i = .int .i64 k ∧ Below w.heap.size w wr ∧ Blk wr w.heap.size 23 [.int .i64 0, .int .i64 0] ∧ Blk wr (w.heap.size + 1) 23 [.int .i64 (topK ys k).1, .int .i64 (topK ys k).2]) (fun i _ => n - (intOf i).toNat)
  case atStart =>
    refine ⟨1, by omega, by omega, by simp, by go_grown, (Blk.new w _ _).alloc _, ?_⟩
    rw [HT.out]
    have h := Blk.new (w.alloc (.cells #[.int .i64 0, .int .i64 0] 23)) 23 [.int .i64 r, .int .i64 p]
    simpa only [World.size_alloc] using h
  case round =>
    obtain ⟨k, hk1, hk, rfl, hb, R, M⟩ := hrel
    obtain ⟨mr, hmr⟩ : ∃ mr, (topK ys k).1 = mr := ⟨_, rfl⟩
    obtain ⟨mp, hmp⟩ : ∃ mp, (topK ys k).2 = mp := ⟨_, rfl⟩
    have HK : Hid (topK ys k = (mr, mp)) := Lib.hid (by rw [← hmr, ← hmp])
    rw [hmr, hmp] at M
    clear hmr hmp
    have hsz := M.lt
    have c0M := M.cell (j := 0) rfl
    have c1M := M.cell (j := 1) rfl
    have z0M := M.frozen 0
    have z1M := M.frozen 1
    by_cases hlt : k < n
    · have hlt' : k < ys.length := by rw [HN.out]; exact hlt
      have hcell := (HX.out.step hb) k hlt'
      obtain ⟨xr, hr⟩ : ∃ r, ys[k].1 = r := ⟨_, rfl⟩
      obtain ⟨xp, hp⟩ : ∃ p, ys[k].2 = p := ⟨_, rfl⟩
      have HE : Hid (ys.getD k (0, 0) = (xr, xp)) := Lib.hid (by rw [← hr, ← hp]; simp [hlt'])
      rw [hr, hp] at hcell
      clear hr hp
      obtain ⟨c0, c1⟩ := hcell
      obtain ⟨v, hv⟩ : ∃ v, cmpI xr xp mr mp = v := ⟨_, rfl⟩
      have hn0 : (0 : Int) ≤ (k : Int) := by omega
      have hn1 : (k : Int) < (n : Int) := by omega
      by_cases hpos : 0 < v
      · have HS : Hid (topK ys (k + 1) = (xr, xp)) := Lib.hid (by rw [topK, HE.out, HK.out, stepB]; simp only; rw [hv, if_pos hpos])
        have HV := Lib.hid hv
        clear hv
        go_wp2
        go_region_held3 (fun w' => w'.cell? ⟨g, k * 2, none⟩ = some (.int .i64 xr) ∧ w'.cell? ⟨g, k * 2 + 1, none⟩ = some (.int .i64 xp) ∧ w'.cell? ⟨w.heap.size + 1, 0, none⟩ = some (.int .i64 mr) ∧ w'.cell? ⟨w.heap.size + 1, 1, none⟩ = some (.int .i64 mp))
          (first | go_keep | exact ⟨hk3 _ _ _ c0, hk3 _ _ _ c1, hk3 _ _ _ c0M, hk3 _ _ _ c1M⟩)
          (first | (go_at_call 10; refine (compare_S _ _ _ _ v HV.out _).mono ?_; rintro e w2 ⟨rfl, hb3, hk3⟩))
        have hb2' : Below wr.heap.size wr w2 := Below.trans (Below.refl _ _).drew hb3
        have hb2 : Below w.heap.size w w2 := hb.trans (hb2'.mono hb.size)
        have R2 : Blk w2 w.heap.size 23 [.int .i64 0, .int .i64 0] := R.step hb2'
        have M2 : Blk w2 (w.heap.size + 1) 23 [.int .i64 mr, .int .i64 mp] := M.step hb2'
        clear hk3 c0M c1M z0M z1M M R hb3
        have g0 := cells_kept hb2' c0
        have g1 := cells_kept hb2' c1
        clear c0 c1 hb2'
        have c0M2 := M2.cell (j := 0) rfl
        have c1M2 := M2.cell (j := 1) rfl
        have z0M2 := M2.frozen 0
        have z1M2 := M2.frozen 1
        go_wp2
        go_roundw
        case rel => exact ⟨k + 1, by omega, by omega, by go_num, (hb2.setCell (p := ⟨w.heap.size + 1, 0, none⟩) (by simp) _).setCell (p := ⟨w.heap.size + 1, 1, none⟩) (by simp) _, (R2.other (by omega) _ _).other (by omega) _ _, by rw [HS.out]; exact (M2.set 0 _).set 1 _⟩
        case measure => simp [intOf]; omega
      · have HS : Hid (topK ys (k + 1) = (mr, mp)) := Lib.hid (by rw [topK, HE.out, HK.out, stepB]; simp only; rw [hv, if_neg hpos])
        have HV := Lib.hid hv
        clear hv
        go_wp2
        go_region_held3 (fun w' => w'.cell? ⟨g, k * 2, none⟩ = some (.int .i64 xr) ∧ w'.cell? ⟨g, k * 2 + 1, none⟩ = some (.int .i64 xp) ∧ w'.cell? ⟨w.heap.size + 1, 0, none⟩ = some (.int .i64 mr) ∧ w'.cell? ⟨w.heap.size + 1, 1, none⟩ = some (.int .i64 mp))
          (first | go_keep | exact ⟨hk3 _ _ _ c0, hk3 _ _ _ c1, hk3 _ _ _ c0M, hk3 _ _ _ c1M⟩)
          (first | (go_at_call 10; refine (compare_S _ _ _ _ v HV.out _).mono ?_; rintro e w2 ⟨rfl, hb3, hk3⟩))
        have hb2' : Below wr.heap.size wr w2 := Below.trans (Below.refl _ _).drew hb3
        have hb2 : Below w.heap.size w w2 := hb.trans (hb2'.mono hb.size)
        have R2 : Blk w2 w.heap.size 23 [.int .i64 0, .int .i64 0] := R.step hb2'
        have M2 : Blk w2 (w.heap.size + 1) 23 [.int .i64 mr, .int .i64 mp] := M.step hb2'
        clear hk3 c0M c1M z0M z1M M R hb3
        clear hb2'
        go_wp2
        go_roundw
        case rel => exact ⟨k + 1, by omega, by omega, by go_num, hb2, R2, by rw [HS.out]; exact M2⟩
        case measure => simp [intOf]; omega
    · obtain rfl : k = n := by omega
      have c0R := R.cell (j := 0) rfl
      have c1R := R.cell (j := 1) rfl
      have z0R := R.frozen 0
      have z1R := R.frozen 1
      go_wp2
      have R2 := (R.set 0 (.int .i64 mr)).set 1 (.int .i64 mp)
      have bb : Below w.heap.size w ((wr.setCell ⟨w.heap.size, 0, none⟩ (.int .i64 mr)).setCell ⟨w.heap.size, 1, none⟩ (.int .i64 mp)) :=
        (hb.setCell (p := ⟨w.heap.size, 0, none⟩) (Nat.le_refl _) _).setCell (p := ⟨w.heap.size, 1, none⟩) (Nat.le_refl _) _
      generalize (wr.setCell ⟨w.heap.size, 0, none⟩ (.int .i64 mr)).setCell ⟨w.heap.size, 1, none⟩ (.int .i64 mp) = w2 at R2 bb ⊢
      clear c0R c1R z0R z1R R
      have c0R2 := R2.cell (j := 0) rfl
      have c1R2 := R2.cell (j := 1) rfl
      have z0R2 := R2.frozen 0
      have z1R2 := R2.frozen 1
      refine bodyPost_ret (v := .agg #[.int .i64 mr, .int .i64 mp]) (by simp [results, Try.results58, go_sem, c0R2, c1R2]) rfl ?_
      exact ⟨by rw [HK.out], bb⟩
end Go.Proofs.Ytkohpfkgdigaiaa
