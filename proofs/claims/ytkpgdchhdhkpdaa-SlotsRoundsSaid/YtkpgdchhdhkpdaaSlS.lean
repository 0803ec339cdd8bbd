
/- Package slots: Rounds; the document's Round. -/
import Derived.Test.YtkpgdchhdhkpdaaSlR
namespace Go.Proofs.Ytkpgdchhdhkpdaa
open Go.RowKit Go.Shelf

def RoundsF (b : Nat) : Value := .func (.func 40) #[] #[.pointer (some ⟨b, 0, none⟩)]
theorem roundsC (c : Int) (w : World) : Calls Try.prog 27 #[.int .i64 c] w fun e w' => e = .returned (RoundsF w.heap.size) ∧ Boxed w' w.heap.size 25 (.int .i64 c) ∧ Below w.heap.size w w' := by
  unfold RoundsF
  go_enter Try.func27, Try.ntmps27
  go_wp2_with fail
  go_ret
  exact ⟨rfl, Boxed.new w _ _, (Below.refl _ _).alloc (Nat.le_refl _) _⟩
def rndL (off m : Nat) : List Int := (List.range m).map fun j => ((off + j : Nat) : Int)
theorem rnd_len (off m : Nat) : (rndL off m).length = m := by simp [rndL]
theorem rnd_get {off m j : Nat} (h : j < m) : (rndL off m)[j]? = some ((off + j : Nat) : Int) := by simp [rndL, h]
theorem rnd_step (off j : Nat) : rndL off (j + 1) = rndL off j ++ [((off + j : Nat) : Int)] := by simp [rndL, List.range_succ]
set_option maxRecDepth 100000 in
set_option maxHeartbeats 1000000 in
theorem refRound_ok (n k off m : Nat) (hn3 : 3 ≤ n) (hn9 : n ≤ 9) (hoff : k * n = off) (ho : off < 4096) (hm : m = min n (4096 - off)) (w : World) :
    Calls Try.prog 28 #[.int .i64 n, .int .i64 k] w fun e w' => ∃ v, e = .returned v ∧ OwnInts w' w.heap.size v (rndL off m) ∧ Below w.heap.size w w' := by
  obtain ⟨i0, hi, hz0, hz1, hz2⟩ := info_parts info_int
  have hkn : (k : Int) * (n : Int) = (off : Int) := by rw [← hoff]; simp
  have hkn1 : ((k : Int) + 1) * (n : Int) = ((off + n : Nat) : Int) := by rw [Int.add_mul, hkn]; simp
  have hk4 : k ≤ 4096 := by have := Nat.le_mul_of_pos_right k (show 0 < n by omega); omega
  have hkI : (k : Int) ≤ 4096 := by omega
  have hk0 : (0 : Int) ≤ (k : Int) := by omega
  obtain ⟨e, he⟩ : ∃ e, off + n = e := ⟨_, rfl⟩
  rw [he] at hkn1
  have he1 : (e : Int) ≤ 5000 := by omega
  have he0 : (0 : Int) ≤ (e : Int) := by omega
  have ho0 : (0 : Int) ≤ (off : Int) := by omega
  have ho1 : (off : Int) ≤ 4096 := by omega
  clear hoff
  go_enter Try.func28, Try.ntmps28
  go_wp2_with fail
  go_loopw [5, 6] (fun v i wr => ∃ j : Nat, j ≤ m ∧ i = .int .i64 ((off + j : Nat) : Int) ∧ OwnInts wr w.heap.size v (rndL off j) ∧ Below w.heap.size w wr) (fun _ i _ => (off + m - intOf i).toNat)
  case atStart => exact ⟨0, Nat.zero_le _, rfl, World.ownsRow_nil _ _ _ _, Below.refl _ _⟩
  case round =>
    obtain ⟨j, hj, rfl, hown, hb⟩ := hrel
    have hlen := rnd_len off j
    unfold OwnInts at hown
    obtain ⟨s, hs⟩ : ∃ s, off + j = s := ⟨_, rfl⟩
    rw [hs]
    by_cases hlt : j < m
    · have hs1 : s < e := by omega
      have hs2 : s < 4096 := by omega
      have hs1' : (s : Int) < (e : Int) := by omega
      have hs2' : (s : Int) < 4096 := by omega
      have HS := Lib.hid (rnd_step off j)
      have hsz := hb.size
      go_wp2_with (at_builtin; refine wpList_append_own _ rfl _ _ 38 rfl w.heap.size 3 i0 (.int .i64 0) 1 8 Try.underlying38 hi hz0 hz1 hz2 rfl (by decide) _ _ _ rfl (hown.alloc _) ⟨wr.heap.size, 0, none⟩ 1 1 [.int .i64 s] rfl rfl (cell_one_new _ _ _) (by simp [Value.oneCell']) (by unfold maxLen; omega) (by omega) (by simp; omega) ?_)
      intro v' w1 hown' hgrow _
      have hb' := (hb.alloc hb.size (.cells #[.int .i64 s] 3)).grown hgrow (by simp; omega) (fun k e => (hown.lt k e).1)
      have hown2 : Hid (OwnInts w1 w.heap.size v' (rndL off (j + 1))) := Lib.hid (by unfold OwnInts; rw [HS.out, hs]; simpa [rnd_len] using hown')
      clear hown' hgrow hown
      go_wp2
      go_roundw
      case rel => exact ⟨j + 1, by omega, by rw [← Nat.add_assoc, hs]; go_num, hown2.out, hb'⟩
      case measure => simp [intOf]; omega
    · obtain rfl : j = m := by omega
      have HO := Lib.hid hown
      clear hown
      by_cases hjn : j = n
      · have hs1 : ¬ s < e := by omega
        have hs1' : ¬ (s : Int) < (e : Int) := by omega
        clear hm
        go_wp2
        go_ret
        exact ⟨_, rfl, by rw [← hjn]; exact HO.out, hb⟩
      · have hs1 : s < e := by omega
        have hs1' : (s : Int) < (e : Int) := by omega
        have hs2' : ¬ (s : Int) < 4096 := by omega
        have hs2 : ¬ s < 4096 := by omega
        clear hm
        go_wp2
        go_ret
        exact ⟨_, rfl, HO.out, hb⟩
end Go.Proofs.Ytkpgdchhdhkpdaa
