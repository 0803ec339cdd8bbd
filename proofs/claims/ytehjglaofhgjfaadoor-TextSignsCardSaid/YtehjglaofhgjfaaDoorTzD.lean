
/- Package text: Each, one sign after the other. -/
import Derived.Test.YtehjglaofhgjfaaDoorTyK
import Derived.Test.YtehjglaofhgjfaaDoorTyU
namespace Go.Proofs.YtehjglaofhgjfaaDoor
set_option linter.unusedSimpArgs false
set_option linter.unusedVariables false
open Go.RowKit
attribute [local go_sem] Oper.semAt_some
def sgEnc (x : Sg) : Array Value := #[.int .i64 x.1, .int .i32 x.2.2.1]
theorem each_any (s : ByteArray) (w : World) : Calls Tryd.prog 26 #[.string s] w fun e w' => e = .returned (.func (.func 53) #[] #[.pointer (some ⟨w.heap.size, 0, none⟩)]) ∧
    Boxed w' w.heap.size 9 (.string s) ∧ Below w.heap.size w w' := by
  go_enter Tryd.func26, Tryd.ntmps26
  go_wp2
  go_ret
  exact ⟨rfl, Boxed.new w _ _, (Below.refl _ _).alloc (Nat.le_refl _) _⟩
set_option maxRecDepth 100000 in
set_option maxHeartbeats 2000000 in
theorem each_xs (b B : Nat) (s : ByteArray) (w : World) (hs : s.size ≤ 1000000000) (hBw : B ≤ w.heap.size) (hB : Boxed w b 9 (.string s)) :
    SeqXs Tryd.prog 53 #[.pointer (some ⟨b, 0, none⟩)] sgEnc (signsL s) (KbI (fun k => k = b) B) w := by
  generalize hxs : signsL s = xs
  intro lp J Jx W hW hJ hJx hY h0
  have hbx := box_below hB hW hB.lt
  have hbK : b < W.heap.size := hbx.lt
  have hWB : B ≤ W.heap.size := Nat.le_trans hBw hW.size
  have hcb := hbx.cell
  have hJi := abides_below hJ h0 ((Below.refl W.heap.size W).alloc (Nat.le_refl _) (.stringIter s 0))
  have hbi := hbx.alloc (.stringIter s 0)
  have hit0 := World.iter_heap W s 0
  obtain ⟨K, hK⟩ : ∃ K, W.heap.size = K := ⟨_, rfl⟩
  have hp0 : Hid (∃ k pre, s.size ≤ 0 + k ∧ pre.length = 0 ∧ xs = pre ++ signsFrom s k 0) := Lib.hid ⟨s.size, [], by omega, rfl, hxs.symm⟩
  have HY := Lib.hid hY
  clear hY
  clear hW hB hxs h0 hbx
  refine callsIn_of_wp Tryd.func53 rfl trivial ?_ rfl
  simp only [Tryd.ntmps53, List.size_toArray, List.length_cons, List.length_nil, Nat.reduceAdd, Nat.reduceSub, Array.replicate_succ, Array.replicate_zero, List.push_toArray, List.append_toArray, List.nil_append, List.cons_append]
  gi_wp2
  clear hcb
  gi_loopw [3] (fun v3 wr => ∃ (pos n : Nat), wr.heap[K]? = some (.stringIter s pos) ∧ Boxed wr b 9 (.string s) ∧ Hid (∃ k pre, s.size ≤ pos + k ∧ pre.length = n ∧ xs = pre ++ signsFrom s k pos) ∧ J n wr) (fun _ wr => s.size - wr.iterPos K)
  case atStart => exact ⟨0, 0, by rw [← hK]; exact hit0, hbi, hp0, hJi⟩
  case round =>
    obtain ⟨pos, n, hit, hbx, hp, hJs⟩ := hrel
    clear hp0 hit0 hbi hJi
    have hKlt : K < wr.heap.size := (Array.getElem?_eq_some_iff.1 hit).1
    by_cases hps : pos < s.size
    · obtain ⟨⟨r, d⟩, hd⟩ : ∃ x, Utf8.decode s pos = x := ⟨_, rfl⟩
      have hnx := fun ty => Lib.run_next_any_at (P := Tryd.prog) wr K s pos ty hit hps
      rw [hd] at hnx
      have hdb := dec_bd s pos hps
      rw [hd] at hdb
      simp only at hdb hnx
      have hit2 := Lib.iterAt_heap wr K s pos (pos + d) hit
      have hbx2 := cell_iterAt hbx (show b ≠ K by omega) s (pos + d)
      have hJ2 := abides_iterAt hJ hJs hit (by omega) (pos + d)
      have hsz2 := Lib.iterAt_size wr K s (pos + d)
      obtain ⟨W1, hW1⟩ : ∃ W1, wr.iterAt K s (pos + d) = W1 := ⟨_, rfl⟩
      rw [hW1] at hit2 hbx2 hJ2 hnx hsz2
      have hmeas : ∀ W' : World, W'.heap[K]? = some (.stringIter s (pos + d)) → s.size - W'.iterPos K < s.size - wr.iterPos K := fun W' h => by
        simp only [World.iterPos, hit, h]
        omega
      have hstep : ∃ x, xs[n]? = some x ∧ x.1 = pos ∧ x.2.2.1 = r ∧ ∃ k pre, s.size ≤ pos + d + k ∧ pre.length = n + 1 ∧ xs = pre ++ signsFrom s k (pos + d) := by
        obtain ⟨k, pre, h1, h2, h3⟩ := hp.out
        obtain ⟨k, rfl⟩ : ∃ k', k = k' + 1 := ⟨k - 1, by omega⟩
        rw [signsFrom, if_pos hps, hd] at h3
        refine ⟨(pos, d, r, brk (r, d)), by rw [h3, ← h2]; simp, rfl, rfl, k, pre ++ [(pos, d, r, brk (r, d))], by omega, by simp [h2], by rw [h3]; simp⟩
      obtain ⟨x, hx, hx1, hx2, hp2'⟩ := hstep
      have hp2 := Lib.hid hp2'
      have HLT : Hid (n < xs.length) := Lib.hid (List.getElem?_eq_some_iff.1 hx).1
      obtain ⟨fn, tmps, assign, body, hy, hRR⟩ := HY.out n x _ hx hJ2
      have HR := Lib.hid hRR
      have hK1 : K < W1.heap.size := (Array.getElem?_eq_some_iff.1 hit2).1
      clear hW1 hJs hbx hd hit hsz2 hRR hp hx hp2'
      dsimp only [sgEnc] at hy
      rw [hx1, hx2] at hy
      gi_wp2
      refine HR.out.mono ?_
      rintro e W3 (⟨rfl, hJ4, hk4⟩ | ⟨rfl, hJx4⟩)
      · have hit4 := hk4.2 K _ (by omega) hit2 rfl
        have hbx4 : Boxed W3 b 9 (.string s) := (hk4.1 b rfl).trans hbx2
        clear hk4 HR hy
        gi_wp2
        go_roundw
        case rel => exact ⟨pos + d, n + 1, hit4, hbx4, hp2, hJ4⟩
        case measure => exact hmeas _ hit4
      · gi_wp2
        go_returns
        exact ⟨⟨_, rfl⟩, .inr ⟨n, HLT.out, hJx4⟩⟩
    · have hnx : ∀ ty, (Instr.next (.pointer (some ⟨K, 0, none⟩)) true ty).run Tryd.prog wr = _ := fun ty => Lib.run_next_end_at wr K s pos ty hit hps
      have hn : Hid (n = xs.length) := Lib.hid (by
        obtain ⟨k, pre, h1, h2, h3⟩ := hp.out
        rw [signsFrom_end s k pos hps] at h3
        rw [h3, ← h2]; simp)
      clear hp
      gi_wp2
      refine bodyPost_end (results_none rfl _ _ _) rfl ?_
      exact ⟨⟨_, rfl⟩, .inl (hn.out ▸ hJs)⟩
end Go.Proofs.YtehjglaofhgjfaaDoor
