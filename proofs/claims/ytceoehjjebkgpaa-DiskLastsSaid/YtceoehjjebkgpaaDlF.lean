
/- Package disk: Stop, of any number; what two crashes leave. -/
import Derived.Test.YtceoehjjebkgpaaDlE
namespace Go.Proofs.Ytceoehjjebkgpaa
set_option linter.unusedSimpArgs false
set_option linter.unusedVariables false
open Go.RowKit Go.Maps
set_option maxRecDepth 100000 in
set_option maxHeartbeats 2000000 in
theorem stop_q (d mb : Nat) (D : Ds) (L : FMap) (n : Int) (w : World) (h : DkW w d mb D L) :
    Calls Try.prog 13 #[.pointer (some ⟨d, 0, none⟩), .int .i64 n] w fun e w' => ∃ r D', e = .returned (.int .i64 r) ∧ DkW w' d mb D' L ∧ Kx [d] w w' ∧ D'.room = D.room ∧ (D'.after = D.after ∨ (D'.after = n ∧ 0 ≤ n)) := by
  by_cases hn : n < 0
  · have hc1 := h.c1
    go_enter Try.func13, Try.ntmps13
    go_wp2_with fail
    refine (dnone_at d mb _ hc1).mono ?_
    rintro e wx ⟨rfl, rfl⟩
    go_wp2_with fail
    go_ret
    exact ⟨2, D, rfl, h, Kx.refl _ _, rfl, .inl rfl⟩
  cases hd : D.dead
  · refine (dstop_ok d mb D L n w h (by omega) hd).mono ?_
    rintro e w' ⟨rfl, h2, hk⟩
    exact ⟨0, _, rfl, h2, hk, rfl, .inr ⟨rfl, by omega⟩⟩
  · have hc1 := h.c1
    have x4 := h.blk.cell (j := 4) rfl
    rw [hd] at x4
    go_enter Try.func13, Try.ntmps13
    go_wp2_with fail
    refine (dnone_at d mb _ hc1).mono ?_
    rintro e wx ⟨rfl, rfl⟩
    go_wp2_with fail
    go_ret
    exact ⟨172, D, rfl, h, Kx.refl _ _, rfl, .inl rfl⟩
/-! Read, with the room of what is told. -/
set_option maxRecDepth 100000 in
set_option maxHeartbeats 2000000 in
theorem clone_any2 (ao : Option Addr) (x : BL) (cap : Nat) (w : World) (h : BySl w ao x) (hl : x.length ≤ 16777216) :
    Calls Try.prog 31 #[.slice ao x.length cap] w fun e w' => (∃ ao2 c2, e = .returned (.slice ao2 x.length c2) ∧ BySl w' ao2 x ∧ x.length ≤ c2) ∧ Below w.heap.size w w' := by
  have hq := fun w n c => eqlC_nil w ao n c 0 0
  rcases id h with ⟨rfl, rfl⟩ | ⟨g, rfl, hg⟩
  · simp only [Option.isNone_none] at hq
    go_enter Try.func31, Try.ntmps31
    go_wp2_with fail
    go_ret
    exact ⟨⟨none, 0, rfl, .inl ⟨rfl, rfl⟩, Nat.le_refl _⟩, Below.refl _ _⟩
  · simp only [Option.isNone_some] at hq
    have hb1 := (Below.refl w.heap.size w).alloc (Nat.le_refl _) (.cells #[] 5)
    obtain ⟨ao2, c2, w2, hrun, h2, hcc, -, hb2⟩ := append_fullC (w.alloc (.cells #[] 5)) (some ⟨w.heap.size, 0, none⟩) (some ⟨g, 0, none⟩) [] x cap 59 (bySl_some (World.alloc_heap_new w _)) (h.step hb1).at (by simp; omega)
    simp only [List.nil_append, List.length_nil] at hrun h2 hcc
    go_enter Try.func31, Try.ntmps31
    go_wp2_with (at_builtin; refine wpList_append2 rfl _ _ _ _ rfl rfl rfl hrun ?_)
    go_ret
    exact ⟨⟨ao2, c2, rfl, h2, hcc⟩, hb1.trans (hb2.mono hb1.size)⟩
set_option maxRecDepth 100000 in
set_option maxHeartbeats 2000000 in
theorem dread_any2 (d mb : Nat) (D : Ds) (L : FMap) (s : ByteArray) (w : World) (h : DkW w d mb D L) (hG : GoodD D L) (hs : okS s) :
    Calls Try.prog 10 #[.pointer (some ⟨d, 0, none⟩), .string s] w fun e w' => (∃ ao2 c2, e = .returned (.tuple #[.slice ao2 (fileM L s).b.length c2, .int .i64 (fileE L s)]) ∧ BySl w' ao2 (fileM L s).b ∧ (fileM L s).b.length ≤ c2) ∧ Below w.heap.size w w' := by
  have hb := From.refl w
  have cF := fun W (hW : DkW W d mb D L) => dfile_any d mb D L s W hW hs
  have hcon := fun W (hW : DkW W d mb D L) => (file_con hW s).1
  have hle : (fileM L s).b.length ≤ 16777216 := by
    have h1 := getM_le (L := L) s
    have h2 := hG.used
    unfold fileM
    split
    · exact Nat.le_trans h1 h2
    · simp
  generalize fileM L s = m at *
  generalize fileE L s = E at *
  obtain ⟨ao, cap, x, sr⟩ := m
  unfold fmV at cF
  simp only at cF hcon hle ⊢
  go_enter Try.func10, Try.ntmps10
  go_upto_region 1 with fail
  go_wp2_with fail
  refine (cF _ h).mono ?_
  rintro e w2 ⟨rfl, hbn⟩
  replace hb := hb.step hbn
  replace h := h.step hbn
  clear hbn cF
  go_upto_region 2 with fail
  obtain ⟨gX, hgX⟩ : ∃ g, (w2).heap.size = g := ⟨_, rfl⟩
  have X := Blk.newV hgX 61 #[.slice ao x.length cap, .int .i64 sr]
  have hbn := (Below.refl (w2).heap.size w2).alloc (Nat.le_refl _) (.cells #[.slice ao x.length cap, .int .i64 sr] 61)
  replace hb := hb.step hbn
  replace h := h.step hbn
  clear hbn
  rw [hgX]
  generalize (w2).alloc (.cells #[.slice ao x.length cap, .int .i64 sr] 61) = w3 at *
  have x0 := X.cell (j := 0) rfl
  go_wp2_with fail
  refine (clone_any2 ao x cap _ (hcon _ h) hle).mono ?_
  rintro e w4 ⟨⟨ao2, c2, rfl, h2, hcc⟩, hbn⟩
  replace hb := hb.step hbn
  replace h := h.step hbn
  replace X := X.step hbn
  go_wp2_with fail
  go_ret2
  exact ⟨⟨ao2, c2, rfl, h2, hcc⟩, hb.out⟩
/-! What a crash leaves, name by name. -/
theorem crM_mem {picks : List Int} {xs : FMap} : ∀ {n : Nat} {p : ByteArray × Fm}, p ∈ crM picks xs n → ∃ (i : Nat) (x : ByteArray × Fm), i < n ∧ xs[i]? = some x ∧ p = (x.1, crF picks i x)
  | 0, p, h => by simp [crM] at h
  | n + 1, p, h => by
    unfold crM at h
    split at h
    next x hx =>
      rcases List.mem_cons.1 h with rfl | h
      · exact ⟨n, x, by omega, hx, rfl⟩
      · obtain ⟨i, y, h1, h2, h3⟩ := crM_mem (del_mem h)
        exact ⟨i, y, by omega, h2, h3⟩
    next hx =>
      obtain ⟨i, y, h1, h2, h3⟩ := crM_mem h
      exact ⟨i, y, by omega, h2, h3⟩
theorem nodup_at {xs : FMap} (hn : (xs.map (·.1)).Nodup) {i j : Nat} {x y : ByteArray × Fm} (hi : xs[i]? = some x) (hj : xs[j]? = some y) (he : x.1 = y.1) : i = j := by
  have h1 : (xs.map (·.1))[i]? = some x.1 := by rw [List.getElem?_map, hi]; rfl
  have h2 : (xs.map (·.1))[j]? = some x.1 := by rw [List.getElem?_map, hj, he]; rfl
  obtain ⟨l1, e1⟩ := List.getElem?_eq_some_iff.1 h1
  obtain ⟨l2, e2⟩ := List.getElem?_eq_some_iff.1 h2
  rcases Nat.lt_trichotomy i j with h | h | h
  · exact absurd (e1.trans e2.symm) ((List.pairwise_iff_getElem.1 hn) i j l1 l2 h)
  · exact h
  · exact absurd (e2.trans e1.symm) ((List.pairwise_iff_getElem.1 hn) j i l2 l1 h)
theorem crM_get {picks : List Int} {xs : FMap} (hn : (xs.map (·.1)).Nodup) : ∀ {n i : Nat} {x : ByteArray × Fm}, i < n → xs[i]? = some x → getG (crM picks xs n) x.1 = some (crF picks i x)
  | n + 1, i, x, hi, hx => by
    unfold crM
    split
    next y hy =>
      rw [getG_put]
      by_cases e : x.1 = y.1
      · rw [if_pos e]
        obtain rfl := nodup_at hn hx hy e
        rw [hx] at hy
        cases hy
        rfl
      · rw [if_neg e]
        have : i ≠ n := by rintro rfl; rw [hx] at hy; cases hy; exact e rfl
        exact crM_get hn (by omega) hx
    next hy =>
      have : i ≠ n := by rintro rfl; rw [hx] at hy; cases hy
      exact crM_get hn (by omega) hx
theorem del_id {L : FMap} {s : ByteArray} (h : ∀ p ∈ L, p.1 ≠ s) : delG L s = L := List.filter_eq_self.2 (fun p hp => by simpa using h p hp)
theorem crM_size {picks : List Int} {xs : FMap} (hn : (xs.map (·.1)).Nodup) : ∀ {n : Nat}, n ≤ xs.length → (crM picks xs n).length = n
  | 0, _ => rfl
  | n + 1, h => by
    unfold crM
    obtain ⟨x, hx⟩ : ∃ x, xs[n]? = some x := ⟨xs[n], List.getElem?_eq_getElem (by omega)⟩
    rw [hx]
    simp only
    unfold putG
    rw [del_id (fun p hp => ?_), List.length_cons, crM_size hn (by omega)]
    obtain ⟨i, y, h1, h2, rfl⟩ := crM_mem hp
    intro e
    have := nodup_at hn h2 hx e
    omega
theorem srt_nodup {L : FMap} (h : (L.map (·.1)).Nodup) : ((srt L).map (·.1)).Nodup := ((srt_perm L).map _).nodup_iff.2 h
theorem pick_zero (q : Int) : pickI q 0 = 0 := by have := pick_bd q 0 (by omega); omega
theorem crF_len {picks : List Int} {k : Nat} {x : ByteArray × Fm} (h : 0 ≤ x.2.s ∧ x.2.s ≤ x.2.b.length) : ((crF picks k x).b.length : Int) = (crF picks k x).s ∧ (crF picks k x).b.length ≤ x.2.b.length := by
  have h1 := crN_bd (picks := picks) (k := k) h
  simp only [crF, List.length_take]
  omega
theorem crF_again {picks : List Int} {k : Nat} {s : ByteArray} {m : Fm} (h : (m.b.length : Int) = m.s) : (crF picks k (s, m)).b = m.b ∧ (crF picks k (s, m)).s = m.s := by
  have h1 : crN picks k (s, m) = m.s := by
    unfold crN
    split
    · show m.s + pickI _ ((m.b.length : Int) - m.s) = m.s
      rw [show (m.b.length : Int) - m.s = 0 by omega, pick_zero]
      omega
    · rfl
  simp only [crF, h1]
  exact ⟨List.take_of_length_le (by omega), trivial⟩
theorem used_mem {xs : FMap} : ∀ {n : Nat}, n ≤ xs.length → ∀ {picks : List Int}, (∀ p ∈ xs, 0 ≤ p.2.s ∧ p.2.s ≤ p.2.b.length) → usedN (crM picks xs n) ≤ usedN (xs.take n)
  | 0, _, _, _ => by simp [crM, usedN]
  | n + 1, h, picks, hS => by
    unfold crM
    obtain ⟨x, hx⟩ : ∃ x, xs[n]? = some x := ⟨xs[n], List.getElem?_eq_getElem (by omega)⟩
    rw [hx, used_succ hx]
    simp only
    unfold putG
    rw [usedN_cons]
    have h1 := used_filter (fun p => decide (p.1 ≠ x.1)) (crM picks xs n)
    have h2 := used_mem (n := n) (by omega) (picks := picks) hS
    have h3 := (crF_len (picks := picks) (k := n) (hS x (List.mem_of_getElem? hx))).2
    unfold delG
    show (crF picks n x).b.length + _ ≤ _
    omega
/-- What is told of a disk between calls. -/
structure LastI (D : Ds) (L : FMap) (j : Nat) : Prop where
  g : GoodD D L
  r : D.room = 60
  n : L.length ≤ j
  s : Sured L
  m : ∀ p ∈ L, nmB p.1 = true
theorem last_crash {D : Ds} {L : FMap} {j : Nat} (h : LastI D L j) (hn : (L.map (·.1)).Nodup) (picks : List Int) : LastI ⟨D.room, false, 0, false⟩ (crM picks (srt L) L.length) j := by
  have hl := srt_len L
  have hsm : ∀ p ∈ srt L, 0 ≤ p.2.s ∧ p.2.s ≤ p.2.b.length := fun p hp => h.s p ((srt_perm L).mem_iff.1 hp)
  have hlen := crM_len picks (srt L) L.length
  have hmem : ∀ p ∈ crM picks (srt L) L.length, (∃ q ∈ L, p.1 = q.1) ∧ 0 ≤ p.2.s ∧ p.2.s ≤ p.2.b.length := fun p hp => by
    obtain ⟨i, x, h1, h2, rfl⟩ := crM_mem hp
    have hx := List.mem_of_getElem? h2
    have h3 := crF_len (picks := picks) (k := i) (hsm x hx)
    refine ⟨⟨x, (srt_perm L).mem_iff.1 hx, rfl⟩, ?_⟩
    show 0 ≤ (crF picks i x).s ∧ (crF picks i x).s ≤ ((crF picks i x).b.length : Int)
    omega
  have hu := used_mem (xs := srt L) (n := L.length) (by omega) (picks := picks) hsm
  have hu2 := used_le (srt L) L.length
  rw [used_perm (srt_perm L)] at hu2
  have hgu := h.g.u
  refine ⟨⟨h.g.r1, h.g.r2, ?_, ?_, ?_, Int.le_refl _, by show (0 : Int) ≤ 9223372036854775807; decide⟩, h.r, ?_, fun p hp => (hmem p hp).2, fun p hp => ?_⟩
  · show ((usedN _ : Nat) : Int) ≤ D.room
    omega
  · have := h.g.n; omega
  · intro p hp
    obtain ⟨⟨q, hq, e⟩, -⟩ := hmem p hp
    rw [e]; exact h.g.k q hq
  · have := h.n; omega
  · obtain ⟨⟨q, hq, e⟩, -⟩ := hmem p hp
    rw [e]; exact h.m q hq
theorem last_step {D D' : Ds} {L L' : FMap} {j : Nat} {r : Int} (h : LastI D L j) (hj : j ≤ 100) (hR : StR D L r D' L') : LastI D' L' (j + 1) := by
  have hg := h.g
  have hn := h.n
  rcases hR with ⟨h1, h2, rfl, rfl⟩ | ⟨h1, rfl, ⟨hd, rfl⟩ | ⟨hd, hs, ha, rfl⟩⟩ | ⟨h1, hd, hs, rfl, hN⟩
  · exact ⟨h.g, h.r, by omega, h.s, h.m⟩
  · exact ⟨h.g, h.r, by omega, h.s, h.m⟩
  · exact ⟨⟨hg.r1, hg.r2, hg.u, hg.n, hg.k, hg.a1, hg.a2⟩, h.r, by omega, h.s, h.m⟩
  · have hN1 := hN.n
    have e1 : (goD D).room = D.room := by unfold goD; split <;> rfl
    have a1 := hg.a1
    have a2 := hg.a2
    have e2 : 0 ≤ (goD D).after ∧ (goD D).after ≤ 9223372036854775807 := by
      unfold goD
      split
      · rename_i hst
        have ha : D.after ≠ 0 := by rcases hs with hs | hs; rw [hst] at hs; cases hs; exact hs
        show 0 ≤ D.after - 1 ∧ D.after - 1 ≤ _
        omega
      · exact ⟨a1, a2⟩
    exact ⟨⟨by rw [e1]; exact hg.r1, by rw [e1]; exact hg.r2, by rw [e1]; exact hN.u, by omega, hN.k, e2.1, e2.2⟩, by rw [e1]; exact h.r, by omega, hN.s h.s, hN.m h.m⟩
theorem same_file (m : Fm) : SameF m m := ⟨rfl, rfl⟩
end Go.Proofs.Ytceoehjjebkgpaa
