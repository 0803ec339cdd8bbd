/- SlotsAll's walk. -/
import Derived.Test.YtkpgdchhdhkpdaaSlE
namespace Go.Proofs.Ytkpgdchhdhkpdaa
open Go.RowKit Go.Shelf
attribute [local go_sem] Oper.semAt_some

set_option maxRecDepth 100000 in
set_option maxHeartbeats 400000 in
theorem SlotsAll_walk (c f t : Int) (w : World) (_ : -9223372036854775808 ≤ c ∧ c ≤ 9223372036854775807) (_ : -9223372036854775808 ≤ f ∧ f ≤ 9223372036854775807) (_ : -9223372036854775808 ≤ t ∧ t ≤ 9223372036854775807) :
    Calls Try.prog 8 #[.int .i64 c, .int .i64 f, .int .i64 t] w fun e w' => e = .returned (.bool true) ∧ Below w.heap.size w w' := by
  refine callsIn_wide (n := 3).1 ?_
  obtain ⟨W0, hW0⟩ : ∃ W0, (((w.alloc (.cells #[.int .i64 c] 3)).alloc (.cells #[.int .i64 f] 3)).alloc (.cells #[.int .i64 t] 3)).alloc (.cells #[.bool false] 4) = W0 := ⟨_, rfl⟩
  have hz0 : W0.heap.size = w.heap.size + 4 := by rw [← hW0]; simp
  have A0 : Boxed W0 w.heap.size 3 (.int .i64 c) := hW0 ▸ (((Boxed.new w _ _).alloc _).alloc _).alloc _
  have A1 : Boxed W0 (w.heap.size + 1) 3 (.int .i64 f) := by have h := ((Boxed.new (w.alloc (.cells #[.int .i64 c] 3)) 3 (.int .i64 f)).alloc (.cells #[.int .i64 t] 3)).alloc (.cells #[.bool false] 4); rw [hW0] at h; simpa using h
  have A2 : Boxed W0 (w.heap.size + 2) 3 (.int .i64 t) := by have h := (Boxed.new ((w.alloc (.cells #[.int .i64 c] 3)).alloc (.cells #[.int .i64 f] 3)) 3 (.int .i64 t)).alloc (.cells #[.bool false] 4); rw [hW0] at h; simpa using h
  have A3 : Boxed W0 (w.heap.size + 3) 4 (.bool false) := by have h := Boxed.new (((w.alloc (.cells #[.int .i64 c] 3)).alloc (.cells #[.int .i64 f] 3)).alloc (.cells #[.int .i64 t] 3)) 4 (.bool false); rw [hW0] at h; simpa using h
  have hB0 : Below w.heap.size w W0 := hW0 ▸ ((((Below.refl _ w).alloc (Nat.le_refl _) _).alloc (by simp) _).alloc (by simp; omega) _).alloc (by simp; omega) _
  have HW0 := Lib.hid hW0
  clear hW0
  by_cases hbad : rightB c = true ∧ 0 ≤ f ∧ f ≤ t ∧ t ≤ 4096
  · obtain ⟨hr, h1, h2, h3⟩ := hbad
    have e2 : errI c = 0 := by simp [errI, hr]
    obtain ⟨hc1, hc2⟩ := right_bd hr
    obtain ⟨m, hm⟩ : ∃ m : Nat, t = f + m := ⟨(t - f).toNat, by omega⟩
    have hmb : m ≤ 4096 := by omega
    obtain ⟨cn, hcn⟩ : ∃ cn : Nat, (cn : Int) = c := ⟨c.toNat, by omega⟩
    have hmk := fun W => run_make_ints m hmb W
    have E2 := Lib.hid e2
    clear e2
    have Hr := Lib.hid hr
    clear hr
    subst hm
    have HCN := Lib.hid hcn
    clear hcn
    have hfm : f + (m : Int) - f = m := by omega
    refine callsIn_of_wp_marks Try.func8 rfl trivial ?_ rfl
    simp only [Try.ntmps8, List.size_toArray, List.length_cons, List.length_nil, Nat.reduceAdd, Nat.reduceSub, Array.replicate_succ, Array.replicate_zero, List.push_toArray, List.append_toArray, List.nil_append, List.cons_append]
    gi_wp2_with fail
    rw [HW0.out]
    refine ⟨trivial, ?_⟩
    refine (callsIn_wide.2 (check_at _ _ E2.out _)).mono ?_
    rintro e w1 ⟨rfl, b1⟩
    have B0 := box_step A0 b1
    have B1 := box_step A1 b1
    have B2 := box_step A2 b1
    have B3 := box_step A3 b1
    have z1 := b1.size
    have hB1 := hB0.trans (b1.mono hB0.size)
    have c0 := B0.cell
    have c1 := B1.cell
    have c2 := B2.cell
    gi_wp2_with (apply wpIn_label)
    refine ⟨trivial, ?_⟩
    refine (callsIn_wide.2 (num_any _ _)).mono ?_
    rintro e w2 ⟨rfl, rfl⟩
    gi_wp2_with fail
    obtain ⟨g, hg⟩ : ∃ g, w1.heap.size = g := ⟨_, rfl⟩
    obtain ⟨W2, hW2⟩ : ∃ W2, (((w1.alloc (.cells (zerosL m).toArray 3)).alloc (.cells #[.slice (some ⟨g, 0, none⟩) m m] 38)).alloc (.cells #[.int .i64 0] 3)).alloc (.cells #[.int .i64 0] 3) = W2 := ⟨_, rfl⟩
    simp only [hg]
    have zg : w.heap.size + 4 ≤ g := by omega
    have z2 : W2.heap.size = g + 4 := by rw [← hW2]; simp; omega
    have D0 : Boxed W2 w.heap.size 3 (.int .i64 c) := hW2 ▸ (((B0.alloc _).alloc _).alloc _).alloc _
    have D1 : Boxed W2 (w.heap.size + 1) 3 (.int .i64 f) := hW2 ▸ (((B1.alloc _).alloc _).alloc _).alloc _
    have D2 : Boxed W2 (w.heap.size + 2) 3 (.int .i64 (f + m)) := hW2 ▸ (((B2.alloc _).alloc _).alloc _).alloc _
    have D3 : Boxed W2 (w.heap.size + 3) 4 (.bool false) := hW2 ▸ (((B3.alloc _).alloc _).alloc _).alloc _
    have D4 : Blk W2 g 3 (zerosL m) := by
      have h := (((Blk.new w1 3 (zerosL m)).alloc (.cells #[.slice (some ⟨g, 0, none⟩) m m] 38)).alloc (.cells #[.int .i64 0] 3)).alloc (.cells #[.int .i64 0] 3)
      rw [hW2, hg] at h; exact h
    have D5 : Boxed W2 (g + 1) 38 (.slice (some ⟨g, 0, none⟩) m m) := by
      have h := ((Boxed.new (w1.alloc (.cells (zerosL m).toArray 3)) 38 (.slice (some ⟨g, 0, none⟩) m m)).alloc (.cells #[.int .i64 0] 3)).alloc (.cells #[.int .i64 0] 3)
      rw [hW2] at h; simpa [hg] using h
    have D6 : Boxed W2 (g + 2) 3 (.int .i64 0) := by
      have h := (Boxed.new ((w1.alloc (.cells (zerosL m).toArray 3)).alloc (.cells #[.slice (some ⟨g, 0, none⟩) m m] 38)) 3 (.int .i64 0)).alloc (.cells #[.int .i64 0] 3)
      rw [hW2] at h; simpa [hg] using h
    have D7 : Boxed W2 (g + 3) 3 (.int .i64 0) := by
      have h := Boxed.new (((w1.alloc (.cells (zerosL m).toArray 3)).alloc (.cells #[.slice (some ⟨g, 0, none⟩) m m] 38)).alloc (.cells #[.int .i64 0] 3)) 3 (.int .i64 0)
      rw [hW2] at h; simpa [hg] using h
    have hB2 : Below w.heap.size w W2 := hW2 ▸ (((hB1.alloc (by omega) _).alloc (by simp; omega) _).alloc (by simp; omega) _).alloc (by simp; omega) _
    rw [hW2]
    have HQ0 : Hid (∀ i, i < m → qAll c f 0 i = false) := Lib.hid (fun i _ => q_none hc1 i)
    clear hW2 c0 c1 c2 B0 B1 B2 B3 A0 A1 A2 A3 HW0 b1 hB0 hB1 hmk hz0 z1
    refine wpIn_loop_num (fun j a W => ∃ (p bp : Nat) (Ds : List Nat), j + p = cn ∧ (a.tmps.size = 133 ∧ a.tmps.getD 3 undef = .pointer (some ⟨w.heap.size, 0, none⟩) ∧ a.tmps.getD 4 undef = .pointer (some ⟨w.heap.size + 1, 0, none⟩) ∧ a.tmps.getD 5 undef = .pointer (some ⟨w.heap.size + 1 + 1, 0, none⟩) ∧ a.tmps.getD 6 undef = .pointer (some ⟨w.heap.size + 1 + 1 + 1, 0, none⟩) ∧ a.tmps.getD 7 undef = .pointer (some ⟨g + 1, 0, none⟩) ∧ a.tmps.getD 8 undef = .pointer (some ⟨g + 1 + 1, 0, none⟩) ∧ a.tmps.getD 9 undef = .pointer (some ⟨bp, 0, none⟩)) ∧ (a.defers = Ds.map fun D => { target := .collected D, args := #[] }) ∧
      Boxed W w.heap.size 3 (.int .i64 c) ∧ Boxed W (w.heap.size + 1) 3 (.int .i64 f) ∧ Boxed W (w.heap.size + 2) 3 (.int .i64 (f + m)) ∧ Boxed W (w.heap.size + 3) 4 (.bool false) ∧
      Blk W g 3 (seenL (qAll c f p) m) ∧ Boxed W (g + 1) 38 (.slice (some ⟨g, 0, none⟩) m m) ∧ Boxed W (g + 2) 3 (.int .i64 (cntB (qAll c f p) m)) ∧ Boxed W bp 3 (.int .i64 p) ∧ g + 2 < bp ∧
      Below w.heap.size w W ∧ (∀ D, D ∈ Ds → g + 4 ≤ D ∧ W.heap[D]? = some (.deferred (some []))) ∧ Ds.Nodup) cn ?_ ?_
    · refine ⟨0, g + 3, [], by omega, ⟨rfl, rfl, rfl, rfl, rfl, rfl, rfl, rfl⟩, rfl, D0, D1, D2, D3, ?_, D5, ?_, D7, by omega, hB2, by simp, by simp⟩
      · rw [← zeros_seen HQ0.out]; exact D4
      · rw [cnt_none HQ0.out]; exact D6
    · clear D0 D1 D2 D3 D4 D5 D6 D7 hB2
      rintro j a W ⟨p, bp, Ds, hjp, ⟨hsz, hf3, hf4, hf5, hf6, hf7, hf8, hf9⟩, hdf, A0, A1, A2, A3, A4, A5, A6, A7, hbp, hB, hDs, hnd⟩ K hK
      have hfr : a.tmps = #[a.tmps.getD 0 undef, a.tmps.getD 1 undef, a.tmps.getD 2 undef, a.tmps.getD 3 undef, a.tmps.getD 4 undef, a.tmps.getD 5 undef, a.tmps.getD 6 undef, a.tmps.getD 7 undef, a.tmps.getD 8 undef, a.tmps.getD 9 undef, a.tmps.getD 10 undef, a.tmps.getD 11 undef, a.tmps.getD 12 undef, a.tmps.getD 13 undef, a.tmps.getD 14 undef, a.tmps.getD 15 undef, a.tmps.getD 16 undef, a.tmps.getD 17 undef, a.tmps.getD 18 undef, a.tmps.getD 19 undef, a.tmps.getD 20 undef, a.tmps.getD 21 undef, a.tmps.getD 22 undef, a.tmps.getD 23 undef, a.tmps.getD 24 undef, a.tmps.getD 25 undef, a.tmps.getD 26 undef, a.tmps.getD 27 undef, a.tmps.getD 28 undef, a.tmps.getD 29 undef, a.tmps.getD 30 undef, a.tmps.getD 31 undef, a.tmps.getD 32 undef, a.tmps.getD 33 undef, a.tmps.getD 34 undef, a.tmps.getD 35 undef, a.tmps.getD 36 undef, a.tmps.getD 37 undef, a.tmps.getD 38 undef, a.tmps.getD 39 undef, a.tmps.getD 40 undef, a.tmps.getD 41 undef, a.tmps.getD 42 undef, a.tmps.getD 43 undef, a.tmps.getD 44 undef, a.tmps.getD 45 undef, a.tmps.getD 46 undef, a.tmps.getD 47 undef, a.tmps.getD 48 undef, a.tmps.getD 49 undef, a.tmps.getD 50 undef, a.tmps.getD 51 undef, a.tmps.getD 52 undef, a.tmps.getD 53 undef, a.tmps.getD 54 undef, a.tmps.getD 55 undef, a.tmps.getD 56 undef, a.tmps.getD 57 undef, a.tmps.getD 58 undef, a.tmps.getD 59 undef, a.tmps.getD 60 undef, a.tmps.getD 61 undef, a.tmps.getD 62 undef, a.tmps.getD 63 undef, a.tmps.getD 64 undef, a.tmps.getD 65 undef, a.tmps.getD 66 undef, a.tmps.getD 67 undef, a.tmps.getD 68 undef, a.tmps.getD 69 undef, a.tmps.getD 70 undef, a.tmps.getD 71 undef, a.tmps.getD 72 undef, a.tmps.getD 73 undef, a.tmps.getD 74 undef, a.tmps.getD 75 undef, a.tmps.getD 76 undef, a.tmps.getD 77 undef, a.tmps.getD 78 undef, a.tmps.getD 79 undef, a.tmps.getD 80 undef, a.tmps.getD 81 undef, a.tmps.getD 82 undef, a.tmps.getD 83 undef, a.tmps.getD 84 undef, a.tmps.getD 85 undef, a.tmps.getD 86 undef, a.tmps.getD 87 undef, a.tmps.getD 88 undef, a.tmps.getD 89 undef, a.tmps.getD 90 undef, a.tmps.getD 91 undef, a.tmps.getD 92 undef, a.tmps.getD 93 undef, a.tmps.getD 94 undef, a.tmps.getD 95 undef, a.tmps.getD 96 undef, a.tmps.getD 97 undef, a.tmps.getD 98 undef, a.tmps.getD 99 undef, a.tmps.getD 100 undef, a.tmps.getD 101 undef, a.tmps.getD 102 undef, a.tmps.getD 103 undef, a.tmps.getD 104 undef, a.tmps.getD 105 undef, a.tmps.getD 106 undef, a.tmps.getD 107 undef, a.tmps.getD 108 undef, a.tmps.getD 109 undef, a.tmps.getD 110 undef, a.tmps.getD 111 undef, a.tmps.getD 112 undef, a.tmps.getD 113 undef, a.tmps.getD 114 undef, a.tmps.getD 115 undef, a.tmps.getD 116 undef, a.tmps.getD 117 undef, a.tmps.getD 118 undef, a.tmps.getD 119 undef, a.tmps.getD 120 undef, a.tmps.getD 121 undef, a.tmps.getD 122 undef, a.tmps.getD 123 undef, a.tmps.getD 124 undef, a.tmps.getD 125 undef, a.tmps.getD 126 undef, a.tmps.getD 127 undef, a.tmps.getD 128 undef, a.tmps.getD 129 undef, a.tmps.getD 130 undef, a.tmps.getD 131 undef, a.tmps.getD 132 undef] := arr_eta a.tmps 133 hsz
      rw [hf3, hf4, hf5, hf6, hf7, hf8, hf9] at hfr
      obtain ⟨u, hu⟩ : ∃ u : Nat → Value, ∀ i, a.tmps.getD i undef = u i := ⟨_, fun _ => rfl⟩
      simp only [hu] at hfr
      clear hu hsz hf3 hf4 hf5 hf6 hf7 hf8 hf9
      obtain ⟨T, Dd⟩ := a
      simp only at hfr hdf
      subst hfr
      subst hdf
      have HK := Lib.hid hK
      have HD := Lib.hid hDs
      clear hK hDs
      have c0 := A0.cell
      have c1 := A1.cell
      have c2 := A2.cell
      have c5 := A5.cell
      have c6 := A6.cell
      have c7 := A7.cell
      have hcn := HCN.out
      cases j with
      | zero =>
        have hpc : ¬ (p : Int) < c := by omega
        have hpc' : Hid ((p : Int) = c) := Lib.hid (by omega)
        have hcnt : cntB (qAll c f p) m = m := cnt_all (fun i _ => q_all hc1 hpc'.out i)
        clear c6
        rw [hcnt] at A6
        have c6 := A6.cell
        have hone : Hid (∀ k, k < m → W.cell? ⟨g, k, none⟩ = some (.int .i64 1)) := Lib.hid (fun k hk => by
          have := A4.cell (seen_get (qAll c f p) hk); rw [q_all hc1 hpc'.out k] at this; exact this)
        clear hcn hcnt
        gi_wp2_with fail
        gi_loopw [17] (fun i wr => ∃ k : Nat, k ≤ m ∧ i = .int .i64 k ∧ W = wr) (fun i _ => m - (intOf i).toNat)
        case atStart => exact ⟨0, by omega, rfl, rfl⟩
        case round =>
          obtain ⟨k, hk, rfl, rfl⟩ := hrel
          by_cases hlt : k < m
          · have ck := hone.out k hlt
            gi_wp2
            go_roundw
            case rel => exact ⟨k + 1, by omega, by go_num, trivial⟩
            case measure => simp [intOf]; omega
          · gi_wp2_with fail
            refine ⟨trivial, ?_⟩
            refine (callsIn_wide.2 (works_any _)).mono ?_
            rintro e w9 ⟨rfl, hb9⟩
            have F3 := box_step A3 hb9
            have d3 := F3.cell
            have f3 := F3.frozen
            have G3 := F3.set (.bool true)
            gi_wp2
            refine leaves_list w.heap.size Ds rfl (fun D hD => ?_) hnd (v := .bool true) ?_
            · obtain ⟨h1, h2⟩ := HD.out D hD
              exact ⟨by omega, (KeepsOthers.setCell w9 ⟨w.heap.size + 3, 0, none⟩ (.bool true)).same D _ ((hb9.block D (Array.getElem?_eq_some_iff.1 h2).1).trans h2) rfl⟩
            · intro W' hbW hcW
              have G3' : Boxed W' (w.heap.size + 3) 4 (.bool true) := hcW _ _ G3 rfl
              exact ⟨by simp [results, Try.results8, go_sem, G3'.cell], rfl, ((hB.trans (hb9.mono hB.size)).setCell (p := ⟨w.heap.size + 3, 0, none⟩) (by simp) _).trans hbW⟩
      | succ j =>
        have hpc : (p : Int) < c := by omega
        clear hcn
        gi_wp2_with fail
        refine ⟨trivial, ?_⟩
        refine (callsIn_wide.2 (own_any _ _ _ _ _)).mono ?_
        rintro e w3 ⟨rfl, b3, s3, co3⟩
        clear c0 c1 c2 c5 c6 c7
        have A0 := box_step A0 b3
        have A1 := box_step A1 b3
        have A2 := box_step A2 b3
        have A3 := box_step A3 b3
        have A4 := A4.step b3
        have A5 := box_step A5 b3
        have A6 := box_step A6 b3
        have A7 := box_step A7 b3
        have c0 := A0.cell
        have c1 := A1.cell
        have c2 := A2.cell
        have c7 := A7.cell
        have hB := hB.trans (b3.mono hB.size)
        have HD : Hid (∀ D, D ∈ Ds → g + 4 ≤ D ∧ w3.heap[D]? = some (.deferred (some []))) := Lib.hid (fun D hD => by obtain ⟨h1, h2⟩ := HD.out D hD; exact ⟨h1, (b3.block D (Array.getElem?_eq_some_iff.1 h2).1).trans h2⟩)
        have l6 : g + 2 < w3.heap.size := by have := A7.lt; omega
        have l7 : bp < w3.heap.size := A7.lt
        clear b3 s3 co3
        have heq := eql_seq
        gi_wp2_with fail
        refine ⟨trivial, ?_⟩
        refine (callsIn_wide.2 (own_any _ _ _ _ _)).mono ?_
        rintro e w4 ⟨rfl, b4, s4, co4⟩
        clear c0 c1 c2 c7
        have A0 := box_step A0 b4
        have A1 := box_step A1 b4
        have A2 := box_step A2 b4
        have A3 := box_step A3 b4
        have A4 := A4.step b4
        have A5 := box_step A5 b4
        have A6 := box_step A6 b4
        have A7 := box_step A7 b4
        have hB := hB.trans (b4.mono hB.size)
        have HD : Hid (∀ D, D ∈ Ds → g + 4 ≤ D ∧ w4.heap[D]? = some (.deferred (some []))) := Lib.hid (fun D hD => by obtain ⟨h1, h2⟩ := HD.out D hD; exact ⟨h1, (b4.block D (Array.getElem?_eq_some_iff.1 h2).1).trans h2⟩)
        have hseq := own_xs c p f (f + m) w3.heap.size w4 s4 co4
        have z3 := A7.lt
        have zb := b4.size
        clear b4 co4
        have hbt : betweenB c p f (f + m) = true := between_parts Hr.out (by simp [inB]; omega) h1 h2 h3
        have q0 : Hid (∀ i, qIn c f p 0 i = qAll c f p i) := Lib.hid (fun i => q_start Hr.out hpc i)
        have hlen := own_len hbt
        have HBT := Lib.hid hbt
        clear hbt
        have HL := Lib.hid hlen
        clear hlen
        gi_wp2_with fail
        apply wpIn_range_xs 39 (ownLb w3.heap.size) rfl (enters_of Try.func39 (by kernel_rfl) rfl) (ownS w3.heap.size) hseq (fun k hk => by have := hk.2; omega) (Below.refl _ _) (fun _ => rfl)
          (fun k V => Boxed V (g + 2) 3 (.int .i64 (cntB (qIn c f p k) m)) ∧ Blk V g 3 (seenL (qIn c f p k) m) ∧ Kx [g, g + 2] w4 V)
          (fun _ _ _ => False)
          (((boxed_own _ _ _).from _).and (((blk_own _ _ _).from _).and (ownFrom_kx _ _)))
          (fun _ _ _ _ _ h _ _ => h)
          ⟨by rw [cnt_congr (fun i _ => q0.out i)]; exact A6, by rw [seen_congr (fun i _ => q0.out i)]; exact A4, Kx.refl _ _⟩
        case hassign =>
          intro l x W K hK
          dsimp only [ownEnc]
          gi_wp2
          exact hK
        case hstop => rintro D c k W hD hk h _; exact h.elim
        case hbody =>
          rintro l k x V hx ⟨E6, E4, hV⟩ hsV
          have hk : k < (manyI c p f (f + m)).toNat := by rw [← HL.out]; exact (List.getElem?_eq_some_iff.1 hx).1
          have hxe := own_get HBT.out k hk
          rw [hxe] at hx
          obtain rfl := Option.some.inj hx
          have hlt := (own_lt HBT.out k).2 hk
          obtain ⟨y1, y2⟩ := next_bd (p := p) (f := f) hc1 hc2
          have hkc : 0 ≤ (k : Int) * c := Int.mul_nonneg (by omega) (by omega)
          have hmod : (nextI c p f + k * c) % c = p := by rw [Int.add_mul_emod_self_right]; exact next_mod Hr.out (by omega) hpc
          obtain ⟨j', hj⟩ : ∃ j' : Nat, nextI c p f + k * c = f + j' := ⟨(nextI c p f + k * c - f).toNat, by omega⟩
          obtain ⟨hq1, hq2⟩ := q_step (k := k) Hr.out hpc hj
          have hjm : j' < m := by omega
          have hcell := E4.cell (seen_get (qIn c f p k) hjm)
          have hfro := E4.frozen j'
          rw [hq1] at hcell
          have hcell' : V.cell? ⟨g, j', none⟩ = some (.int .i64 0) := hcell
          have hcnt := cnt_le (qIn c f p k) m
          have hcadd := cnt_add hq1 hq2 m
          rw [if_pos hjm] at hcadd
          have hsset := seen_set hq2 m
          rw [hj] at hmod ⊢
          have o1 : ownerI c (f + j') = p := by
            have : slotB (f + j') = true := by simp [slotB, inB]; omega
            simp [ownerI, ofI, Hr.out, this, hmod]
          have o2 : opErr c (f + j') = 0 := by
            have : slotB (f + j') = true := by simp [slotB, inB]; omega
            simp [opErr, Hr.out, this]
          obtain ⟨tn, htn⟩ : ∃ tn, turnI c (f + j') = tn := ⟨_, rfl⟩
          have hst : slotI c p tn = f + j' ∧ slotE c p tn = 0 := by
            have hs : slotB (f + j') = true := by simp [slotB, inB]; omega
            have hpl : placeB c p = true := by have := HBT.out; unfold betweenB at this; simp at this; exact this.1
            have e : tn = (f + j') / c := by rw [← htn]; simp [turnI, ofI, Hr.out, hs]
            have := slot_hit hpl Hr.out (by omega) hpc (by omega : 0 ≤ f + (j' : Int)) (by omega) hmod
            have e2 : cntI c p (f + j') = tn := by
              rw [e]; unfold cntI; rcases right_cases Hr.out with rfl | rfl | rfl | rfl <;> omega
            rw [e2] at this; exact this
          obtain ⟨t1, t2⟩ := hst
          have hfj : f + (j' : Int) - f = j' := by omega
          have O1 := Lib.hid o1
          clear o1
          have O2 := Lib.hid o2
          clear o2
          have T1 := Lib.hid t1
          clear t1
          have T2 := Lib.hid t2
          clear t2
          have HT := Lib.hid htn
          clear htn
          have HCA := Lib.hid hcadd
          clear hcadd
          have HSS := Lib.hid hsset
          clear hsset
          have HMD := Lib.hid hmod
          clear hmod
          clear hq2 hcell hxe hj
          have C0 := hV.box A0 (by simp; omega)
          have C1 := hV.box A1 (by simp; omega)
          have C2 := hV.box A2 (by simp; omega)
          have C5 := hV.box A5 (by simp)
          have C7 := hV.box A7 (by simp; omega)
          have c0 := C0.cell
          have c1 := C1.cell
          have c2 := C2.cell
          have c5 := C5.cell
          have c6 := E6.cell
          have f6 := E6.frozen
          gi_wp2_with fail
          have G4 := (E4.set j' (.int .i64 1)).other (show g ≠ g + 1 + 1 by omega) 0 (.int .i64 (↑(cntB (qIn c f p k) m) + 1))
          have G6 := (box_set_other E6 (show g + 2 ≠ g by omega) j' (.int .i64 1)).set (.int .i64 (↑(cntB (qIn c f p k) m) + 1))
          rw [HSS.out] at G4
          have hX := (hV.setCell (p := ⟨g, j', none⟩) (.inl (by simp)) (.int .i64 1)).setCell (p := ⟨g + 1 + 1, 0, none⟩) (.inl (by simp)) (.int .i64 (↑(cntB (qIn c f p k) m) + 1))
          have hKb := ((Kb.refl (ownS w3.heap.size) V).setCell (p := ⟨g, j', none⟩) (fun hk => by have := hk.1; simp at this; omega) (.int .i64 1)).setCell (p := ⟨g + 1 + 1, 0, none⟩) (fun hk => by have := hk.1; simp at this; omega) (.int .i64 (↑(cntB (qIn c f p k) m) + 1))
          have hKo := (KeepsOthers.setCell V ⟨g, j', none⟩ (.int .i64 1)).trans (KeepsOthers.setCell _ ⟨g + 1 + 1, 0, none⟩ (.int .i64 (↑(cntB (qIn c f p k) m) + 1)))
          have hsz2 : w4.heap.size ≤ ((V.setCell ⟨g, j', none⟩ (.int .i64 1)).setCell ⟨g + 1 + 1, 0, none⟩ (.int .i64 (↑(cntB (qIn c f p k) m) + 1))).heap.size := hX.size
          obtain ⟨V2, hV2⟩ : ∃ V2, (V.setCell ⟨g, j', none⟩ (.int .i64 1)).setCell ⟨g + 1 + 1, 0, none⟩ (.int .i64 (↑(cntB (qIn c f p k) m) + 1)) = V2 := ⟨_, rfl⟩
          rw [hV2] at G4 G6 hX hKb hKo hsz2 ⊢
          clear hV2 c0 c1 c2 c5 c6 f6 hcell' hfro C0 C1 C2 C5 E6 E4 hV
          refine ⟨trivial, ?_⟩
          refine (CallsIn.inRound _ (callsIn_wide.2 (owner_at _ _ _ _ O1.out O2.out _))).mono ?_
          rintro e w5 ⟨rfl, b5⟩
          have x5 := hX.step b5
          have c0 := (x5.box A0 (by simp; omega)).cell
          gi_wp2_with (apply wpIn_label)
          refine ⟨trivial, ?_⟩
          refine (CallsIn.inRound _ (callsIn_wide.2 (turn_at _ _ _ _ HT.out O2.out _))).mono ?_
          rintro e w6 ⟨rfl, b6⟩
          have x6 := x5.step b6
          clear c0
          have c0 := (x6.box A0 (by simp; omega)).cell
          have c7 := (x6.box A7 (by simp; omega)).cell
          gi_wp2_with (apply wpIn_label)
          refine ⟨trivial, ?_⟩
          refine (CallsIn.inRound _ (callsIn_wide.2 (slot_at _ _ _ _ _ T1.out T2.out _))).mono ?_
          rintro e w7 ⟨rfl, b7⟩
          have x7 := x6.step b7
          clear c0 c7
          have c7 := (x7.box A7 (by simp; omega)).cell
          gi_wp2_with (apply wpIn_label)
          refine ⟨trivial, ?_⟩
          refine (CallsIn.inRound _ (callsIn_wide.2 (num_any _ _))).mono ?_
          rintro e w8 ⟨rfl, rfl⟩
          gi_wp2_with (apply wpIn_label)
          refine ⟨trivial, ?_⟩
          refine (CallsIn.inRound _ (callsIn_wide.2 (num_any _ _))).mono ?_
          rintro e w8 ⟨rfl, rfl⟩
          gi_wp2_with (apply wpIn_label)
          refine ⟨trivial, ?_⟩
          refine (CallsIn.inRound _ (callsIn_wide.2 (num_any _ _))).mono ?_
          rintro e w8 ⟨rfl, rfl⟩
          gi_wp2
          have b27 := b5.trans ((b6.mono b5.size).trans (b7.mono (Nat.le_trans b5.size b6.size)))
          exact ⟨(hKo.trans (others_below b27)).from _, hKb.below b27 (fun k hk => by have := hk.2; omega), by rw [HCA.out]; exact box_step G6 b27, G4.step b27, x7⟩
        case hdone =>
          rintro D V hD ⟨E6, E4, hV⟩ hKD
          have hqd : ∀ i, i < m → qIn c f p (ownL c p f (f + m)).length i = qAll c f (p + 1) i := fun i hi => by rw [HL.out]; exact q_done HBT.out rfl hi
          rw [cnt_congr hqd] at E6
          rw [seen_congr hqd] at E4
          have C0 := hV.box A0 (by simp; omega)
          have C1 := hV.box A1 (by simp; omega)
          have C2 := hV.box A2 (by simp; omega)
          have C3 := hV.box A3 (by simp; omega)
          have C5 := hV.box A5 (by simp)
          have C7 := hV.box A7 (by simp; omega)
          have hBV := hB.trans (hV.below (B := w.heap.size) (by omega) (by simp; omega))
          have hDV : Hid (∀ E, E ∈ D :: Ds → g + 4 ≤ E ∧ V.heap[E]? = some (.deferred (some []))) := Lib.hid (fun E hE => by
            rcases List.mem_cons.1 hE with rfl | hE
            · exact ⟨by omega, hKD⟩
            · obtain ⟨e1, e2⟩ := HD.out E hE
              exact ⟨e1, hV.obj e2 (by simp; omega)⟩)
          have hnd' : Hid ((D :: Ds).Nodup) := Lib.hid (List.nodup_cons.2 ⟨fun hE => by
            obtain ⟨e1, e2⟩ := HD.out D hE
            have := (Array.getElem?_eq_some_iff.1 e2).1
            omega, hnd⟩)
          have c7 := C7.cell
          clear hqd hnd HD hKD
          have hszV := hV.size
          gi_wp2
          refine HK.out j _ _ (by omega) ⟨p + 1, V.heap.size, D :: Ds, by omega, ⟨rfl, rfl, rfl, rfl, rfl, rfl, rfl, rfl⟩, rfl, C0.alloc _, C1.alloc _, C2.alloc _, C3.alloc _, E4.alloc _, C5.alloc _, E6.alloc _, ?_, by omega, hBV.alloc hBV.size _, ?_, hnd'.out⟩
          · exact Boxed.new V _ _
          · intro E hE
            obtain ⟨e1, e2⟩ := hDV.out E hE
            exact ⟨e1, (Below.heap_alloc V _ E (Array.getElem?_eq_some_iff.1 e2).1).trans e2⟩
  · have hbad' : rightB c = false ∨ (rightB c = true ∧ f < 0) ∨ (rightB c = true ∧ 0 ≤ f ∧ t < f) ∨ (rightB c = true ∧ 0 ≤ f ∧ f ≤ t ∧ 4096 < t) := by
      cases hr : rightB c
      · exact .inl rfl
      · by_cases h1 : f < 0
        · exact .inr (.inl ⟨rfl, h1⟩)
        · by_cases h2 : t < f
          · exact .inr (.inr (.inl ⟨rfl, by omega, h2⟩))
          · exact .inr (.inr (.inr ⟨rfl, by omega, by omega, by by_cases h3 : 4096 < t; exact h3; exact absurd ⟨hr, by omega, by omega, by omega⟩ hbad⟩))
    clear hbad
    have hee : ∃ e, errI c = e ∧ (e = 2 ∨ (e = 0 ∧ (f < 0 ∨ (0 ≤ f ∧ t < f) ∨ (0 ≤ f ∧ f ≤ t ∧ 4096 < t)))) := by
      rcases hbad' with h | ⟨h, h'⟩ | ⟨h, h'⟩ | ⟨h, h'⟩
      · exact ⟨2, by simp [errI, h], .inl rfl⟩
      · exact ⟨0, by simp [errI, h], .inr ⟨rfl, .inl h'⟩⟩
      · exact ⟨0, by simp [errI, h], .inr ⟨rfl, .inr (.inl h')⟩⟩
      · exact ⟨0, by simp [errI, h], .inr ⟨rfl, .inr (.inr h')⟩⟩
    clear hbad'
    obtain ⟨e, he, hcase⟩ := hee
    have E2 := Lib.hid he
    clear he
    rcases hcase with rfl | ⟨rfl, h1 | ⟨h1, h2⟩ | ⟨h1, h2, h3⟩⟩
    all_goals
      refine callsIn_of_wp_marks Try.func8 rfl trivial ?_ rfl
      simp only [Try.ntmps8, List.size_toArray, List.length_cons, List.length_nil, Nat.reduceAdd, Nat.reduceSub, Array.replicate_succ, Array.replicate_zero, List.push_toArray, List.append_toArray, List.nil_append, List.cons_append]
      gi_wp2_with fail
      rw [HW0.out]
      refine ⟨trivial, ?_⟩
      refine (callsIn_wide.2 (check_at _ _ E2.out _)).mono ?_
      rintro e w1 ⟨rfl, b1⟩
      have B1 := box_step A1 b1
      have B2 := box_step A2 b1
      have B3 := box_step A3 b1
      have c1 := B1.cell
      have c2 := B2.cell
      have hB1 := hB0.trans (b1.mono hB0.size)
      gi_wp2_with (apply wpIn_label)
      refine ⟨trivial, ?_⟩
      refine (callsIn_wide.2 (num_any _ _)).mono ?_
      rintro e w2 ⟨rfl, rfl⟩
      gi_wp2_with fail
      refine ⟨trivial, ?_⟩
      refine (callsIn_wide.2 (works_any _)).mono ?_
      rintro e w9 ⟨rfl, hb9⟩
      have F3 := box_step B3 hb9
      have d3 := F3.cell
      have f3 := F3.frozen
      have G3 := F3.set (.bool true)
      clear c1 c2
      gi_wp2
      refine leaves_nil rfl (v := .bool true) (by simp [results, Try.results8, go_sem, G3.cell]) ⟨rfl, (hB1.trans (hb9.mono hB1.size)).setCell (p := ⟨w.heap.size + 3, 0, none⟩) (by simp) _⟩
end Go.Proofs.Ytkpgdchhdhkpdaa
