
/- DiskKeeps. -/
import Derived.Test.YtceoehjjebkgpaaDkQ
import Derived.Lib.SlBytesConst
import Derived.Lib.SmallJoins
namespace Go.Proofs.Ytceoehjjebkgpaa
set_option linter.unusedSimpArgs false
set_option linter.unusedVariables false
set_option linter.unusedSimpArgs false
set_option linter.unusedVariables false
open Go.RowKit Go.Maps Joins
def blkOf : Option Addr → List Nat | some a => [a.block] | none => []
theorem ByAt.back {W : World} {bo : Option Addr} {y : BL} (h : ByAt W bo y) (cap : Nat) : (convert 22 9 (.slice bo y.length cap)).run Try.prog W = .ok (.string (mkS y)) W := by
  have key : ∀ a : Addr, (∀ j (hj : j < y.length), W.cell? (a.add j) = some (.int .u8 y[j].toNat)) → (convert 22 9 (.slice (some a) y.length cap)).run Try.prog W = .ok (.string (mkS y)) W := fun a ha =>
    run_convert_bytes_back W 22 9 5 a cap y Try.underlying22 Try.underlying5 Try.underlying9 ha
  rcases h with rfl | ⟨b, off, rfl, hc⟩
  · cases bo with
    | none =>
      simp [convert, run_underlying Try.underlying22, run_underlying Try.underlying5, run_underlying Try.underlying9, mkS, Conv.bytesToString]
      rfl
    | some a => exact key a (fun j hj => by simp at hj)
  · refine key _ fun j hj => ?_
    rw [Addr.add_lit]
    exact hc j _ (List.getElem?_eq_getElem hj)
theorem ByR.frozen {W : World} {g : Nat} {l : BL} (h : ByR W g l) {j : Nat} (hj : j < l.length) : W.frozen? ⟨g, j, none⟩ = false := by
  obtain ⟨p, fz, h, k⟩ := h
  simp only [World.frozen?, h]
  rcases k with k | rfl
  · simp; omega
  · simp
theorem ByR.set {W : World} {g : Nat} {l : BL} (h : ByR W g l) {j : Nat} (hj : j < l.length) (x : UInt8) : ByR (W.setCell ⟨g, j, none⟩ (.int .u8 x.toNat)) g (l.set j x) := by
  obtain ⟨p, fz, h, k⟩ := h
  refine ⟨p, fz, ?_, by rw [List.length_set]; exact k⟩
  rw [block_setCell h]
  congr 2
  apply Array.toList_inj.1
  simp [List.map_set, List.set_append, hj]
  rfl
theorem wrap_u8n (b : UInt8) : IntKind.wrap .u8 ((b.toNat : Int) + 1) = ((b + 1).toNat : Int) := by
  rw [IntKind.wrap_u8, UInt8.toNat_add]
  have := b.toNat_lt
  simp
theorem bySl_blk {W : World} {ao : Option Addr} {y : BL} (h : BySl W ao y) {x : Nat} (hx : x ∈ blkOf ao) : ao = some ⟨x, 0, none⟩ ∧ x < W.heap.size := by
  rcases h with ⟨rfl, -⟩ | ⟨g, rfl, h2⟩
  · simp [blkOf] at hx
  · obtain rfl : x = g := by simpa [blkOf] using hx
    exact ⟨rfl, h2.lt⟩
set_option maxRecDepth 100000 in
set_option maxHeartbeats 8000000 in
theorem DiskKeeps_walk (bo : Option Addr) (n c : Nat) (po : Option Addr) (np cp : Nat) (w : World) (hY : ∃ y : BL, y.length = n ∧ ByAt w bo y ∧ n ≤ 9223372036854775807) (hP : ∃ l : List Int, l.length = np ∧ HasInt w po l ∧ np ≤ 9223372036854775807) :
    Calls Try.prog 3 #[.slice bo n c, .slice po np cp] w fun e w' => e = .returned (.bool true) ∧ Below w.heap.size w w' := by
  obtain ⟨y, hyn, hy, hn⟩ := hY
  obtain ⟨l, hln, hp, hnp⟩ := hP
  by_cases h100 : 100 < n
  · have n1 : (100 : Int) < (n : Int) := by omega
    go_enter Try.func3, Try.ntmps3
    go_wp2_with fail
    refine (works07_any _).mono ?_
    rintro e w1 ⟨rfl, hb⟩
    go_wp2_with fail
    go_ret
    exact ⟨rfl, hb⟩
  have n1 : ¬ (100 : Int) < (n : Int) := by omega
  by_cases h20 : 20 < np
  · have n2 : (20 : Int) < (np : Int) := by omega
    go_enter Try.func3, Try.ntmps3
    go_wp2_with fail
    refine (works07_any _).mono ?_
    rintro e w1 ⟨rfl, hb⟩
    go_wp2_with fail
    go_ret
    exact ⟨rfl, hb⟩
  have n2 : ¬ (20 : Int) < (np : Int) := by omega
  have hb := From.refl w
  have kc := fun (w : World) (C : Array Value) (n c : Nat) => Lib.run_convert_bytes_const (P := Try.prog) w 22 5 C n c Try.underlying22 Try.underlying5
  go_enter Try.func3, Try.ntmps3
  go_wp2_with fail
  refine (dnew_any 200 _ (by decide) (by decide)).mono ?_
  rintro e w2 ⟨⟨d, mb, rfl, h, hwd, hwm⟩, hbn⟩
  replace hb := hb.step hbn
  clear hbn
  have hd2 := h.lt
  have hm2 := h.ltb
  have hk2 : ∀ x, x ∈ [d, mb] → w.heap.size ≤ x := by simp; omega
  have hsz2 := hb.size
  have hb1 := (Below.refl w2.heap.size w2).alloc (Nat.le_refl _) (.cells #[] 5)
  obtain ⟨ao2, c2, w3, hrun, h2, -, hfr, hb2⟩ := append_fullB (w2.alloc (.cells #[] 5)) (some ⟨w2.heap.size, 0, none⟩) bo [] y c 22 (bySl_some (World.alloc_heap_new w2 _)) ((hy.step hb.out).step hb1) (by simp; omega)
  simp only [List.nil_append, List.length_nil] at hrun h2
  have hfr2 : ∀ x, x ∈ blkOf ao2 → w2.heap.size ≤ x ∧ x < w3.heap.size := fun x hx => by
    obtain ⟨h3, h4⟩ := bySl_blk h2 hx
    refine ⟨?_, h4⟩
    rcases hfr x h3 with h5 | h5
    · exact Nat.le_trans hb1.size h5
    · cases h5; exact Nat.le_refl _
  clear hfr
  rw [hyn] at hrun
  replace hb := (hb.step hb1).step hb2
  replace h := (h.step hb1).step hb2
  go_wp2_with (at_builtin; refine wpList_append2 rfl _ _ _ _ rfl rfl rfl hrun ?_)
  clear hb1 hb2 hrun
  have cA := dapp_do d mb _ [] aS ao2 y c2 w3 h (good_zero (by decide) (by decide) (by decide) (by decide)) ok_a h2.at (by omega) nm_a (by simp [usedN]; omega) h rfl (.inl rfl)
  rw [hyn] at cA
  refine cA.mono ?_
  rintro e w4 ⟨rfl, ⟨m, h4, e1, e2, e3⟩, hkn⟩
  clear cA
  have hsz3 := hb.size
  replace h2 := h2.kx hkn (fun g hg => by
    have := hfr2 g (by rw [hg]; simp [blkOf])
    simp; omega)
  replace hb := hb.kx hkn hk2
  clear hkn h
  have h : DkW w4 d mb ⟨200, false, 0, false⟩ [(aS, m)] := h4
  replace e1 : m.b = y := e1
  replace e2 : m.s = 0 := e2
  replace e3 : ∀ g, m.ao = some ⟨g, 0, none⟩ → w3.heap.size ≤ g := fun g hg => (e3 g hg).resolve_right (by intro h; cases h)
  clear h4
  go_wp2_with fail
  go_loopw [9] (fun i wr => ∃ (k : Nat) (y2 : BL), i = .int .i64 k ∧ k ≤ n ∧ y2.length = n ∧ Hid (BySl wr ao2 y2) ∧ Hid (Kx (blkOf ao2) w4 wr)) (fun i _ => n - (intOf i).toNat)
  case atStart => exact ⟨0, y, rfl, by omega, hyn, Lib.hid h2, Lib.hid (Kx.refl _ _)⟩
  case round =>
    obtain ⟨k, y2, rfl, hk, hy2, hs, hkx⟩ := hrel
    have k0 : (0 : Int) ≤ (k : Int) := by omega
    by_cases hlt : k < n
    · have k1 : (k : Int) < (n : Int) := by omega
      rcases hs.out with ⟨h5, h6⟩ | ⟨g, h5, hR⟩
      · rw [h6] at hy2
        simp at hy2
        omega
      obtain ⟨u, hu⟩ : ∃ u, y2[k]? = some u := ⟨y2[k], List.getElem?_eq_getElem (by omega)⟩
      have x0 := hR.cell hu
      have f0 := hR.frozen (j := k) (by omega)
      have hw8 := wrap_u8n u
      have hR2 := hR.set (j := k) (by omega) (u + 1)
      have hkk : Kx (blkOf ao2) wr (wr.setCell ⟨g, k, none⟩ (.int .u8 (u + 1).toNat)) := (Kx.refl _ wr).setCell (.inl (by rw [h5]; simp [blkOf])) _
      have hkx2 := hkx.out.trans hkk
      clear hkk hR hs hkx h2 hu
      generalize (u + 1).toNat = v at *
      subst h5
      go_wp2_with fail
      go_roundw
      case rel => exact ⟨k + 1, _, by go_num, by omega, by rw [List.length_set]; exact hy2, Lib.hid (.inr ⟨g, rfl, hR2⟩), Lib.hid hkx2⟩
      case measure => simp [intOf]; omega
    · obtain rfl : k = n := by omega
      have hk4 := hkx.out
      have hhg : ∀ x, x ∈ blkOf ao2 → w.heap.size ≤ x := fun x hx => by have := hfr2 x hx; omega
      replace h : DkW wr d mb ⟨200, false, 0, false⟩ [(aS, m)] := h.kx hk4 (fun hx => by have := hfr2 d hx; omega) (fun hx => by have := hfr2 mb hx; omega) (fun p hp g hg hx => by
        rw [one_mem hp] at hg
        have := e3 g hg
        have := hfr2 g hx
        omega)
      replace hb : From w wr := hb.kx hk4 hhg
      have hlm : m.b.length ≤ 100 := by rw [e1]; omega
      clear hk4 hhg hkx hs h2 hfr2 e3 hk2 hwd hwm hd2 hm2 hsz2 hsz3 hy2 hlt
      have G : GoodD ⟨200, false, 0, false⟩ [(aS, m)] := good_one (by decide) (by decide) (by show (m.b.length : Int) ≤ 200; omega) (by decide) (by decide)
      have cC := dcrash_any d mb _ _ po l cp wr h G (by decide) (fun p hp => by rw [one_mem hp]; show 0 ≤ m.s ∧ m.s ≤ m.b.length; rw [e2]; omega) (hp.step hb.out) (by omega)
      rw [hln, srt_one] at cC
      simp only [List.length_cons, List.length_nil, Nat.zero_add, crM_one] at cC
      obtain ⟨m2, hcl, hm2⟩ : ∃ m2 : Fm, m2.b.length ≤ m.b.length ∧ crF l 0 (aS, m) = m2 := ⟨crF l 0 (aS, m), by simp only [crF, List.length_take]; omega, rfl⟩
      rw [hm2] at cC
      clear hm2
      go_wp2_with fail
      refine cC.mono ?_
      rintro e w5 ⟨⟨cc, rfl, hcw, mb2, hmw, hD⟩, hbn⟩
      clear cC
      have hr := (From.refl wr).step hbn
      clear hbn
      go_wp2_with fail
      have hyo := hy
      have hbn := (Below.refl (w5).heap.size w5).alloc (Nat.le_refl _) (.cells #[.int .u8 120] 5 (1, 1 + 1))
      have hy : ByAt ((w5).alloc (.cells #[.int .u8 120] 5 (1, 1 + 1))) (some ⟨(w5).heap.size, 0, none⟩) bX := heap_at (World.alloc_heap_new _ _)
      replace hr := hr.step hbn
      replace hD := hD.step hbn
      clear hbn
      generalize (w5).alloc (.cells #[.int .u8 120] 5 (1, 1 + 1)) = w6 at *
      have G2 : GoodD ⟨200, false, 0, false⟩ [(aS, m2)] := good_one (by decide) (by decide) (by show (m2.b.length : Int) ≤ 200; omega) (by decide) (by decide)
      refine (dapp_do cc mb2 _ _ aS _ bX 1 w6 hD G2 ok_a hy (by decide) nm_a (by rw [used_one]; show (1 : Int) ≤ 200 - m2.b.length; omega) hD rfl (.inl rfl)).mono ?_
      rintro e w7 ⟨rfl, -, hkn⟩
      replace hr := hr.kx hkn (by simp; omega)
      clear hkn hD hy G2 hcw hmw
      go_wp2_with fail
      obtain ⟨f1, f2⟩ := file_one m nm_a
      have cR := dread_any d mb _ _ aS w7 (h.step hr.out) G ok_a
      rw [f1, f2, e1, hyn] at cR
      refine cR.mono ?_
      rintro e w8 ⟨⟨ao3, c3, rfl, h8⟩, hbn⟩
      replace hr := hr.step hbn
      clear hbn cR
      have hb8 := hb.step hr.out
      have cv1 := bySl_back h8 c3
      have cv2 := (hyo.step hb8.out).back c
      rw [hyn] at cv1 cv2
      clear h8 G f1 f2 h
      obtain ⟨sy, hsy⟩ : ∃ sy, mkS y = sy := ⟨_, rfl⟩
      rw [hsy] at cv1 cv2
      clear hsy
      go_wp2_with fail
      refine (num07_any _ _).mono ?_
      rintro e wx ⟨rfl, rfl⟩
      go_wp2_with fail
      refine (num07_any _ _).mono ?_
      rintro e wx ⟨rfl, rfl⟩
      go_wp2_with fail
      refine (num07_any _ _).mono ?_
      rintro e wx ⟨rfl, rfl⟩
      go_wp2_with fail
      refine (num07_any _ _).mono ?_
      rintro e wx ⟨rfl, rfl⟩
      go_wp2_with fail
      refine (num07_any _ _).mono ?_
      rintro e wx ⟨rfl, rfl⟩
      go_wp2_with fail
      refine (works07_any _).mono ?_
      rintro e w9 ⟨rfl, hb9⟩
      replace hb8 := hb8.step hb9
      go_wp2_with fail
      go_ret
      exact ⟨rfl, hb8.out⟩
end Go.Proofs.Ytceoehjjebkgpaa
