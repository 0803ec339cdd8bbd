
/- Package disk: Used. -/
import Derived.Test.YtceoehjjebkgpaaDkD
import Derived.RangeFuncFrom
namespace Go.Proofs.Ytceoehjjebkgpaa
set_option linter.unusedSimpArgs false
set_option linter.unusedVariables false
open Go.RowKit Go.Maps
attribute [local go_sem] Oper.semAt_some
def usedN (L : FMap) : Nat := (L.map fun p => p.2.b.length).sum
theorem used_perm {L L' : FMap} (h : L.Perm L') : usedN L = usedN L' := (h.map _).sum_nat
theorem used_app (L L' : FMap) : usedN (L ++ L') = usedN L + usedN L' := by simp [usedN]
theorem used_succ {xs : FMap} {k : Nat} {x : ByteArray × Fm} (hx : xs[k]? = some x) : usedN (xs.take (k + 1)) = usedN (xs.take k) + x.2.b.length := by
  rw [List.take_add_one, hx, used_app]
  simp [usedN]
theorem used_le (xs : FMap) (k : Nat) : usedN (xs.take k) ≤ usedN xs := by
  have := used_app (xs.take k) (xs.drop k)
  rw [List.take_append_drop] at this
  omega
theorem enters_all : ∀ args w, (callFunc 41 args).run Try.prog w = .ok (.enter 41 args) w := enters_of Try.func41 (by kernel_rfl) rfl
theorem ownFrom_false {α : Type} (B : Nat) : OwnFrom B (fun (_ : α) (_ : World) => False) := fun _ _ _ _ h _ _ => h
theorem alloc_size0 {W : World} {g : Nat} (hg : W.heap.size = g) (o : Obj) : (W.alloc o).heap.size = g + 1 := by subst hg; exact Array.size_push ..
theorem below_one {B : Nat} {w W : World} (h : Below B w W) (hB : B ≤ w.heap.size) (v : Value) : Below B w (W.setCell ⟨B, 0, none⟩ v) := h.setCell (p := ⟨B, 0, none⟩) (Nat.le_refl _) v
set_option maxRecDepth 100000 in
set_option maxHeartbeats 2000000 in
theorem dused_any (d mb : Nat) (D : Ds) (L : FMap) (w : World) (h : DkW w d mb D L) (hn : L.length ≤ 1000) (hk : ∀ p ∈ L, okS p.1) (hu : usedN L ≤ 16777216) :
    Calls Try.prog 25 #[.pointer (some ⟨d, 0, none⟩)] w fun e w' => e = .returned (.int .i64 (usedN L)) ∧ Below w.heap.size w w' := by
  obtain ⟨xs, hxs⟩ : ∃ xs, srt L = xs := ⟨_, rfl⟩
  have hux : usedN xs = usedN L := by rw [← hxs]; exact used_perm (srt_perm L)
  rw [← hux] at hu ⊢
  refine callsIn_wide (n := 3).1 ?_
  obtain ⟨B, hB⟩ : ∃ B, w.heap.size = B := ⟨_, rfl⟩
  have hdB : d < B := by rw [← hB]; exact h.lt
  have hmB : mb < B := by rw [← hB]; exact h.ltb
  have X := Blk.newV hB 3 #[.int .i64 0]
  have hb1 := (Below.refl w.heap.size w).alloc (Nat.le_refl _) (.cells #[.int .i64 0] 3)
  have h1 := h.step hb1
  rw [hB] at hb1 ⊢
  refine callsIn_of_wp_marks Try.func25 rfl trivial ?_ rfl
  simp only [Try.ntmps25, List.size_toArray, List.length_cons, List.length_nil, Nat.reduceAdd, Nat.reduceSub, Array.replicate_succ, Array.replicate_zero, List.push_toArray, List.append_toArray, List.nil_append, List.cons_append]
  gi_wp2_with fail
  generalize w.alloc (.cells #[.int .i64 0] 3) = w1 at *
  refine ⟨trivial, ?_⟩
  refine (callsIn_wide.2 (dall_any _ rfl _)).mono ?_
  rintro e w3 ⟨⟨b, rfl, hBx, hbb⟩, hbn⟩
  have hXl := X.lt
  have hb3 := hb1.trans (hbn.mono (by omega))
  replace X := X.step hbn
  have h3 := h1.step hbn
  have hbB : B < b := by omega
  have hs3 : B < w3.heap.size := X.lt
  have hseq := dall_xs (fun k => k ∈ [B]) b d mb D L w3 hBx h3 hn hk (fun k hk => by simp at hk; omega) (by simp; omega) (by simp; omega) (by simp; omega)
  rw [hxs] at hseq
  clear hbn hb1 hBx h1 h3 h hux hbb
  unfold allF
  gi_wp2_with fail
  apply wpIn_range_xsAD 41 #[.pointer (some ⟨b, 0, none⟩)] rfl enters_all (fun k => k ∈ [B]) hseq (Below.refl _ _) (fun _ => rfl)
    (fun k W => Blk W B 3 [.int .i64 (usedN (xs.take k) : Nat)] ∧ Below B w W)
    (fun _ _ _ => False)
    (((blk_own B 3 (fun k => [.int .i64 (usedN (xs.take k) : Nat)])).from _).and (ownFrom_below (by omega) (by omega)))
    (fun c => ownFrom_false _)
    ⟨by simpa [usedN] using X, hb3⟩ (ob := fun x => .cells #[.slice x.2.ao x.2.b.length x.2.cap, .int .i64 x.2.s] 61)
  case hassign =>
    intro l d x W K hd hK
    dsimp only [fEnc, fmV]
    gi_wp2
    exact hK
  case hbody =>
    rintro l k d x W hx ⟨X1, hbW⟩ hd hWd hsW
    have hXB : Blk W d 61 [.slice x.2.ao x.2.b.length x.2.cap, .int .i64 x.2.s] := hWd
    have x0 := hXB.cell (j := 0) rfl
    have f0 := X1.frozen 0
    have c0 := X1.cell (j := 0) rfl
    have hsu := used_succ hx
    have hle := used_le xs (k + 1)
    obtain ⟨u, hue⟩ : ∃ u, usedN (xs.take k) = u := ⟨_, rfl⟩
    obtain ⟨v, hve⟩ : ∃ v, usedN (xs.take (k + 1)) = v := ⟨_, rfl⟩
    rw [hue] at c0 hsu
    rw [hve] at hsu hle
    have hwr : IntKind.wrap .i64 ((u : Int) + (x.2.b.length : Int)) = (v : Int) := by rw [IntKind.wrap_i64]; omega
    have HVE := Lib.hid hve
    clear hve
    clear hue hsu hle
    clear hWd hXB hseq X hb3
    gi_wp2
    have hk1 : Kx [B] W (W.setCell ⟨B, 0, none⟩ (.int .i64 (v : Nat))) := (Kx.refl _ W).setCell (.inl (by simp)) _
    exact ⟨(KeepsOthers.setCell _ _ _).from _, KbC.of_kx hk1, by rw [HVE.out]; exact X1.set 0 _, below_one hbW (by omega) _⟩
  case hdone =>
    rintro D W hD ⟨X1, hbW⟩ hDf
    rw [List.take_of_length_le (Nat.le_refl _)] at X1
    have f0 := X1.frozen 0
    have c0 := X1.cell (j := 0) rfl
    have hBD : B + 1 ≤ D := by omega
    clear hseq X hb3 hD
    have HDf := Lib.hid hDf
    clear hDf
    gi_wp2
    have hk1 : Kx [B] W (W.setCell ⟨B, 0, none⟩ (.int .i64 (usedN xs : Nat))) := (Kx.refl _ W).setCell (.inl (by simp)) _
    have X2 := X1.set 0 (.int .i64 (usedN xs : Nat))
    have hb9 := below_one hbW (by omega) (.int .i64 (usedN xs : Nat))
    have hDf2 := hk1.obj HDf.out (by simp; omega)
    exact leaves_list B [D] rfl (fun D' h => by simp at h; subst h; exact ⟨by omega, hDf2⟩) (by simp) (v := .int .i64 (usedN xs : Nat)) (fun W' hbW' hcW => by
      have X3 : Blk W' B 3 _ := hcW _ _ X2 rfl
      have r0 := X3.cell (j := 0) rfl
      exact ⟨by simp [results, Try.results25, go_sem, r0], rfl, hb9.trans hbW'⟩)
  case hstop =>
    rintro D c k W hD hk h hDf
    exact h.elim
end Go.Proofs.Ytceoehjjebkgpaa
