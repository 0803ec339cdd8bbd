
/- Package proposer: slices.Collect of an iterator; whether places are a majority. -/
import Derived.Test.YthhpblchiodahaaGreatDoorPrB
import Derived.Maps.AppendAt
import Derived.RangeFuncBox
namespace Go.Proofs.YthhpblchiodahaaGreatDoor
set_option linter.unusedSimpArgs false
set_option linter.unusedVariables false
open Go.RowKit Go.Shelf
attribute [local go_sem] Oper.semAt_some
theorem info_int15 : (Tryz.prog.info? 3).map (fun i => (i.zero, i.size, i.bytes)) = some (some (.int .i64 0), 1, 8) := by kernel_rfl
theorem info_parts15 {P : Program} {t : TypeId} {z : Value} {sz by' : Nat} (h : (P.info? t).map (fun i => (i.zero, i.size, i.bytes)) = some (some z, sz, by')) : ∃ i, P.info? t = some i ∧ i.zero = some z ∧ i.size = sz ∧ i.bytes = by' := by
  cases hi : P.info? t with
  | none => rw [hi] at h; cases h
  | some i => rw [hi] at h; simp at h; exact ⟨i, rfl, h.1, h.2.1, h.2.2⟩
theorem Blk.news15 {W : World} {g : Nat} {t : TypeId} {cs : List Value} (h : Blk W g t cs) : ∀ j u, cs[j]? = some u → W.cell? ((⟨g, 0, none⟩ : Addr).add j) = some u := by
  intro j u hu
  rw [Addr.add_lit, Nat.zero_add]
  exact h.cell hu
theorem Blk.new15 {W : World} {g : Nat} (hg : W.heap.size = g) (t : TypeId) (cs : List Value) : Blk (W.alloc (.cells cs.toArray t)) g t cs := hg ▸ Blk.new W t cs
def intsL (l : List Int) : List Value := l.map (Value.int .i64)
def RowI (W : World) (base : Nat) (v : Value) (l : List Int) : Prop := W.ownsRow base 3 1 v l.length (intsL l)
theorem RowI.form {W : World} {base : Nat} {v : Value} {l : List Int} (h : RowI W base v l) : ∃ a c, v = .slice a l.length c := by
  rcases h.2 with ⟨e, e2⟩ | ⟨g', cap', cur, e, -⟩
  · exact ⟨none, 0, by rw [e, e2]⟩
  · exact ⟨_, _, e⟩
set_option maxRecDepth 100000 in
set_option maxHeartbeats 4000000 in
theorem appendSeq_xs (gf : Nat) (lb : Array Value) (eg : ∀ args w, (callFunc gf args).run Tryz.prog w = .ok (.enter gf args) w) (xs : List Int) (hx : xs.length ≤ 100) (w : World) (S : Nat → Prop) (hS : ∀ k, S k → k < w.heap.size)
    (hseq : SeqXs Tryz.prog gf lb plEnc xs (Kb S) w) :
    Calls Tryz.prog 81 #[.slice none 0 0, .func (.func gf) #[] lb] w fun e w' => (∃ v, e = .returned v ∧ RowI w' w.heap.size v xs) ∧ Below w.heap.size w w' := by
  refine callsIn_wide (n := 3).1 ?_
  obtain ⟨i0, hi, hz0, hz1, hz2⟩ := info_parts15 info_int15
  obtain ⟨b0, hb0⟩ : ∃ b, w.heap.size = b := ⟨_, rfl⟩
  have C1 : Boxed (w.alloc (.cells #[.slice none 0 0] 79)) b0 79 (.slice none 0 0) := boxed_newA hb0 79 _
  have hb1 := (Below.refl w.heap.size w).alloc (Nat.le_refl _) (.cells #[.slice none 0 0] 79)
  have hgt := C1.lt
  refine callsIn_of_wp_marks Tryz.func81 rfl trivial ?_ rfl
  simp only [Tryz.ntmps81, List.size_toArray, List.length_cons, List.length_nil, Nat.reduceAdd, Nat.reduceSub, Array.replicate_succ, Array.replicate_zero, List.push_toArray, List.append_toArray, List.nil_append, List.cons_append]
  gi_wp2_with fail
  rw [hb0] at hS hb1
  apply wpIn_range_xs gf lb rfl eg S hseq (fun k hk => by have := hS k hk; omega) (by rw [hb0]; exact hb1) (fun _ => rfl)
    (fun k W => (∃ v, Boxed W b0 79 v ∧ W.ownsRow b0 3 1 v k (intsL (xs.take k)) ∧ True) ∧ Below b0 w W)
    (fun _ _ _ => False)
    (((holdsRow_own b0 b0 79 3 1 (fun k => k) (fun k => intsL (xs.take k)) (fun _ _ => True)).from _).and (ownFrom_below (by omega) (by omega)))
    (fun c => ownFrom_pure _ _)
    ⟨⟨_, C1, World.ownsRow_nil _ _ _ _, trivial⟩, hb1⟩
  case hassign =>
    intro l x W K hK
    dsimp only [plEnc]
    gi_wp2
    exact hK
  case hbody =>
    rintro l k x W hx2 ⟨⟨v, D1, hown, -⟩, hbW⟩ hsW
    have hk : k < xs.length := (List.getElem?_eq_some_iff.1 hx2).1
    obtain ⟨a', c', rfl⟩ : ∃ a' c', v = .slice a' k c' := by
      rcases hown.2 with ⟨e, e2⟩ | ⟨g', cap', cur, e, -⟩
      · exact ⟨none, 0, by rw [e, e2]⟩
      · exact ⟨_, _, e⟩
    have c1 := D1.cell
    have f1 := D1.frozen
    clear hseq C1 hb1
    gi_wp2_with (gi_at_builtin; refine wpListIn_append_own _ rfl _ _ 79 rfl b0 3 i0 (.int .i64 0) 1 8 Tryz.underlying79 hi hz0 hz1 hz2 rfl (by decide) _ _ _ rfl (hown.alloc _) ⟨W.heap.size, 0, none⟩ 1 1 [.int .i64 x] rfl rfl (Blk.new15 rfl 3 [.int .i64 x]).news15 (by simp [Value.oneCell']) (by unfold maxLen; omega) (by omega) (by have := hbW.size; simp; omega) ?_)
    intro v' w1 hown' hgrow _
    obtain ⟨r1, r2, r3, r4, r5⟩ := Boxed.appended D1 (by decide) hown (by have := hbW.size; omega) (by omega) hown' hgrow
    have hv' : intsL (xs.take k) ++ [.int .i64 x] = intsL (xs.take (k + 1)) := by
      rw [List.take_add_one, hx2]; simp [intsL]
    rw [hv'] at r3
    obtain ⟨a2, c2, rfl⟩ := ownsRow_succ hown'
    have g1 := r1.cell
    have e1 := r1.frozen
    gi_wp2
    exact ⟨r4.from _, (Kb.refl _ _).below r5 (fun j hj => hS j hj), ⟨_, r2, r3, trivial⟩, hbW.trans r5⟩
  case hdone =>
    rintro D W hD ⟨⟨v, D1, hown, -⟩, hbW⟩ hK
    have c1 := D1.cell
    clear hseq C1 hb1
    rw [List.take_of_length_le (Nat.le_refl _)] at hown
    have hD' : b0 ≤ D := by omega
    gi_wp2
    (try simp only [Exit.noGoto])
    refine leaves_col (v := v) rfl hK (by simp [results, Tryz.results81, go_sem]) ⟨⟨_, rfl, ?_⟩, ?_⟩
    · rw [hb0]
      exact ownsRow_putObj hown (.deferred none) hK rfl
    · rw [hb0]
      exact below_putObj hbW hD' _
  case hstop =>
    rintro D c k W hD hk h
    exact h.elim
set_option maxRecDepth 100000 in
set_option maxHeartbeats 1000000 in
theorem collect_xs (gf : Nat) (lb : Array Value) (eg : ∀ args w, (callFunc gf args).run Tryz.prog w = .ok (.enter gf args) w) (xs : List Int) (hx : xs.length ≤ 100) (w : World) (S : Nat → Prop) (hS : ∀ k, S k → k < w.heap.size)
    (hseq : SeqXs Tryz.prog gf lb plEnc xs (Kb S) w) :
    Calls Tryz.prog 46 #[.func (.func gf) #[] lb] w fun e w' => (∃ v, e = .returned v ∧ RowI w' w.heap.size v xs) ∧ Below w.heap.size w w' := by
  have cA := appendSeq_xs gf lb eg xs hx w S hS hseq
  clear hseq
  go_enter Tryz.func46, Tryz.ntmps46
  go_wp2_with fail
  refine (cA).mono ?_
  rintro e w2 ⟨⟨v, rfl, hR⟩, hb⟩
  go_wp2
  go_ret
  exact ⟨⟨v, rfl, hR⟩, hb⟩
theorem plK_len (k : Int) (hs : List Bool) : (plK k hs).length ≤ hs.length := by
  induction hs generalizing k with
  | nil => simp [plK]
  | cons a t ih => cases a <;> (have := ih (k + 1); simp [plK]; omega)
def wonP (c : Int) (hs : List Bool) : Bool := decide (majI c ≤ ((plK 0 hs).length : Int))
set_option maxRecDepth 100000 in
set_option maxHeartbeats 2000000 in
theorem won15_any (g : Nat) (c : Int) (hs : List Bool) (hl : hs.length = 9) (w : World) (hc : w.cell? ⟨g, 31, none⟩ = some (.int .i64 c)) (hr : rightB c = true) :
    Calls Tryz.prog 112 #[.pointer (some ⟨g, 0, none⟩), setV hs] w fun e w' => e = .returned (.bool (wonP c hs)) ∧ Below w.heap.size w w' := by
  refine callsIn_wide (n := 3).1 ?_
  have he : errI c = 0 := by simp [errI, hr]
  obtain ⟨m, hm⟩ : ∃ m, majI c = m := ⟨_, rfl⟩
  have hlen : (plK 0 hs).length ≤ 9 := by have := plK_len 0 hs; omega
  have hm2 : 0 ≤ m ∧ m ≤ 5 := by
    have := right_bd hr
    rw [← hm]; unfold majI; rw [hr]; simp; omega
  have cA := fun W => setall_any hs hl W
  have cX := fun b W hB => set_xs b hs W hl hB
  unfold wonP
  rw [hm]
  generalize plK 0 hs = xs at *
  obtain ⟨a0, a1, a2, a3, a4, a5, a6, a7, a8, rfl⟩ := nine hl
  unfold setV at *
  simp only [List.map_cons, List.map_nil] at *
  have HE := Lib.hid he
  clear he
  have HM := Lib.hid hm
  clear hm
  have hb := From.refl w
  have c0 := fun x => (World.cell?_of_block (a := ⟨g, 31, none⟩) (((Below.refl w.heap.size w).alloc (Nat.le_refl _) x).block g (World.block_lt_of_cell? w _ hc))).trans hc
  refine callsIn_of_wp_marks Tryz.func112 rfl trivial ?_ rfl
  simp only [Tryz.ntmps112, List.size_toArray, List.length_cons, List.length_nil, Nat.reduceAdd, Nat.reduceSub, Array.replicate_succ, Array.replicate_zero, List.push_toArray, List.append_toArray, List.nil_append, List.cons_append]
  refine (wpIn_wide (n := 3)).2 ?_
  go_upto_region 1 with fail
  obtain ⟨gX, hgX⟩ : ∃ g, (w).heap.size = g := ⟨_, rfl⟩
  have X := Blk.newV hgX 91 #[.bool a0, .bool a1, .bool a2, .bool a3, .bool a4, .bool a5, .bool a6, .bool a7, .bool a8]
  have hbn := (Below.refl (w).heap.size w).alloc (Nat.le_refl _) (.cells #[.bool a0, .bool a1, .bool a2, .bool a3, .bool a4, .bool a5, .bool a6, .bool a7, .bool a8] 91)
  replace hb := hb.step hbn
  clear hbn
  rw [hgX]
  generalize (w).alloc (.cells #[.bool a0, .bool a1, .bool a2, .bool a3, .bool a4, .bool a5, .bool a6, .bool a7, .bool a8] 91) = w1 at *
  clear hgX
  replace c0 := hc
  replace c0 := cells_kept hb c0
  go_wp2_with fail
  refine (majority_at _ _ _ HM.out HE.out _).mono ?_
  rintro e w2 ⟨rfl, hbn⟩
  replace hb := hb.step hbn
  replace X := X.step hbn
  clear hbn
  go_upto_region 2 with fail
  have h2z := hb.size
  obtain ⟨gM, hgM⟩ : ∃ g, (w2).heap.size = g := ⟨_, rfl⟩
  have lt_X_M := X.lt
  rw [hgM] at lt_X_M
  have M := Blk.newV hgM 3 #[.int .i64 m]
  have hbn := (Below.refl (w2).heap.size w2).alloc (Nat.le_refl _) (.cells #[.int .i64 m] 3)
  replace hb := hb.step hbn
  replace X := X.step hbn
  clear hbn
  rw [hgM]
  generalize (w2).alloc (.cells #[.int .i64 m] 3) = w3 at *
  clear c0
  have X_0 := X.cell (j := 0) rfl
  have X_1 := X.cell (j := 1) rfl
  have X_2 := X.cell (j := 2) rfl
  have X_3 := X.cell (j := 3) rfl
  have X_4 := X.cell (j := 4) rfl
  have X_5 := X.cell (j := 5) rfl
  have X_6 := X.cell (j := 6) rfl
  have X_7 := X.cell (j := 7) rfl
  have X_8 := X.cell (j := 8) rfl
  go_wp2_with fail
  refine (cA _).mono ?_
  rintro e w4 ⟨rfl, hBx, hbn⟩
  clear X_0 X_1 X_2 X_3 X_4 X_5 X_6 X_7 X_8
  have hseq := cX _ _ (hBx)
  obtain ⟨bs, hbs⟩ : ∃ b, w3.heap.size = b := ⟨_, rfl⟩
  rw [hbs] at hseq ⊢
  have hM3 := M.lt
  replace hb := hb.step hbn
  replace X := X.step hbn
  replace M := M.step hbn
  have hM4 := M.lt
  have hwM : w.heap.size ≤ gM := by omega
  clear hbn cA cX hBx hgM
  unfold SetF
  go_wp2_with fail
  refine (wpIn_wide (n := 3)).1 ?_
  have hsz := hb.size
  have hb0 := Lib.hid hb
  apply wpIn_range_xs 117 #[.pointer (some ⟨bs, 0, none⟩)] rfl (enters_of Tryz.func117 (by kernel_rfl) rfl) (fun _ => False) hseq (fun k hk => hk.elim) (Below.refl _ _) (fun _ => rfl)
    (fun k W => Boxed W gM 3 (.int .i64 (m - k)) ∧ Below w.heap.size w W)
    (fun c k W => False)
    ((((boxed_own _ _ _).from _).and (ownFrom_below (Nat.le_refl _) (by omega))))
    (fun c => ownFrom_pure _ _)
    ⟨by rw [show m - ((0 : Nat) : Int) = m by omega]; exact M, hb⟩
  case hassign =>
    intro l x W K hK
    dsimp only [plEnc]
    gi_wp2
    exact hK
  case hbody =>
    rintro l k x W hx ⟨D0, hbW⟩ hsW
    have hk : k < 9 := Nat.lt_of_lt_of_le (List.getElem?_eq_some_iff.1 hx).1 hlen
    have c0 := D0.cell
    have f0 := D0.frozen
    clear hx hseq M hb
    gi_wp2
    refine ⟨(KeepsOthers.setCell W _ _).from _, fun _ h => h.elim, ?_, hbW.setCell (p := ⟨gM, 0, none⟩) hwM _⟩
    rw [show m - ((k + 1 : Nat) : Int) = m - k - 1 by omega]
    exact D0.set _
  case hdone =>
    rintro D W hD ⟨D0, hbW⟩ hK
    have c0 := D0.cell
    clear hseq M hb
    have hE : decide (m - (xs.length : Int) ≤ 0) = decide (m ≤ (xs.length : Int)) := by
      rw [Bool.eq_iff_iff]
      simp
      omega
    go_wp2
    refine leaves_col (v := .bool (decide (m ≤ (xs.length : Int)))) rfl hK (by simp [results, Tryz.results112, go_sem, hE]) ⟨rfl, below_putObj hbW (by omega) _⟩
  case hstop =>
    rintro D c k W hD hk h
    exact h.elim
end Go.Proofs.YthhpblchiodahaaGreatDoor
