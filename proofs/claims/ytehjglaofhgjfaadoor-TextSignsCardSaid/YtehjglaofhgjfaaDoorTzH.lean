
/- TextSigns: a text's signs, how many there are, and that one may leave them. -/
import Derived.Test.YtehjglaofhgjfaaDoorTzE
namespace Go.Proofs.YtehjglaofhgjfaaDoor
set_option linter.unusedSimpArgs false
set_option linter.unusedVariables false
open Go.RowKit
attribute [local go_sem] Oper.semAt_some
/-- A range over a function that may be left by 'break': both ways meet behind the block. -/
theorem wpIn_range_xsJ {P : Program} {α : Type} {g : Operand} {ps : Array Tmp} {assign body : Code} {Q : Exit → Act → World → Prop} {a : Act} {w : World} (id : Nat)
    (gf : Nat) (lb : Array Value) (hg : a.eval g = .func (.func gf) #[] lb) (eg : ∀ args w, (callFunc gf args).run P w = .ok (.enter gf args) w)
    {encs : α → Array Value} {xs : List α} (S : Nat → Prop) (hseq : SeqXs P gf lb encs xs (KbI S w.heap.size) w) (hn : ∀ k, S k → k < w.heap.size)
    (hps : ∀ x, (encs x).size = ps.size)
    (I Ix : Nat → World → Prop) (hI : OwnFrom w.heap.size I) (hIx : OwnFrom w.heap.size Ix) (h0 : I 0 w) (a₁ : α → Act)
    (hassign : ∀ (l : Nat) (x : α) (W : World) (K : Act → World → Prop), K (a₁ x) W →
      assign.wpIn (Fence.wide.inRound l) 1 P (Exit.then K (fun _ _ _ => False)) { tmps := (ps.zip (encs x)).foldl (fun t (p, v) => t.setIfInBounds p v) a.tmps, defers := [] } W)
    (hbody : ∀ (l k : Nat) (x : α) (W : World), xs[k]? = some x → I k W → w.heap.size ≤ W.heap.size → body.wpIn (Fence.wide.inRound l) 1 P (xsPost w.heap.size (Kb S) I (fun c k W => c = .exit id ∧ Ix k W) (k + 1) W) (a₁ x) W)
    (hout : ∀ (D : Nat) (W : World), w.heap.size ≤ D → (I xs.length W ∨ ∃ k, k < xs.length ∧ Ix (k + 1) W) → W.heap[D]? = some (.deferred (some [])) → Q .normal { a with defers := { target := .collected D, args := #[] } :: a.defers } W) :
    (Code.rangeFunc g ps assign body).wpIn Fence.wide 3 P (Exit.inBlock id Q) a w := by
  refine wpIn_range_xsI gf lb hg eg S hseq hn hps I (fun c k W => c = .exit id ∧ Ix k W) hI (fun c s W W' row h hg hr => ⟨h.1, hIx s W W' row h.2 hg hr⟩) h0 a₁ hassign hbody ?_ ?_
  · intro D W h1 h2 h3
    exact hout D W h1 (.inl h2) h3
  · rintro D c k W h1 h2 ⟨rfl, h3⟩ h4
    refine wpIn_exit ?_
    have := hout D W h1 (.inr ⟨k, h2, h3⟩) h4
    simpa [Exit.inBlock] using this
def Dfx (D : Nat) (W : World) : Prop := W.heap[D]? = some (.deferred (some []))
theorem Dfx.step {D : Nat} {W W' : World} (h : Dfx D W) (hb : Below W.heap.size W W') : Dfx D W' := (hb.block D (Array.getElem?_eq_some_iff.1 h).1).trans h
theorem Dfx.kx {D : Nat} {ws : List Nat} {W W' : World} (h : Dfx D W) (hk : Kx ws W W') (hw : D ∉ ws) : Dfx D W' := (hk.block D (Array.getElem?_eq_some_iff.1 h).1 hw).trans h
theorem Dfx.lt {D : Nat} {W : World} (h : Dfx D W) : D < W.heap.size := (Array.getElem?_eq_some_iff.1 h).1
/-- The first turn: the counter, and what it has not reached. -/
def CntM (w0 : World) (gI : Nat) (many : Int) (k : Nat) (W : World) : Prop := CntI w0 gI (fun k => (k : Int)) k W ∧ (k = 0 ∨ (k : Int) < many)
def CntX (w0 : World) (gI : Nat) (many : Int) (k : Nat) (W : World) : Prop := CntI w0 gI (fun k => (k : Int)) k W ∧ many ≤ (k : Int) ∧ (k ≤ 1 ∨ (k : Int) - 1 < many)
theorem CntM.ownFrom {w0 : World} {gI : Nat} {many : Int} (hg : gI < w0.heap.size) : OwnFrom w0.heap.size (CntM w0 gI many) :=
  fun k W W' row h hgr hr => ⟨CntI.ownFrom hg k W W' row h.1 hgr hr, h.2⟩
theorem CntX.ownFrom {w0 : World} {gI : Nat} {many : Int} (hg : gI < w0.heap.size) : OwnFrom w0.heap.size (CntX w0 gI many) :=
  fun k W W' row h hgr hr => ⟨CntI.ownFrom hg k W W' row h.1 hgr hr, h.2⟩
set_option maxRecDepth 100000 in
set_option maxHeartbeats 4000000 in
theorem TextSigns_walk (s : ByteArray) (many : Int) (w : World) (hT : Tabs w) (hM : MaxL w) (hs : s.size ≤ 9223372036854775807) (hn : -9223372036854775808 ≤ many ∧ many ≤ 9223372036854775807) :
    Calls Tryd.prog 8 #[.string s, .int .i64 many] w fun e w' => e = .returned (.bool true) ∧ Below w.heap.size w w' := by
  refine callsIn_wide (n := 3).1 ?_
  have hb := From.refl w
  refine callsIn_of_wp_marks Tryd.func8 rfl trivial ?_ rfl
  simp only [Tryd.ntmps8, List.size_toArray, List.length_cons, List.length_nil, Nat.reduceAdd, Nat.reduceSub, Array.replicate_succ, Array.replicate_zero, List.push_toArray, List.append_toArray, List.nil_append, List.cons_append]
  refine (wpIn_wide (n := 3)).2 ?_
  go_upto_region 1 with fail
  obtain ⟨gM, hgM⟩ : ∃ g, (w).heap.size = g := ⟨_, rfl⟩
  have M := Blk.newV hgM 3 #[.int .i64 many]
  have hbn := (Below.refl (w).heap.size w).alloc (Nat.le_refl _) (.cells #[.int .i64 many] 3)
  replace hb := hb.step hbn
  clear hbn
  rw [hgM]
  have szM := alloc_size hgM (.cells #[.int .i64 many] 3)
  generalize (w).alloc (.cells #[.int .i64 many] 3) = w1 at *
  obtain ⟨gR, hgR⟩ : ∃ g, (w1).heap.size = g := ⟨_, rfl⟩
  have lt_M_R := M.lt
  rw [hgR] at lt_M_R
  have R := Blk.newV hgR 4 #[.bool false]
  have hbn := (Below.refl (w1).heap.size w1).alloc (Nat.le_refl _) (.cells #[.bool false] 4)
  replace hb := hb.step hbn
  replace M := M.step hbn
  clear hbn
  have egR : gM + 1 = gR := szM.symm.trans hgR
  rw [egR]
  clear szM
  generalize (w1).alloc (.cells #[.bool false] 4) = w2 at *
  have hRw : w.heap.size ≤ gR := by omega
  by_cases h3 : 300 < s.size
  · have h3' : (300 : Int) < (s.size : Int) := by omega
    go_wp2_with fail
    refine (works3_any _ (hT.step hb) (hM.step hb)).mono ?_
    rintro e w3 ⟨rfl, hbn⟩
    replace hb := hb.step hbn
    replace R := R.step hbn
    clear hbn
    have fR := R.frozen 0
    have cR := R.cell (j := 0) rfl
    go_wp2_with fail
    have R9 := R.set 0 (.bool true)
    have c9 : (w3.setCell ⟨gR, 0, none⟩ (.bool true)).cell? ⟨gR, 0, none⟩ = some (.bool true) := R9.cell (j := 0) rfl
    have hb9 : Below w.heap.size w (w3.setCell ⟨gR, 0, none⟩ (.bool true)) := Below.setCell hb.out (p := ⟨gR, 0, none⟩) hRw _
    clear R9 R cR fR hb
    generalize w3.setCell ⟨gR, 0, none⟩ (.bool true) = W9 at *
    refine leaves_nil (v := .bool true) rfl ?_ ⟨rfl, hb9⟩
    simp [results, Tryd.results8, go_sem, c9]
  · have h3' : ¬ (300 : Int) < (s.size : Int) := by omega
    have hs3 : s.size ≤ 300 := by omega
    go_upto_region 3 with fail
    go_wp2_with fail
    refine (signs_any s (by omega) _).mono ?_
    rintro e w3 ⟨v, rfl, hown, hbn⟩
    replace hb := hb.step hbn
    replace M := M.step hbn
    replace R := R.step hbn
    obtain ⟨ao, cap, rfl, hcs⟩ := signs_own0 hown
    clear hbn hown
    have hLs := signsL_len s
    obtain ⟨L, hL⟩ : ∃ L, (signsL s).length = L := ⟨_, rfl⟩
    rw [hL]
    go_upto_region 4 with fail
    have hSg : SgC w3.heap.size w3 ao (signsL s) := fun j x hx => by
      obtain ⟨g, h1, h2, h3⟩ := hcs j x hx
      exact ⟨g, h1, World.block_lt_of_cell? w3 _ h2, h2, h3⟩
    have hbd : ∀ (n : Nat) (x : Sg), (signsL s)[n]? = some x → x.1 ≤ s.size ∧ x.2.2.1 ≤ 2000000 := fun n x h => signs_bd s s.size 0 n x h
    have hLL : L ≤ 300 := by rw [← hL, hLs]; have := lenB_le s.data.toList; rw [← Lib.size_eq] at this; omega
    clear hcs
    obtain ⟨gV, hgV⟩ : ∃ g, (w3).heap.size = g := ⟨_, rfl⟩
    have lt_M_V := M.lt
    rw [hgV] at lt_M_V
    have lt_R_V := R.lt
    rw [hgV] at lt_R_V
    have V := Blk.newV hgV 43 #[.slice ao L cap]
    have hbn := (Below.refl (w3).heap.size w3).alloc (Nat.le_refl _) (.cells #[.slice ao L cap] 43)
    replace hb := hb.step hbn
    replace M := M.step hbn
    replace R := R.step hbn
    replace hSg := hSg.step hbn
    clear hbn
    rw [hgV]
    generalize (w3).alloc (.cells #[.slice ao L cap] 43) = w4 at *
    rw [hgV] at hSg
    have hVw : w.heap.size ≤ gV := by rw [← hgV]; exact Nat.le_trans (Nat.le_of_lt (Nat.lt_of_le_of_lt hRw lt_R_V)) (Nat.le_of_eq hgV.symm)
    have lt_V_b := V.lt
    go_wp2_with fail
    refine (each_any s _).mono ?_
    rintro e w5 ⟨rfl, hBx, hbn⟩
    replace hb := hb.step hbn
    replace M := M.step hbn
    replace R := R.step hbn
    replace hSg := hSg.step hbn
    replace V := V.step hbn
    clear hbn
    obtain ⟨b, hbE⟩ : ∃ b, w4.heap.size = b := ⟨_, rfl⟩
    rw [hbE] at hBx ⊢
    have hBX : Blk w5 b 9 [.string s] := hBx
    clear hBx
    rw [hbE] at lt_V_b
    clear hbE hs hgV
    have hRb : gR < b := by omega
    generalize hxs : signsL s = xs at *
    go_upto_block 0 with fail
    obtain ⟨gT, hgT⟩ : ∃ g, (w5).heap.size = g := ⟨_, rfl⟩
    have lt_M_T := M.lt
    rw [hgT] at lt_M_T
    have lt_R_T := R.lt
    rw [hgT] at lt_R_T
    have lt_V_T := V.lt
    rw [hgT] at lt_V_T
    have lt_hBX_T := hBX.lt
    rw [hgT] at lt_hBX_T
    have T := Blk.newV hgT 3 #[.int .i64 0]
    have hbn := (Below.refl (w5).heap.size w5).alloc (Nat.le_refl _) (.cells #[.int .i64 0] 3)
    replace hb := hb.step hbn
    replace M := M.step hbn
    replace R := R.step hbn
    replace hSg := hSg.step hbn
    replace V := V.step hbn
    replace hBX := hBX.step hbn
    clear hbn
    rw [hgT]
    generalize (w5).alloc (.cells #[.int .i64 0] 3) = w6 at *
    go_wp2_with fail
    refine wp_loop_rounds 3 ?_
    rw [rounds_succ]
    have cT := T.cell (j := 0) rfl
    go_upto_region 9 with fail
    clear cT
    obtain ⟨gI, hgI⟩ : ∃ g, (w6).heap.size = g := ⟨_, rfl⟩
    have lt_M_I := M.lt
    rw [hgI] at lt_M_I
    have lt_R_I := R.lt
    rw [hgI] at lt_R_I
    have lt_V_I := V.lt
    rw [hgI] at lt_V_I
    have lt_hBX_I := hBX.lt
    rw [hgI] at lt_hBX_I
    have lt_T_I := T.lt
    rw [hgI] at lt_T_I
    have I := Blk.newV hgI 3 #[.int .i64 0]
    have hbn := (Below.refl (w6).heap.size w6).alloc (Nat.le_refl _) (.cells #[.int .i64 0] 3)
    replace hb := hb.step hbn
    replace M := M.step hbn
    replace R := R.step hbn
    replace hSg := hSg.step hbn
    replace V := V.step hbn
    replace hBX := hBX.step hbn
    replace T := T.step hbn
    clear hbn
    rw [hgI]
    generalize (w6).alloc (.cells #[.int .i64 0] 3) = w7 at *
    have hI7 := I.lt
    have hgI7 : gR < w7.heap.size := by omega
    have heq : ∀ (f : Fn) (a c : Array Value) (W : World), (binOp .eql 46 (.func f a c) .nilFunc).run Tryd.prog W = .ok (.bool false) W := fun _ _ _ _ => rfl
    have HSQ := each_xs b w7.heap.size s w7 (by omega) (Nat.le_refl _) hBX
    rw [hxs] at HSQ
    go_wp2_with fail
    refine (wpIn_wide (n := 3)).1 ?_
    apply wpIn_range_xsJ 2 53 #[.pointer (some ⟨b, 0, none⟩)] rfl (enters_of Tryd.func53 (by kernel_rfl) rfl) (fun k => k = b) HSQ (fun k hk => by have := hBX.lt; omega) (fun _ => rfl)
      (CntM w7 gI many)
      (CntX w7 gI many)
      (CntM.ownFrom I.lt)
      (CntX.ownFrom I.lt)
      ⟨⟨Kx.refl _ _, I⟩, .inl rfl⟩
    case hassign =>
      intro l x W K hK
      dsimp only [sgEnc]
      gi_wp2
      exact hK
    case hbody =>
      rintro ll k x W hx hCM hsW
      obtain ⟨hC, hCk⟩ := hCM
      have hk : k < L := by rw [← hL]; exact (List.getElem?_eq_some_iff.1 hx).1
      obtain ⟨b1, b2⟩ := hbd k x hx
      obtain ⟨g, rfl, hg1, c0, c2⟩ := (hSg.kx hC.1 (fun g hg => by simp at hg; omega)) k x hx
      have cI := hC.2.cell (j := 0) rfl
      have fI := hC.2.frozen 0
      have cV := (hC.1.blk V (by simp; omega)).cell (j := 0) rfl
      have k0 : (0 : Int) ≤ (k : Int) := by omega
      have k1 : (k : Int) < (L : Int) := by omega
      have k2 : (k : Int) < 1000 := by omega
      have e0 : ((x.1 : Int) != (x.1 : Int)) = false := by simp
      have e2 : ((x.2.2.1 : Int) != (x.2.2.1 : Int)) = false := by simp
      have r0 : (0 : Int) ≤ (x.2.2.1 : Int) := by omega
      have r1 : (x.2.2.1 : Int) ≤ 2000000 := by omega
      have hN := hC.next ((k : Int) + 1) (by simp)
      have hkf := keeps_set (B := w7.heap.size) (W := W) (g := gI) I.lt (.int .i64 ((k : Int) + 1))
      have hkb : Kb (fun k => k = b) W (W.setCell ⟨gI, 0, none⟩ (.int .i64 ((k : Int) + 1))) := fun j hj => Below.heap_setCell W ⟨gI, 0, none⟩ _ j (by simp; omega)
      have cT := (hC.1.blk T (by simp; omega)).cell (j := 0) rfl
      have cM := (hC.1.blk M (by simp; omega)).cell (j := 0) rfl
      by_cases hmk : many ≤ (k : Int) + 1
      · have hX : CntX w7 gI many (k + 1) (W.setCell ⟨gI, 0, none⟩ (.int .i64 ((k : Int) + 1))) := ⟨hN, by omega, by omega⟩
        clear HSQ hC hN hCk
        gi_wp2
        exact ⟨hkf, rfl, hX⟩
      · have hX : CntM w7 gI many (k + 1) (W.setCell ⟨gI, 0, none⟩ (.int .i64 ((k : Int) + 1))) := ⟨hN, .inr (by omega)⟩
        clear HSQ hC hN hCk
        gi_wp2
        exact ⟨hkf, hkb, hX⟩
    case hout =>
      rintro D W hD hC hK
      obtain ⟨N, hCN, hNE⟩ : ∃ N : Nat, CntI w7 gI (fun k => (k : Int)) N W ∧ (N : Int) = min (L : Int) (max 1 many) := by
        rcases hC with ⟨hC, hk⟩ | ⟨k, hk, hC, h1, h2⟩
        · exact ⟨_, hC, by rw [hL] at *; omega⟩
        · exact ⟨_, hC, by rw [hL] at *; omega⟩
      clear hC HSQ
      obtain ⟨hK7, I7⟩ := hCN
      replace hb := hb.kx hK7 (by first | (simp; done) | (simp; omega))
      replace M := M.kx hK7 (by first | (simp; done) | (simp; omega))
      replace R := R.kx hK7 (by first | (simp; done) | (simp; omega))
      replace hSg := hSg.kx hK7 (by first | (simp; done) | (simp; omega))
      replace V := V.kx hK7 (by first | (simp; done) | (simp; omega))
      replace hBX := hBX.kx hK7 (by first | (simp; done) | (simp; omega))
      replace T := T.kx hK7 (by first | (simp; done) | (simp; omega))
      clear hK7 I
      have hDd : Dfx D W := hK
      clear hK
      have cI := I7.cell (j := 0) rfl
      have cT := T.cell (j := 0) rfl
      have cV := V.cell (j := 0) rfl
      have cM := M.cell (j := 0) rfl
      go_upto_region 19 with fail
      clear cI cT cV cM I7 hNE
      obtain ⟨gU, hgU⟩ : ∃ g, (W).heap.size = g := ⟨_, rfl⟩
      have lt_M_U := M.lt
      rw [hgU] at lt_M_U
      have lt_R_U := R.lt
      rw [hgU] at lt_R_U
      have lt_V_U := V.lt
      rw [hgU] at lt_V_U
      have lt_hBX_U := hBX.lt
      rw [hgU] at lt_hBX_U
      have lt_hDd_U := hDd.lt
      rw [hgU] at lt_hDd_U
      have U := Blk.newV hgU 3 #[.int .i64 1]
      have hbn := (Below.refl (W).heap.size W).alloc (Nat.le_refl _) (.cells #[.int .i64 1] 3)
      replace hb := hb.step hbn
      replace M := M.step hbn
      replace R := R.step hbn
      replace hSg := hSg.step hbn
      replace V := V.step hbn
      replace hBX := hBX.step hbn
      replace hDd := hDd.step hbn
      clear hbn
      rw [hgU]
      generalize (W).alloc (.cells #[.int .i64 1] 3) = w8 at *
      rw [rounds_succ]
      have cU := U.cell (j := 0) rfl
      go_upto_region 9 with fail
      clear cU
      obtain ⟨gI, hgI⟩ : ∃ g, (w8).heap.size = g := ⟨_, rfl⟩
      have lt_M_I := M.lt
      rw [hgI] at lt_M_I
      have lt_R_I := R.lt
      rw [hgI] at lt_R_I
      have lt_V_I := V.lt
      rw [hgI] at lt_V_I
      have lt_hBX_I := hBX.lt
      rw [hgI] at lt_hBX_I
      have lt_hDd_I := hDd.lt
      rw [hgI] at lt_hDd_I
      have lt_U_I := U.lt
      rw [hgI] at lt_U_I
      have I := Blk.newV hgI 3 #[.int .i64 0]
      have hbn := (Below.refl (w8).heap.size w8).alloc (Nat.le_refl _) (.cells #[.int .i64 0] 3)
      replace hb := hb.step hbn
      replace M := M.step hbn
      replace R := R.step hbn
      replace hSg := hSg.step hbn
      replace V := V.step hbn
      replace hBX := hBX.step hbn
      replace hDd := hDd.step hbn
      replace U := U.step hbn
      clear hbn
      rw [hgI]
      generalize (w8).alloc (.cells #[.int .i64 0] 3) = w9 at *
      have hI9 := I.lt
      have HSQ := each_xs b w9.heap.size s w9 (by omega) (Nat.le_refl _) hBX
      rw [hxs] at HSQ
      go_wp2_with fail
      refine (wpIn_wide (n := 3)).1 ?_
      apply wpIn_range_xsJ 2 53 #[.pointer (some ⟨b, 0, none⟩)] rfl (enters_of Tryd.func53 (by kernel_rfl) rfl) (fun k => k = b) HSQ (fun k hk => by have := hBX.lt; omega) (fun _ => rfl)
        (CntI w9 gI (fun k => (k : Int)))
        (fun _ _ => False)
        (CntI.ownFrom I.lt)
        (ownFrom_pure _ _)
        ⟨Kx.refl _ _, I⟩
      case hassign =>
        intro l x W K hK
        dsimp only [sgEnc]
        gi_wp2
        exact hK
      case hbody =>
        rintro ll k x W hx hC hsW
        have hk : k < L := by rw [← hL]; exact (List.getElem?_eq_some_iff.1 hx).1
        obtain ⟨b1, b2⟩ := hbd k x hx
        obtain ⟨g, rfl, hg1, c0, c2⟩ := (hSg.kx hC.1 (fun g hg => by simp at hg; omega)) k x hx
        have cI := hC.2.cell (j := 0) rfl
        have fI := hC.2.frozen 0
        have cV := (hC.1.blk V (by simp; omega)).cell (j := 0) rfl
        have k0 : (0 : Int) ≤ (k : Int) := by omega
        have k1 : (k : Int) < (L : Int) := by omega
        have k2 : (k : Int) < 1000 := by omega
        have e0 : ((x.1 : Int) != (x.1 : Int)) = false := by simp
        have e2 : ((x.2.2.1 : Int) != (x.2.2.1 : Int)) = false := by simp
        have r0 : (0 : Int) ≤ (x.2.2.1 : Int) := by omega
        have r1 : (x.2.2.1 : Int) ≤ 2000000 := by omega
        have hN := hC.next ((k : Int) + 1) (by simp)
        have hkf := keeps_set (B := w9.heap.size) (W := W) (g := gI) I.lt (.int .i64 ((k : Int) + 1))
        have hkb : Kb (fun k => k = b) W (W.setCell ⟨gI, 0, none⟩ (.int .i64 ((k : Int) + 1))) := fun j hj => Below.heap_setCell W ⟨gI, 0, none⟩ _ j (by simp; omega)
        have cU := (hC.1.blk U (by simp; omega)).cell (j := 0) rfl
        clear HSQ hC
        gi_wp2
        exact ⟨hkf, hkb, hN⟩
      case hout =>
        rintro E W2 hE hC hK
        rcases hC with hC | ⟨k, hk, hC⟩
        rotate_left
        · exact hC.elim
        clear HSQ
        obtain ⟨hK9, I9⟩ := hC
        simp only [hL] at I9
        have hDE : D < E := by omega
        have hwD : w.heap.size ≤ D := by have := hD; omega
        have hwE : w.heap.size ≤ E := by omega
        replace hb := hb.kx hK9 (by first | (simp; done) | (simp; omega))
        replace M := M.kx hK9 (by first | (simp; done) | (simp; omega))
        replace R := R.kx hK9 (by first | (simp; done) | (simp; omega))
        replace hSg := hSg.kx hK9 (by first | (simp; done) | (simp; omega))
        replace V := V.kx hK9 (by first | (simp; done) | (simp; omega))
        replace hBX := hBX.kx hK9 (by first | (simp; done) | (simp; omega))
        replace hDd := hDd.kx hK9 (by first | (simp; done) | (simp; omega))
        replace U := U.kx hK9 (by first | (simp; done) | (simp; omega))
        clear hK9 I
        have hEd : Dfx E W2 := hK
        clear hK
        have cI := I9.cell (j := 0) rfl
        have cU := U.cell (j := 0) rfl
        have cV := V.cell (j := 0) rfl
        have cM := M.cell (j := 0) rfl
        have e9 : ((L : Int) != (L : Int)) = false := by simp
        go_upto_region 19 with fail
        clear cI cU cV cM I9 e9
        obtain ⟨gT, hgT⟩ : ∃ g, (W2).heap.size = g := ⟨_, rfl⟩
        have lt_M_T := M.lt
        rw [hgT] at lt_M_T
        have lt_R_T := R.lt
        rw [hgT] at lt_R_T
        have lt_V_T := V.lt
        rw [hgT] at lt_V_T
        have T := Blk.newV hgT 3 #[.int .i64 2]
        have hbn := (Below.refl (W2).heap.size W2).alloc (Nat.le_refl _) (.cells #[.int .i64 2] 3)
        replace hb := hb.step hbn
        replace M := M.step hbn
        replace R := R.step hbn
        replace hSg := hSg.step hbn
        replace V := V.step hbn
        replace hDd := hDd.step hbn
        replace hEd := hEd.step hbn
        clear hbn
        rw [hgT]
        generalize (W2).alloc (.cells #[.int .i64 2] 3) = w10 at *
        rw [rounds_succ]
        have cT := T.cell (j := 0) rfl
        have cV := V.cell (j := 0) rfl
        have cL := fun W => len_any s (by omega) W
        rw [← hLs, hL] at cL
        have e8 : ((L : Int) == (L : Int)) = true := by simp
        have cV0 := extA_cell cV
        have hTk := hT.step hb
        have hMk := hM.step hb
        have hDd0 := hDd
        have hEd0 := hEd
        clear hDd hEd
        go_upto_region 22 with fail
        refine wp_region_head (C := ExtA w10) 8 (by kernel_rfl) (by decide) (by kernel_rfl) ⟨rfl, rfl, rfl, Nat.le_refl _, fun _ _ => rfl⟩ ?_
        simp only [List.take_succ_cons, List.take_zero]
        repeat
          (first
            | go_big_quiet_skip
            | (go_big_quiet_want
               go_big_quiet_op
               first
                 | go_big_quiet_on
                 | (apply Exists.intro
                    refine ⟨fun w' hC9 => ?_, ?_⟩
                    · (first
                        | with_reducible rfl
                        | (go_at_call 27; refine (cL _).mono ?_; rintro e w2 ⟨rfl, hb9⟩; exact ⟨rfl, extA_then hC9 hb9⟩) | (go_at_call 12; refine (works3_any _ (hTk.step hC9) (hMk.step hC9)).mono ?_; rintro e w2 ⟨rfl, hb9⟩; exact ⟨rfl, extA_then hC9 hb9⟩)
                        | (go_simp; done)
                        | (go_simp; with_reducible rfl))
                    go_big_quiet_on)))
        refine wpQuiet_nil ?_
        intro wq hq
        have Rq := R.step hq
        have hbq := hb.step hq
        change wpAny _ _ _ _ (0 + 1) _ _ _
        have fR := Rq.frozen 0
        have cR := Rq.cell (j := 0) rfl
        refine wpAny_ready (rs := [8]) (by kernel_rfl) (by simp) ?_
        refine AllReady.cons rfl (fun K hK => ?_) AllReady.nil
        go_simp
        refine hK _ _ ?_
        clear hK K
        refine wpAny_done (by kernel_rfl) ?_ _
        have hEd : Dfx E wq := Dfx.step hEd0 hq
        have hDd : Dfx D wq := Dfx.step hDd0 hq
        have R9 := Rq.set 0 (.bool true)
        have hEs : (wq.setCell ⟨gR, 0, none⟩ (.bool true)).heap[E]? = some (.deferred (some [])) := (Below.heap_setCell wq ⟨gR, 0, none⟩ (.bool true) E (by simp; omega)).trans hEd
        have hDs : (wq.setCell ⟨gR, 0, none⟩ (.bool true)).heap[D]? = some (.deferred (some [])) := (Below.heap_setCell wq ⟨gR, 0, none⟩ (.bool true) D (by simp; omega)).trans hDd
        have hb9 : Below w.heap.size w (wq.setCell ⟨gR, 0, none⟩ (.bool true)) := Below.setCell hbq.out (p := ⟨gR, 0, none⟩) hRw _
        clear hb M R hSg V hDd hEd T hDd0 hEd0 Rq hbq
        generalize wq.setCell ⟨gR, 0, none⟩ (.bool true) = W9 at *
        go_wp2_with fail
        refine leaves_two (v := .bool true) w.heap.size E D rfl hEs hDs (by omega) (by omega) (by omega) ?_
        intro W' hbW hkeep
        have R8 : Blk W' gR 4 [.bool true] := hkeep gR _ R9 rfl
        have c9 := R8.cell (j := 0) rfl
        refine ⟨?_, rfl, hb9.trans hbW⟩
        simp [results, Tryd.results8, go_sem, c9]
end Go.Proofs.YtehjglaofhgjfaaDoor
