
/- 'BallotCopies': the walk where the choir is right. -/
import Derived.Test.YtkohpfkgdigaiaaBbF
import Derived.Test.YtkohpfkgdigaiaaBbA
import Derived.Test.YtkohpfkgdigaiaaBaK
import Derived.Deep.Cut
import Derived.Sort.AtCall
namespace Go.Proofs.Ytkohpfkgdigaiaa
open Go.RowKit
attribute [local go_sem] eq9
/-- A slice of numbers. -/
def SlI (w : World) (x : Option Addr) (n : Nat) : Prop := ∀ k, k < n → ∃ a v, x = some a ∧ w.cell? (a.add k) = some (.int .i64 v)
theorem SlI.below {w w' : World} {x : Option Addr} {n : Nat} (h : SlI w x n) (hb : Below w.heap.size w w') : SlI w' x n := fun k hk => by
  obtain ⟨a, v, e, hc⟩ := h k hk
  exact ⟨a, v, e, (hb.cell (World.block_lt_of_cell? w _ hc)).trans hc⟩
theorem ext_cellI {W : World} {p : Addr} {v : Value} (h : W.cell? p = some v) (W' : World) (hx : Ext W W') : W'.cell? p = some v := (Below.cell hx (World.block_lt_of_cell? W _ h)).trans h
theorem vhas_in (g : Nat) (c : Int) (k : Nat) (hs : List Bool) (v : Bool) (hin : InV c hs) (hv : hs.getD k false = v) (w : World) (hV : VB w g c hs) (hr : rightB c = true) :
    Calls Try.prog 25 #[.pointer (some ⟨g, 0, none⟩), .int .i64 k] w fun e w' => e = .returned (.bool v) ∧ w = w' := by
  have h := vhas_any g c k hs w hV hr
  rw [show (inB (k : Int) 0 c && hs.getD (k : Int).toNat false) = v by
    rw [Int.toNat_natCast, hv]
    cases v
    · simp
    · have := hin.2 k hv
      simp [inB]; omega] at h
  exact h
theorem getV (c : Int) (l : List Bool) (hl : l.length = 9) (p : Nat) (hp : p < 9) (v : Bool) (hv : l.getD p false = v) : (voteL c l)[1 + p]? = some (.bool v) := by
  have : p < l.length := by omega
  rw [← hv, Nat.add_comm]
  simp [voteL, this]
set_option maxRecDepth 100000 in
set_option maxHeartbeats 4000000 in
theorem BallotCopies_near (c one two : Int) (x1 : Option Addr) (n1 k1 : Nat) (w : World) (h1 : SlI w x1 n1) (m1 : n1 ≤ 20) (hr : rightB c = true) :
    Calls Try.prog 7 #[.int .i64 c, .slice x1 n1 k1, .int .i64 one, .int .i64 two] w fun e w' => e = .returned (.bool true) ∧ Below w.heap.size w w' := by
  have m1' : (n1 : Int) ≤ 20 := by omega
  have H1 := Lib.hid h1
  clear h1
  obtain ⟨d, hd, hrd, hcd⟩ : ∃ d, (if c = 3 then (5 : Int) else 3) = d ∧ rightB d = true ∧ ¬ c = d := by
    refine ⟨_, rfl, ?_, ?_⟩
    · split <;> rfl
    · split <;> omega
  have HD := Lib.hid hd
  clear hd
  go_enter Try.func7, Try.ntmps7
  go_wp2_with fail
  refine (refRight_at _ _ hr _).mono ?_
  rintro e w' ⟨rfl, rfl⟩
  go_wp2_with fail
  refine (vnew_ok c hr _).mono ?_
  rintro e w1 ⟨g1, rfl, V1, hg1, b1⟩
  go_upto_if 39 with fail
  go_cut [11] from 24 (fun s w' => s = .int .i64 d ∧ w' = w1)
  case first =>
    by_cases h3 : c = 3
    · subst h3
      have hD := HD.out
      simp only [if_true] at hD
      go_wp2_with fail
      go_meet
      case rel => exact ⟨by rw [← hD], rfl⟩
    · have hD := HD.out
      simp only [h3, if_false] at hD
      have hb3 : (c == 3) = false := by simp [h3]
      go_wp2_with fail
      go_meet
      case rel => exact ⟨by rw [← hD], rfl⟩
  case rest =>
    obtain ⟨rfl, rfl⟩ := hcut
    clear HD
    have hlt1 := V1.1.lt
    go_wp2_with fail
    refine (vnew_ok d hrd _).mono ?_
    rintro e w2 ⟨g2, rfl, V2, hg2, b2⟩
    replace V1 := V1.step b2
    have bb2 := b1.trans (b2.mono b1.size)
    have hg12 : g1 ≠ g2 := by omega
    have hgw2 : w.heap.size ≤ g2 := Nat.le_trans b1.size hg2
    clear hg2 b1 b2 hlt1
    go_wp2_with fail
    have N0 := inV_none c
    obtain ⟨O, hO⟩ : ∃ O, Obj.cells #[.int .i64 c, .bool false, .bool false, .bool false, .bool false, .bool false, .bool false, .bool false, .bool false, .bool false] 58 = O := ⟨_, rfl⟩
    have X : Blk (w2.alloc O) w2.heap.size 58 (voteL c (List.replicate 9 false)) := hO ▸ Blk.new w2 _ _
    have hp1 : g1 ≠ w2.heap.size := by have := V1.1.lt; omega
    have hp2 : g2 ≠ w2.heap.size := by have := V2.1.lt; omega
    have hpw : w.heap.size ≤ w2.heap.size := bb2.size
    replace V1 := V1.step ((Below.refl w2.heap.size w2).alloc (Nat.le_refl _) O)
    replace V2 := V2.step ((Below.refl w2.heap.size w2).alloc (Nat.le_refl _) O)
    replace bb2 := bb2.alloc bb2.size O
    rw [hO]
    generalize w2.alloc O = W0 at V1 V2 X bb2 ⊢
    generalize w2.heap.size = pb at X hp1 hp2 hpw ⊢
    clear hO
    go_loopw [15] (fun i wr => ∃ k : Nat, k ≤ n1 ∧ i = .int .i64 k ∧ Hid (∃ hs, InV c hs ∧ VB wr g1 c hs ∧ Blk wr pb 58 (voteL c hs) ∧ Kx [g1, pb] W0 wr)) (fun i _ => n1 - (intOf i).toNat)
    case atStart => exact ⟨0, by omega, rfl, Lib.hid ⟨_, N0, V1, X, Kx.refl _ _⟩⟩
    case round =>
      obtain ⟨k, hk, rfl, hI⟩ := hrel
      by_cases hlt : k < n1
      · obtain ⟨hs, hin, hv, hx, hK⟩ := hI.out
        have hbw : Below w.heap.size w wr := bb2.trans (hK.below bb2.size (by simp; omega))
        obtain ⟨a, v, rfl, hc⟩ := (H1.out.below hbw) k hlt
        have hk0 : (0 : Int) ≤ (k : Int) := by omega
        have hk1 : (k : Int) < (n1 : Int) := by omega
        have hin' := InV.add (p := v) hin
        have hab : (a.add k).block < w.heap.size := by
          obtain ⟨a', v', e, hc'⟩ := H1.out k hlt
          cases e
          exact World.block_lt_of_cell? w _ hc'
        clear hbw hI
        have HK := Lib.hid hK
        clear hK
        have HIN := Lib.hid hin'
        clear hin'
        go_wp2_with fail
        refine (vadd_any _ _ v _ _ hv hr).mono ?_
        rintro e w3 ⟨rfl, hv3, hk3⟩
        have hc3 : w3.cell? (a.add k) = some (.int .i64 v) := (World.cell?_of_block (hk3.block _ (World.block_lt_of_cell? wr _ hc) (by simp only [List.mem_singleton]; omega))).trans hc
        have hx3 := hk3.blk hx (by simp; omega)
        have HK3 := Lib.hid (HK.out.trans (hk3.mono (by simp)))
        clear hk3 hc hx hv HK
        obtain ⟨ks, hks⟩ : ∃ ks, addL c v hs = ks := ⟨_, rfl⟩
        have hl := hin.1
        have hl2 : ks.length = 9 := by rw [← hks]; exact HIN.out.1
        rw [hks] at HIN hv3
        have hD := fun W => refvadd_any c v hs hl hr W
        rw [hks] at hD
        clear hks hin
        obtain ⟨a0, a1, a2, a3, a4, a5, a6, a7, a8, rfl⟩ := nine hl
        obtain ⟨b0, b1, b2, b3, b4, b5, b6, b7, b8, rfl⟩ := nine hl2
        simp only [VD, voteL, List.map_cons, List.map_nil] at hD hx3
        clear hl hl2
        have qc0 := ext_cell (hx3.cell (j := 0) rfl)
        have qc1 := ext_cell (hx3.cell (j := 1) rfl)
        have qc2 := ext_cell (hx3.cell (j := 2) rfl)
        have qc3 := ext_cell (hx3.cell (j := 3) rfl)
        have qc4 := ext_cell (hx3.cell (j := 4) rfl)
        have qc5 := ext_cell (hx3.cell (j := 5) rfl)
        have qc6 := ext_cell (hx3.cell (j := 6) rfl)
        have qc7 := ext_cell (hx3.cell (j := 7) rfl)
        have qc8 := ext_cell (hx3.cell (j := 8) rfl)
        have qc9 := ext_cell (hx3.cell (j := 9) rfl)
        have ec := ext_cellI hc3
        clear hc3
        have HD := Lib.hid hD
        clear hD
        have HV := Lib.hid hv3
        clear hv3
        go_wp2_with fail
        refine wp_region_head (C := Ext w3) 6 (by kernel_rfl) (by decide) (by kernel_rfl) ⟨rfl, rfl, rfl, Nat.le_refl _, fun _ _ => rfl⟩ ?_
        simp only [List.take_succ_cons, List.take_zero]
        repeat
          (first
            | go_big_quiet_skip
            | (go_big_quiet_want
               go_big_quiet_op
               first
                 | go_big_quiet_on
                 | (apply Exists.intro
                    refine ⟨fun w' hC => ?_, ?_⟩
                    · (first
                        | with_reducible rfl
                        | (go_at_call 28; refine (HD.out _).mono ?_; rintro e w2 ⟨rfl, hb⟩; exact ⟨rfl, hC.call hb⟩)
                        | (go_simp; done)
                        | (go_simp; with_reducible rfl))
                    go_big_quiet_on)))
        refine wpQuiet_nil ?_
        intro wq hq
        change wpAny _ _ _ _ (4 + 1) _ _ _
        refine take_dst (i := 6) (d := 59) (v := ?_) rfl rfl (by kernel_rfl) (by kernel_rfl) (by kernel_rfl) (fun _ _ _ h => h) (Or.inl ⟨by rfl, ?_⟩) ?_
        rotate_left
        · intro w
          go_simp
          try with_reducible rfl
        simp only [Act.put, List.setIfInBounds_toArray, List.set_cons_zero, List.set_cons_succ]
        refine take_dst (i := 7) (d := 66) (v := ?_) rfl rfl (by kernel_rfl) (by kernel_rfl) (by kernel_rfl) (fun _ _ _ h => h) (Or.inl ⟨by rfl, ?_⟩) ?_
        rotate_left
        · intro w
          go_simp
          try with_reducible rfl
        simp only [Act.put, List.setIfInBounds_toArray, List.set_cons_zero, List.set_cons_succ]
        refine take_dst (i := 8) (d := 67) (v := ?_) rfl rfl (by kernel_rfl) (by kernel_rfl) (by kernel_rfl) (fun _ _ _ h => h) (Or.inl ⟨by rfl, ?_⟩) ?_
        rotate_left
        · intro w
          go_simp
          try with_reducible rfl
        simp only [Act.put, List.setIfInBounds_toArray, List.set_cons_zero, List.set_cons_succ]
        refine take_dst (i := 9) (d := 68) (v := ?_) rfl rfl (by kernel_rfl) (by kernel_rfl) (by kernel_rfl) (fun _ _ _ h => h) (Or.inl ⟨by rfl, ?_⟩) ?_
        rotate_left
        · intro w
          go_simp
          try with_reducible rfl
        simp only [Act.put, List.setIfInBounds_toArray, List.set_cons_zero, List.set_cons_succ]
        have X3 := hx3.step hq
        have zz0 := X3.frozen 0
        have zz1 := X3.frozen 1
        have zz2 := X3.frozen 2
        have zz3 := X3.frozen 3
        have zz4 := X3.frozen 4
        have zz5 := X3.frozen 5
        have zz6 := X3.frozen 6
        have zz7 := X3.frozen 7
        have zz8 := X3.frozen 8
        have zz9 := X3.frozen 9
        refine wpAny_ready (rs := [10]) (by kernel_rfl) (by simp) ?_
        refine AllReady.cons (o := { dst := none, op := Op.store 58 (.tmp 14) (.tmp 66), type := _, pos := _, after := _, guard := _ }) rfl (fun K hK => ?_) AllReady.nil
        go_simp
        refine hK _ _ ?_
        clear hK K zz0 zz1 zz2 zz3 zz4 zz5 zz6 zz7 zz8 zz9 qc0 qc1 qc2 qc3 qc4 qc5 qc6 qc7 qc8 qc9 ec
        refine wpAny_done (by kernel_rfl) ?_ _
        have R := (((((((((X3.set 0 (.int .i64 c)).set 1 (.bool b0)).set 2 (.bool b1)).set 3 (.bool b2)).set 4 (.bool b3)).set 5 (.bool b4)).set 6 (.bool b5)).set 7 (.bool b6)).set 8 (.bool b7)).set 9 (.bool b8)
        have hvq := HV.out.step hq
        have hvR : VB _ g1 c [b0, b1, b2, b3, b4, b5, b6, b7, b8] := ⟨(((((((((hvq.1.other hp1 0 (.int .i64 c)).other hp1 1 (.bool b0)).other hp1 2 (.bool b1)).other hp1 3 (.bool b2)).other hp1 4 (.bool b3)).other hp1 5 (.bool b4)).other hp1 6 (.bool b5)).other hp1 7 (.bool b6)).other hp1 8 (.bool b7)).other hp1 9 (.bool b8), rfl⟩
        have hKR : Kx [g1, pb] W0 _ := (((((((((((HK3.out.step hq).setCell (p := ⟨pb, 0, none⟩) (.inl (by simp)) (.int .i64 c))).setCell (p := ⟨pb, 1, none⟩) (.inl (by simp)) (.bool b0)).setCell (p := ⟨pb, 2, none⟩) (.inl (by simp)) (.bool b1)).setCell (p := ⟨pb, 3, none⟩) (.inl (by simp)) (.bool b2)).setCell (p := ⟨pb, 4, none⟩) (.inl (by simp)) (.bool b3)).setCell (p := ⟨pb, 5, none⟩) (.inl (by simp)) (.bool b4)).setCell (p := ⟨pb, 6, none⟩) (.inl (by simp)) (.bool b5)).setCell (p := ⟨pb, 7, none⟩) (.inl (by simp)) (.bool b6)).setCell (p := ⟨pb, 8, none⟩) (.inl (by simp)) (.bool b7)).setCell (p := ⟨pb, 9, none⟩) (.inl (by simp)) (.bool b8)
        obtain ⟨WR, hWR⟩ : ∃ WR, ((((((((((wq.setCell ⟨pb, 0, none⟩ (.int .i64 c)).setCell ⟨pb, 1, none⟩ (.bool b0)).setCell ⟨pb, 2, none⟩ (.bool b1)).setCell ⟨pb, 3, none⟩ (.bool b2)).setCell ⟨pb, 4, none⟩ (.bool b3)).setCell ⟨pb, 5, none⟩ (.bool b4)).setCell ⟨pb, 6, none⟩ (.bool b5)).setCell ⟨pb, 7, none⟩ (.bool b6)).setCell ⟨pb, 8, none⟩ (.bool b7)).setCell ⟨pb, 9, none⟩ (.bool b8)) = WR := ⟨_, rfl⟩
        rw [hWR] at R hvR hKR ⊢
        clear hWR X3 hvq hx3 HK3 HV HD hq
        have HKR := Lib.hid hKR
        clear hKR
        have HR := Lib.hid R
        clear R
        have HVR := Lib.hid hvR
        clear hvR
        go_wp2_with fail
        go_roundw
        case rel => exact ⟨k + 1, by omega, by go_num, Lib.hid ⟨_, HIN.out, HVR.out, HR.out, HKR.out⟩⟩
        case measure => simp [intOf]; omega
      · obtain rfl : k = n1 := by omega
        obtain ⟨hs, hin, hv, hx, hK⟩ := hI.out
        obtain ⟨W1, rfl⟩ : ∃ W1, W1 = wr := ⟨_, rfl⟩
        replace V2 : VB W1 g2 d (List.replicate 9 false) := ⟨hK.blk V2.1 (by simp; omega), V2.2⟩
        have bb3 : Below w.heap.size w W1 := bb2.trans (hK.below bb2.size (by simp; omega))
        clear bb2 hK hI V1 X H1
        have hin1 := InV.add (p := one) hin
        have hin2 := InV.add (p := two) hin
        have hl := hin.1
        obtain ⟨bs, hbs⟩ : ∃ bs, addL c one hs = bs := ⟨_, rfl⟩
        obtain ⟨ds, hds⟩ : ∃ ds, addL c two hs = ds := ⟨_, rfl⟩
        have hA1 := fun g W (hW : VB W g c hs) => vadd_any g c one hs W hW hr
        have hA2 := fun g W (hW : VB W g c hs) => vadd_any g c two hs W hW hr
        have hD1 := fun W => refvadd_any c one hs hl hr W
        have hD2 := fun W => refvadd_any c two hs hl hr W
        rw [hbs] at hin1 hA1 hD1
        rw [hds] at hin2 hA2 hD2
        have hl1 := hin1.1
        have hl2 := hin2.1
        clear hbs hds N0 hin
        obtain ⟨a0, a1, a2, a3, a4, a5, a6, a7, a8, rfl⟩ := nine hl
        obtain ⟨b0, b1, b2, b3, b4, b5, b6, b7, b8, rfl⟩ := nine hl1
        obtain ⟨e0, e1, e2, e3, e4, e5, e6, e7, e8, rfl⟩ := nine hl2
        obtain ⟨q1, hq1⟩ : ∃ q, (([b0, b1, b2, b3, b4, b5, b6, b7, b8] : List Bool) == [a0, a1, a2, a3, a4, a5, a6, a7, a8]) = q := ⟨_, rfl⟩
        obtain ⟨q2, hq2⟩ : ∃ q, (([b0, b1, b2, b3, b4, b5, b6, b7, b8] : List Bool) == [e0, e1, e2, e3, e4, e5, e6, e7, e8]) = q := ⟨_, rfl⟩
        have hE1 := fun W => eqV c b0 b1 b2 b3 b4 b5 b6 b7 b8 a0 a1 a2 a3 a4 a5 a6 a7 a8 W
        have hE2 := fun W => eqV c b0 b1 b2 b3 b4 b5 b6 b7 b8 e0 e1 e2 e3 e4 e5 e6 e7 e8 W
        have hS1 := fun g g' W (h : VB W g c [b0, b1, b2, b3, b4, b5, b6, b7, b8]) (h' : VB W g' c [a0, a1, a2, a3, a4, a5, a6, a7, a8]) => vsame_same g g' c _ _ W h h' hr
        have hS2 := fun g g' W (h : VB W g c [b0, b1, b2, b3, b4, b5, b6, b7, b8]) (h' : VB W g' c [e0, e1, e2, e3, e4, e5, e6, e7, e8]) => vsame_same g g' c _ _ W h h' hr
        rw [hq1] at hE1 hS1
        rw [hq2] at hE2 hS2
        clear hq1 hq2 hl hl1 hl2
        simp only [VD, voteL, List.map_cons, List.map_nil] at hD1 hD2 hx
        have HA1 := Lib.hid hA1
        clear hA1
        have HA2 := Lib.hid hA2
        clear hA2
        have HD1 := Lib.hid hD1
        clear hD1
        have HD2 := Lib.hid hD2
        clear hD2
        have HS1 := Lib.hid hS1
        clear hS1
        have HS2 := Lib.hid hS2
        clear hS2
        have HI1 := Lib.hid hin1
        clear hin1
        have HI2 := Lib.hid hin2
        clear hin2
        have HE1 := Lib.hid hE1
        clear hE1
        have HE2 := Lib.hid hE2
        clear hE2
        go_wp2_with fail
        refine (vcopy_any2 _ _ _ _ hv hr).mono ?_
        rintro e w3 ⟨g3, rfl, V3, hg3, c3⟩
        have hg13 : g1 ≠ g3 := by have := hv.1.lt; omega
        have hp3 : pb ≠ g3 := by have := hx.lt; omega
        have hgw3 : w.heap.size ≤ g3 := Nat.le_trans bb3.size hg3
        replace hv := hv.step c3
        replace V2 := V2.step c3
        replace hx := hx.step c3
        have bb4 := bb3.trans (c3.mono bb3.size)
        clear bb3 c3 hg3
        go_wp2_with fail
        refine (vsame_eq _ _ _ _ _ hv V3 hr).mono ?_
        rintro e w4 ⟨rfl, c4⟩
        replace hv := hv.step c4
        replace V3 := V3.step c4
        replace V2 := V2.step c4
        replace hx := hx.step c4
        replace bb4 := bb4.trans (c4.mono bb4.size)
        clear c4
        go_wp2_with fail
        refine (vsame_ne _ _ _ _ _ _ _ hv V2 hr hrd hcd).mono ?_
        rintro e w5 ⟨rfl, c5⟩
        replace hv := hv.step c5
        replace V3 := V3.step c5
        replace hx := hx.step c5
        replace bb4 := bb4.trans (c5.mono bb4.size)
        clear c5 V2
        go_wp2_with fail
        refine (HA1.out _ _ hv).mono ?_
        rintro e w6 ⟨rfl, hv6, k6⟩
        replace V3 : VB w6 g3 c _ := ⟨k6.blk V3.1 (by simp; omega), V3.2⟩
        replace hx := k6.blk hx (by simp; omega)
        replace bb4 := bb4.trans (k6.below bb4.size (by simp; omega))
        clear k6 hv
        have qc0 := hx.cell (j := 0) rfl
        have qc1 := hx.cell (j := 1) rfl
        have qc2 := hx.cell (j := 2) rfl
        have qc3 := hx.cell (j := 3) rfl
        have qc4 := hx.cell (j := 4) rfl
        have qc5 := hx.cell (j := 5) rfl
        have qc6 := hx.cell (j := 6) rfl
        have qc7 := hx.cell (j := 7) rfl
        have qc8 := hx.cell (j := 8) rfl
        have qc9 := hx.cell (j := 9) rfl
        go_wp2_with fail
        refine (HD1.out _).mono ?_
        rintro e w7 ⟨rfl, c7⟩
        clear qc0 qc1 qc2 qc3 qc4 qc5 qc6 qc7 qc8 qc9
        replace hv6 := hv6.step c7
        replace V3 := V3.step c7
        replace hx := hx.step c7
        replace bb4 := bb4.trans (c7.mono bb4.size)
        clear c7
        go_wp2_with fail
        have Y : Blk (w7.alloc (.cells #[.int .i64 c, .bool b0, .bool b1, .bool b2, .bool b3, .bool b4, .bool b5, .bool b6, .bool b7, .bool b8] 58)) w7.heap.size 58 [.int .i64 c, .bool b0, .bool b1, .bool b2, .bool b3, .bool b4, .bool b5, .bool b6, .bool b7, .bool b8] := Blk.new w7 _ _
        have hy1 : g1 ≠ w7.heap.size := by have := hv6.1.lt; omega
        have hy3 : g3 ≠ w7.heap.size := by have := V3.1.lt; omega
        have hyp : pb ≠ w7.heap.size := by have := hx.lt; omega
        have hyw : w.heap.size ≤ w7.heap.size := bb4.size
        generalize hO2 : Obj.cells #[.int .i64 c, .bool b0, .bool b1, .bool b2, .bool b3, .bool b4, .bool b5, .bool b6, .bool b7, .bool b8] 58 = O2 at Y ⊢
        clear hO2
        replace hv6 := hv6.step ((Below.refl w7.heap.size w7).alloc (Nat.le_refl _) O2)
        replace V3 := V3.step ((Below.refl w7.heap.size w7).alloc (Nat.le_refl _) O2)
        replace hx := hx.alloc O2
        replace bb4 := bb4.alloc bb4.size O2
        generalize w7.alloc O2 = W8 at hv6 V3 hx bb4 Y ⊢
        generalize w7.heap.size = ta at Y hy1 hy3 hyp hyw ⊢
        have hE1 := HE1.out
        have qc0 := ext_cell (hx.cell (j := 0) rfl)
        have qc1 := ext_cell (hx.cell (j := 1) rfl)
        have qc2 := ext_cell (hx.cell (j := 2) rfl)
        have qc3 := ext_cell (hx.cell (j := 3) rfl)
        have qc4 := ext_cell (hx.cell (j := 4) rfl)
        have qc5 := ext_cell (hx.cell (j := 5) rfl)
        have qc6 := ext_cell (hx.cell (j := 6) rfl)
        have qc7 := ext_cell (hx.cell (j := 7) rfl)
        have qc8 := ext_cell (hx.cell (j := 8) rfl)
        have qc9 := ext_cell (hx.cell (j := 9) rfl)
        have yc0 := ext_cell (Y.cell (j := 0) rfl)
        have yc1 := ext_cell (Y.cell (j := 1) rfl)
        have yc2 := ext_cell (Y.cell (j := 2) rfl)
        have yc3 := ext_cell (Y.cell (j := 3) rfl)
        have yc4 := ext_cell (Y.cell (j := 4) rfl)
        have yc5 := ext_cell (Y.cell (j := 5) rfl)
        have yc6 := ext_cell (Y.cell (j := 6) rfl)
        have yc7 := ext_cell (Y.cell (j := 7) rfl)
        have yc8 := ext_cell (Y.cell (j := 8) rfl)
        have yc9 := ext_cell (Y.cell (j := 9) rfl)
        refine wp_region_ext (by kernel_rfl) (by kernel_rfl) ?_
        repeat
          (first
            | go_big_quiet_skip
            | (go_big_quiet_want
               go_big_quiet_op
               first
                 | go_big_quiet_on
                 | (apply Exists.intro
                    refine ⟨fun w' hC => ?_, ?_⟩
                    · (first
                        | with_reducible rfl
                        | (go_at_call 30; refine (HS1.out _ _ _ (VB.step hv6 hC) (VB.step V3 hC)).mono ?_; rintro e w2 ⟨rfl, hb⟩; exact ⟨rfl, hC.call hb⟩)
                        | (go_simp; done)
                        | (go_simp; with_reducible rfl))
                    go_big_quiet_on)))
        refine wpQuiet_nil ?_
        intro wq hq
        clear qc0 qc1 qc2 qc3 qc4 qc5 qc6 qc7 qc8 qc9
        clear yc0 yc1 yc2 yc3 yc4 yc5 yc6 yc7 yc8 yc9
        clear hE1 HE1 HS1
        replace hv6 := VB.step hv6 hq
        replace V3 := VB.step V3 hq
        replace hx := Blk.step hx hq
        replace Y := Blk.step Y hq
        replace bb4 := bb4.trans (Below.mono hq bb4.size)
        clear hq
        go_wp2_with fail
        refine (HA2.out _ _ V3).mono ?_
        rintro e w8 ⟨rfl, V4, k8⟩
        replace hv6 : VB w8 g1 c _ := ⟨k8.blk hv6.1 (by simp; omega), hv6.2⟩
        replace hx := k8.blk hx (by simp; omega)
        replace Y := k8.blk Y (by simp; omega)
        replace bb4 := bb4.trans (k8.below bb4.size (by simp; omega))
        clear k8 V3
        have qc0 := hx.cell (j := 0) rfl
        have qc1 := hx.cell (j := 1) rfl
        have qc2 := hx.cell (j := 2) rfl
        have qc3 := hx.cell (j := 3) rfl
        have qc4 := hx.cell (j := 4) rfl
        have qc5 := hx.cell (j := 5) rfl
        have qc6 := hx.cell (j := 6) rfl
        have qc7 := hx.cell (j := 7) rfl
        have qc8 := hx.cell (j := 8) rfl
        have qc9 := hx.cell (j := 9) rfl
        go_wp2_with fail
        refine (HD2.out _).mono ?_
        rintro e w9 ⟨rfl, c9⟩
        clear qc0 qc1 qc2 qc3 qc4 qc5 qc6 qc7 qc8 qc9
        clear hx
        replace hv6 := hv6.step c9
        replace V4 := V4.step c9
        replace Y := Y.step c9
        replace bb4 := bb4.trans (c9.mono bb4.size)
        clear c9
        go_wp2_with fail
        have Z : Blk (w9.alloc (.cells #[.int .i64 c, .bool e0, .bool e1, .bool e2, .bool e3, .bool e4, .bool e5, .bool e6, .bool e7, .bool e8] 58)) w9.heap.size 58 [.int .i64 c, .bool e0, .bool e1, .bool e2, .bool e3, .bool e4, .bool e5, .bool e6, .bool e7, .bool e8] := Blk.new w9 _ _
        generalize hO3 : Obj.cells #[.int .i64 c, .bool e0, .bool e1, .bool e2, .bool e3, .bool e4, .bool e5, .bool e6, .bool e7, .bool e8] 58 = O3 at Z ⊢
        clear hO3
        have hg1' : g1 < w9.heap.size := hv6.1.lt
        have hg3' : g3 < w9.heap.size := V4.1.lt
        replace hv6 := hv6.step ((Below.refl w9.heap.size w9).alloc (Nat.le_refl _) O3)
        replace V4 := V4.step ((Below.refl w9.heap.size w9).alloc (Nat.le_refl _) O3)
        replace Y := Y.alloc O3
        replace bb4 := bb4.alloc bb4.size O3
        generalize w9.alloc O3 = WA at hv6 V4 Y Z bb4 ⊢
        generalize w9.heap.size = tz at Z ⊢
        go_loopw [23] (fun i wr => ∃ p : Nat, p ≤ 9 ∧ i = .int .i64 p ∧ Ext WA wr) (fun i _ => 9 - (intOf i).toNat)
        case atStart => exact ⟨0, by omega, rfl, Below.refl _ _⟩
        case round =>
          obtain ⟨p, hp, rfl, hX⟩ := hrel
          by_cases hlt : p < 9
          · obtain ⟨x, hx⟩ : ∃ x, ([b0, b1, b2, b3, b4, b5, b6, b7, b8] : List Bool).getD p false = x := ⟨_, rfl⟩
            obtain ⟨y, hy⟩ : ∃ y, ([e0, e1, e2, e3, e4, e5, e6, e7, e8] : List Bool).getD p false = y := ⟨_, rfl⟩
            have hv7 := VB.step hv6 hX
            have V7 := VB.step V4 hX
            have ya := ext_cell ((Blk.step Y hX).cell (j := 1 + p) (getV c _ rfl p hlt x hx))
            have za := ext_cell ((Blk.step Z hX).cell (j := 1 + p) (getV c _ rfl p hlt y hy))
            have hk0 : (0 : Int) ≤ (p : Int) := by omega
            have hk9 : (p : Int) < 9 := by omega
            have HX1 := Lib.hid hx
            clear hx
            have HY1 := Lib.hid hy
            clear hy
            cases x <;> cases y
            all_goals
              go_wp2_with fail
              refine wp_region_ext (by kernel_rfl) (by kernel_rfl) ?_
              repeat
                (first
                  | go_big_quiet_skip
                  | (go_big_quiet_want
                     go_big_quiet_op
                     first
                       | go_big_quiet_on
                       | (apply Exists.intro
                          refine ⟨fun w' hC => ?_, ?_⟩
                          · (first
                              | with_reducible rfl
                              | ((go_at_call_has 25 g1); refine (vhas_in _ _ _ _ _ HI1.out HX1.out _ (VB.step hv7 hC) hr).mono ?_; rintro e w2 ⟨rfl, rfl⟩; exact ⟨rfl, hC⟩) | ((go_at_call_has 25 g3); refine (vhas_in _ _ _ _ _ HI2.out HY1.out _ (VB.step V7 hC) hr).mono ?_; rintro e w2 ⟨rfl, rfl⟩; exact ⟨rfl, hC⟩)
                              | (go_simp; done)
                              | (go_simp; with_reducible rfl))
                          go_big_quiet_on)))
              refine wpQuiet_nil ?_
              intro wq hq
              clear ya za
              go_wp2
              go_roundw
              case rel => exact ⟨p + 1, by omega, by go_num, Ext.call hX hq⟩
              case measure => simp [intOf]; omega
          · obtain rfl : p = 9 := by omega
            have hv7 := VB.step hv6 hX
            have V7 := VB.step V4 hX
            have yc0 := ext_cell ((Blk.step Y hX).cell (j := 0) rfl)
            have yc1 := ext_cell ((Blk.step Y hX).cell (j := 1) rfl)
            have yc2 := ext_cell ((Blk.step Y hX).cell (j := 2) rfl)
            have yc3 := ext_cell ((Blk.step Y hX).cell (j := 3) rfl)
            have yc4 := ext_cell ((Blk.step Y hX).cell (j := 4) rfl)
            have yc5 := ext_cell ((Blk.step Y hX).cell (j := 5) rfl)
            have yc6 := ext_cell ((Blk.step Y hX).cell (j := 6) rfl)
            have yc7 := ext_cell ((Blk.step Y hX).cell (j := 7) rfl)
            have yc8 := ext_cell ((Blk.step Y hX).cell (j := 8) rfl)
            have yc9 := ext_cell ((Blk.step Y hX).cell (j := 9) rfl)
            have zc0 := ext_cell ((Blk.step Z hX).cell (j := 0) rfl)
            have zc1 := ext_cell ((Blk.step Z hX).cell (j := 1) rfl)
            have zc2 := ext_cell ((Blk.step Z hX).cell (j := 2) rfl)
            have zc3 := ext_cell ((Blk.step Z hX).cell (j := 3) rfl)
            have zc4 := ext_cell ((Blk.step Z hX).cell (j := 4) rfl)
            have zc5 := ext_cell ((Blk.step Z hX).cell (j := 5) rfl)
            have zc6 := ext_cell ((Blk.step Z hX).cell (j := 6) rfl)
            have zc7 := ext_cell ((Blk.step Z hX).cell (j := 7) rfl)
            have zc8 := ext_cell ((Blk.step Z hX).cell (j := 8) rfl)
            have zc9 := ext_cell ((Blk.step Z hX).cell (j := 9) rfl)
            have bb5 := bb4.trans (Below.mono hX bb4.size)
            have hE2 := HE2.out
            cases q2
            all_goals
              go_wp2_with fail
              refine wp_region_ext (by kernel_rfl) (by kernel_rfl) ?_
              repeat
                (first
                  | go_big_quiet_skip
                  | (go_big_quiet_want
                     go_big_quiet_op
                     first
                       | go_big_quiet_on
                       | (apply Exists.intro
                          refine ⟨fun w' hC => ?_, ?_⟩
                          · (first
                              | with_reducible rfl
                              | (go_at_call 30; refine (HS2.out _ _ _ (VB.step hv7 hC) (VB.step V7 hC)).mono ?_; rintro e w2 ⟨rfl, hb⟩; exact ⟨rfl, hC.call hb⟩) | (go_at_call 12; refine (num_any _ _).mono ?_; rintro e w2 ⟨rfl, rfl⟩; exact ⟨rfl, hC⟩) | (go_at_call 14; refine (works_any _).mono ?_; rintro e w2 ⟨rfl, hb⟩; exact ⟨rfl, hC.call hb⟩)
                              | (go_simp; done)
                              | (go_simp; with_reducible rfl))
                          go_big_quiet_on)))
              refine wpQuiet_nil ?_
              intro wq hq
              clear yc0 yc1 yc2 yc3 yc4 yc5 yc6 yc7 yc8 yc9
              clear zc0 zc1 zc2 zc3 zc4 zc5 zc6 zc7 zc8 zc9
              clear hE2
              go_wp2
              go_returns
              exact ⟨rfl, bb5.trans (Below.mono hq bb5.size)⟩
theorem BallotCopies_walk (c : Int) (x1 : Option Addr) (n1 k1 : Nat) (one two : Int) (w : World) (h1 : SlI w x1 n1) :
    Calls Try.prog 7 #[.int .i64 c, .slice x1 n1 k1, .int .i64 one, .int .i64 two] w fun e w' => e = .returned (.bool true) ∧ Below w.heap.size w w' := by
  by_cases m1 : n1 ≤ 20
  · cases hr : rightB c
    · have m1' : (n1 : Int) ≤ 20 := by omega
      clear h1
      go_enter Try.func7, Try.ntmps7
      go_wp2_with fail
      refine (refRight_at _ _ hr _).mono ?_
      rintro e w' ⟨rfl, rfl⟩
      go_wp2_with fail
      refine (works_any _).mono ?_
      rintro e w1 ⟨rfl, b1⟩
      go_wp2_with fail
      go_returns
      exact ⟨rfl, b1⟩
    · exact BallotCopies_near c one two x1 n1 k1 w h1 m1 hr
  · have m1' : (20 : Int) < (n1 : Int) := by omega
    clear h1
    go_enter Try.func7, Try.ntmps7
    go_wp2_with fail
    refine (works_any _).mono ?_
    rintro e w1 ⟨rfl, b1⟩
    go_wp2_with fail
    go_returns
    exact ⟨rfl, b1⟩
end Go.Proofs.Ytkohpfkgdigaiaa
