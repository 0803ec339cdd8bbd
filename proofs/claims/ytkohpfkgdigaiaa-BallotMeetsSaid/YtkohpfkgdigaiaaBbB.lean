
/- 'BallotMeets': the walk. -/
import Derived.Test.YtkohpfkgdigaiaaBaL
import Derived.Test.YtkohpfkgdigaiaaBbA
import Derived.Sort.CutIn
import Derived.StillTailTactics
namespace Go.Proofs.Ytkohpfkgdigaiaa
open Go.RowKit Go.Shelf
attribute [local go_sem] Oper.semAt_some

theorem plf_nil (b : Nat) (w : World) : (binOp .eql 52 (.func (.func 47) #[] #[.pointer (some ⟨b, 0, none⟩)]) .nilFunc).run Try.prog w = .ok (.bool false) w := by kernel_rfl
attribute [local go_sem] plf_nil
/-- A slice of numbers. -/
def SlI (w : World) (x : Option Addr) (n : Nat) : Prop := ∀ k, k < n → ∃ a v, x = some a ∧ w.cell? (a.add k) = some (.int .i64 v)
theorem SlI.below {w w' : World} {x : Option Addr} {n : Nat} (h : SlI w x n) (hb : Below w.heap.size w w') : SlI w' x n := fun k hk => by
  obtain ⟨a, v, e, hc⟩ := h k hk
  exact ⟨a, v, e, (hb.cell (World.block_lt_of_cell? w _ hc)).trans hc⟩
theorem compare_at (r p s q v : Int) (h : cmpI r p s q = v) (w : World) :
    Calls Try.prog 10 #[.agg #[.int .i64 r, .int .i64 p], .agg #[.int .i64 s, .int .i64 q]] w fun e w' => e = .returned (.int .i64 v) ∧ Below w.heap.size w w' := h ▸ compare_any r p s q w
set_option maxRecDepth 100000 in
set_option maxHeartbeats 4000000 in
theorem BallotMeets_near (c r1 p1 r2 p2 r3 p3 : Int) (x1 x2 : Option Addr) (n1 n2 k1 k2 : Nat) (w : World) (h1 : SlI w x1 n1) (h2 : SlI w x2 n2) (m1 : n1 ≤ 20) (m2 : n2 ≤ 20) (hr : rightB c = true) :
    Calls Try.prog 6 #[.int .i64 c, .agg #[.int .i64 r1, .int .i64 p1], .agg #[.int .i64 r2, .int .i64 p2], .agg #[.int .i64 r3, .int .i64 p3], .slice x1 n1 k1, .slice x2 n2 k2] w fun e w' => e = .returned (.bool true) ∧ Below w.heap.size w w' := by
  have m1' : (n1 : Int) ≤ 20 := by omega
  have m2' : (n2 : Int) ≤ 20 := by omega
  have H1 := Lib.hid h1
  clear h1
  have H2 := Lib.hid h2
  clear h2
  refine callsIn_wide (n := 3).1 ?_
  obtain ⟨xy, hxy⟩ : ∃ v, cmpI r1 p1 r2 p2 = v := ⟨_, rfl⟩
  obtain ⟨yx, hyx⟩ : ∃ v, cmpI r2 p2 r1 p1 = v := ⟨_, rfl⟩
  obtain ⟨yz, hyz⟩ : ∃ v, cmpI r2 p2 r3 p3 = v := ⟨_, rfl⟩
  obtain ⟨xz, hxz⟩ : ∃ v, cmpI r1 p1 r3 p3 = v := ⟨_, rfl⟩
  obtain ⟨f1, f2, f3⟩ := cmp_facts r1 p1 r2 p2 r3 p3
  rw [hxy, hyx] at f1
  rw [hxy] at f2
  rw [hyz, hxy, hxz] at f3
  have XY := Lib.hid hxy
  clear hxy
  have YX := Lib.hid hyx
  clear hyx
  have YZ := Lib.hid hyz
  clear hyz
  have XZ := Lib.hid hxz
  clear hxz
  have F1 := Lib.hid f1
  clear f1
  have F2 := Lib.hid f2
  clear f2
  have F3 := Lib.hid f3
  clear f3
  refine callsIn_of_wp_marks Try.func6 rfl trivial ?_ rfl
  simp only [Try.ntmps6, List.size_toArray, List.length_cons, List.length_nil, Nat.reduceAdd, Nat.reduceSub, Array.replicate_succ, Array.replicate_zero, List.push_toArray, List.append_toArray, List.nil_append, List.cons_append]
  gi_wp2_with fail
  have A := (Blk.new w 23 [.int .i64 r1, .int .i64 p1]).alloc (.cells #[.int .i64 r2, .int .i64 p2] 23) |>.alloc (.cells #[.int .i64 r3, .int .i64 p3] 23)
  have B := (Blk.new (w.alloc (.cells #[.int .i64 r1, .int .i64 p1] 23)) 23 [.int .i64 r2, .int .i64 p2]).alloc (.cells #[.int .i64 r3, .int .i64 p3] 23)
  have C := Blk.new ((w.alloc (.cells #[.int .i64 r1, .int .i64 p1] 23)).alloc (.cells #[.int .i64 r2, .int .i64 p2] 23)) 23 [.int .i64 r3, .int .i64 p3]
  have bb : Below w.heap.size w (((w.alloc (.cells #[.int .i64 r1, .int .i64 p1] 23)).alloc (.cells #[.int .i64 r2, .int .i64 p2] 23)).alloc (.cells #[.int .i64 r3, .int .i64 p3] 23)) := by go_grown
  have c0 := ext_cell (A.cell (j := 0) rfl)
  have c1 := ext_cell (A.cell (j := 1) rfl)
  have c2 := ext_cell (B.cell (j := 0) rfl)
  have c3 := ext_cell (B.cell (j := 1) rfl)
  have c4 := ext_cell (C.cell (j := 0) rfl)
  have c5 := ext_cell (C.cell (j := 1) rfl)
  simp only [World.size_alloc] at c2 c3 c4 c5
  refine (wpIn_wide (n := 3)).2 ?_
  refine wp_region_ext (by kernel_rfl) (by kernel_rfl) ?_
  repeat
    (first
      | go_big_quiet_skip
      | (go_big_quiet_want
         go_big_quiet_op
         first
           | go_big_quiet_on
           | (apply Exists.intro
              refine ⟨fun w' hC => ?_, ?_⟩
              · (first
                  | with_reducible rfl
                  | (go_at_call 10; refine (compare_any _ _ _ _ _).mono ?_; rintro e w2 ⟨rfl, hb⟩; exact ⟨rfl, hC.call hb⟩)
                  | (go_simp; done)
                  | (go_simp; with_reducible rfl))
              go_big_quiet_on)))
  refine wpQuiet_nil ?_
  intro wq hq
  rw [XY.out, YX.out, YZ.out, XZ.out]
  clear c0 c1 c2 c3 c4 c5
  replace A := A.step hq
  replace B := B.step hq
  replace bb := bb.trans (Below.mono hq bb.size)
  have c0 := A.cell (j := 0) rfl
  have c1 := A.cell (j := 1) rfl
  have c2 := B.cell (j := 0) rfl
  have c3 := B.cell (j := 1) rfl
  simp only [World.size_alloc] at c2 c3
  clear A B C hq XY YX YZ XZ
  gi_upto_region 4 with fail
  gi_cut [80] from 46 (fun s w' => s = .bool false ∧ w' = wq)
  case first =>
    obtain ⟨e0, rfl, rfl⟩ | ⟨e0, hn⟩ | ⟨e0, hn⟩ := F2.out
    · subst e0
      have ey := F1.out
      simp only [Int.neg_zero] at ey
      subst ey
      clear F1 F2 F3
      gi_wp2_with fail
      gi_meet
      case rel => exact ⟨rfl, rfl⟩
    · subst e0
      have ey := F1.out
      subst ey
      clear F1 F2 F3
      by_cases e1 : r1 = r2
      · subst e1
        have e2 : ¬ p1 = p2 := fun e => hn ⟨rfl, e⟩
        clear hn
        gi_wp2_with fail
        all_goals (gi_meet; (case rel => exact ⟨rfl, rfl⟩))
      · clear hn
        by_cases e2 : p1 = p2
        · subst e2
          gi_wp2_with fail
          all_goals (gi_meet; (case rel => exact ⟨rfl, rfl⟩))
        · gi_wp2_with fail
          all_goals (gi_meet; (case rel => exact ⟨rfl, rfl⟩))
    · subst e0
      have ey := F1.out
      subst ey
      obtain ⟨ez, ef⟩ | ez | ez := F3.out
      · have ex := ef rfl
        subst ez ex
        clear F1 F2 F3 ef
        by_cases e1 : r1 = r2
        · subst e1
          have e2 : ¬ p1 = p2 := fun e => hn ⟨rfl, e⟩
          clear hn
          gi_wp2_with fail
          all_goals (gi_meet; (case rel => exact ⟨rfl, rfl⟩))
        · clear hn
          by_cases e2 : p1 = p2
          · subst e2
            gi_wp2_with fail
            all_goals (gi_meet; (case rel => exact ⟨rfl, rfl⟩))
          · gi_wp2_with fail
            all_goals (gi_meet; (case rel => exact ⟨rfl, rfl⟩))
      · subst ez
        clear F1 F2 F3
        by_cases e1 : r1 = r2
        · subst e1
          have e2 : ¬ p1 = p2 := fun e => hn ⟨rfl, e⟩
          clear hn
          gi_wp2_with fail
          all_goals (gi_meet; (case rel => exact ⟨rfl, rfl⟩))
        · clear hn
          by_cases e2 : p1 = p2
          · subst e2
            gi_wp2_with fail
            all_goals (gi_meet; (case rel => exact ⟨rfl, rfl⟩))
          · gi_wp2_with fail
            all_goals (gi_meet; (case rel => exact ⟨rfl, rfl⟩))
      · subst ez
        clear F1 F2 F3
        by_cases e1 : r1 = r2
        · subst e1
          have e2 : ¬ p1 = p2 := fun e => hn ⟨rfl, e⟩
          clear hn
          gi_wp2_with fail
          all_goals (gi_meet; (case rel => exact ⟨rfl, rfl⟩))
        · clear hn
          by_cases e2 : p1 = p2
          · subst e2
            gi_wp2_with fail
            all_goals (gi_meet; (case rel => exact ⟨rfl, rfl⟩))
          · gi_wp2_with fail
            all_goals (gi_meet; (case rel => exact ⟨rfl, rfl⟩))
  case rest =>
    obtain ⟨rfl, rfl⟩ := hcut
    clear c0 c1 c2 c3 F1 F2 F3
    have N0 := inV_none c
    gi_wp2_with (apply wpIn_label)
    refine ⟨trivial, ?_⟩
    refine (callsIn_wide.2 (vnew_ok c hr _)).mono ?_
    rintro e w1 ⟨g1, rfl, V1, hg1, b1⟩
    have bb1 := bb.trans (b1.mono bb.size)
    have hgw1 : w.heap.size ≤ g1 := Nat.le_trans bb.size hg1
    have H1lt := V1.1.lt
    clear bb b1 hg1
    gi_wp2_with (apply wpIn_label)
    refine ⟨trivial, ?_⟩
    refine (callsIn_wide.2 (vnew_ok c hr _)).mono ?_
    rintro e w2 ⟨g2, rfl, V2, hg2, b2⟩
    replace V1 := V1.step b2
    have H1lt2 := V1.1.lt
    have bb2 := bb1.trans (b2.mono bb1.size)
    have hg12 : g1 ≠ g2 := by have := H1lt; omega
    have hgw2 : w.heap.size ≤ g2 := Nat.le_trans bb1.size hg2
    clear H1lt hg2 b2 bb1
    gi_wp2_with (apply wpIn_label)
    obtain ⟨O, hO⟩ : ∃ O, Obj.cells #[.pointer (some ⟨g2, 0, none⟩)] 46 = O := ⟨_, rfl⟩
    have PB : Blk (w2.alloc O) w2.heap.size 46 [.pointer (some ⟨g2, 0, none⟩)] := hO ▸ Blk.new w2 _ _
    replace V1 := V1.step ((Below.refl w2.heap.size w2).alloc (Nat.le_refl _) O)
    have hp1 : g1 ≠ w2.heap.size := by have := H1lt2; omega
    have hp2 : g2 ≠ w2.heap.size := by have := V2.1.lt; omega
    replace V2 := V2.step ((Below.refl w2.heap.size w2).alloc (Nat.le_refl _) O)
    have hpw : w.heap.size ≤ w2.heap.size := bb2.size
    replace bb2 := bb2.alloc bb2.size O
    rw [hO]
    generalize w2.alloc O = W0 at V1 V2 PB bb2 ⊢
    generalize w2.heap.size = pb at PB hp1 hp2 hpw ⊢
    clear hO H1lt2
    refine ⟨trivial, ?_⟩
    refine (callsIn_wide.2 (num_any _ _)).mono ?_
    rintro e w' ⟨rfl, rfl⟩
    gi_wp2_with (apply wpIn_label)
    refine ⟨trivial, ?_⟩
    refine (callsIn_wide.2 (num_any _ _)).mono ?_
    rintro e w' ⟨rfl, rfl⟩
    gi_wp2_with fail
    gi_loopw [21] (fun i wr => ∃ k : Nat, k ≤ n1 ∧ i = .int .i64 k ∧ Hid (∃ hs, InV c hs ∧ VB wr g1 c hs ∧ Kx [g1] W0 wr)) (fun i _ => n1 - (intOf i).toNat)
    case atStart => exact ⟨0, by omega, rfl, Lib.hid ⟨_, N0, V1, Kx.refl _ _⟩⟩
    case round =>
      obtain ⟨k, hk, rfl, hI⟩ := hrel
      by_cases hlt : k < n1
      · obtain ⟨hs, hin, hv, hK⟩ := hI.out
        have hbw : Below w.heap.size w wr := bb2.trans (hK.below bb2.size (by simp; omega))
        obtain ⟨a, v, rfl, hc⟩ := (H1.out.below hbw) k hlt
        have hk0 : (0 : Int) ≤ (k : Int) := by omega
        have hk1 : (k : Int) < (n1 : Int) := by omega
        have hin' := InV.add (p := v) hin
        clear hbw
        have HK := Lib.hid hK
        clear hK
        have HIN := Lib.hid hin'
        clear hin'
        gi_wp2_with (apply wpIn_label)
        refine ⟨trivial, ?_⟩
        refine (callsIn_wide.2 (vadd_any _ _ v _ _ hv hr)).mono ?_
        rintro e w3 ⟨rfl, hv3, hk3⟩
        gi_wp2_with fail
        go_roundw
        case rel => exact ⟨k + 1, by omega, by go_num, Lib.hid ⟨_, HIN.out, hv3, HK.out.trans hk3⟩⟩
        case measure => simp [intOf]; omega
      · obtain rfl : k = n1 := by omega
        obtain ⟨ha, hina, hva, hKa⟩ := hI.out
        obtain ⟨W1, rfl⟩ : ∃ W1, W1 = wr := ⟨_, rfl⟩
        replace V2 : VB W1 g2 c (List.replicate 9 false) := ⟨hKa.blk V2.1 (by simp; omega), V2.2⟩
        replace PB := hKa.blk PB (by simp; omega)
        have bb3 : Below w.heap.size w W1 := bb2.trans (hKa.below bb2.size (by simp; omega))
        clear bb2 hKa hI V1
        have IA := Lib.hid hina
        clear hina
        gi_wp2_with fail
        gi_loopw [22] (fun i wr => ∃ k : Nat, k ≤ n2 ∧ i = .int .i64 k ∧ Hid (∃ hs, InV c hs ∧ VB wr g2 c hs ∧ Kx [g2] W1 wr)) (fun i _ => n2 - (intOf i).toNat)
        case atStart => exact ⟨0, by omega, rfl, Lib.hid ⟨_, N0, V2, Kx.refl _ _⟩⟩
        case round =>
          obtain ⟨j, hj, rfl, hI⟩ := hrel
          by_cases hlt : j < n2
          · obtain ⟨hs, hin, hv, hK⟩ := hI.out
            have hbw : Below w.heap.size w wr := bb3.trans (hK.below bb3.size (by simp; omega))
            obtain ⟨a, v, rfl, hc⟩ := (H2.out.below hbw) j hlt
            have hk0 : (0 : Int) ≤ (j : Int) := by omega
            have hk1 : (j : Int) < (n2 : Int) := by omega
            have hin' := InV.add (p := v) hin
            have cp := (hK.blk PB (by simp; omega)).cell (j := 0) rfl
            clear hbw
            have HK := Lib.hid hK
            clear hK
            have HIN := Lib.hid hin'
            clear hin'
            gi_wp2_with fail
            refine (wpIn_wide (n := 3)).2 ?_
            go_still_tail 5, (by kernel_rfl)
            have hvd : VB wr.drew g2 c hs := hv
            have hKd : Hid (Kx [g2] W1 wr.drew) := Lib.hid HK.out.drew
            change wpList _ _ _ _ _ wr.drew
            generalize wr.drew = wd at hvd hKd ⊢
            clear hI hv hc cp HK
            go_wp2_with fail
            refine (vadd_any _ _ v _ _ hvd hr).mono ?_
            rintro e w3 ⟨rfl, hv3, hk3⟩
            go_wp2_with fail
            first | gi_step | go_step
            gi_wp2_with fail
            go_roundw
            case rel => exact ⟨j + 1, by omega, by go_num, Lib.hid ⟨_, HIN.out, hv3, hKd.out.trans hk3⟩⟩
            case measure => simp [intOf]; omega
          · obtain rfl : j = n2 := by omega
            obtain ⟨hb, hinb, hvb, hKb⟩ := hI.out
            obtain ⟨W2, rfl⟩ : ∃ W2, W2 = wr := ⟨_, rfl⟩
            replace hva : VB W2 g1 c ha := ⟨hKb.blk hva.1 (by simp; omega), hva.2⟩
            replace PB := hKb.blk PB (by simp; omega)
            have bb4 : Below w.heap.size w W2 := bb3.trans (hKb.below bb3.size (by simp; omega))
            have hmeet : wonB c ha = true → wonB c hb = true → (plK 0 ha).any (meetF c hb) = true := meet_won c ha hb hr IA.out hinb
            have hl9 := hva.2
            clear bb3 hKb hI V2 hinb IA N0 H1 H2
            have HM := Lib.hid hmeet
            clear hmeet
            gi_wp2_with (apply wpIn_label)
            have bb5 := bb4.alloc bb4.size (.cells #[.bool false] 4)
            have mb := Boxed.new W2 4 (.bool false)
            have hmw : w.heap.size ≤ W2.heap.size := bb4.size
            have hm1 : g1 ≠ W2.heap.size := by have := hva.1.lt; omega
            have hm2 : g2 ≠ W2.heap.size := by have := hvb.1.lt; omega
            have hm3 : pb ≠ W2.heap.size := by have := PB.lt; omega
            replace hva := hva.step ((Below.refl W2.heap.size W2).alloc (Nat.le_refl _) (.cells #[.bool false] 4))
            replace hvb := hvb.step ((Below.refl W2.heap.size W2).alloc (Nat.le_refl _) (.cells #[.bool false] 4))
            replace PB := PB.alloc (.cells #[.bool false] 4)
            clear bb4
            generalize W2.alloc (.cells #[.bool false] 4) = W3 at bb5 mb hva hvb PB ⊢
            generalize W2.heap.size = bm at mb hmw hm1 hm2 hm3 ⊢
            refine ⟨trivial, ?_⟩
            refine (callsIn_wide.2 (vplaces_any _ _ _ _ hva hr)).mono ?_
            rintro e w4 ⟨rfl, -, b4⟩
            replace hva := hva.step b4
            replace hvb := hvb.step b4
            replace PB := PB.step b4
            replace mb := box_step mb b4
            replace bb5 := bb5.trans (b4.mono bb5.size)
            clear b4
            unfold PlF
            gi_wp2_with (apply wpIn_label)
            refine ⟨trivial, ?_⟩
            refine (callsIn_wide.2 (vplaces_any _ _ _ _ hva hr)).mono ?_
            rintro e w5 ⟨rfl, A5, b5⟩
            have hseq := places_xs w4.heap.size ha w5 hl9 A5
            replace hva := hva.step b5
            replace hvb := hvb.step b5
            replace PB := PB.step b5
            replace mb := box_step mb b5
            replace bb5 := bb5.trans (b5.mono bb5.size)
            clear b5 A5
            unfold PlF
            gi_wp2_with fail
            have hlw5 := mb.lt
            apply wpIn_range_xs 47 #[.pointer (some ⟨w4.heap.size, 0, none⟩)] rfl (enters_of Try.func47 (by kernel_rfl) rfl) (fun _ => False) hseq (fun k hk => hk.elim) (Below.refl _ _) (fun _ => rfl)
              (fun k W => Boxed W bm 4 (.bool (((plK 0 ha).take k).any (meetF c hb))) ∧ Kx [bm] w5 W)
              (fun c k W => False)
              ((((boxed_own _ _ _).from _).and (ownFrom_kx [bm] w5)))
              (fun c => ownFrom_pure _ _)
              ⟨mb, Kx.refl _ _⟩
            case hassign =>
              intro l x W K hK
              dsimp only [plEnc]
              gi_wp2
              exact hK
            case hbody =>
              rintro l k x W hx ⟨D0, hK⟩ hsW
              have hn : ((plK 0 ha).take (k + 1)).any (meetF c hb) = (((plK 0 ha).take k).any (meetF c hb) || meetF c hb x) := by
                rw [List.take_add_one, hx]
                simp [List.any_append]
              have hvbW : VB W g2 c hb := ⟨hK.blk hvb.1 (by simp; omega), hvb.2⟩
              have cp := (hK.blk PB (by simp; omega)).cell (j := 0) rfl
              have hD := D0
              generalize ((plK 0 ha).take k).any (meetF c hb) = v at D0 hn hD
              have d0 := D0.cell
              have f0 := D0.frozen
              have HN := Lib.hid hn
              clear hn
              have HD := Lib.hid hD
              clear hD
              have HK := Lib.hid hK
              clear hK
              clear hx D0
              cases v
              · obtain ⟨mv, hmv⟩ : ∃ mv, meetF c hb x = mv := ⟨_, rfl⟩
                have hh := vhas_any g2 c x hb W hvbW hr
                rw [show (inB x 0 c && hb.getD x.toNat false) = mv from hmv] at hh
                gi_wp2_with (apply wpIn_label)
                refine ⟨trivial, ?_⟩
                refine (CallsIn.inRound _ (callsIn_wide.2 (hh))).mono ?_
                rintro e w6 ⟨rfl, rfl⟩
                gi_wp2
                refine ⟨(KeepsOthers.setCell W _ _).from _, fun _ h => h.elim, ?_, HK.out.setCell (.inl (by simp)) _⟩
                rw [HN.out, hmv]
                exact HD.out.set _
              · gi_wp2_with (apply wpIn_label)
                refine ⟨trivial, ?_⟩
                gi_wp2
                refine ⟨(KeepsOthers.setCell W _ _).from _, fun _ h => h.elim, ?_, HK.out.setCell (.inl (by simp)) _⟩
                rw [HN.out]
                exact HD.out.set _
            case hdone =>
              rintro D W hD ⟨D0, hK⟩ hK'
              rw [List.take_length] at D0
              have hvaW : VB W g1 c ha := ⟨hK.blk hva.1 (by simp; omega), hva.2⟩
              have hvbW : VB W g2 c hb := ⟨hK.blk hvb.1 (by simp; omega), hvb.2⟩
              have PW := hK.blk PB (by simp; omega)
              have bb6 := bb5.trans (hK.below bb5.size (by simp; omega))
              have hDw : w.heap.size ≤ D := Nat.le_trans bb5.size hD
              have hm := HM.out
              generalize (plK 0 ha).any (meetF c hb) = vm at D0 hm
              clear HM hK hva hvb PB mb bb5
              cases ea : wonB c ha
              · have HM := Lib.hid hm
                clear hm
                have hDl := (Array.getElem?_eq_some_iff.1 hK').1
                gi_wp2_with (apply wpIn_label)
                refine ⟨trivial, ?_⟩
                refine (callsIn_wide.2 (vwon_at _ _ _ false ea _ hvaW hr)).mono ?_
                rintro e w6 ⟨rfl, b6⟩
                replace hK' := (b6.block D hDl).trans hK'
                replace bb6 := bb6.trans (b6.mono bb6.size)
                clear b6
                gi_wp2_with (apply wpIn_label)
                refine ⟨trivial, ?_⟩
                have hDl := (Array.getElem?_eq_some_iff.1 hK').1
                gi_wp2_with (apply wpIn_label)
                refine ⟨trivial, ?_⟩
                refine (callsIn_wide.2 (works_any _)).mono ?_
                rintro e w8 ⟨rfl, b8⟩
                replace hK' := (b8.block D hDl).trans hK'
                replace bb6 := bb6.trans (b8.mono bb6.size)
                gi_wp2
                exact leaves_col (v := .bool true) rfl hK' (by simp [results, Try.results6, go_sem]) ⟨rfl, below_putObj bb6 hDw _⟩
              · have hDl := (Array.getElem?_eq_some_iff.1 hK').1
                replace hm := hm ea
                cases eb : wonB c hb
                · have HM := Lib.hid hm
                  clear hm
                  gi_wp2_with (apply wpIn_label)
                  refine ⟨trivial, ?_⟩
                  refine (callsIn_wide.2 (vwon_at _ _ _ true ea _ hvaW hr)).mono ?_
                  rintro e w6 ⟨rfl, b6⟩
                  replace hK' := (b6.block D hDl).trans hK'
                  replace bb6 := bb6.trans (b6.mono bb6.size)
                  replace hvbW := hvbW.step b6
                  have cp := (PW.step b6).cell (j := 0) rfl
                  clear b6
                  have hDl := (Array.getElem?_eq_some_iff.1 hK').1
                  gi_wp2_with (apply wpIn_label)
                  refine ⟨trivial, ?_⟩
                  refine (callsIn_wide.2 (vwon_at _ _ _ false eb _ hvbW hr)).mono ?_
                  rintro e w7 ⟨rfl, b7⟩
                  replace hK' := (b7.block D hDl).trans hK'
                  replace bb6 := bb6.trans (b7.mono bb6.size)
                  clear b7
                  have hDl := (Array.getElem?_eq_some_iff.1 hK').1
                  gi_wp2_with (apply wpIn_label)
                  refine ⟨trivial, ?_⟩
                  refine (callsIn_wide.2 (works_any _)).mono ?_
                  rintro e w8 ⟨rfl, b8⟩
                  replace hK' := (b8.block D hDl).trans hK'
                  replace bb6 := bb6.trans (b8.mono bb6.size)
                  gi_wp2
                  exact leaves_col (v := .bool true) rfl hK' (by simp [results, Try.results6, go_sem]) ⟨rfl, below_putObj bb6 hDw _⟩
                · obtain rfl := hm eb
                  gi_wp2_with (apply wpIn_label)
                  refine ⟨trivial, ?_⟩
                  refine (callsIn_wide.2 (vwon_at _ _ _ true ea _ hvaW hr)).mono ?_
                  rintro e w6 ⟨rfl, b6⟩
                  replace hK' := (b6.block D hDl).trans hK'
                  replace bb6 := bb6.trans (b6.mono bb6.size)
                  replace hvbW := hvbW.step b6
                  replace D0 := box_step D0 b6
                  have cp := (PW.step b6).cell (j := 0) rfl
                  clear b6
                  have hDl := (Array.getElem?_eq_some_iff.1 hK').1
                  gi_wp2_with (apply wpIn_label)
                  refine ⟨trivial, ?_⟩
                  refine (callsIn_wide.2 (vwon_at _ _ _ true eb _ hvbW hr)).mono ?_
                  rintro e w7 ⟨rfl, b7⟩
                  replace hK' := (b7.block D hDl).trans hK'
                  replace bb6 := bb6.trans (b7.mono bb6.size)
                  have d0 := (box_step D0 b7).cell
                  clear b7
                  have hDl := (Array.getElem?_eq_some_iff.1 hK').1
                  gi_wp2_with (apply wpIn_label)
                  refine ⟨trivial, ?_⟩
                  refine (callsIn_wide.2 (works_any _)).mono ?_
                  rintro e w8 ⟨rfl, b8⟩
                  replace hK' := (b8.block D hDl).trans hK'
                  replace bb6 := bb6.trans (b8.mono bb6.size)
                  gi_wp2
                  exact leaves_col (v := .bool true) rfl hK' (by simp [results, Try.results6, go_sem]) ⟨rfl, below_putObj bb6 hDw _⟩
            case hstop =>
              rintro D c k W hD hk h
              exact h.elim
end Go.Proofs.Ytkohpfkgdigaiaa
