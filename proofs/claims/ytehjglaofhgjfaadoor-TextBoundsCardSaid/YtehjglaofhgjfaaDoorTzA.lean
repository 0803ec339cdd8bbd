
/- The document's Unquote. -/
import Derived.Test.YtehjglaofhgjfaaDoorTyZ
namespace Go.Proofs.YtehjglaofhgjfaaDoor
set_option linter.unusedSimpArgs false
set_option linter.unusedVariables false
open Go.RowKit
theorem inner_mid (l : BL) : innerL l = mid l 1 (l.length - 1) := by
  unfold innerL mid
  rw [List.dropLast_eq_take, List.length_drop]
theorem mid_cons (l : BL) (i b : Nat) (c : UInt8) (h : l[i]? = some c) (hb : i < b) : mid l i b = c :: mid l (i + 1) b := by
  unfold mid
  rw [drop_cons l i c h, show b - i = (b - (i + 1)) + 1 by omega, List.take_succ_cons]
theorem mid_end (l : BL) (i b : Nat) (hb : b ≤ i) : mid l i b = [] := by unfold mid; rw [show b - i = 0 by omega]; rfl
/-- What is read, what is left. -/
def UqI (l : BL) (A : BL) (i : Nat) (out : BL) : Prop := out ++ unqD (mid l i (l.length - 1)) = A
theorem UqI.start (l : BL) : UqI l (unqD (innerL l)) 1 [] := by unfold UqI; rw [inner_mid]; rfl
theorem UqI.last {l A : BL} {i : Nat} {out : BL} (h : UqI l A i out) (hi : l.length ≤ i + 1) : out = A := by
  unfold UqI at h
  rw [mid_end l i _ (by omega)] at h
  simpa [unqD] using h
theorem UqI.esc {l A : BL} {i : Nat} {out : BL} {c d : UInt8} (h : UqI l A i out) (hc : l[i]? = some c) (hd : l[i + 1]? = some d) (hi : i + 2 < l.length) (h92 : c.toNat = 92) (h2 : d.toNat = 34 ∨ d.toNat = 92) : UqI l A (i + 2) (out ++ [d]) := by
  unfold UqI at *
  rw [mid_cons l i _ c hc (by omega), mid_cons l (i + 1) _ d hd (by omega), unqD_esc c d _ ⟨h92, h2⟩] at h
  rw [← h]; simp
theorem UqI.hex {l A : BL} {i : Nat} {out : BL} {c d h1 l1 : UInt8} (h : UqI l A i out) (hc : l[i]? = some c) (hd : l[i + 1]? = some d) (hh : l[i + 2]? = some h1) (hl : l[i + 3]? = some l1) (hi : i + 4 < l.length)
    (h92 : c.toNat = 92) (h2 : d.toNat = 120) (g1 : 0 ≤ hexv h1) (g2 : 0 ≤ hexv l1) : UqI l A (i + 4) (out ++ [byteI (hexv h1 * 16 + hexv l1)]) := by
  unfold UqI at *
  rw [mid_cons l i _ c hc (by omega), mid_cons l (i + 1) _ d hd (by omega), mid_cons l (i + 2) _ h1 hh (by omega), mid_cons l (i + 3) _ l1 hl (by omega), unqD, if_neg (by omega), if_pos ⟨h92, h2, g1, g2⟩] at h
  rw [← h]; simp
theorem unqD_else (c : UInt8) (t : BL) (h : c.toNat = 92 → (∀ d t', t = d :: t' → ¬ (d.toNat = 34 ∨ d.toNat = 92)) ∧ (∀ d h1 l1 t', t = d :: h1 :: l1 :: t' → ¬ (d.toNat = 120 ∧ 0 ≤ hexv h1 ∧ 0 ≤ hexv l1))) : unqD (c :: t) = c :: unqD t := by
  by_cases hc : c.toNat = 92
  · obtain ⟨q1, q2⟩ := h hc
    match t with
    | [] => rfl
    | [a] => rw [unqD, if_neg (fun e => q1 a [] rfl e.2)]; simp
    | [a, b] => rw [unqD, if_neg (fun e => q1 a [b] rfl e.2)]; simp
    | a :: b :: d :: t => rw [unqD, if_neg (fun e => q1 a _ rfl e.2), if_neg (fun e => q2 a b d t rfl e.2)]
  · exact unqD_plain c t hc
theorem mid_get (l : BL) (i b : Nat) (d : UInt8) (t' : BL) (h : mid l i b = d :: t') : l[i]? = some d ∧ i < b ∧ mid l (i + 1) b = t' := by
  have hb : i < b := by
    rcases Nat.lt_or_ge i b with hb | hb
    · exact hb
    · rw [mid_end l i b hb] at h; cases h
  cases hx : l[i]? with
  | none =>
    unfold mid at h
    rw [List.drop_eq_nil_iff.2 (List.getElem?_eq_none_iff.1 hx)] at h
    simp at h
  | some x =>
    rw [mid_cons l i b x hx hb] at h
    cases h
    exact ⟨rfl, hb, rfl⟩
theorem UqI.plain {l A : BL} {i : Nat} {out : BL} {c : UInt8} (h : UqI l A i out) (hc : l[i]? = some c) (hi : i + 1 < l.length)
    (hno : c.toNat = 92 → (∀ d, i + 2 < l.length → l[i + 1]? = some d → ¬ (d.toNat = 34 ∨ d.toNat = 92)) ∧ (∀ d h1 l1, i + 4 < l.length → l[i + 1]? = some d → l[i + 2]? = some h1 → l[i + 3]? = some l1 → ¬ (d.toNat = 120 ∧ 0 ≤ hexv h1 ∧ 0 ≤ hexv l1))) : UqI l A (i + 1) (out ++ [c]) := by
  unfold UqI at *
  rw [mid_cons l i _ c hc (by omega), unqD_else c _ (fun e => ?_)] at h
  · rw [← h]; simp
  · obtain ⟨q1, q2⟩ := hno e
    refine ⟨fun d t' ht => ?_, fun d h1 l1 t' ht => ?_⟩
    · obtain ⟨a1, a2, -⟩ := mid_get _ _ _ _ _ ht
      exact q1 d (by omega) a1
    · obtain ⟨a1, a2, a3⟩ := mid_get _ _ _ _ _ ht
      obtain ⟨b1, b2, b3⟩ := mid_get _ _ _ _ _ a3
      obtain ⟨c1, c2, -⟩ := mid_get _ _ _ _ _ b3
      exact q2 d h1 l1 (by omega) a1 b1 c1
def rqV (s : ByteArray) : ByteArray := if quoteL (unqD (innerL s.data.toList)) = s.data.toList then mkS (unqD (innerL s.data.toList)) else ⟨#[]⟩
def rqE (s : ByteArray) : Int := if quoteL (unqD (innerL s.data.toList)) = s.data.toList then 0 else 133
theorem rq_eq (s : ByteArray) : unqV s = rqV s ∧ unqE s = rqE s := by
  unfold unqV unqE rqV rqE
  rw [res_eq]
  unfold resD
  by_cases h : quoteL (unqD (innerL s.data.toList)) = s.data.toList
  · rw [if_pos h, if_pos h, if_pos h]; exact ⟨rfl, rfl⟩
  · rw [if_neg h, if_neg h, if_neg h]; exact ⟨rfl, rfl⟩
set_option maxRecDepth 100000 in
set_option maxHeartbeats 4000000 in
theorem runquote_any (s : ByteArray) (n : Nat) (hn : s.size = n) (hs : n ≤ 300) (w : World) : Calls Tryd.prog 23 #[.string s] w fun e w' => e = .returned (.tuple #[.string (rqV s), .int .i64 (rqE s)]) ∧ Below w.heap.size w w' := by
  obtain ⟨i0, hi0, hz0, hz1, hz2⟩ := bl_byte2
  obtain ⟨A, hA⟩ : ∃ A, unqD (innerL s.data.toList) = A := ⟨_, rfl⟩
  obtain ⟨V, hV⟩ : ∃ V, rqV s = V := ⟨_, rfl⟩
  obtain ⟨E, hE⟩ : ∃ E, rqE s = E := ⟨_, rfl⟩
  rw [hV, hE]
  unfold rqV at hV
  unfold rqE at hE
  rw [hA] at hV hE
  have HV := Lib.hid hV
  clear hV
  have HE := Lib.hid hE
  clear hE
  have hln : s.data.toList.length = n := by rw [← Lib.size_eq]; exact hn
  have hW0 : Hid (UqI s.data.toList A 1 []) := Lib.hid (hA ▸ UqI.start _)
  go_enter Tryd.func23, Tryd.ntmps23
  go_wp2_with fail
  go_loopw [4, 5] (fun v j wr => ∃ (i : Nat) (out : BL), j = .int .i64 i ∧ OwnB wr w.heap.size v out ∧ Hid (UqI s.data.toList A i out) ∧ out.length ≤ i ∧ i ≤ n + 1 ∧ 1 ≤ i ∧ Below w.heap.size w wr) (fun _ j _ => n + 2 - (intOf j).toNat)
  case atStart => exact ⟨1, [], rfl, World.ownsRow_nil _ _ _ _, hW0, by simp, by omega, by omega, Below.refl _ _⟩
  case round =>
    obtain ⟨i, out, rfl, hown, hW, hol, hin, hi1, hb⟩ := hrel
    clear hW0 hA
    have i0' : (0 : Int) ≤ (i : Int) := by omega
    have i9 : (i : Int) ≤ 301 := by omega
    have ho1 : out.length ≤ 400 := by omega
    obtain ⟨j1, hj1⟩ : ∃ j, j = i + 1 := ⟨_, rfl⟩
    obtain ⟨j2, hj2⟩ : ∃ j, j = i + 2 := ⟨_, rfl⟩
    obtain ⟨j3, hj3⟩ : ∃ j, j = i + 3 := ⟨_, rfl⟩
    obtain ⟨j4, hj4⟩ : ∃ j, j = i + 4 := ⟨_, rfl⟩
    have z1 : (i : Int) + 1 = (j1 : Int) := by omega
    have z2 : (i : Int) + 2 = (j2 : Int) := by omega
    have z3 : (i : Int) + 3 = (j3 : Int) := by omega
    have z4 : (i : Int) + 4 = (j4 : Int) := by omega
    have z5 : (j1 : Int) + 1 = (j2 : Int) := by omega
    have z6 : (j3 : Int) + 1 = (j4 : Int) := by omega
    rcases Nat.lt_or_ge (i + 1) n with h1 | h1
    · have t1 : (j1 : Int) < (n : Int) := by omega
      obtain ⟨c, hc⟩ : ∃ c, s.data.toList[i]? = some c := ⟨_, List.getElem?_eq_getElem (by omega)⟩
      have hlti : i < s.size := by omega
      have gmi : (s[i]'hlti).toNat = c.toNat := by rw [get_at s i c hc hlti]
      obtain ⟨mi, ei⟩ : ∃ m, c.toNat = m := ⟨_, rfl⟩
      rw [ei] at gmi
      have ui : mi < 256 := by rw [← ei]; exact c.toNat_lt
      have xi : (0 : Int) ≤ (i : Int) := by omega
      have yi : (i : Int) < (n : Int) := by omega
      by_cases h92 : mi = 92
      · have f0 : ((mi : Int) == 92) = true := by rw [h92]; rfl
        have ei' : c.toNat = 92 := ei.trans h92
        rcases Nat.lt_or_ge j2 n with h2 | h2
        · have t2 : (j2 : Int) < (n : Int) := by omega
          obtain ⟨d, hd⟩ : ∃ c, s.data.toList[j1]? = some c := ⟨_, List.getElem?_eq_getElem (by omega)⟩
          have hltj1 : j1 < s.size := by omega
          have gmj1 : (s[j1]'hltj1).toNat = d.toNat := by rw [get_at s j1 d hd hltj1]
          obtain ⟨mj1, ej1⟩ : ∃ m, d.toNat = m := ⟨_, rfl⟩
          rw [ej1] at gmj1
          have uj1 : mj1 < 256 := by rw [← ej1]; exact d.toNat_lt
          have xj1 : (0 : Int) ≤ (j1 : Int) := by omega
          have yj1 : (j1 : Int) < (n : Int) := by omega
          by_cases hq : mj1 = 34 ∨ mj1 = 92
          · have hI := hW.out.esc hc (hj1 ▸ hd) (by omega) ei' (by rw [ej1]; exact hq)
            rw [← hj2] at hI
            have HI := Lib.hid hI
            clear hI
            have J1 := Lib.hid hj1
            clear hj1
            have J2 := Lib.hid hj2
            clear hj2
            have J3 := Lib.hid hj3
            clear hj3
            have J4 := Lib.hid hj4
            clear hj4
            clear hW hc hd
            clear h92 ei'
            by_cases q34 : mj1 = 34
            · have f34 : ((mj1 : Int) == 34) = true := by rw [q34]; rfl
              clear hq q34
              have OW := hown
              unfold OwnB at OW
              go_wp2_with (at_builtin; refine wpList_append_own _ rfl _ _ 42 rfl w.heap.size 5 i0 (.int .u8 0) 1 1 Tryd.underlying42 hi0 hz0 hz1 hz2 rfl (by decide) _ _ _ rfl (World.ownsRow.alloc OW _) ⟨(wr).heap.size, 0, none⟩ 1 1 [.int .u8 (mj1:Int)] rfl rfl (Blk.new' rfl 5 [.int .u8 (mj1:Int)]).news (by intro u hu; simp at hu; subst hu; rfl) (by unfold maxLen; omega) (by omega) (by have := hb.size; simp; omega) ?_)
              intro v' w5 hown' hgrow _
              have hb' := (hb.alloc hb.size (.cells #[.int .u8 (mj1:Int)] 5)).grown hgrow (by have := hb.size; simp; omega) (fun k e => (World.ownsRow.lt OW k e).1)
              have O5 : Hid (OwnB w5 w.heap.size v' (out ++ [d])) := Lib.hid (by
                unfold OwnB
                rw [List.length_append, ← cells_one1]
                first
                  | exact hown'
                  | (rw [ej1]; exact hown'))
              clear hown' hgrow OW hown hb
              go_wp2_with fail
              go_roundw
              case rel => exact ⟨j2, out ++ [d], by first | rfl | go_num | trace_state, O5.out, HI, by simp; omega, by omega, by omega, hb'⟩
              case measure => (simp [intOf] <;> omega)
            · have f34 : ((mj1 : Int) == 34) = false := by rw [beq_eq_false_iff_ne]; omega
              have f92 : ((mj1 : Int) == 92) = true := by rw [show mj1 = 92 by omega]; rfl
              clear hq q34
              have OW := hown
              unfold OwnB at OW
              go_wp2_with (at_builtin; refine wpList_append_own _ rfl _ _ 42 rfl w.heap.size 5 i0 (.int .u8 0) 1 1 Tryd.underlying42 hi0 hz0 hz1 hz2 rfl (by decide) _ _ _ rfl (World.ownsRow.alloc OW _) ⟨(wr).heap.size, 0, none⟩ 1 1 [.int .u8 (mj1:Int)] rfl rfl (Blk.new' rfl 5 [.int .u8 (mj1:Int)]).news (by intro u hu; simp at hu; subst hu; rfl) (by unfold maxLen; omega) (by omega) (by have := hb.size; simp; omega) ?_)
              intro v' w5 hown' hgrow _
              have hb' := (hb.alloc hb.size (.cells #[.int .u8 (mj1:Int)] 5)).grown hgrow (by have := hb.size; simp; omega) (fun k e => (World.ownsRow.lt OW k e).1)
              have O5 : Hid (OwnB w5 w.heap.size v' (out ++ [d])) := Lib.hid (by
                unfold OwnB
                rw [List.length_append, ← cells_one1]
                first
                  | exact hown'
                  | (rw [ej1]; exact hown'))
              clear hown' hgrow OW hown hb
              go_wp2_with fail
              go_roundw
              case rel => exact ⟨j2, out ++ [d], by first | rfl | go_num | trace_state, O5.out, HI, by simp; omega, by omega, by omega, hb'⟩
              case measure => (simp [intOf] <;> omega)
          · have f34 : ((mj1 : Int) == 34) = false := by rw [beq_eq_false_iff_ne]; omega
            have f92 : ((mj1 : Int) == 92) = false := by rw [beq_eq_false_iff_ne]; omega
            rcases Nat.lt_or_ge j4 n with h4 | h4
            · have t4 : (j4 : Int) < (n : Int) := by omega
              obtain ⟨b1, hb1⟩ : ∃ c, s.data.toList[j2]? = some c := ⟨_, List.getElem?_eq_getElem (by omega)⟩
              obtain ⟨b2, hb2⟩ : ∃ c, s.data.toList[j3]? = some c := ⟨_, List.getElem?_eq_getElem (by omega)⟩
              have hltj2 : j2 < s.size := by omega
              have gmj2 : (s[j2]'hltj2).toNat = b1.toNat := by rw [get_at s j2 b1 hb1 hltj2]
              obtain ⟨mj2, ej2⟩ : ∃ m, b1.toNat = m := ⟨_, rfl⟩
              rw [ej2] at gmj2
              have uj2 : mj2 < 256 := by rw [← ej2]; exact b1.toNat_lt
              have xj2 : (0 : Int) ≤ (j2 : Int) := by omega
              have yj2 : (j2 : Int) < (n : Int) := by omega
              have hltj3 : j3 < s.size := by omega
              have gmj3 : (s[j3]'hltj3).toNat = b2.toNat := by rw [get_at s j3 b2 hb2 hltj3]
              obtain ⟨mj3, ej3⟩ : ∃ m, b2.toNat = m := ⟨_, rfl⟩
              rw [ej3] at gmj3
              have uj3 : mj3 < 256 := by rw [← ej3]; exact b2.toNat_lt
              have xj3 : (0 : Int) ≤ (j3 : Int) := by omega
              have yj3 : (j3 : Int) < (n : Int) := by omega
              obtain ⟨H1, hH1⟩ : ∃ H, hexv b1 = H := ⟨_, rfl⟩
              obtain ⟨H2, hH2⟩ : ∃ H, hexv b2 = H := ⟨_, rfl⟩
              have v1 : H1 < 16 := hH1 ▸ hexv_lt b1
              have v2 : H2 < 16 := hH2 ▸ hexv_lt b2
              have cV1 : ∀ W, Calls Tryd.prog 50 #[.int .u8 (mj2 : Int)] W fun e w' => e = .returned (.int .i64 H1) ∧ W = w' := fun W => by rw [← ej2, ← hH1]; exact value_any b1 W
              have cV2 : ∀ W, Calls Tryd.prog 50 #[.int .u8 (mj3 : Int)] W fun e w' => e = .returned (.int .i64 H2) ∧ W = w' := fun W => by rw [← ej3, ← hH2]; exact value_any b2 W
              by_cases hx : mj1 = 120 ∧ 0 ≤ H1 ∧ 0 ≤ H2
              · obtain ⟨p0, p1, p2⟩ := hx
                have f120 : ((mj1 : Int) == 120) = true := by rw [p0]; rfl
                have hI := hW.out.hex hc (hj1 ▸ hd) (hj2 ▸ hb1) (hj3 ▸ hb2) (by omega) ei' (ej1.trans p0) (by rw [hH1]; exact p1) (by rw [hH2]; exact p2)
                rw [← hj4, hH1, hH2] at hI
                have HI := Lib.hid hI
                clear hI
                have J1 := Lib.hid hj1
                clear hj1
                have J2 := Lib.hid hj2
                clear hj2
                have J3 := Lib.hid hj3
                clear hj3
                have J4 := Lib.hid hj4
                clear hj4
                clear hW hc hd hb1 hb2 hH1 hH2 hq h92 ei' p0
                go_wp2_with fail
                refine (cV1 _).mono ?_
                rintro e wx ⟨rfl, rfl⟩
                go_wp2_with fail
                refine (cV2 _).mono ?_
                rintro e wx ⟨rfl, rfl⟩
                go_upto_region 10 with fail
                have hB : (16 * H1 + H2) = ((byteI (H1 * 16 + H2)).toNat : Int) := by
                  unfold byteI
                  rw [UInt8.toNat_ofNat']
                  omega
                have HB := Lib.hid hB
                clear hB
                have k2 : IntKind.i64.wrap (j2 : Int) = (j2 : Int) := IntWalk.i64_in _ (by omega)
                have k3 : IntKind.i64.wrap (j3 : Int) = (j3 : Int) := IntWalk.i64_in _ (by omega)
                have k4 : IntKind.i64.wrap (16 * H1) = 16 * H1 := IntWalk.i64_in _ (by omega)
                have k5 : IntKind.i64.wrap (16 * H1 + H2) = 16 * H1 + H2 := IntWalk.i64_in _ (by omega)
                have k6 : IntKind.u8.wrap (16 * H1 + H2) = 16 * H1 + H2 := IntWalk.u8_in _ (by omega)
                have oN : ∀ k, OwnB (wr.drewN k) w.heap.size u4 out := fun k => hown.step (below_dn (Below.refl _ _) k)
                have bN : ∀ k, Below w.heap.size w (wr.drewN k) := fun k => below_dn hb k
                have cW1 : ∀ k, Calls Tryd.prog 50 #[.int .u8 (mj2 : Int)] (wr.drewN k) fun e w' => e = .returned (.int .i64 H1) ∧ ∃ m, w' = wr.drewN m := fun k => (cV1 _).mono (fun e w' h => ⟨h.1, k, h.2.symm⟩)
                have cW2 : ∀ k, Calls Tryd.prog 50 #[.int .u8 (mj3 : Int)] (wr.drewN k) fun e w' => e = .returned (.int .i64 H2) ∧ ∃ m, w' = wr.drewN m := fun k => (cV2 _).mono (fun e w' h => ⟨h.1, k, h.2.symm⟩)
                go_quiet (first | (go_at_call 50; first | with_reducible exact cW1 _ | with_reducible exact cW2 _))
                replace hown := oN nq
                replace hb := bN nq
                clear cW1 cW2 cV1 cV2 oN bN k2 k3 k4 k5 k6
                generalize wr.drewN nq = w9 at *
                have OW := hown
                unfold OwnB at OW
                go_wp2_with (at_builtin; refine wpList_append_own _ rfl _ _ 42 rfl w.heap.size 5 i0 (.int .u8 0) 1 1 Tryd.underlying42 hi0 hz0 hz1 hz2 rfl (by decide) _ _ _ rfl (World.ownsRow.alloc OW _) ⟨(w9).heap.size, 0, none⟩ 1 1 [.int .u8 (16 * H1 + H2)] rfl rfl (Blk.new' rfl 5 [.int .u8 (16 * H1 + H2)]).news (by intro u hu; simp at hu; subst hu; rfl) (by unfold maxLen; omega) (by omega) (by have := hb.size; simp; omega) ?_)
                intro v' w5 hown' hgrow _
                have hb' := (hb.alloc hb.size (.cells #[.int .u8 (16 * H1 + H2)] 5)).grown hgrow (by have := hb.size; simp; omega) (fun k e => (World.ownsRow.lt OW k e).1)
                have O5 : Hid (OwnB w5 w.heap.size v' (out ++ [(byteI (H1 * 16 + H2))])) := Lib.hid (by
                  unfold OwnB
                  rw [List.length_append, ← cells_one1]
                  first
                    | exact hown'
                    | (rw [← HB.out]; exact hown'))
                clear hown' hgrow OW hown hb
                go_wp2_with fail
                go_roundw
                case rel => exact ⟨j4, out ++ [(byteI (H1 * 16 + H2))], by first | rfl | go_num | trace_state, O5.out, HI, by simp; omega, by omega, by omega, hb'⟩
                case measure => (simp [intOf] <;> omega)
              · have hI := hW.out.plain hc (by omega) (fun _ => ⟨fun d' _ hd' => by rw [← hj1, hd] at hd'; cases hd'; rw [ej1]; exact hq, fun d' b1' b2' _ hd' h1' h2' e => by
                  rw [← hj1, hd] at hd'; rw [← hj2, hb1] at h1'; rw [← hj3, hb2] at h2'
                  cases hd'; cases h1'; cases h2'
                  rw [ej1, hH1, hH2] at e
                  exact hx e⟩)
                rw [← hj1] at hI
                have HI := Lib.hid hI
                clear hI
                have J1 := Lib.hid hj1
                clear hj1
                have J2 := Lib.hid hj2
                clear hj2
                have J3 := Lib.hid hj3
                clear hj3
                have J4 := Lib.hid hj4
                clear hj4
                clear hW hc hd hb1 hb2 hH1 hH2 hq
                by_cases p0 : mj1 = 120
                · have f120 : ((mj1 : Int) == 120) = true := by rw [p0]; rfl
                  by_cases p1 : 0 ≤ H1
                  · have p2 : ¬ 0 ≤ H2 := fun e => hx ⟨p0, p1, e⟩
                    clear hx p0 h92 ei'
                    go_wp2_with fail
                    refine (cV1 _).mono ?_
                    rintro e wx ⟨rfl, rfl⟩
                    go_wp2_with fail
                    refine (cV2 _).mono ?_
                    rintro e wx ⟨rfl, rfl⟩
                    have OW := hown
                    unfold OwnB at OW
                    go_wp2_with (at_builtin; refine wpList_append_own _ rfl _ _ 42 rfl w.heap.size 5 i0 (.int .u8 0) 1 1 Tryd.underlying42 hi0 hz0 hz1 hz2 rfl (by decide) _ _ _ rfl (World.ownsRow.alloc OW _) ⟨(wr).heap.size, 0, none⟩ 1 1 [.int .u8 (mi:Int)] rfl rfl (Blk.new' rfl 5 [.int .u8 (mi:Int)]).news (by intro u hu; simp at hu; subst hu; rfl) (by unfold maxLen; omega) (by omega) (by have := hb.size; simp; omega) ?_)
                    intro v' w5 hown' hgrow _
                    have hb' := (hb.alloc hb.size (.cells #[.int .u8 (mi:Int)] 5)).grown hgrow (by have := hb.size; simp; omega) (fun k e => (World.ownsRow.lt OW k e).1)
                    have O5 : Hid (OwnB w5 w.heap.size v' (out ++ [c])) := Lib.hid (by
                      unfold OwnB
                      rw [List.length_append, ← cells_one1]
                      first
                        | exact hown'
                        | (rw [ei]; exact hown'))
                    clear hown' hgrow OW hown hb
                    go_wp2_with fail
                    go_roundw
                    case rel => exact ⟨j1, out ++ [c], by first | rfl | go_num | trace_state, O5.out, HI, by simp; omega, by omega, by omega, hb'⟩
                    case measure => (simp [intOf] <;> omega)
                  · clear hx p0 h92 ei'
                    go_wp2_with fail
                    refine (cV1 _).mono ?_
                    rintro e wx ⟨rfl, rfl⟩
                    have OW := hown
                    unfold OwnB at OW
                    go_wp2_with (at_builtin; refine wpList_append_own _ rfl _ _ 42 rfl w.heap.size 5 i0 (.int .u8 0) 1 1 Tryd.underlying42 hi0 hz0 hz1 hz2 rfl (by decide) _ _ _ rfl (World.ownsRow.alloc OW _) ⟨(wr).heap.size, 0, none⟩ 1 1 [.int .u8 (mi:Int)] rfl rfl (Blk.new' rfl 5 [.int .u8 (mi:Int)]).news (by intro u hu; simp at hu; subst hu; rfl) (by unfold maxLen; omega) (by omega) (by have := hb.size; simp; omega) ?_)
                    intro v' w5 hown' hgrow _
                    have hb' := (hb.alloc hb.size (.cells #[.int .u8 (mi:Int)] 5)).grown hgrow (by have := hb.size; simp; omega) (fun k e => (World.ownsRow.lt OW k e).1)
                    have O5 : Hid (OwnB w5 w.heap.size v' (out ++ [c])) := Lib.hid (by
                      unfold OwnB
                      rw [List.length_append, ← cells_one1]
                      first
                        | exact hown'
                        | (rw [ei]; exact hown'))
                    clear hown' hgrow OW hown hb
                    go_wp2_with fail
                    go_roundw
                    case rel => exact ⟨j1, out ++ [c], by first | rfl | go_num | trace_state, O5.out, HI, by simp; omega, by omega, by omega, hb'⟩
                    case measure => (simp [intOf] <;> omega)
                · have f120 : ((mj1 : Int) == 120) = false := by rw [beq_eq_false_iff_ne]; omega
                  clear hx p0 h92 ei'
                  have OW := hown
                  unfold OwnB at OW
                  go_wp2_with (at_builtin; refine wpList_append_own _ rfl _ _ 42 rfl w.heap.size 5 i0 (.int .u8 0) 1 1 Tryd.underlying42 hi0 hz0 hz1 hz2 rfl (by decide) _ _ _ rfl (World.ownsRow.alloc OW _) ⟨(wr).heap.size, 0, none⟩ 1 1 [.int .u8 (mi:Int)] rfl rfl (Blk.new' rfl 5 [.int .u8 (mi:Int)]).news (by intro u hu; simp at hu; subst hu; rfl) (by unfold maxLen; omega) (by omega) (by have := hb.size; simp; omega) ?_)
                  intro v' w5 hown' hgrow _
                  have hb' := (hb.alloc hb.size (.cells #[.int .u8 (mi:Int)] 5)).grown hgrow (by have := hb.size; simp; omega) (fun k e => (World.ownsRow.lt OW k e).1)
                  have O5 : Hid (OwnB w5 w.heap.size v' (out ++ [c])) := Lib.hid (by
                    unfold OwnB
                    rw [List.length_append, ← cells_one1]
                    first
                      | exact hown'
                      | (rw [ei]; exact hown'))
                  clear hown' hgrow OW hown hb
                  go_wp2_with fail
                  go_roundw
                  case rel => exact ⟨j1, out ++ [c], by first | rfl | go_num | trace_state, O5.out, HI, by simp; omega, by omega, by omega, hb'⟩
                  case measure => (simp [intOf] <;> omega)
            · have t4 : ¬ (j4 : Int) < (n : Int) := by omega
              have hI := hW.out.plain hc (by omega) (fun _ => ⟨fun d' _ hd' => by rw [← hj1, hd] at hd'; cases hd'; rw [ej1]; exact hq, fun d' b1' b2' hl _ _ _ => absurd hl (by omega)⟩)
              rw [← hj1] at hI
              have HI := Lib.hid hI
              clear hI
              have J1 := Lib.hid hj1
              clear hj1
              have J2 := Lib.hid hj2
              clear hj2
              have J3 := Lib.hid hj3
              clear hj3
              have J4 := Lib.hid hj4
              clear hj4
              clear hW hc hd hq h92 ei'
              have OW := hown
              unfold OwnB at OW
              go_wp2_with (at_builtin; refine wpList_append_own _ rfl _ _ 42 rfl w.heap.size 5 i0 (.int .u8 0) 1 1 Tryd.underlying42 hi0 hz0 hz1 hz2 rfl (by decide) _ _ _ rfl (World.ownsRow.alloc OW _) ⟨(wr).heap.size, 0, none⟩ 1 1 [.int .u8 (mi:Int)] rfl rfl (Blk.new' rfl 5 [.int .u8 (mi:Int)]).news (by intro u hu; simp at hu; subst hu; rfl) (by unfold maxLen; omega) (by omega) (by have := hb.size; simp; omega) ?_)
              intro v' w5 hown' hgrow _
              have hb' := (hb.alloc hb.size (.cells #[.int .u8 (mi:Int)] 5)).grown hgrow (by have := hb.size; simp; omega) (fun k e => (World.ownsRow.lt OW k e).1)
              have O5 : Hid (OwnB w5 w.heap.size v' (out ++ [c])) := Lib.hid (by
                unfold OwnB
                rw [List.length_append, ← cells_one1]
                first
                  | exact hown'
                  | (rw [ei]; exact hown'))
              clear hown' hgrow OW hown hb
              go_wp2_with fail
              go_roundw
              case rel => exact ⟨j1, out ++ [c], by first | rfl | go_num | trace_state, O5.out, HI, by simp; omega, by omega, by omega, hb'⟩
              case measure => (simp [intOf] <;> omega)
        · have t2 : ¬ (j2 : Int) < (n : Int) := by omega
          have t4 : ¬ (j4 : Int) < (n : Int) := by omega
          have hI := hW.out.plain hc (by omega) (fun _ => ⟨fun d' hl _ => absurd hl (by omega), fun d' b1' b2' hl _ _ _ => absurd hl (by omega)⟩)
          rw [← hj1] at hI
          have HI := Lib.hid hI
          clear hI
          have J1 := Lib.hid hj1
          clear hj1
          have J2 := Lib.hid hj2
          clear hj2
          have J3 := Lib.hid hj3
          clear hj3
          have J4 := Lib.hid hj4
          clear hj4
          clear hW hc h92 ei'
          have OW := hown
          unfold OwnB at OW
          go_wp2_with (at_builtin; refine wpList_append_own _ rfl _ _ 42 rfl w.heap.size 5 i0 (.int .u8 0) 1 1 Tryd.underlying42 hi0 hz0 hz1 hz2 rfl (by decide) _ _ _ rfl (World.ownsRow.alloc OW _) ⟨(wr).heap.size, 0, none⟩ 1 1 [.int .u8 (mi:Int)] rfl rfl (Blk.new' rfl 5 [.int .u8 (mi:Int)]).news (by intro u hu; simp at hu; subst hu; rfl) (by unfold maxLen; omega) (by omega) (by have := hb.size; simp; omega) ?_)
          intro v' w5 hown' hgrow _
          have hb' := (hb.alloc hb.size (.cells #[.int .u8 (mi:Int)] 5)).grown hgrow (by have := hb.size; simp; omega) (fun k e => (World.ownsRow.lt OW k e).1)
          have O5 : Hid (OwnB w5 w.heap.size v' (out ++ [c])) := Lib.hid (by
            unfold OwnB
            rw [List.length_append, ← cells_one1]
            first
              | exact hown'
              | (rw [ei]; exact hown'))
          clear hown' hgrow OW hown hb
          go_wp2_with fail
          go_roundw
          case rel => exact ⟨j1, out ++ [c], by first | rfl | go_num | trace_state, O5.out, HI, by simp; omega, by omega, by omega, hb'⟩
          case measure => (simp [intOf] <;> omega)
      · have hI := hW.out.plain hc (by omega) (fun e => absurd (e.symm.trans ei).symm h92)
        have HI := Lib.hid hI
        clear hI
        have f1 : ((mi : Int) == 92) = false := by rw [beq_eq_false_iff_ne]; omega
        rw [← hj1] at HI
        have J1 := Lib.hid hj1
        clear hj1
        have J2 := Lib.hid hj2
        clear hj2
        have J3 := Lib.hid hj3
        clear hj3
        have J4 := Lib.hid hj4
        clear hj4
        clear hW hc h92
        have OW := hown
        unfold OwnB at OW
        go_wp2_with (at_builtin; refine wpList_append_own _ rfl _ _ 42 rfl w.heap.size 5 i0 (.int .u8 0) 1 1 Tryd.underlying42 hi0 hz0 hz1 hz2 rfl (by decide) _ _ _ rfl (World.ownsRow.alloc OW _) ⟨(wr).heap.size, 0, none⟩ 1 1 [.int .u8 (mi:Int)] rfl rfl (Blk.new' rfl 5 [.int .u8 (mi:Int)]).news (by intro u hu; simp at hu; subst hu; rfl) (by unfold maxLen; omega) (by omega) (by have := hb.size; simp; omega) ?_)
        intro v' w5 hown' hgrow _
        have hb' := (hb.alloc hb.size (.cells #[.int .u8 (mi:Int)] 5)).grown hgrow (by have := hb.size; simp; omega) (fun k e => (World.ownsRow.lt OW k e).1)
        have O5 : Hid (OwnB w5 w.heap.size v' (out ++ [c])) := Lib.hid (by
          unfold OwnB
          rw [List.length_append, ← cells_one1]
          first
            | exact hown'
            | (rw [ei]; exact hown'))
        clear hown' hgrow OW hown hb
        go_wp2_with fail
        go_roundw
        case rel => exact ⟨j1, out ++ [c], by first | rfl | go_num | trace_state, O5.out, HI, by simp; omega, by omega, by omega, hb'⟩
        case measure => (simp [intOf] <;> omega)
    · have t1 : ¬ (j1 : Int) < (n : Int) := by omega
      have hA2 := hW.out.last (by omega)
      subst hA2
      have hcv := hown.back
      have cQ := fun W => rquote_any (mkS out) out.length (mkS_size out) (by omega) W
      have hqs : quoteS (mkS out) = mkS (quoteL out) := by unfold quoteS; rw [mkS_data]
      have J1 := Lib.hid hj1
      clear hj1
      have J2 := Lib.hid hj2
      clear hj2
      have J3 := Lib.hid hj3
      clear hj3
      have J4 := Lib.hid hj4
      clear hj4
      clear hW
      by_cases hqe : quoteL out = s.data.toList
      · have hV := HV.out
        have hE := HE.out
        rw [if_pos hqe] at hV hE
        subst hV hE
        rw [hqs, hqe, mkS_self] at cQ
        have e1 : (s.toList == s.toList) = true := beq_self_eq_true _
        have e2 : (s.toList != s.toList) = false := by simp
        clear hqs hqe
        go_wp2_with fail
        refine (cQ _).mono ?_
        rintro e wz ⟨rfl, rfl⟩
        go_wp2_with fail
        go_returns
        exact ⟨rfl, hb⟩
      · have hV := HV.out
        have hE := HE.out
        rw [if_neg hqe] at hV hE
        subst hV hE
        rw [hqs] at cQ
        have e1 : ((mkS (quoteL out)).toList == s.toList) = false := by rw [beq_eq_false_iff_ne]; exact fun e => hqe (by rw [Lib.toList_data, Lib.toList_data, mkS_data] at e; exact e)
        clear hqs hqe
        generalize mkS (quoteL out) = Qs at *
        go_wp2_with fail
        refine (cQ _).mono ?_
        rintro e wz ⟨rfl, rfl⟩
        go_wp2_with fail
        go_returns
        exact ⟨rfl, hb⟩
end Go.Proofs.YtehjglaofhgjfaaDoor
