
/- The document's Named. -/
import Derived.Test.YtehjglaofhgjfaaDoorTyV
import Derived.Deep.CutBlock
import Derived.Deep.CutRange
namespace Go.Proofs.YtehjglaofhgjfaaDoor
set_option linter.unusedSimpArgs false
set_option linter.unusedVariables false
open Go.RowKit
def prevN (l : BL) (i : Nat) : Bool := match i with | 0 => false | i + 1 => match l[i]? with | some c => isN c | none => false
theorem prevN_succ (l : BL) (i : Nat) (c : UInt8) (h : l[i]? = some c) : prevN l (i + 1) = isN c := by simp [prevN, h]
/-- Where the run of name's signs behind i ends. -/
def endN (l : BL) (i : Nat) : Nat := i + 1 + runN (l.drop (i + 1))
theorem runN_step (l : BL) (k : Nat) (c : UInt8) (h : l[k]? = some c) : runN (l.drop k) = if isN c then runN (l.drop (k + 1)) + 1 else 0 := by
  rw [drop_cons l k c h]
  unfold runN
  rw [List.takeWhile_cons]
  split <;> simp
theorem runN_end (l : BL) (k : Nat) (h : l.length ≤ k) : runN (l.drop k) = 0 := by rw [List.drop_eq_nil_iff.2 h]; rfl
theorem endN_le (l : BL) (i : Nat) (h : i < l.length) : endN l i ≤ l.length := by
  have := runN_le (l.drop (i + 1))
  rw [List.length_drop] at this
  unfold endN
  omega
theorem nms_at (l : BL) (i : Nat) (c : UInt8) (h : l[i]? = some c) : nms (prevN l i) (l.drop i) =
    if c.toNat = 64 ∧ prevN l i = false ∧ endN l i ≠ i + 1 ∧ endN l i ≤ i + 17 then mid l (i + 1) (endN l i) :: nms (prevN l (i + 1)) (l.drop (i + 1)) else nms (prevN l (i + 1)) (l.drop (i + 1)) := by
  rw [drop_cons l i c h, nms, prevN_succ l i c h]
  have e : (c.toNat = 64 ∧ prevN l i = false ∧ 0 < runN (l.drop (i + 1)) ∧ runN (l.drop (i + 1)) ≤ 16) = (c.toNat = 64 ∧ prevN l i = false ∧ endN l i ≠ i + 1 ∧ endN l i ≤ i + 17) := by
    unfold endN
    rw [eq_iff_iff]
    constructor <;> (rintro ⟨a, b, c, d⟩; exact ⟨a, b, by omega, by omega⟩)
  by_cases hb : c.toNat = 64 ∧ prevN l i = false ∧ endN l i ≠ i + 1 ∧ endN l i ≤ i + 17
  · rw [if_pos hb, if_pos (e ▸ hb)]
    unfold mid endN
    rw [show i + 1 + runN (l.drop (i + 1)) - (i + 1) = runN (l.drop (i + 1)) by omega]
  · rw [if_neg hb, if_neg (fun x => hb (e ▸ x))]
def NmI (l : BL) (A : List BL) (i : Nat) (out : List BL) : Prop := nubF out (nms (prevN l i) (l.drop i)) = A
theorem NmI.skip {l : BL} {A : List BL} {i : Nat} {out : List BL} {c : UInt8} (h : NmI l A i out) (hc : l[i]? = some c) (hn : ¬ (c.toNat = 64 ∧ prevN l i = false ∧ endN l i ≠ i + 1 ∧ endN l i ≤ i + 17)) : NmI l A (i + 1) out := by
  unfold NmI at *
  rw [nms_at l i c hc, if_neg hn] at h
  exact h
theorem NmI.take {l : BL} {A : List BL} {i : Nat} {out : List BL} {c : UInt8} (h : NmI l A i out) (hc : l[i]? = some c) (hn : c.toNat = 64 ∧ prevN l i = false ∧ endN l i ≠ i + 1 ∧ endN l i ≤ i + 17) : NmI l A (i + 1) (addN out (mid l (i + 1) (endN l i))) := by
  unfold NmI at *
  rw [nms_at l i c hc, if_pos hn, nubF] at h
  exact h
theorem NmI.last {l : BL} {A : List BL} {out : List BL} (h : NmI l A l.length out) : out = A := by
  unfold NmI at h
  rw [List.drop_length] at h
  cases hp : prevN l l.length <;> (rw [hp] at h; exact h)
def th0 (i E : Nat) : Bool := decide (E = i + 1) || decide (i + 17 < E)
theorem NmI.fin {l : BL} {A : List BL} {i E : Nat} {out : List BL} {c : UInt8} (h : NmI l A i out) (hc : l[i]? = some c) (h64 : c.toNat = 64) (hp : prevN l i = false) (hE : endN l i = E) (b : Bool)
    (hb : b = (th0 i E || decide (mid l (i + 1) E ∈ out))) : NmI l A (i + 1) (if b then out else out ++ [mid l (i + 1) E]) := by
  by_cases ht : th0 i E = true
  · rw [ht] at hb
    rw [hb, Bool.true_or, if_pos rfl]
    refine h.skip hc (fun e => ?_)
    rw [hE] at e
    unfold th0 at ht
    simp at ht
    omega
  · have ht' : th0 i E = false := by simpa using ht
    rw [ht', Bool.false_or] at hb
    have h2 := h.take hc ⟨h64, hp, by rw [hE]; unfold th0 at ht'; simp at ht'; omega, by rw [hE]; unfold th0 at ht'; simp at ht'; omega⟩
    rw [hE] at h2
    unfold addN at h2
    by_cases hm : mid l (i + 1) E ∈ out
    · rw [if_pos hm] at h2
      rw [hb, decide_eq_true hm, if_pos rfl]
      exact h2
    · rw [if_neg hm] at h2
      rw [hb, decide_eq_false hm, if_neg (by simp)]
      exact h2
theorem take_mem {out : List BL} {q : Nat} {x X : BL} (h : out[q]? = some x) : decide (X ∈ out.take (q + 1)) = (decide (X ∈ out.take q) || decide (x = X)) := by
  rw [List.take_add_one, h]
  simp [eq_comm]
set_option maxRecDepth 100000 in
set_option maxHeartbeats 4000000 in
theorem rnamed_any (s : ByteArray) (n : Nat) (hn : s.size = n) (hs : n ≤ 1000000) (w : World) : Calls Tryd.prog 18 #[.string s] w fun e w' => (∃ v, e = .returned v ∧ OwnL w' w.heap.size v (namedL s.data.toList)) ∧ Below w.heap.size w w' := by
  obtain ⟨i0, hi, hz0, hz1, hz2⟩ := info_parts info_str
  obtain ⟨A, hA⟩ : ∃ A, namedL s.data.toList = A := ⟨_, rfl⟩
  rw [hA]
  have hln : s.data.toList.length = n := by rw [← Lib.size_eq]; exact hn
  go_enter Tryd.func18, Tryd.ntmps18
  go_wp2_with fail
  go_loopw [3, 4] (fun v j wr => ∃ (i : Nat) (out : List BL), j = .int .i64 i ∧ OwnL wr w.heap.size v out ∧ Hid (NmI s.data.toList A i out) ∧ out.length ≤ i ∧ i ≤ n ∧ Below w.heap.size w wr) (fun _ j _ => n - (intOf j).toNat)
  case atStart => exact ⟨0, [], rfl, World.ownsRow_nil _ _ _ _, Lib.hid hA, by simp, by omega, Below.refl _ _⟩
  case round =>
    obtain ⟨i, out, rfl, hown, hW, hol, hin, hb⟩ := hrel
    have i0' : (0 : Int) ≤ (i : Int) := by omega
    have i9 : (i : Int) ≤ 1000001 := by omega
    have ho1 : out.length ≤ 1000001 := by omega
    clear hA
    rcases Nat.lt_or_ge i n with h1 | h1
    · have hz : (i : Int) < (n : Int) := by omega
      obtain ⟨c, hc⟩ : ∃ c, s.data.toList[i]? = some c := ⟨_, List.getElem?_eq_getElem (by omega)⟩
      have hlt2 : i < s.size := by omega
      have hgi := get_at s i c hc hlt2
      have hgm : (s[i]'hlt2).toNat = c.toNat := by rw [hgi]
      obtain ⟨m, hm⟩ : ∃ m, c.toNat = m := ⟨_, rfl⟩
      rw [hm] at hgm
      clear hgi
      by_cases h64 : m = 64
      · subst h64
        obtain ⟨E, hE⟩ : ∃ E, endN s.data.toList i = E := ⟨_, rfl⟩
        have hE1 : E ≤ n := by rw [← hE, ← hln]; exact endN_le _ _ (by omega)
        have hE0 : i + 1 ≤ E := by rw [← hE]; unfold endN; omega
        obtain ⟨pv, hpv⟩ : ∃ pv, prevN s.data.toList i = pv := ⟨_, rfl⟩
        go_upto_region 5 with fail
        go_cut [28] from 8 to 81 (fun v wx => v = .bool pv ∧ wx = wr)
        case first =>
          rcases Nat.eq_zero_or_pos i with h0 | h0
          · have hpf : pv = false := by rw [← hpv, h0]; rfl
            subst hpf
            have z0 : ¬ (0 : Int) < (i : Int) := by omega
            clear hm hc hW hE hE0 hE1 hpv h0
            go_wp2_with fail
            go_meet
            case rel => exact ⟨rfl, rfl⟩
          · obtain ⟨i', hi'⟩ : ∃ i', i = i' + 1 := ⟨i - 1, by omega⟩
            have z0 : (0 : Int) < (i : Int) := by omega
            have zI : (i : Int) - 1 = (i' : Int) := by omega
            obtain ⟨c', hc'⟩ : ∃ c, s.data.toList[i']? = some c := ⟨_, List.getElem?_eq_getElem (by omega)⟩
            have hpf : pv = isN c' := by rw [← hpv, hi']; exact prevN_succ _ _ _ hc'
            have hlt2' : i' < s.size := by omega
            have hgm' : (s[i']'hlt2').toNat = c'.toNat := by rw [get_at s i' c' hc' hlt2']
            obtain ⟨m', hm'⟩ : ∃ m, c'.toNat = m := ⟨_, rfl⟩
            rw [hm'] at hgm'
            have k0 : (0 : Int) ≤ (i' : Int) := by omega
            have k1 : (i' : Int) < (n : Int) := by omega
            have cN : Calls Tryd.prog 40 #[.int .u8 (m' : Int)] wr fun e w' => e = .returned (.bool (isN c')) ∧ wr = w' := hm' ▸ named_any c' wr
            subst hpf
            clear hm hc hW hE hE0 hE1 hpv h0 hi' hc' hm'
            go_wp2_with fail
            refine (cN).mono ?_
            rintro e wx ⟨rfl, rfl⟩
            go_wp2_with fail
            go_meet
            case rel => exact ⟨rfl, rfl⟩
        case rest =>
          obtain ⟨rfl, rfl⟩ := hcut
          cases pv with
          | true =>
            have hI := hW.out.skip hc (fun e => by rw [hpv] at e; exact Bool.noConfusion e.2.1)
            have HI := Lib.hid hI
            clear hI
            clear hm hc hW hE hE0 hE1 hpv
            go_wp2_with fail
            go_roundw
            case rel => exact ⟨i + 1, out, by go_num, hown, HI, by omega, by omega, hb⟩
            case measure => (simp [intOf] <;> omega)
          | false =>
            have hfin := NmI.fin hW.out hc hm hpv hE
            have HF := Lib.hid hfin
            clear hfin
            have HE := Lib.hid hE
            clear hE
            clear hm hc hW hpv
            go_upto_block 2 with fail
            go_cut [5] from 8 to 81 (fun k wx => k = .int .i64 E ∧ wx = wc)
            case first =>
              go_wp2_with fail
              go_loopw [5] (fun v wx => ∃ k : Nat, v = .int .i64 k ∧ k ≤ E ∧ i + 1 ≤ k ∧ Hid (k + runN (s.data.toList.drop k) = E) ∧ wx = wc) (fun v _ => n - (intOf v).toNat)
              case atStart => exact ⟨i + 1, by go_num, hE0, Nat.le_refl _, Lib.hid (by have := HE.out; unfold endN at this; exact this), by first | rfl | trivial⟩
              case round =>
                obtain ⟨k, rfl, hkE, hk0, hkr, hw⟩ := hrel
                subst hw
                have k0 : (0 : Int) ≤ (k : Int) := by omega
                have k9 : (k : Int) ≤ 1000001 := by omega
                rcases Nat.lt_or_ge k n with hk | hk
                · have k1 : (k : Int) < (n : Int) := by omega
                  obtain ⟨c2, hc2⟩ : ∃ c, s.data.toList[k]? = some c := ⟨_, List.getElem?_eq_getElem (by omega)⟩
                  have hlt3 : k < s.size := by omega
                  have hgm2 : (s[k]'hlt3).toNat = c2.toNat := by rw [get_at s k c2 hc2 hlt3]
                  obtain ⟨m2, hm2⟩ : ∃ m, c2.toNat = m := ⟨_, rfl⟩
                  rw [hm2] at hgm2
                  have hr2 := hkr.out
                  rw [runN_step _ _ _ hc2] at hr2
                  have cN : Calls Tryd.prog 40 #[.int .u8 (m2 : Int)] wr fun e w' => e = .returned (.bool (isN c2)) ∧ wr = w' := hm2 ▸ named_any c2 wr
                  cases hb2 : isN c2
                  · rw [hb2] at hr2 cN
                    obtain rfl : k = E := by simpa using hr2
                    clear hr2 hkr hc2 hm2 hb2
                    go_wp2_with fail
                    refine (cN).mono ?_
                    rintro e wx ⟨rfl, rfl⟩
                    go_wp2_with fail
                    go_meet
                    case rel => exact ⟨rfl, rfl⟩
                  · rw [hb2] at hr2 cN
                    simp only [if_true] at hr2
                    have hr3 : Hid ((k + 1) + runN (s.data.toList.drop (k + 1)) = E) := Lib.hid (by omega)
                    have hkE2 : k + 1 ≤ E := by omega
                    clear hr2 hkr hc2 hm2 hb2
                    go_wp2_with fail
                    refine (cN).mono ?_
                    rintro e wx ⟨rfl, rfl⟩
                    go_wp2_with fail
                    go_roundw
                    case rel => exact ⟨k + 1, by go_num, hkE2, by omega, hr3, by first | rfl | trivial⟩
                    case measure => (simp [intOf] <;> omega)
                · have k1 : ¬ (k : Int) < (n : Int) := by omega
                  obtain rfl : k = E := by omega
                  clear hkr
                  go_wp2_with fail
                  go_meet
                  case rel => exact ⟨rfl, rfl⟩
            case rest =>
              obtain ⟨rfl, rfl⟩ := hcut
              have e9 : (E : Int) ≤ 1000001 := by omega
              obtain ⟨T, hT⟩ : ∃ T, th0 i E = T := ⟨_, rfl⟩
              rw [hT] at HF
              go_upto_region 9 with fail
              go_cut [6] from 8 to 81 (fun t wx => t = .bool T ∧ wx = wc)
              case first =>
                by_cases a1 : E = i + 1
                · have a2 : (E : Int) = (i : Int) + 1 := by omega
                  have hTt : T = true := by rw [← hT]; simp [th0, a1]
                  subst hTt
                  clear hT HF HE
                  go_wp2_with fail
                  go_meet
                  case rel => exact ⟨rfl, rfl⟩
                · have a2 : ¬ (E : Int) = (i : Int) + 1 := by omega
                  by_cases a3 : i + 17 < E
                  · have a4 : (i : Int) + 17 < (E : Int) := by omega
                    have hTt : T = true := by rw [← hT]; simp [th0, a3]
                    subst hTt
                    clear hT HF HE
                    go_wp2_with fail
                    go_meet
                    case rel => exact ⟨rfl, rfl⟩
                  · have a4 : ¬ (i : Int) + 17 < (E : Int) := by omega
                    have hTt : T = false := by rw [← hT]; simp [th0, a3, a1]
                    subst hTt
                    clear hT HF HE
                    go_wp2_with fail
                    go_meet
                    case rel => exact ⟨by rw [show ((E : Int) == (i : Int) + 1) = false by rw [beq_eq_false_iff_ne]; exact a2], rfl⟩
              case rest =>
                obtain ⟨rfl, rfl⟩ := hcut
                clear hT
                obtain ⟨ao, cap, rfl, -⟩ := hown.strS
                obtain ⟨L, hL⟩ : ∃ L, out.length = L := ⟨_, rfl⟩
                obtain ⟨X, hX⟩ : ∃ X, mid s.data.toList (i + 1) E = X := ⟨_, rfl⟩
                have hxe : s.extract (i + 1) E = mkS X := by rw [ext_mid, hX]
                rw [hL] at hown ⊢
                rw [hX] at HF
                go_upto_block 4 with fail
                go_cut [6] from 8 to 81 (fun t wx => ∃ b, t = .bool b ∧ Hid (b = (T || decide (X ∈ out))) ∧ OwnL wx w.heap.size (.slice ao L cap) out ∧ Below w.heap.size w wx)
                case first =>
                  go_wp2_with fail
                  clear HE HF hX e9
                  have hiE : (i : Int) + 1 ≤ (E : Int) := by omega
                  have hEn : (E : Int) ≤ (n : Int) := by omega
                  go_loopw [6, 7] (fun t j wx => ∃ (q : Nat) (b : Bool), t = .bool b ∧ j = .int .i64 q ∧ q ≤ L ∧ Hid (b = (T || decide (X ∈ out.take q))) ∧ OwnL wx w.heap.size (.slice ao L cap) out ∧ Below w.heap.size w wx) (fun _ j _ => L - (intOf j).toNat)
                  case atStart => exact ⟨0, T, rfl, rfl, Nat.zero_le _, Lib.hid (by simp), hown, hb⟩
                  case round =>
                    obtain ⟨q, b, rfl, rfl, hq, hbq, hown2, hb2⟩ := hrel
                    have q0 : (0 : Int) ≤ (q : Int) := by omega
                    have q9 : (q : Int) ≤ 1000001 := by omega
                    rcases Nat.lt_or_ge q L with hql | hql
                    · have q1 : (q : Int) < (L : Int) := by omega
                      obtain ⟨x, hx⟩ : ∃ x, out[q]? = some x := ⟨_, List.getElem?_eq_getElem (by omega)⟩
                      have htm := take_mem (X := X) hx
                      have oN : ∀ k, OwnL (wr.drewN k) w.heap.size (.slice ao L cap) out := fun k => hown2.step (below_dn (Below.refl _ _) k)
                      have bN : ∀ k, Below w.heap.size w (wr.drewN k) := fun k => below_dn hb2 k
                      cases b with
                      | true =>
                        have hb3 : Hid (true = (T || decide (X ∈ out.take (q + 1)))) := Lib.hid (by rw [htm, ← Bool.or_assoc, ← hbq.out, Bool.true_or])
                        clear hbq htm hx
                        go_upto_region 13 with fail
                        go_quiet (fail)
                        go_wp2_with fail
                        (try simp only [Exit.inBlock, Exit.then])
                        go_wp2_with fail
                        go_roundw
                        case rel => exact ⟨q + 1, true, by go_num, by go_num, by omega, hb3, oN nq, bN nq⟩
                        case measure => (simp [intOf] <;> omega)
                      | false =>
                        obtain ⟨ao', cap', hv, hcs⟩ := hown2.strS
                        obtain ⟨g, hg, hcell⟩ := hcs q x hx
                        cases hv
                        subst hg
                        have cN2 : ∀ k, (wr.drewN k).cell? ⟨g, q, none⟩ = some (.string (mkS x)) := fun k => ((below_dn (Below.refl wr.heap.size wr) k).cell (World.block_lt_of_cell? wr _ hcell)).trans hcell
                        clear hcs
                        by_cases hxX : x = X
                        · have e1 : ((mkS x).toList == (mkS X).toList) = true := by rw [hxX]; exact beq_self_eq_true _
                          have hb3 : Hid (true = (T || decide (X ∈ out.take (q + 1)))) := Lib.hid (by rw [htm, decide_eq_true hxX]; simp)
                          clear hbq htm hx hxX
                          go_upto_region 13 with fail
                          go_quiet (fail)
                          go_wp2_with fail
                          (try simp only [Exit.inBlock, Exit.then])
                          go_wp2_with fail
                          go_roundw
                          case rel => exact ⟨q + 1, true, by go_num, by go_num, by omega, hb3, oN nq, bN nq⟩
                          case measure => (simp [intOf] <;> omega)
                        · have e1 : ((mkS x).toList == (mkS X).toList) = false := by
                            rw [beq_eq_false_iff_ne]; exact fun e => hxX (by rw [Lib.toList_data, Lib.toList_data, mkS_data, mkS_data] at e; exact e)
                          have hb3 : Hid (false = (T || decide (X ∈ out.take (q + 1)))) := Lib.hid (by rw [htm, decide_eq_false hxX, Bool.or_false]; exact hbq.out)
                          clear hbq htm hx hxX
                          go_upto_region 13 with fail
                          go_quiet (fail)
                          go_wp2_with fail
                          (try simp only [Exit.inBlock, Exit.then])
                          go_wp2_with fail
                          go_roundw
                          case rel => exact ⟨q + 1, false, by go_num, by go_num, by omega, hb3, oN nq, bN nq⟩
                          case measure => (simp [intOf] <;> omega)
                    · have q1 : ¬ (q : Int) < (L : Int) := by omega
                      have hb3 : Hid (b = (T || decide (X ∈ out))) := Lib.hid (by rw [hbq.out, List.take_of_length_le (by omega)])
                      clear hbq
                      go_wp2_with fail
                      go_meet
                      case rel => exact ⟨b, rfl, hb3, hown2, hb2⟩
                case rest =>
                  obtain ⟨b, rfl, hbX, hown2, hb2⟩ := hcut
                  have hN := HF.out b hbX.out
                  clear hbX HF HE hX hown hb
                  cases b with
                  | true =>
                    rw [if_pos rfl] at hN
                    have HN := Lib.hid hN
                    clear hN
                    go_wp2_with fail
                    go_roundw
                    case rel => exact ⟨i + 1, out, by go_num, hown2, HN, by omega, by omega, hb2⟩
                    case measure => (simp [intOf] <;> omega)
                  | false =>
                    rw [if_neg (by simp)] at hN
                    have HN := Lib.hid hN
                    clear hN
                    have hiE : (i : Int) + 1 ≤ (E : Int) := by omega
                    have hEn : (E : Int) ≤ (n : Int) := by omega
                    have hown3 : wc.ownsRow w.heap.size 9 1 (.slice ao L cap) L (strL out) := by unfold OwnL at hown2; rw [hL] at hown2; exact hown2
                    clear hown2
                    go_wp2_with (at_builtin; refine wpList_append_own _ rfl _ _ 28 rfl w.heap.size 9 i0 (.string ⟨#[]⟩) 1 16 Tryd.underlying28 hi hz0 hz1 hz2 rfl (by decide) _ _ _ rfl (World.ownsRow.alloc hown3 _) ⟨wc.heap.size, 0, none⟩ 1 1 [.string (mkS X)] rfl rfl (Blk.new' rfl 9 [.string (mkS X)]).news (by simp [Value.oneCell']) (by unfold maxLen; omega) (by omega) (by have := hb2.size; simp; omega) ?_)
                    intro v' w1 hown' hgrow _
                    have hb' := (hb2.alloc hb2.size (.cells #[.string (mkS X)] 9)).grown hgrow (by have := hb2.size; simp; omega) (fun k e => (World.ownsRow.lt hown3 k e).1)
                    have hown4 : Hid (OwnL w1 w.heap.size v' (out ++ [X])) := Lib.hid (OwnL.snoc (by rw [hL]; exact hown'))
                    clear hown' hgrow hown3 hb2
                    go_wp2_with fail
                    go_roundw
                    case rel => exact ⟨i + 1, out ++ [X], by go_num, hown4.out, HN, by simp; omega, by omega, hb'⟩
                    case measure => (simp [intOf] <;> omega)
      · have hI := hW.out.skip hc (fun e => h64 (by rw [← hm]; exact e.1))
        have HI := Lib.hid hI
        clear hI
        have h32' : ((m : Int) != 64) = true := by rw [bne_iff_ne]; omega
        clear hm hc hW h64
        go_wp2_with fail
        go_roundw
        case rel => exact ⟨i + 1, out, by go_num, hown, HI, by omega, by omega, hb⟩
        case measure => (simp [intOf] <;> omega)
    · have hz : ¬ (i : Int) < (n : Int) := by omega
      obtain rfl : i = n := by omega
      have hA2 : out = A := by
        have := hW.out
        rw [← hln] at this
        exact this.last
      subst hA2
      clear hW
      go_wp2_with fail
      go_ret
      exact ⟨⟨_, rfl, hown⟩, hb⟩
end Go.Proofs.YtehjglaofhgjfaaDoor
