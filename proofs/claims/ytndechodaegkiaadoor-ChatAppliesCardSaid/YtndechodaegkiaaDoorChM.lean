
/- The document's talk: how a member stands. -/
import Derived.Test.YtndechodaegkiaaDoorChI
namespace Go.Proofs.YtndechodaegkiaaDoor
open Go.RowKit
def stStep (m : Int) (s : St) (i : Nat) (e : En) : St := if e.m ≠ m then s else if e.k = 2 then ⟨true, i, s.l⟩ else if e.k = 3 then ⟨false, s.j, s.l⟩ else if e.k = 4 then ⟨s.inn, s.j, e.n⟩ else s
def stF (m : Int) : List Ln → Nat → St → St
  | [], _, s => s
  | x :: r, i, s => stF m r (i + 1) (stStep m s i x.e)
def stOf (m : Int) (L : List Ln) : St := stF m L 0 z0
theorem stF_app (m : Int) (x : Ln) (L : List Ln) : ∀ (i : Nat) (s : St), stF m (L ++ [x]) i s = stStep m (stF m L i s) (i + L.length) x.e := by
  induction L with
  | nil => intro i s; rfl
  | cons a t ih => intro i s; simp only [List.cons_append, stF, List.length_cons]; rw [ih]; rw [show i + 1 + t.length = i + (t.length + 1) by omega]
theorem stOf_app (m : Int) (L : List Ln) (x : Ln) : stOf m (L ++ [x]) = stStep m (stOf m L) L.length x.e := by unfold stOf; rw [stF_app]; simp
theorem stF_at {m : Int} {L : List Ln} {j : Nat} {x : Ln} {s : St} (h : L[j]? = some x) : stF m (L.drop j) j s = stF m (L.drop (j + 1)) (j + 1) (stStep m s j x.e) := by
  obtain ⟨hj, he⟩ := List.getElem?_eq_some_iff.1 h
  rw [List.drop_eq_getElem_cons hj, he]; rfl
set_option maxRecDepth 100000 in
set_option maxHeartbeats 4000000 in
theorem refOf_any (L : List Ln) (ao : Option Addr) (c : Nat) (sl m : Int) (w : World) (hL : HasL w ao L) (hn : L.length ≤ 5000) :
    Calls Tryd.prog 26 #[.agg #[.int .i64 sl, .slice ao L.length c], .int .i64 m] w fun r w' => r = .returned (stV (stOf m L)) ∧ Below w.heap.size w w' := by
  obtain ⟨N, hN⟩ : ∃ N, L.length = N := ⟨_, rfl⟩
  have hNI : (N : Int) ≤ 5000 := by omega
  obtain ⟨R, hR⟩ : ∃ R, stOf m L = R := ⟨_, rfl⟩
  rw [hN, hR]
  obtain ⟨r1, r2, r3⟩ := R
  change Calls Tryd.prog 26 #[.agg #[.int .i64 sl, .slice ao N c], .int .i64 m] w fun r w' => r = .returned (.agg #[.bool r1, .int .i64 r2, .int .i64 r3]) ∧ Below w.heap.size w w'
  go_enter Tryd.func26, Tryd.ntmps26
  go_upto_region 2 with fail
  obtain ⟨X0, X1, X2, hb, hz⟩ := three w 49 64 64 #[.int .i64 sl, .slice ao N c] #[.bool false, .int .i64 0, .int .i64 0] #[.bool false, .int .i64 0, .int .i64 0]
  generalize ((w.alloc (.cells #[.int .i64 sl, .slice ao N c] 49)).alloc (.cells #[.bool false, .int .i64 0, .int .i64 0] 64)).alloc (.cells #[.bool false, .int .i64 0, .int .i64 0] 64) = W at *
  obtain ⟨g0, hg0⟩ : ∃ g, w.heap.size = g := ⟨_, rfl⟩
  rw [hg0] at X0 X1 X2 hb hz ⊢
  have h02 : g0 ≠ g0 + 1 + 1 := by omega
  have h12 : g0 + 1 ≠ g0 + 1 + 1 := by omega
  have hR0 : Hid (stF m (L.drop 0) 0 z0 = ⟨r1, r2, r3⟩) := Lib.hid hR
  clear hR
  have hrow : ∀ wr, Below g0 w wr → HasL wr ao L := fun wr h => hL.step (by rw [hg0]; exact h)
  clear hL
  go_wp2_with fail
  go_loopw [6] (fun i wr => ∃ (j : Nat) (s : St), i = .int .i64 j ∧ Blk wr g0 49 [.int .i64 sl, .slice ao N c] ∧ Blk wr (g0 + 1) 64 [.bool false, .int .i64 0, .int .i64 0] ∧ Blk wr (g0 + 1 + 1) 64 (stL s) ∧ Below g0 w wr ∧ j ≤ N ∧ Hid (stF m (L.drop j) j s = ⟨r1, r2, r3⟩)) (fun i _ => N - (intOf i).toNat)
  case atStart => exact ⟨0, z0, rfl, X0, X1, X2, hb, by omega, hR0⟩
  case round =>
    clear X0 X1 X2 hb hz hR0
    obtain ⟨j, s, rfl, X0, X1, X2, hb, hj, HR⟩ := hrel
    have q1 := X0.cell (j := 1) rfl
    have hgs : g0 ≤ wr.heap.size := by have := X2.lt; omega
    by_cases hlt : j < N
    · obtain ⟨x0, hx⟩ : ∃ x, L[j]? = some x := ⟨L[j], by simp [hN, hlt]⟩
      obtain ⟨b, off, rfl, -, -, p2, p3, p4, p5⟩ := hrow wr hb j x0 hx
      obtain ⟨xi, xl, e⟩ := x0
      obtain ⟨k, em, q, t⟩ := e
      obtain ⟨x, y, z⟩ := s
      simp only at p2 p3 p4 p5
      have hj0 : (0 : Int) ≤ (j : Int) := by omega
      have hj1 : (j : Int) < (N : Int) := by omega
      have XE := Blk.newA' (W := wr) rfl 26 #[.int .i64 k, .int .i64 em, .int .i64 q, .string t]
      have e0 := XE.cell (j := 0) rfl
      have e1 := XE.cell (j := 1) rfl
      have e2 := XE.cell (j := 2) rfl
      have X2a := X2.alloc (.cells #[.int .i64 k, .int .i64 em, .int .i64 q, .string t] 26)
      have f0 := X2a.frozen 0
      have f1 := X2a.frozen 1
      have f2 := X2a.frozen 2
      have s0 := X2a.cell (j := 0) rfl
      have s1 := X2a.cell (j := 1) rfl
      have s2 := X2a.cell (j := 2) rfl
      clear XE X2a
      by_cases hm : em = m
      · subst hm
        by_cases k2 : k = 2
        · subst k2
          have HR2 := HR.out
          rw [stF_at hx] at HR2
          have hS : stStep em ⟨x, y, z⟩ j ⟨2, em, q, t⟩ = ⟨true, j, z⟩ := by simp [stStep]
          simp only at HR2
          rw [hS] at HR2
          replace HR2 := Lib.hid HR2
          clear hS
          go_wp2
          go_roundw
          case rel => exact ⟨j + 1, ⟨true, j, z⟩, by go_num, ((X0.alloc _).other h02 _ _).other h02 _ _, ((X1.alloc _).other h12 _ _).other h12 _ _, ((X2.alloc _).set 0 _).set 1 _, ((hb.alloc hgs _).setCell (p := ⟨g0 + 1 + 1, 0, none⟩) (by simp; omega) _).setCell (p := ⟨g0 + 1 + 1, 1, none⟩) (by simp; omega) _, by omega, HR2⟩
          case measure => simp [intOf]; omega
        · by_cases k3 : k = 3
          · subst k3
            clear k2
            have HR2 := HR.out
            rw [stF_at hx] at HR2
            have hS : stStep em ⟨x, y, z⟩ j ⟨3, em, q, t⟩ = ⟨false, y, z⟩ := by simp [stStep]
            simp only at HR2
            rw [hS] at HR2
            replace HR2 := Lib.hid HR2
            clear hS
            go_wp2
            go_roundw
            case rel => exact ⟨j + 1, ⟨false, y, z⟩, by go_num, (X0.alloc _).other h02 _ _, (X1.alloc _).other h12 _ _, (X2.alloc _).set 0 _, (hb.alloc hgs _).setCell (p := ⟨g0 + 1 + 1, 0, none⟩) (by simp; omega) _, by omega, HR2⟩
            case measure => simp [intOf]; omega
          · by_cases k4 : k = 4
            · subst k4
              clear k2 k3
              have HR2 := HR.out
              rw [stF_at hx] at HR2
              have hS : stStep em ⟨x, y, z⟩ j ⟨4, em, q, t⟩ = ⟨x, y, q⟩ := by simp [stStep]
              simp only at HR2
              rw [hS] at HR2
              replace HR2 := Lib.hid HR2
              clear hS
              go_wp2
              go_roundw
              case rel => exact ⟨j + 1, ⟨x, y, q⟩, by go_num, (X0.alloc _).other h02 _ _, (X1.alloc _).other h12 _ _, (X2.alloc _).set 2 _, (hb.alloc hgs _).setCell (p := ⟨g0 + 1 + 1, 2, none⟩) (by simp; omega) _, by omega, HR2⟩
              case measure => simp [intOf]; omega
            · have HR2 := HR.out
              rw [stF_at hx] at HR2
              have hS : stStep em ⟨x, y, z⟩ j ⟨k, em, q, t⟩ = ⟨x, y, z⟩ := by simp [stStep, k2, k3, k4]
              simp only at HR2
              rw [hS] at HR2
              replace HR2 := Lib.hid HR2
              clear hS
              go_wp2
              go_roundw
              case rel => exact ⟨j + 1, ⟨x, y, z⟩, by go_num, X0.alloc _, X1.alloc _, X2.alloc _, hb.alloc hgs _, by omega, HR2⟩
              case measure => simp [intOf]; omega
      · have HR2 := HR.out
        rw [stF_at hx] at HR2
        have hS : stStep m ⟨x, y, z⟩ j ⟨k, em, q, t⟩ = ⟨x, y, z⟩ := by simp [stStep, hm]
        simp only at HR2
        rw [hS] at HR2
        replace HR2 := Lib.hid HR2
        clear hS
        go_wp2
        go_roundw
        case rel => exact ⟨j + 1, ⟨x, y, z⟩, by go_num, X0.alloc _, X1.alloc _, X2.alloc _, hb.alloc hgs _, by omega, HR2⟩
        case measure => simp [intOf]; omega
    · obtain rfl : j = N := by omega
      have HR2 := HR.out
      rw [List.drop_eq_nil_of_le (by omega)] at HR2
      obtain rfl : s = ⟨r1, r2, r3⟩ := HR2
      have s0 := X2.cell (j := 0) rfl
      have s1 := X2.cell (j := 1) rfl
      have s2 := X2.cell (j := 2) rfl
      have f0 := X1.frozen 0
      have f1 := X1.frozen 1
      have f2 := X1.frozen 2
      have t0 := X1.cell (j := 0) rfl
      have t1 := X1.cell (j := 1) rfl
      have t2 := X1.cell (j := 2) rfl
      go_wp2
      (try simp only [Exit.inBlock, Exit.then])
      refine bodyPost_ret (v := .agg #[.bool r1, .int .i64 r2, .int .i64 r3]) ?_ rfl ⟨rfl, ?_⟩
      · rw [results_cell1 rfl]
        go_simp
      ·
        exact ((hb.setCell (p := ⟨g0 + 1, 0, none⟩) (by simp) _).setCell (p := ⟨g0 + 1, 1, none⟩) (by simp) _).setCell (p := ⟨g0 + 1, 2, none⟩) (by simp) _
end Go.Proofs.YtndechodaegkiaaDoor
