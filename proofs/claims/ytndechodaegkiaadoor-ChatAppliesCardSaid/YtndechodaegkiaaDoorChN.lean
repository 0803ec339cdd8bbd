
/- The document's talk: whether an entry would count. -/
import Derived.Test.YtndechodaegkiaaDoorChM
namespace Go.Proofs.YtndechodaegkiaaDoor
open Go.RowKit
def rcB (s : St) (e : En) : Bool := if e.k = 2 then !s.inn else if e.k = 3 then s.inn else if e.k = 4 then nextB s e else false
def rwB (L : List Ln) (e : En) : Bool := rightE e && rcB (stOf e.m L) e
set_option maxRecDepth 100000 in
set_option maxHeartbeats 1000000 in
theorem refWould_any (L : List Ln) (ao : Option Addr) (c : Nat) (sl : Int) (e : En) (w : World) (hL : HasL w ao L) (hn : L.length ≤ 5000) (hs : e.s.size ≤ 9223372036854775807) :
    Calls Tryd.prog 32 #[.agg #[.int .i64 sl, .slice ao L.length c], enV e] w fun r w' => r = .returned (.bool (rwB L e)) ∧ Below w.heap.size w w' := by
  obtain ⟨N, hN⟩ : ∃ N, L.length = N := ⟨_, rfl⟩
  obtain ⟨k, m, q, s⟩ := e
  have cR := fun W => ref14_any k m q s W hs
  rw [hN]
  cases hr : entB k m q s
  · rw [hr] at cR
    have hw : rwB L ⟨k, m, q, s⟩ = false := by simp [rwB, rightE, hr]
    rw [hw]
    change Calls Tryd.prog 32 #[.agg #[.int .i64 sl, .slice ao N c], .agg #[.int .i64 k, .int .i64 m, .int .i64 q, .string s]] w fun r w' => r = .returned (.bool false) ∧ Below w.heap.size w w'
    go_enter Tryd.func32, Tryd.ntmps32
    go_upto_region 1 with fail
    obtain ⟨XT, XE, hb, hz⟩ := two w 49 26 #[.int .i64 sl, .slice ao N c] #[.int .i64 k, .int .i64 m, .int .i64 q, .string s]
    generalize (w.alloc (.cells #[.int .i64 sl, .slice ao N c] 49)).alloc (.cells #[.int .i64 k, .int .i64 m, .int .i64 q, .string s] 26) = W at *
    obtain ⟨g0, hg0⟩ : ∃ g, w.heap.size = g := ⟨_, rfl⟩
    rw [hg0] at XT XE hb hz
    have e0 := XE.cell (j := 0) rfl
    have e1 := XE.cell (j := 1) rfl
    have e2 := XE.cell (j := 2) rfl
    have e3 := XE.cell (j := 3) rfl
    go_wp2_with fail
    refine (cR W).mono ?_
    rintro e w2 ⟨rfl, hb2⟩
    have hb5 := hb.trans (hb2.mono (by omega))
    go_wp2
    go_ret
    exact ⟨rfl, by rw [hg0]; exact hb5⟩
  · rw [hr] at cR
    have cO := fun W (hW : HasL W ao L) => refOf_any L ao c sl m W hW hn
    rw [hN] at cO
    have hw : rwB L ⟨k, m, q, s⟩ = rcB (stOf m L) ⟨k, m, q, s⟩ := by simp [rwB, rightE, hr]
    rw [hw]
    generalize stOf m L = S at cO ⊢
    obtain ⟨x, y, z⟩ := S
    change ∀ W, HasL W ao L → Calls Tryd.prog 26 #[.agg #[.int .i64 sl, .slice ao N c], .int .i64 m] W fun r w' => r = .returned (.agg #[.bool x, .int .i64 y, .int .i64 z]) ∧ Below W.heap.size W w' at cO
    obtain ⟨R, hR⟩ : ∃ R, rcB ⟨x, y, z⟩ ⟨k, m, q, s⟩ = R := ⟨_, rfl⟩
    rw [hR]
    change Calls Tryd.prog 32 #[.agg #[.int .i64 sl, .slice ao N c], .agg #[.int .i64 k, .int .i64 m, .int .i64 q, .string s]] w fun r w' => r = .returned (.bool R) ∧ Below w.heap.size w w'
    have HR := Lib.hid hR
    clear hR
    go_enter Tryd.func32, Tryd.ntmps32
    go_upto_region 1 with fail
    obtain ⟨XT, XE, hb, hz⟩ := two w 49 26 #[.int .i64 sl, .slice ao N c] #[.int .i64 k, .int .i64 m, .int .i64 q, .string s]
    generalize (w.alloc (.cells #[.int .i64 sl, .slice ao N c] 49)).alloc (.cells #[.int .i64 k, .int .i64 m, .int .i64 q, .string s] 26) = W at *
    obtain ⟨g0, hg0⟩ : ∃ g, w.heap.size = g := ⟨_, rfl⟩
    rw [hg0] at XT XE hb hz
    have e0 := XE.cell (j := 0) rfl
    have e1 := XE.cell (j := 1) rfl
    have e2 := XE.cell (j := 2) rfl
    have e3 := XE.cell (j := 3) rfl
    go_wp2_with fail
    refine (cR W).mono ?_
    rintro e w2 ⟨rfl, hb2⟩
    have hb3 := hb.trans (hb2.mono (by omega))
    have XE2 := XE.step hb2
    have XT2 := XT.step hb2
    clear e0 e1 e2 e3
    have e1 := XE2.cell (j := 1) rfl
    have t0 := XT2.cell (j := 0) rfl
    have t1 := XT2.cell (j := 1) rfl
    have hs2 := hb2.size
    go_wp2_with fail
    refine (cO w2 (hL.step (by rw [hg0]; exact hb3))).mono ?_
    rintro e w3 ⟨rfl, hb4⟩
    have hb5 := (hb3.trans (hb4.mono (by omega))).alloc (by have := hb4.size; omega) (.cells #[.bool x, .int .i64 y, .int .i64 z] 64)
    have XE3 := (XE2.step hb4).alloc (.cells #[.bool x, .int .i64 y, .int .i64 z] 64)
    have XS := Blk.newA' (W := w3) rfl 64 #[.bool x, .int .i64 y, .int .i64 z]
    clear e1 t0 t1 XE XE2 XT XT2 hb hb2 hb3 hb4 cO cR
    have e0 := XE3.cell (j := 0) rfl
    have e2 := XE3.cell (j := 2) rfl
    have s0 := XS.cell (j := 0) rfl
    have s2 := XS.cell (j := 2) rfl
    clear XE3 XS
    by_cases k2 : k = 2
    · subst k2
      obtain rfl : (!x) = R := by rw [← HR.out]; simp [rcB]
      go_wp2
      go_ret
      exact ⟨rfl, by rw [hg0]; exact hb5⟩
    · by_cases k3 : k = 3
      · subst k3
        obtain rfl : x = R := by rw [← HR.out]; simp [rcB]
        go_wp2
        go_ret
        exact ⟨rfl, by rw [hg0]; exact hb5⟩
      · by_cases k4 : k = 4
        · subst k4
          cases x
          · obtain rfl : false = R := by rw [← HR.out]; simp [rcB, nextB]
            go_wp2
            go_ret
            exact ⟨rfl, by rw [hg0]; exact hb5⟩
          · have hR' : (q == wrap64 (z + 1)) = R := by rw [← HR.out]; simp [rcB, nextB]
            go_wp2
            go_ret
            exact ⟨rfl, by rw [hg0]; exact hb5⟩
        · obtain rfl : false = R := by rw [← HR.out]; simp [rcB, k2, k3, k4]
          go_wp2
          go_ret
          exact ⟨rfl, by rw [hg0]; exact hb5⟩
end Go.Proofs.YtndechodaegkiaaDoor
