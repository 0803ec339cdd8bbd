
/- Law 7: works. -/
import Derived.Test.YtceoehjjebkgpaaDkO
namespace Go.Proofs.Ytceoehjjebkgpaa
set_option linter.unusedSimpArgs false
set_option linter.unusedVariables false
set_option linter.unusedSimpArgs false
set_option linter.unusedVariables false
open Go.RowKit Go.Maps
/-- A disk with the file 'a' alone. -/
def OneW (W : World) (d mb : Nat) (D : Ds) (bs : BL) (s : Int) : Prop := ∃ m : Fm, DkW W d mb D [(aS, m)] ∧ m.b = bs ∧ m.s = s
theorem OneW.step {W W' : World} {d mb : Nat} {D : Ds} {bs : BL} {s : Int} (h : OneW W d mb D bs s) (hb : Below W.heap.size W W') : OneW W' d mb D bs s := by
  obtain ⟨m, h1, h2⟩ := h
  exact ⟨m, h1.step hb, h2⟩
theorem OneW.lt {W : World} {d mb : Nat} {D : Ds} {bs : BL} {s : Int} (h : OneW W d mb D bs s) : d < W.heap.size := by
  obtain ⟨m, h1, h2⟩ := h
  exact h1.lt
structure Small (D : Ds) (n : Nat) : Prop where
  r1 : 1 ≤ D.room
  r2 : D.room ≤ 16777216
  u : (n : Int) ≤ D.room
  a1 : 0 ≤ D.after
  a2 : D.after ≤ 9223372036854775807
theorem Small.one {D : Ds} {m : Fm} (h : Small D m.b.length) : GoodD D [(aS, m)] := good_one (by have := h.r1; omega) h.r2 h.u h.a1 h.a2
theorem one_app (d mb : Nat) (D : Ds) (bs y : BL) (s : Int) (bo : Option Addr) (cb : Nat) (w : World) (h : OneW w d mb D bs s) (hG : Small D bs.length) (hy : ByAt w bo y) (hr : (y.length : Int) ≤ D.room - bs.length) (hd : D.dead = false) (hst : D.stop = false ∨ D.after ≠ 0) :
    Calls Try.prog 8 #[.pointer (some ⟨d, 0, none⟩), .string aS, .slice bo y.length cb] w fun e w' => (e = .returned (.int .i64 0) ∧ OneW w' d mb (goD D) (bs ++ y) s) ∧ Kx [d, mb] w w' := by
  obtain ⟨m, h1, rfl, rfl⟩ := h
  have := hG.r2
  refine (dapp_do d mb D _ aS bo y cb w h1 hG.one ok_a hy (by omega) nm_a (by rw [used_one]; exact hr) h1 hd hst).mono ?_
  rintro e w' ⟨rfl, ⟨m2, h2, e1, e2, -⟩, hk⟩
  rw [get_one] at e1 e2
  rw [put_one] at h2
  exact ⟨⟨rfl, m2, h2, e1, e2⟩, hk⟩
theorem one_app0 (d mb : Nat) (D : Ds) (y : BL) (bo : Option Addr) (cb : Nat) (w : World) (h : DkW w d mb D []) (h1 : 0 ≤ D.room) (h2 : D.room ≤ 16777216) (h3 : 0 ≤ D.after) (h4 : D.after ≤ 9223372036854775807) (hy : ByAt w bo y) (hr : (y.length : Int) ≤ D.room) (hd : D.dead = false) (hst : D.stop = false ∨ D.after ≠ 0) :
    Calls Try.prog 8 #[.pointer (some ⟨d, 0, none⟩), .string aS, .slice bo y.length cb] w fun e w' => (e = .returned (.int .i64 0) ∧ OneW w' d mb (goD D) y 0) ∧ Kx [d, mb] w w' := by
  refine (dapp_do d mb D _ aS bo y cb w h (good_zero h1 h2 h3 h4) ok_a hy (by omega) nm_a (by simpa [usedN] using hr) h hd hst).mono ?_
  rintro e w' ⟨rfl, ⟨m2, h2, e1, e2, -⟩, hk⟩
  exact ⟨⟨rfl, m2, h2, e1, e2⟩, hk⟩
theorem one_room (d mb : Nat) (D : Ds) (bs y : BL) (s : Int) (nm : ByteArray) (bo : Option Addr) (cb : Nat) (w : World) (h : OneW w d mb D bs s) (hG : Small D bs.length) (hn : nmB nm = true) (hyl : y.length ≤ 16777216) (hr : D.room - bs.length < (y.length : Int)) :
    Calls Try.prog 8 #[.pointer (some ⟨d, 0, none⟩), .string nm, .slice bo y.length cb] w fun e w' => e = .returned (.int .i64 171) ∧ Below w.heap.size w w' := by
  obtain ⟨m, h1, rfl, rfl⟩ := h
  exact dapp_room d mb D _ nm bo y cb w h1 hG.one (nm_ok hn) hyl hn (by rw [used_one]; exact hr)
theorem one_sync (d mb : Nat) (D : Ds) (bs : BL) (s : Int) (w : World) (h : OneW w d mb D bs s) (hG : Small D bs.length) (hd : D.dead = false) (hst : D.stop = false ∨ D.after ≠ 0) :
    Calls Try.prog 20 #[.pointer (some ⟨d, 0, none⟩), .string aS] w fun e w' => (e = .returned (.int .i64 0) ∧ OneW w' d mb (goD D) bs bs.length) ∧ Kx [d, mb] w w' := by
  obtain ⟨m, h1, rfl, rfl⟩ := h
  obtain ⟨e1, e2⟩ := file_one m nm_a
  refine (dsync_do d mb D _ aS w h1 hG.one ok_a e2 hd hst).mono ?_
  rintro e w' ⟨rfl, h2, hk⟩
  rw [e1, put_one] at h2
  exact ⟨⟨rfl, _, h2, rfl, rfl⟩, hk⟩
theorem one_syncx (d mb : Nat) (D : Ds) (bs : BL) (s : Int) (w : World) (h : OneW w d mb D bs s) (hd : D.dead = false) (hst : D.stop = true) (ha : D.after = 0) :
    Calls Try.prog 20 #[.pointer (some ⟨d, 0, none⟩), .string aS] w fun e w' => (e = .returned (.int .i64 172) ∧ OneW w' d mb (dieD D) bs s) ∧ Kx [d] w w' := by
  obtain ⟨m, h1, rfl, rfl⟩ := h
  obtain ⟨e1, e2⟩ := file_one m nm_a
  refine (dsync_die d mb D _ aS w h1 ok_a e2 hd hst ha).mono ?_
  rintro e w' ⟨rfl, h2, hk⟩
  exact ⟨⟨rfl, _, h2, rfl, rfl⟩, hk⟩
theorem one_stop (d mb : Nat) (D : Ds) (bs : BL) (s n : Int) (w : World) (h : OneW w d mb D bs s) (hn : 0 ≤ n) (hd : D.dead = false) :
    Calls Try.prog 13 #[.pointer (some ⟨d, 0, none⟩), .int .i64 n] w fun e w' => (e = .returned (.int .i64 0) ∧ OneW w' d mb (stopD D n) bs s) ∧ Kx [d] w w' := by
  obtain ⟨m, h1, rfl, rfl⟩ := h
  refine (dstop_ok d mb D _ n w h1 hn hd).mono ?_
  rintro e w' ⟨rfl, h2, hk⟩
  exact ⟨⟨rfl, _, h2, rfl, rfl⟩, hk⟩
theorem one_cutr (d mb : Nat) (D : Ds) (bs : BL) (s n : Int) (w : World) (h : OneW w d mb D bs s) (hr : n < 0 ∨ (bs.length : Int) < n) :
    Calls Try.prog 21 #[.pointer (some ⟨d, 0, none⟩), .string aS, .int .i64 n] w fun e w' => e = .returned (.int .i64 4) ∧ Below w.heap.size w w' := by
  obtain ⟨m, h1, rfl, rfl⟩ := h
  obtain ⟨e1, e2⟩ := file_one m nm_a
  exact dcut_range d mb D _ aS n w h1 ok_a e2 (by rw [e1]; exact hr)
theorem one_cutd (d mb : Nat) (D : Ds) (bs : BL) (s n : Int) (w : World) (h : OneW w d mb D bs s) (h0 : 0 ≤ n) (hr : n ≤ (bs.length : Int)) (hd : D.dead = true) :
    Calls Try.prog 21 #[.pointer (some ⟨d, 0, none⟩), .string aS, .int .i64 n] w fun e w' => e = .returned (.int .i64 172) ∧ Below w.heap.size w w' := by
  obtain ⟨m, h1, rfl, rfl⟩ := h
  obtain ⟨e1, e2⟩ := file_one m nm_a
  exact dcut_dead d mb D _ aS n w h1 ok_a e2 h0 (by rw [e1]; exact hr) hd
theorem one_read (d mb : Nat) (D : Ds) (bs : BL) (s : Int) (w : World) (h : OneW w d mb D bs s) (hG : Small D bs.length) :
    Calls Try.prog 10 #[.pointer (some ⟨d, 0, none⟩), .string aS] w fun e w' => (∃ ao2 c2, e = .returned (.tuple #[.slice ao2 bs.length c2, .int .i64 0]) ∧ BySl w' ao2 bs) ∧ Below w.heap.size w w' := by
  obtain ⟨m, h1, rfl, rfl⟩ := h
  obtain ⟨e1, e2⟩ := file_one m nm_a
  refine (dread_any d mb D _ aS w h1 hG.one ok_a).mono ?_
  rw [e1, e2]
  exact fun _ _ h => h
theorem one_dead (d mb : Nat) (D : Ds) (bs : BL) (s : Int) (w : World) (h : OneW w d mb D bs s) : Calls Try.prog 15 #[.pointer (some ⟨d, 0, none⟩)] w fun e w' => e = .returned (.bool D.dead) ∧ w = w' := by
  obtain ⟨m, h1, rfl, rfl⟩ := h
  exact ddead_any d mb D _ w h1
theorem one_left (d mb : Nat) (D : Ds) (bs : BL) (s : Int) (po : Option Addr) (picks : List Int) (cp : Nat) (w : World) (r : ByteArray) (h : OneW w d mb D bs s) (hG : Small D bs.length) (hS : 0 ≤ s ∧ s ≤ bs.length) (hp : HasInt w po picks) (hpl : picks.length ≤ 1000000)
    (hr : mkS (bs.take (crN picks 0 (aS, ⟨none, 0, bs, s⟩)).toNat) = r) :
    Calls Try.prog 22 #[.pointer (some ⟨d, 0, none⟩), .string aS, .slice po picks.length cp] w fun e w' => e = .returned (.string r) ∧ Below w.heap.size w w' := by
  obtain ⟨m, h1, rfl, rfl⟩ := h
  exact left1 d mb D m po picks cp w r h1 hG.one hG.r1 hS hp hpl hr
end Go.Proofs.Ytceoehjjebkgpaa
