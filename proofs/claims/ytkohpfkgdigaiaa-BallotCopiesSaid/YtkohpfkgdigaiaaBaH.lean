
/- Package ballot: votes. -/
import Derived.Test.YtkohpfkgdigaiaaBaG
namespace Go.Proofs.Ytkohpfkgdigaiaa
open Go.RowKit

/-- The votes at block g: the choir's number, then nine places. -/
def voteL (c : Int) (hs : List Bool) : List Value := .int .i64 c :: hs.map Value.bool
def VB (W : World) (g : Nat) (c : Int) (hs : List Bool) : Prop := Blk W g 80 (voteL c hs) ∧ hs.length = 9
theorem VB.c0 {W : World} {g : Nat} {c : Int} {hs : List Bool} (h : VB W g c hs) : W.cell? ⟨g, 0, none⟩ = some (.int .i64 c) := h.1.cell (j := 0) rfl
theorem VB.step {W W' : World} {g : Nat} {c : Int} {hs : List Bool} (h : VB W g c hs) (hb : Below W.heap.size W W') : VB W' g c hs := ⟨h.1.step hb, h.2⟩
theorem VB.at {W : World} {g : Nat} {c : Int} {hs : List Bool} (h : VB W g c hs) (k : Nat) (hk : k < 9) : W.cell? ⟨g, 1 + k, none⟩ = some (.bool (hs.getD k false)) := by
  refine h.1.cell (j := 1 + k) ?_
  have : k < hs.length := by rw [h.2]; exact hk
  rw [Nat.add_comm]
  simp [voteL, this]
theorem VB.set {W : World} {g : Nat} {c : Int} {hs : List Bool} (h : VB W g c hs) (k : Nat) : VB (W.setCell ⟨g, 1 + k, none⟩ (.bool true)) g c (hs.set k true) := by
  refine ⟨?_, by simp [h.2]⟩
  have := h.1.set (1 + k) (.bool true)
  rw [Nat.add_comm 1 k] at this ⊢
  simpa [voteL, List.set_cons_succ] using this

set_option maxRecDepth 100000 in
set_option maxHeartbeats 400000 in
theorem vnone_at (g : Nat) (c : Int) (hs : List Bool) (w : World) (h : VB w g c hs) (hr : rightB c = true) :
    Calls Try.prog 45 #[.pointer (some ⟨g, 0, none⟩)] w fun e w' => e = .returned (.bool false) ∧ w = w' := by
  have hc := right_bd hr
  have c0 := h.c0
  go_enter Try.func45, Try.ntmps45
  go_wp2_with fail
  go_returns
  exact ⟨ret_bool (by simp; omega), rfl⟩
set_option maxRecDepth 100000 in
set_option maxHeartbeats 400000 in
theorem vplace_any (g : Nat) (c p : Int) (hs : List Bool) (w : World) (h : VB w g c hs) (hr : rightB c = true) :
    Calls Try.prog 46 #[.pointer (some ⟨g, 0, none⟩), .int .i64 p] w fun e w' => e = .returned (.bool (inB p 0 c)) ∧ w = w' := by
  have c0 := h.c0
  go_enter Try.func46, Try.ntmps46
  go_wp2_with fail
  refine (vnone_at _ _ _ _ h hr).mono ?_
  rintro e w' ⟨rfl, rfl⟩
  go_wp2
  all_goals (go_returns; exact ⟨ret_bool (by rw [Bool.eq_iff_iff]; simp [inB] <;> omega), rfl⟩)
theorem vplace_at (g : Nat) (c p : Int) (hs : List Bool) (w : World) (h : VB w g c hs) (hr : rightB c = true) (v : Bool) (hv : inB p 0 c = v) :
    Calls Try.prog 46 #[.pointer (some ⟨g, 0, none⟩), .int .i64 p] w fun e w' => e = .returned (.bool v) ∧ w = w' := hv ▸ vplace_any g c p hs w h hr

def newV (c : Int) (g : Nat) : Value := if rightB c then .tuple #[.pointer (some ⟨g, 0, none⟩), .int .i64 0] else .tuple #[.pointer none, .int .i64 2]
set_option maxRecDepth 100000 in
set_option maxHeartbeats 400000 in
theorem vnew_ok (c : Int) (hr : rightB c = true) (w : World) :
    Calls Try.prog 22 #[.int .i64 c] w fun e w' => ∃ g, e = .returned (.tuple #[.pointer (some ⟨g, 0, none⟩), .int .i64 0]) ∧ VB w' g c (List.replicate 9 false) ∧ w.heap.size ≤ g ∧ Below w.heap.size w w' := by
  have he : errI c = 0 := by simp [errI, hr]
  have HE := Lib.hid he
  clear he
  clear hr
  go_enter Try.func22, Try.ntmps22
  go_wp2_with fail
  refine (check_at _ _ HE.out _).mono ?_
  rintro e w1 ⟨rfl, b1⟩
  go_wp2_with fail
  go_returns
  exact ⟨w1.heap.size, rfl, ⟨Blk.new w1 _ _, rfl⟩, b1.size, b1.alloc b1.size _⟩
set_option maxRecDepth 100000 in
set_option maxHeartbeats 400000 in
theorem vnew_no (c : Int) (hr : rightB c = false) (w : World) :
    Calls Try.prog 22 #[.int .i64 c] w fun e w' => e = .returned (.tuple #[.pointer none, .int .i64 2]) ∧ Below w.heap.size w w' := by
  have he : errI c = 2 := by simp [errI, hr]
  have HE := Lib.hid he
  clear he
  clear hr
  go_enter Try.func22, Try.ntmps22
  go_wp2_with fail
  refine (check_at _ _ HE.out _).mono ?_
  rintro e w1 ⟨rfl, b1⟩
  go_wp2_with fail
  go_returns
  exact ⟨rfl, b1⟩

def addB (c p : Int) (hs : List Bool) : Bool := inB p 0 c && !hs.getD p.toNat false
def addE (c p : Int) : Int := if inB p 0 c then 0 else 2
def addL (c p : Int) (hs : List Bool) : List Bool := if inB p 0 c then hs.set p.toNat true else hs
set_option maxRecDepth 100000 in
set_option maxHeartbeats 1000000 in
theorem vadd_any (g : Nat) (c p : Int) (hs : List Bool) (w : World) (hV : VB w g c hs) (hr : rightB c = true) :
    Calls Try.prog 23 #[.pointer (some ⟨g, 0, none⟩), .int .i64 p] w fun e w' => e = .returned (.tuple #[.bool (addB c p hs), .int .i64 (addE c p)]) ∧
      VB w' g c (addL c p hs) ∧ Kx [g] w w' := by
  cases hp : inB p 0 c
  · rw [show addB c p hs = false by simp [addB, hp], show addE c p = 2 by simp [addE, hp], show addL c p hs = hs by simp [addL, hp]]
    go_enter Try.func23, Try.ntmps23
    go_wp2_with fail
    refine (vnone_at _ _ _ _ hV hr).mono ?_
    rintro e w' ⟨rfl, rfl⟩
    go_wp2_with fail
    refine (vplace_at _ _ _ _ _ hV hr _ hp).mono ?_
    rintro e w' ⟨rfl, rfl⟩
    go_wp2_with fail
    go_returns
    exact ⟨rfl, hV, Kx.refl _ _⟩
  · obtain ⟨k, rfl⟩ : ∃ k : Nat, p = k := ⟨p.toNat, by unfold inB at hp; simp at hp; omega⟩
    have hk : k < 9 := by have := right_bd hr; unfold inB at hp; simp at hp; omega
    have hk0 : (0 : Int) ≤ (k : Int) := by omega
    have hk9 : (k : Int) < 9 := by omega
    obtain ⟨v, hv⟩ : ∃ v, hs.getD k false = v := ⟨_, rfl⟩
    have ck := hV.at k hk
    have zk := hV.1.frozen (1 + k)
    rw [hv] at ck
    rw [show addB c k hs = !v by simp only [addB, hp, ← hv]; simp, show addE c k = 0 by simp [addE, hp], show addL c k hs = hs.set k true by simp [addL, hp]]
    clear hv
    go_enter Try.func23, Try.ntmps23
    go_wp2_with fail
    refine (vnone_at _ _ _ _ hV hr).mono ?_
    rintro e w' ⟨rfl, rfl⟩
    go_wp2_with fail
    refine (vplace_at _ _ _ _ _ hV hr _ hp).mono ?_
    rintro e w' ⟨rfl, rfl⟩
    go_wp2_with fail
    go_returns
    exact ⟨rfl, hV.set k, (Kx.refl _ _).setCell (by simp) _⟩
set_option maxRecDepth 100000 in
set_option maxHeartbeats 1000000 in
theorem vhas_any (g : Nat) (c p : Int) (hs : List Bool) (w : World) (hV : VB w g c hs) (hr : rightB c = true) :
    Calls Try.prog 25 #[.pointer (some ⟨g, 0, none⟩), .int .i64 p] w fun e w' => e = .returned (.bool (inB p 0 c && hs.getD p.toNat false)) ∧ w = w' := by
  cases hp : inB p 0 c
  · go_enter Try.func25, Try.ntmps25
    go_wp2_with fail
    refine (vplace_at _ _ _ _ _ hV hr _ hp).mono ?_
    rintro e w' ⟨rfl, rfl⟩
    go_wp2_with fail
    go_returns
    exact ⟨rfl, rfl⟩
  · obtain ⟨k, rfl⟩ : ∃ k : Nat, p = k := ⟨p.toNat, by unfold inB at hp; simp at hp; omega⟩
    have hk : k < 9 := by have := right_bd hr; unfold inB at hp; simp at hp; omega
    have hk0 : (0 : Int) ≤ (k : Int) := by omega
    have hk9 : (k : Int) < 9 := by omega
    obtain ⟨v, hv⟩ : ∃ v, hs.getD k false = v := ⟨_, rfl⟩
    have ck := hV.at k hk
    rw [hv] at ck
    have HV := Lib.hid hv
    clear hv
    go_enter Try.func25, Try.ntmps25
    go_wp2_with fail
    refine (vplace_at _ _ _ _ _ hV hr _ hp).mono ?_
    rintro e w' ⟨rfl, rfl⟩
    go_wp2_with fail
    go_returns
    exact ⟨by have h9 := HV.out; simp at h9 ⊢; rw [h9], rfl⟩
end Go.Proofs.Ytkohpfkgdigaiaa
