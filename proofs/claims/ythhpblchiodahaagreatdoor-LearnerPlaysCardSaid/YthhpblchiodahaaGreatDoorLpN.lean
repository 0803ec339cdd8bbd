
/- Law 16: act for every call; what stays true from call to call; Same of a learner and none. -/
import Derived.Test.YthhpblchiodahaaGreatDoorLpM
namespace Go.Proofs.YthhpblchiodahaaGreatDoor
set_option linter.unusedSimpArgs false
set_option linter.unusedVariables false
open Go.RowKit Go.Maps
def laA (A : Lrn) (L : HMap) (e : La) : Lrn := if e.w = 0 then heA A L e.pl e.r e.p e.k e.m e.n e.s else if e.w = 1 then teA A e.k e.m e.n e.s else teA A 1 0 0 ⟨#[]⟩
def laL (A : Lrn) (L : HMap) (e : La) : HMap := if e.w = 0 then heL A L e.pl e.r e.p e.k e.m e.n e.s else L
/-- All keys are numbers of 64 bits. -/
def OkL (L : HMap) : Prop := ∀ p ∈ L, okB p.1
theorem OkL.nil : OkL [] := fun p h => by cases h
theorem OkL.act {L : HMap} (h : OkL L) (A : Lrn) (e : La) : OkL (laL A L e) := by
  unfold laL
  split
  · unfold heL
    split
    next h0 =>
      have hok : hearB A e.pl e.r e.p e.k e.m e.n e.s = true := by
        cases hh : hearB A e.pl e.r e.p e.k e.m e.n e.s
        · simp [heE, hh] at h0
        · rfl
      obtain ⟨-, -, -, -, hk, -⟩ := hearB_ok hok
      intro p hp
      rcases List.mem_cons.1 hp with rfl | hp
      · exact hk
      · exact h p (List.mem_filter.1 hp).1
    · exact h
  · exact h
theorem GoodL.act {A : Lrn} {L : HMap} (h : GoodL A L) (e : La) : GoodL (laA A L e) (laL A L e) := by
  unfold laA laL
  split
  · exact h.hear _ _ _ _ _ _ _
  · split
    · exact h.told _ _ _ _
    · exact h.told _ _ _ _
theorem laL_len (A : Lrn) (L : HMap) (e : La) : (laL A L e).length ≤ L.length + 1 := by
  unfold laL
  split
  · exact heL_len _ _ _ _ _ _ _ _ _
  · omega
theorem act16_any (base g b : Nat) (A : Lrn) (L : HMap) (a : Option Addr) (N cp : Nat) (e : La) (w : World) (hL : LW w g b A L) (hG : GoodL A L) (hR : HdR w base (.slice a N cp) (srtB L)) (hbw : base ≤ w.heap.size) (hgb : g < base ∧ b < base) (hn : L.length ≤ 1000) (hs : e.s.size ≤ 9223372036854775807) (hT : Tabs w) :
    Calls Tryz.prog 22 #[.pointer (some ⟨g, 0, none⟩), rV A (.slice a N cp), .agg #[.int .i64 e.w, .int .i64 e.pl, .int .i64 e.r, .int .i64 e.p, .int .i64 e.k, .int .i64 e.m, .int .i64 e.n, .string e.s]] w
      (Both base g b (laA A L e) (laL A L e) w) := by
  obtain ⟨ew, pl, r, p, k, m, n, s⟩ := e
  unfold laA laL
  simp only at hs ⊢
  by_cases h0 : ew = 0
  · subst h0
    rw [if_pos rfl, if_pos rfl]
    exact act16_hear base g b A L a N cp pl r p k m n s w hL hG hR hbw hgb (MapG.nodup hL.2) hn hs hT
  · rw [if_neg h0, if_neg h0]
    by_cases h1 : ew = 1
    · subst h1
      rw [if_pos rfl]
      exact act16_told base g b A L a N cp pl r p k m n s w hL hG hR hbw hgb hs hT
    · rw [if_neg h1]
      exact act16_skip base g b A L a N cp ew pl r p k m n s w hL hG hR hbw hgb hT h0 h1
set_option maxRecDepth 100000 in
set_option maxHeartbeats 1000000 in
theorem same_left (g b : Nat) (A : Lrn) (L : HMap) (q : Value) (w : World) (h : LW w g b A L) (hc : A.c ≠ 0) (hq : NoL w q) : Calls Tryz.prog 21 #[.pointer (some ⟨g, 0, none⟩), q] w fun e w' => e = .returned (.bool false) ∧ w = w' := by
  have hcb : (A.c == 0) = false := by simpa using hc
  have cN := fun W hW => none16_at g A.c false W hcb hW
  have c5 := h.1.cell (j := 5) rfl
  clear hcb hc
  go_enter Tryz.func21, Tryz.ntmps21
  go_wp2_with fail
  refine (cN _ c5).mono ?_
  rintro e wx ⟨rfl, rfl⟩
  go_wp2_with fail
  refine (none16_no q _ hq).mono ?_
  rintro e wx ⟨rfl, rfl⟩
  go_wp2_with fail
  refine (cN _ c5).mono ?_
  rintro e wx ⟨rfl, rfl⟩
  go_wp2_with fail
  go_ret
  exact ⟨rfl, rfl⟩
set_option maxRecDepth 100000 in
set_option maxHeartbeats 1000000 in
theorem same_right (g b : Nat) (A : Lrn) (L : HMap) (q : Value) (w : World) (h : LW w g b A L) (hc : A.c ≠ 0) (hq : NoL w q) : Calls Tryz.prog 21 #[q, .pointer (some ⟨g, 0, none⟩)] w fun e w' => e = .returned (.bool false) ∧ w = w' := by
  have hcb : (A.c == 0) = false := by simpa using hc
  have cN := fun W hW => none16_at g A.c false W hcb hW
  have c5 := h.1.cell (j := 5) rfl
  clear hcb hc
  go_enter Tryz.func21, Tryz.ntmps21
  go_wp2_with fail
  refine (none16_no q _ hq).mono ?_
  rintro e wx ⟨rfl, rfl⟩
  go_wp2_with fail
  refine (none16_no q _ hq).mono ?_
  rintro e wx ⟨rfl, rfl⟩
  go_wp2_with fail
  refine (cN _ c5).mono ?_
  rintro e wx ⟨rfl, rfl⟩
  go_wp2_with fail
  go_ret
  exact ⟨rfl, rfl⟩
end Go.Proofs.YthhpblchiodahaaGreatDoor
