
/- Package chat: Apply in one; New. -/
import Derived.Test.YtndechodaegkiaaDoorChD
namespace Go.Proofs.YtndechodaegkiaaDoor
open Go.RowKit
theorem TkW.lt {W : World} {base g : Nat} {v : Value} {t : Tk} (h : TkW W base g v t) : ∀ x, x ∈ g :: v.ownBlock.toList → x < W.heap.size := by
  intro x hx
  rcases List.mem_cons.1 hx with rfl | hx
  · exact h.blk.lt
  · exact (h.row.lt x (by simpa using hx)).2
theorem TkW.ge_base {W : World} {base g : Nat} {v : Value} {t : Tk} (h : TkW W base g v t) (hg : base ≤ g) : ∀ x, x ∈ g :: v.ownBlock.toList → base ≤ x := by
  intro x hx
  rcases List.mem_cons.1 hx with rfl | hx
  · exact hg
  · exact (h.row.lt x (by simpa using hx)).1
theorem apply_any (base g : Nat) (v : Value) (t : Tk) (slot : Int) (e : En) (w : World) (h : TkW w base g v t) (hT : Tabs w) (hbase : base ≤ w.heap.size) (hs : e.s.size ≤ 9223372036854775807) :
    Calls Tryd.prog 13 #[.pointer (some ⟨g, 0, none⟩), .int .i64 slot, enV e] w fun r w' => r = .returned (.tuple #[lnV (apX t slot e), .bool (apB t slot e), .int .i64 (apE t slot e)]) ∧
      ∃ v', TkW w' base g v' (apT t slot e) ∧ Kx (g :: v.ownBlock.toList) w w' ∧ (v'.ownBlock = v.ownBlock ∨ ∃ k, v'.ownBlock = some k ∧ w.heap.size ≤ k) := by
  cases hr : rightE e && goodB t slot
  · have hB : apB t slot e = false := by unfold apB; rw [← Bool.and_assoc, hr, Bool.false_and]
    refine (apply_not base g v t slot e w h hT hs hr).mono ?_
    rintro r w' ⟨rfl, hb⟩
    refine ⟨by rw [hB]; unfold apX; rw [hB]; rfl, v, ?_, (Kx.refl _ w).step hb, .inl rfl⟩
    unfold apT; rw [hr]; exact h.step hb
  · obtain ⟨h1, h2⟩ : rightE e = true ∧ goodB t slot = true := by simpa using hr
    cases hc : cntB t e
    · have hB : apB t slot e = false := by unfold apB; rw [h1, h2, hc]; rfl
      have hE : apE t slot e = 0 := by unfold apE; rw [h1, h2]; rfl
      refine (apply_skip base g v t slot e w h hT hs h1 h2 hc).mono ?_
      rintro r w' ⟨rfl, hW, hK⟩
      refine ⟨by rw [hB, hE]; unfold apX; rw [hB]; rfl, v, ?_, hK.mono (by simp), .inl rfl⟩
      unfold apT; rw [hr, hc]; exact hW
    · have hB : apB t slot e = true := by unfold apB; rw [h1, h2, hc]; rfl
      have hE : apE t slot e = 0 := by unfold apE; rw [h1, h2]; rfl
      refine (apply_take base g v t slot e w h hT hbase hs h1 h2 hc).mono ?_
      rintro r w' ⟨rfl, v', hW, hK, ho⟩
      refine ⟨by rw [hB, hE]; unfold apX; rw [hB]; rfl, v', ?_, hK, ho⟩
      unfold apT; rw [hr, hc]; exact hW
/-- Entries as they lie from an address on. -/
def HasE (w : World) (ao : Option Addr) (l : List En) : Prop := ∀ k e, l[k]? = some e → ∃ b off, ao = some ⟨b, off, none⟩ ∧ w.cell? ⟨b, off + k * 4, none⟩ = some (.int .i64 e.k) ∧ w.cell? ⟨b, off + k * 4 + 1, none⟩ = some (.int .i64 e.m) ∧
  w.cell? ⟨b, off + k * 4 + 2, none⟩ = some (.int .i64 e.n) ∧ w.cell? ⟨b, off + k * 4 + 3, none⟩ = some (.string e.s)
theorem HasE.step {w w' : World} {ao : Option Addr} {l : List En} (h : HasE w ao l) (hb : Below w.heap.size w w') : HasE w' ao l := fun k e he => by
  obtain ⟨b, off, ha, h0, h1, h2, h3⟩ := h k e he
  exact ⟨b, off, ha, cells_kept hb h0, cells_kept hb h1, cells_kept hb h2, cells_kept hb h3⟩
def newF : Tk → Nat → List En → Tk × Int
  | t, _, [] => (t, 0)
  | t, i, e :: r => if apE t i e = 0 then newF (apT t i e) (i + 1) r else (t, apE t i e)
def tk0 : Tk := ⟨0, [], List.replicate 16 z0⟩
def newP (w : World) (l : List En) (r : Ending) (w' : World) : Prop :=
  (if (newF tk0 0 l).2 = 0 then ∃ g v, r = .returned (.tuple #[.pointer (some ⟨g, 0, none⟩), .int .i64 0]) ∧ TkW w' w.heap.size g v (newF tk0 0 l).1 ∧ w.heap.size ≤ g
   else r = .returned (.tuple #[.pointer none, .int .i64 (newF tk0 0 l).2])) ∧ Below w.heap.size w w'
set_option maxRecDepth 100000 in
set_option maxHeartbeats 2000000 in
theorem new_any (l : List En) (ao : Option Addr) (c : Nat) (w : World) (hE : HasE w ao l) (hT : Tabs w) (hs : ∀ e, e ∈ l → e.s.size ≤ 9223372036854775807) (hl : l.length ≤ 5000) :
    Calls Tryd.prog 11 #[.slice ao l.length c] w (newP w l) := by
  obtain ⟨N, hN⟩ : ∃ N, l.length = N := ⟨_, rfl⟩
  have hNI : (N : Int) ≤ 5000 := by omega
  rw [hN]
  obtain ⟨R, hR⟩ : ∃ R, newF tk0 0 l = R := ⟨_, rfl⟩
  unfold newP
  rw [hR]
  go_enter Tryd.func11, Tryd.ntmps11
  go_upto_region 3 with fail
  obtain ⟨B, hB⟩ : ∃ B, w.heap.size = B := ⟨_, rfl⟩
  generalize hw0 : World.alloc w _ = w0
  rw [hB]
  have hW0 : TkW w0 B B (.slice none 0 0) tk0 := by
    rw [← hw0]
    exact ⟨Blk.new' hB 79 (talkL (.slice none 0 0) tk0), World.ownsRow_nil _ _ _ _, rfl, Nat.le_refl _, by decide⟩
  have hb0 : Below B w w0 := by rw [← hw0, ← hB]; exact (Below.refl _ w).alloc (Nat.le_refl _) _
  clear hw0
  generalize Value.agg _ = u10
  have hR0 := Lib.hid hR
  clear hR
  go_loopw [14] (fun i wr => ∃ (j : Nat) (t : Tk) (v : Value), i = .int .i64 j ∧ TkW wr B B v t ∧ Below B w wr ∧ j ≤ N ∧ Hid (newF t j (l.drop j) = R)) (fun i _ => N - (intOf i).toNat)
  case atStart => exact ⟨0, tk0, _, rfl, hW0, hb0, by omega, hR0⟩
  case round =>
    obtain ⟨j, t, v, rfl, hW, hb, hj, HR⟩ := hrel
    by_cases hlt : j < N
    · obtain ⟨e, he⟩ : ∃ e, l[j]? = some e := ⟨l[j], by simp [hN, hlt]⟩
      obtain ⟨b, off, rfl, h0, h1, h2, h3⟩ := (hE.step (hB ▸ hb)) j e he
      have hse := hs e (List.mem_of_getElem? he)
      obtain ⟨k, m, q, s⟩ := e
      simp only at h0 h1 h2 h3
      have hj0 : (0 : Int) ≤ (j : Int) := by omega
      have hj1 : (j : Int) < (N : Int) := by omega
      have hbE := (Below.refl wr.heap.size wr).alloc (Nat.le_refl _) (.cells #[.int .i64 k, .int .i64 m, .int .i64 q, .string s] 26)
      have hWE := hW.step hbE
      have hTE := Tabs.step hT (hB ▸ (hb.trans (hbE.mono (by have := hb.size; omega))))
      have hsz := hb.size
      have hsE := alloc_size (W := wr) rfl (.cells #[.int .i64 k, .int .i64 m, .int .i64 q, .string s] 26)
      have cA := apply_any B B v t j ⟨k, m, q, s⟩ _ hWE hTE (by omega) hse
      have HR' := HR.out
      rw [List.drop_eq_getElem_cons (by omega : j < l.length), show l[j]'(by omega) = ⟨k, m, q, s⟩ from (List.getElem?_eq_some_iff.1 he).2] at HR'
      unfold newF at HR'
      generalize apX t j ⟨k, m, q, s⟩ = X at cA
      generalize apB t j ⟨k, m, q, s⟩ = A at cA
      obtain ⟨x1, x2, x3, x4, x5, x6⟩ := X
      obtain ⟨E, hEE⟩ : ∃ E, apE t j ⟨k, m, q, s⟩ = E := ⟨_, rfl⟩
      rw [hEE] at cA HR'
      change Calls Tryd.prog 13 #[.pointer (some ⟨B, 0, none⟩), .int .i64 j, .agg #[.int .i64 k, .int .i64 m, .int .i64 q, .string s]] _ (fun r w' => r = .returned (.tuple #[.agg #[.int .i64 x1, .int .i64 x2, .int .i64 x3, .int .i64 x4, .int .i64 x5, .string x6], .bool A, .int .i64 E]) ∧ _) at cA
      have HR2 := Lib.hid HR'
      clear HR'
      clear hEE HR hR0
      go_wp2_with fail
      refine (cA).mono ?_
      rintro e w2 ⟨rfl, v', hW2, hK2, ho⟩
      have hb2 : Below B w w2 := (hb.trans (hbE.mono (by omega))).trans (hK2.below (by omega) (hW.ge_base (Nat.le_refl _)))
      have hs2 := hb2.size
      have hb3 := (Below.refl w2.heap.size w2).alloc (Nat.le_refl _) (.cells #[.int .i64 x1, .int .i64 x2, .int .i64 x3, .int .i64 x4, .int .i64 x5, .string x6] 33)
      have hW3 := hW2.step hb3
      have hb4 := hb2.trans (hb3.mono (by omega))
      clear hK2 ho hW2 hb2 hb3 cA hTE hWE hbE hW hb hb0 hW0 h0 h1 h2 h3 hE
      by_cases hE0 : E = 0
      · subst hE0
        go_wp2_with fail
        go_roundw
        case rel => exact ⟨j + 1, _, v', by go_num, hW3, hb4, by omega, HR2⟩
        case measure => simp [intOf]; omega
      · have hRR := HR2.out
        rw [if_neg hE0] at hRR
        subst hRR
        clear HR2
        go_wp2
        go_returns
        exact ⟨by simp, by first | exact hb4 | (rw [hB]; exact hb4)⟩
    · obtain rfl : j = N := by omega
      have HR' := HR.out
      rw [List.drop_eq_nil_of_le (by omega)] at HR'
      obtain rfl : (t, (0 : Int)) = R := HR'
      go_wp2
      go_returns
      exact ⟨⟨B, rfl, ⟨v, hW⟩, Nat.le_refl _⟩, hb⟩
end Go.Proofs.YtndechodaegkiaaDoor
