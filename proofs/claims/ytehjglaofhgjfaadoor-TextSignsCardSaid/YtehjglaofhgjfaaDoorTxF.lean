
/- The document's text: its signs. -/
import Derived.Test.YtehjglaofhgjfaaDoorTxD
import Derived.OwnWalk
import Derived.Lib.RuneCountTail
import Derived.Deep.OwnRows
namespace Go.Proofs.YtehjglaofhgjfaaDoor
set_option linter.unusedSimpArgs false
set_option linter.unusedVariables false
open Go.RowKit

theorem Blk.new' {W : World} {g : Nat} (hg : W.heap.size = g) (t : TypeId) (cs : List Value) : Blk (W.alloc (.cells cs.toArray t)) g t cs := hg ▸ Blk.new W t cs
theorem Blk.news {W : World} {g : Nat} {t : TypeId} {cs : List Value} (h : Blk W g t cs) : ∀ j u, cs[j]? = some u → W.cell? ((⟨g, 0, none⟩ : Addr).add j) = some u := by
  intro j u hu
  rw [show (⟨g, 0, none⟩ : Addr).add j = ⟨g, j, none⟩ by simp [Addr.add]; intro e; exact e.symm]
  exact h.cell hu
abbrev Sg := Nat × Nat × Nat × Bool
def brk (d : Nat × Nat) : Bool := d.1 == 65533 && d.2 == 1
def signsFrom (s : ByteArray) : Nat → Nat → List Sg
  | 0, _ => []
  | k + 1, i => if i < s.size then (i, (Utf8.decode s i).2, (Utf8.decode s i).1, brk (Utf8.decode s i)) :: signsFrom s k (i + (Utf8.decode s i).2) else []
def signsL (s : ByteArray) : List Sg := signsFrom s s.size 0
theorem signsFrom_end (s : ByteArray) (k i : Nat) (h : ¬ i < s.size) : signsFrom s k i = [] := by
  cases k <;> simp [signsFrom, h]
def cellsS (l : List Sg) : List Value := l.flatMap fun x => [.int .i64 x.1, .int .i64 x.2.1, .int .i64 x.2.2.1, .bool x.2.2.2]
theorem cellsS_len (l : List Sg) : (cellsS l).length = l.length * 4 := by
  induction l with
  | nil => rfl
  | cons a t ih => simp [cellsS] at ih ⊢; omega
def OwnS (W : World) (base : Nat) (v : Value) (l : List Sg) : Prop := W.ownsRow base 49 4 v l.length (cellsS l)
theorem info_sign : (Tryd.prog.info? 49).map (fun i => (i.zero, i.size, i.bytes)) = some (some (.agg #[.int .i64 0, .int .i64 0, .int .i64 0, .bool false]), 4, 32) := by kernel_rfl
theorem info_parts {P : Program} {t : TypeId} {z : Value} {sz by' : Nat} (h : (P.info? t).map (fun i => (i.zero, i.size, i.bytes)) = some (some z, sz, by')) : ∃ i, P.info? t = some i ∧ i.zero = some z ∧ i.size = sz ∧ i.bytes = by' := by
  cases hi : P.info? t with
  | none => rw [hi] at h; cases h
  | some i => rw [hi] at h; simp at h; exact ⟨i, rfl, h.1, h.2.1, h.2.2⟩
theorem get_eq (t : ByteArray) (j : Nat) (h : j < t.size) : t[j]'h = t.get! j := by
  show t.data[j]'h = t.data[j]!
  rw [getElem!_pos t.data j h]
/-- The sign at a place of a text. -/
theorem sign_at (s : ByteArray) (i : Nat) (hi : i < s.size) (hs : s.size ≤ 4096) (w : World) :
    Calls Tryd.prog 52 #[.string (s.extract i s.size)] w fun e w' => e = .returned (.tuple #[.int .i64 (sgn (Utf8.decode s i)).1, .int .i64 (sgn (Utf8.decode s i)).2]) ∧ Below w.heap.size w w' := by
  have hz : (s.extract i s.size).size = s.size - i := by simp
  have key : ∀ j (h : j < (s.extract i s.size).size), ((s.extract i s.size)[j]'h).toNat = (s.get! (i + j)).toNat := by
    intro j h
    rw [← Lib.tail_get! s i j, get_eq]
  have hlt : ∀ j, (s.get! j).toNat < 256 := fun j => (s.get! j).toNat_lt
  rw [Lib.decode_at]
  exact sign_any _ (s.size - i) _ _ _ _ hz (by omega) (by omega) (key 0) (key 1) (key 2) (key 3) ⟨hlt _, hlt _, hlt _, hlt _⟩ w
theorem cellsS_app (l : List Sg) (a b n : Nat) (c : Bool) : cellsS l ++ [.int .i64 a, .int .i64 b, .int .i64 n, .bool c] = cellsS (l ++ [(a, b, n, c)]) := by simp [cellsS]
theorem dec_bd (s : ByteArray) (i : Nat) (h : i < s.size) : 1 ≤ (Utf8.decode s i).2 ∧ i + (Utf8.decode s i).2 ≤ s.size ∧ (Utf8.decode s i).1 ≤ 2000000 ∧ (Utf8.decode s i).2 ≤ 4 := by
  have h0 := (s.get! i).toNat_lt
  have h1 := (s.get! (i + 1)).toNat_lt
  have h2 := (s.get! (i + 2)).toNat_lt
  have h3 := (s.get! (i + 3)).toNat_lt
  rw [Lib.decode_at]
  generalize (s.get! i).toNat = b0 at h0 ⊢
  generalize (s.get! (i + 1)).toNat = b1 at h1 ⊢
  generalize (s.get! (i + 2)).toNat = b2 at h2 ⊢
  generalize (s.get! (i + 3)).toNat = b3 at h3 ⊢
  unfold Lib.decodeN
  repeat' split
  all_goals (refine ⟨?_, ?_, ?_, ?_⟩ <;> simp only <;> omega)
theorem cells_one {a b n : Int} {c : Bool} : ∀ u ∈ ([.int .i64 a, .int .i64 b, .int .i64 n, .bool c] : List Value), u.oneCell' = true := by
  intro u hu
  simp at hu
  rcases hu with rfl | rfl | rfl | rfl <;> rfl
theorem own_step {W W' : World} {base : Nat} {e : TypeId} {size : Nat} {v : Value} {n : Nat} {xs : List Value} (h : W.ownsRow base e size v n xs) (hb : Below W.heap.size W W') : W'.ownsRow base e size v n xs := by
  obtain ⟨h1, h2⟩ := h
  refine ⟨h1, ?_⟩
  rcases h2 with h2 | ⟨g, c, cur, hv, hg, hh, r⟩
  · exact .inl h2
  · exact .inr ⟨g, c, cur, hv, hg, (hb.block g (Array.getElem?_eq_some_iff.1 hh).1).trans hh, r⟩
set_option maxRecDepth 100000 in
set_option maxHeartbeats 4000000 in
theorem signs_any (s : ByteArray) (hs : s.size ≤ 4096) (w : World) : Calls Tryd.prog 25 #[.string s] w fun e w' => ∃ v, e = .returned v ∧ OwnS w' w.heap.size v (signsL s) ∧ Below w.heap.size w w' := by
  obtain ⟨i0, hi, hz0, hz1, hz2⟩ := info_parts info_sign
  obtain ⟨A, hA⟩ : ∃ A, signsL s = A := ⟨_, rfl⟩
  rw [hA]
  obtain ⟨n, hn⟩ : ∃ n, s.size = n := ⟨_, rfl⟩
  have hn4 : (n : Int) ≤ 4096 := by omega
  have hn4' : n ≤ 4096 := by omega
  go_enter Tryd.func25, Tryd.ntmps25
  go_wp2_with fail
  go_loopw [3, 4] (fun v i wr => ∃ (p k : Nat) (pre : List Sg), i = .int .i64 p ∧ OwnS wr w.heap.size v pre ∧ Hid (pre ++ signsFrom s k p = A) ∧ n ≤ p + k ∧ pre.length ≤ p ∧ p ≤ n ∧ Below w.heap.size w wr) (fun _ i _ => n - (intOf i).toNat)
  case atStart => exact ⟨0, n, [], rfl, World.ownsRow_nil _ _ _ _, Lib.hid (by rw [← hA, ← hn]; rfl), by omega, by simp, by omega, Below.refl _ _⟩
  case round =>
    obtain ⟨p, k, pre, rfl, hown, hall, hk, hpl, hp4, hb⟩ := hrel
    by_cases hlt : p < n
    · have hp0 : (0 : Int) ≤ (p : Int) := by omega
      have hp1 : (p : Int) < (n : Int) := by omega
      have hp2 : (p : Int) ≤ (n : Int) := by omega
      have cS := sign_at s p (by omega) hs wr
      rw [hn] at cS
      obtain ⟨d1, d2, d3, d4⟩ := dec_bd s p (by omega)
      obtain ⟨k, rfl⟩ : ∃ k', k = k' + 1 := ⟨k - 1, by omega⟩
      have hall' := hall.out
      rw [signsFrom, if_pos (by omega)] at hall'
      have hsg : sgn (Utf8.decode s p) = if brk (Utf8.decode s p) then (0, 0) else Utf8.decode s p := by unfold sgn brk; simp
      rw [hsg] at cS
      clear hall hsg
      obtain ⟨⟨dr, dw⟩, hd⟩ : ∃ d, Utf8.decode s p = d := ⟨_, rfl⟩
      rw [hd] at cS hall' d1 d2 d3 d4
      simp only at cS hall' d1 d2 d3 d4
      rw [hn] at d2
      unfold OwnS at hown
      have hcl := cellsS_len pre
      have hprel : pre.length ≤ 4096 := by omega
      cases hbk : brk (dr, dw)
      · rw [hbk] at cS hall'
        simp only [Bool.false_eq_true, if_false] at cS
        have hall2 : Hid ((pre ++ [(p, dw, dr, false)]) ++ signsFrom s k (p + dw) = A) := Lib.hid (by rw [List.append_assoc]; exact hall')
        have e0 : ¬ (dw : Int) = 0 := by omega
        have e1 : (0 : Int) ≤ (dw : Int) := by omega
        have e2 : (dw : Int) ≤ 4 := by omega
        clear hall' hd hbk
        go_wp2_with fail
        refine (cS).mono ?_
        rintro e w3 ⟨rfl, b3⟩
        have hb3 := hb.trans (b3.mono hb.size)
        replace hown := own_step hown b3
        go_wp2_with (at_builtin; refine wpList_append_own _ rfl _ _ 43 rfl w.heap.size 49 i0 (.agg #[.int .i64 0, .int .i64 0, .int .i64 0, .bool false]) 4 32 Tryd.underlying43 hi hz0 hz1 hz2 rfl (by decide) _ _ _ rfl (hown.alloc _) ⟨w3.heap.size, 0, none⟩ 1 1 [.int .i64 p, .int .i64 dw, .int .i64 dr, .bool false] rfl rfl (Blk.new' rfl 49 [.int .i64 p, .int .i64 dw, .int .i64 dr, .bool false]).news cells_one (by unfold maxLen; omega) (by omega) (by have := hb3.size; simp; omega) ?_)
        intro v' w1 hown' hgrow _
        have hb' := (hb3.alloc hb3.size (.cells #[.int .i64 p, .int .i64 dw, .int .i64 dr, .bool false] 49)).grown hgrow (by have := hb3.size; simp; omega) (fun k e => (hown.lt k e).1)
        have hown2 : Hid (OwnS w1 w.heap.size v' (pre ++ [(p, dw, dr, false)])) := Lib.hid (by unfold OwnS; rw [← cellsS_app, List.length_append]; exact hown')
        clear hown' hgrow hown hb3 hb b3
        go_wp2_with fail
        go_roundw
        case rel => exact ⟨p + dw, k, pre ++ [(p, dw, dr, false)], by go_num, hown2.out, hall2, by omega, by simp; omega, by omega, hb'⟩
        case measure => simp [intOf]; omega
      · rw [hbk] at cS hall'
        simp only [if_true] at cS
        have hdd : dr = 65533 ∧ dw = 1 := by unfold brk at hbk; simpa using hbk
        obtain ⟨rfl, rfl⟩ := hdd
        have hall2 : Hid ((pre ++ [(p, 1, 65533, true)]) ++ signsFrom s k (p + 1) = A) := Lib.hid (by rw [List.append_assoc]; exact hall')
        clear hall' hd hbk
        go_wp2_with fail
        refine (cS).mono ?_
        rintro e w3 ⟨rfl, b3⟩
        have hb3 := hb.trans (b3.mono hb.size)
        replace hown := own_step hown b3
        go_wp2_with (at_builtin; refine wpList_append_own _ rfl _ _ 43 rfl w.heap.size 49 i0 (.agg #[.int .i64 0, .int .i64 0, .int .i64 0, .bool false]) 4 32 Tryd.underlying43 hi hz0 hz1 hz2 rfl (by decide) _ _ _ rfl (hown.alloc _) ⟨w3.heap.size, 0, none⟩ 1 1 [.int .i64 p, .int .i64 1, .int .i64 65533, .bool true] rfl rfl (Blk.new' rfl 49 [.int .i64 p, .int .i64 1, .int .i64 65533, .bool true]).news cells_one (by unfold maxLen; omega) (by omega) (by have := hb3.size; simp; omega) ?_)
        intro v' w1 hown' hgrow _
        have hb' := (hb3.alloc hb3.size (.cells #[.int .i64 p, .int .i64 1, .int .i64 65533, .bool true] 49)).grown hgrow (by have := hb3.size; simp; omega) (fun k e => (hown.lt k e).1)
        have hown2 : Hid (OwnS w1 w.heap.size v' (pre ++ [(p, 1, 65533, true)])) := Lib.hid (by unfold OwnS; rw [← cellsS_app, List.length_append]; exact hown')
        clear hown' hgrow hown hb3 hb b3
        go_wp2_with fail
        go_roundw
        case rel => exact ⟨p + 1, k, pre ++ [(p, 1, 65533, true)], by go_num, hown2.out, hall2, by omega, by simp; omega, by omega, hb'⟩
        case measure => simp [intOf]; omega
    · obtain rfl : p = n := by omega
      have hall' := hall.out
      rw [signsFrom_end s k p (by omega), List.append_nil] at hall'
      have HO := Lib.hid hown
      clear hown
      have HA := Lib.hid hall'
      clear hall'
      clear hall
      go_wp2
      go_ret
      exact ⟨_, rfl, HA.out ▸ HO.out, hb⟩
end Go.Proofs.YtehjglaofhgjfaaDoor
