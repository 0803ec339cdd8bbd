
/- The document's text: its signs. -/
import Derived.Test.YtcahkcbenanfnaaDoorTxD
import Derived.OwnWalk
import Derived.Lib.RuneCountTail
import Derived.Deep.OwnRows
namespace Go.Proofs.YtcahkcbenanfnaaDoor
set_option linter.unusedSimpArgs false
set_option linter.unusedVariables false
open Go.RowKit

theorem Blk.new' {W : World} {g : Nat} (hg : W.heap.size = g) (t : TypeId) (cs : List Value) : Blk (W.alloc (.cells cs.toArray t)) g t cs := hg ▸ Blk.new W t cs
theorem Blk.news {W : World} {g : Nat} {t : TypeId} {cs : List Value} (h : Blk W g t cs) : ∀ j u, cs[j]? = some u → W.cell? ((⟨g, 0, none⟩ : Addr).add j) = some u := by
  intro j u hu
  rw [show (⟨g, 0, none⟩ : Addr).add j = ⟨g, j, none⟩ by simp [Addr.add]; intro e; exact e.symm]
  exact h.cell hu
abbrev Sg := Nat × Nat × Nat × Bool
def brk (d : Nat × Nat) : Bool := d.1 == 65533 && d.2 == 1
def signsFrom (s : ByteArray) : Nat → Nat → List Sg
  | 0, _ => []
  | k + 1, i => if i < s.size then (i, (Utf8.decode s i).2, (Utf8.decode s i).1, brk (Utf8.decode s i)) :: signsFrom s k (i + (Utf8.decode s i).2) else []
def signsL (s : ByteArray) : List Sg := signsFrom s s.size 0
theorem signsFrom_end (s : ByteArray) (k i : Nat) (h : ¬ i < s.size) : signsFrom s k i = [] := by
  cases k <;> simp [signsFrom, h]
def cellsS (l : List Sg) : List Value := l.flatMap fun x => [.int .i64 x.1, .int .i64 x.2.1, .int .i64 x.2.2.1, .bool x.2.2.2]
theorem cellsS_len (l : List Sg) : (cellsS l).length = l.length * 4 := by
  induction l with
  | nil => rfl
  | cons a t ih => simp [cellsS] at ih ⊢; omega
theorem info_parts {P : Program} {t : TypeId} {z : Value} {sz by' : Nat} (h : (P.info? t).map (fun i => (i.zero, i.size, i.bytes)) = some (some z, sz, by')) : ∃ i, P.info? t = some i ∧ i.zero = some z ∧ i.size = sz ∧ i.bytes = by' := by
  cases hi : P.info? t with
  | none => rw [hi] at h; cases h
  | some i => rw [hi] at h; simp at h; exact ⟨i, rfl, h.1, h.2.1, h.2.2⟩
theorem get_eq (t : ByteArray) (j : Nat) (h : j < t.size) : t[j]'h = t.get! j := by
  show t.data[j]'h = t.data[j]!
  rw [getElem!_pos t.data j h]
/-- The sign at a place of a text. -/
theorem cellsS_app (l : List Sg) (a b n : Nat) (c : Bool) : cellsS l ++ [.int .i64 a, .int .i64 b, .int .i64 n, .bool c] = cellsS (l ++ [(a, b, n, c)]) := by simp [cellsS]
theorem dec_bd (s : ByteArray) (i : Nat) (h : i < s.size) : 1 ≤ (Utf8.decode s i).2 ∧ i + (Utf8.decode s i).2 ≤ s.size ∧ (Utf8.decode s i).1 ≤ 2000000 ∧ (Utf8.decode s i).2 ≤ 4 := by
  have h0 := (s.get! i).toNat_lt
  have h1 := (s.get! (i + 1)).toNat_lt
  have h2 := (s.get! (i + 2)).toNat_lt
  have h3 := (s.get! (i + 3)).toNat_lt
  rw [Lib.decode_at]
  generalize (s.get! i).toNat = b0 at h0 ⊢
  generalize (s.get! (i + 1)).toNat = b1 at h1 ⊢
  generalize (s.get! (i + 2)).toNat = b2 at h2 ⊢
  generalize (s.get! (i + 3)).toNat = b3 at h3 ⊢
  unfold Lib.decodeN
  repeat' split
  all_goals (refine ⟨?_, ?_, ?_, ?_⟩ <;> simp only <;> omega)
theorem cells_one {a b n : Int} {c : Bool} : ∀ u ∈ ([.int .i64 a, .int .i64 b, .int .i64 n, .bool c] : List Value), u.oneCell' = true := by
  intro u hu
  simp at hu
  rcases hu with rfl | rfl | rfl | rfl <;> rfl
theorem own_step {W W' : World} {base : Nat} {e : TypeId} {size : Nat} {v : Value} {n : Nat} {xs : List Value} (h : W.ownsRow base e size v n xs) (hb : Below W.heap.size W W') : W'.ownsRow base e size v n xs := by
  obtain ⟨h1, h2⟩ := h
  refine ⟨h1, ?_⟩
  rcases h2 with h2 | ⟨g, c, cur, hv, hg, hh, r⟩
  · exact .inl h2
  · exact .inr ⟨g, c, cur, hv, hg, (hb.block g (Array.getElem?_eq_some_iff.1 hh).1).trans hh, r⟩
end Go.Proofs.YtcahkcbenanfnaaDoor
