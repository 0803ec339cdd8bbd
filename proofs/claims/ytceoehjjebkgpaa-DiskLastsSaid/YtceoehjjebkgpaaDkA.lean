
/- Package disk: what a disk is in memory; New, none, named. -/
import Derived.Test.YtceoehjjebkgpaaM1
import Derived.Test.YtceoehjjebkgpaaMapG
import Derived.Laws.EntriesVeiled
import Derived.Laws.IdiomStrings
import Derived.Lib.RuneCountTail
namespace Go.Proofs.Ytceoehjjebkgpaa
set_option linter.unusedSimpArgs false
set_option linter.unusedVariables false
open Go.RowKit Go.Maps Go.Lib
theorem Blk.newV {W : World} {g : Nat} (hg : W.heap.size = g) (t : TypeId) (cs : Array Value) : Blk (W.alloc (.cells cs t)) g t cs.toList := hg ▸ World.alloc_heap_new W _
abbrev BL := List UInt8
def encB (b : UInt8) : Value := .int .u8 b.toNat
/-- Block g begins with these bytes. -/
def ByR (W : World) (g : Nat) (l : BL) : Prop := ∃ (pad : List Value) (fz : Nat × Nat), W.heap[g]? = some (.cells (l.map encB ++ pad).toArray 5 fz) ∧ (l.length ≤ fz.1 ∨ fz = (0, 0))
theorem ByR.lt {W : World} {g : Nat} {l : BL} (h : ByR W g l) : g < W.heap.size := by
  obtain ⟨p, fz, h, -⟩ := h
  exact (Array.getElem?_eq_some_iff.1 h).1
theorem ByR.step {W W' : World} {g : Nat} {l : BL} (h : ByR W g l) (hb : Below W.heap.size W W') : ByR W' g l := by
  have hl := h.lt
  obtain ⟨p, fz, h, k⟩ := h
  exact ⟨p, fz, (hb.block g hl).trans h, k⟩
theorem ByR.kx {ws : List Nat} {W W' : World} {g : Nat} {l : BL} (h : ByR W g l) (hb : Kx ws W W') (hw : g ∉ ws) : ByR W' g l := by
  have hl := h.lt
  obtain ⟨p, fz, h, k⟩ := h
  exact ⟨p, fz, (hb.block g hl hw).trans h, k⟩
theorem ByR.cell {W : World} {g : Nat} {l : BL} (h : ByR W g l) {j : Nat} {b : UInt8} (hj : l[j]? = some b) : W.cell? ⟨g, j, none⟩ = some (.int .u8 b.toNat) := by
  obtain ⟨p, fz, h, k⟩ := h
  have hlt := (List.getElem?_eq_some_iff.1 hj).1
  have : (l.map encB ++ p)[j]? = some (.int .u8 b.toNat) := by
    rw [List.getElem?_append_left (by rw [List.length_map]; exact hlt), List.getElem?_map, hj]; rfl
  simp [World.cell?, h, this]
theorem ByR.pre {W : World} {g : Nat} {l : BL} (h : ByR W g l) (n : Nat) : ByR W g (l.take n) := by
  obtain ⟨p, fz, h, k⟩ := h
  refine ⟨(l.drop n).map encB ++ p, fz, ?_, ?_⟩
  · rw [← List.append_assoc, ← List.map_append, List.take_append_drop]; exact h
  · rcases k with k | k
    · exact .inl (by rw [List.length_take]; omega)
    · exact .inr k
/-- A file: its bytes' place, room, its bytes, how many are sure. -/
structure Fm where (ao : Option Addr) (cap : Nat) (b : BL) (s : Int)
def fmV (m : Fm) : Value := .agg #[.slice m.ao m.b.length m.cap, .int .i64 m.s]
/-- Bytes as they lie. -/
def BySl (W : World) (ao : Option Addr) (b : BL) : Prop := (ao = none ∧ b = []) ∨ ∃ g, ao = some ⟨g, 0, none⟩ ∧ ByR W g b
theorem BySl.step {W W' : World} {ao : Option Addr} {b : BL} (h : BySl W ao b) (hb : Below W.heap.size W W') : BySl W' ao b := by
  rcases h with h | ⟨g, h1, h2⟩
  · exact .inl h
  · exact .inr ⟨g, h1, h2.step hb⟩
theorem BySl.kx {ws : List Nat} {W W' : World} {ao : Option Addr} {b : BL} (h : BySl W ao b) (hb : Kx ws W W') (hw : ∀ g, ao = some ⟨g, 0, none⟩ → g ∉ ws) : BySl W' ao b := by
  rcases h with h | ⟨g, h1, h2⟩
  · exact .inl h
  · exact .inr ⟨g, h1, h2.kx hb (hw g h1)⟩
theorem BySl.pre {W : World} {ao : Option Addr} {b : BL} (h : BySl W ao b) (n : Nat) : BySl W ao (b.take n) := by
  rcases h with ⟨h1, rfl⟩ | ⟨g, h1, h2⟩
  · exact .inl ⟨h1, by simp⟩
  · exact .inr ⟨g, h1, h2.pre n⟩
/-- A disk: room, is it to stop, after how many, is it dead. -/
structure Ds where (room : Int) (stop : Bool) (after : Int) (dead : Bool)
def dsL (D : Ds) (mb : Nat) : List Value := [.int .i64 D.room, .map (some mb), .bool D.stop, .int .i64 D.after, .bool D.dead]
abbrev FMap := List (ByteArray × Fm)
def MapD (W : World) (b : Nat) (L : FMap) : Prop := MapG Try.prog 9 Value.string fmV W b L
structure DkW (W : World) (d mb : Nat) (D : Ds) (L : FMap) : Prop where
  blk : Blk W d 55 (dsL D mb)
  map : MapD W mb L
  con : ∀ p ∈ L, BySl W p.2.ao p.2.b
  room : ∀ p ∈ L, p.2.b.length ≤ p.2.cap
theorem ByR.ne_blk {W : World} {g d : Nat} {b : BL} {cs : List Value} (h : ByR W g b) (hd : Blk W d 55 cs) : g ≠ d := by
  rintro rfl
  obtain ⟨p, fz, h1, -⟩ := h
  rw [show W.heap[g]? = _ from hd] at h1
  injection h1 with h1
  injection h1 with h1 h2 h3
  exact absurd h2 (by decide)
theorem ByR.ne_map {W : World} {g b : Nat} {l : BL} {L : FMap} (h : ByR W g l) (hm : MapD W b L) : g ≠ b := by
  rintro rfl
  obtain ⟨p, fz, h1, -⟩ := h
  obtain ⟨es, clock, h2, -⟩ := hm
  rw [h2] at h1
  cases h1
theorem DkW.lt {W : World} {d mb : Nat} {D : Ds} {L : FMap} (h : DkW W d mb D L) : d < W.heap.size := h.blk.lt
theorem DkW.ltb {W : World} {d mb : Nat} {D : Ds} {L : FMap} (h : DkW W d mb D L) : mb < W.heap.size := MapG.lt h.map
theorem DkW.ne {W : World} {d mb : Nat} {D : Ds} {L : FMap} (h : DkW W d mb D L) : d ≠ mb := by
  rintro rfl
  obtain ⟨es, clock, h2, -⟩ := h.map
  rw [show W.heap[d]? = _ from h.blk] at h2
  cases h2
theorem DkW.step {W W' : World} {d mb : Nat} {D : Ds} {L : FMap} (h : DkW W d mb D L) (hb : Below W.heap.size W W') : DkW W' d mb D L :=
  ⟨h.blk.step hb, MapG.step h.map hb, fun p hp => (h.con p hp).step hb, h.room⟩
theorem DkW.kx {ws : List Nat} {W W' : World} {d mb : Nat} {D : Ds} {L : FMap} (h : DkW W d mb D L) (hb : Kx ws W W') (h1 : d ∉ ws) (h2 : mb ∉ ws) (h3 : ∀ p ∈ L, ∀ g, p.2.ao = some ⟨g, 0, none⟩ → g ∉ ws) : DkW W' d mb D L :=
  ⟨hb.blk h.blk h1, MapG.kx h.map hb h2, fun p hp => (h.con p hp).kx hb (h3 p hp), h.room⟩
/-- A store into the disk itself. -/
theorem DkW.own {W W' : World} {d mb : Nat} {D D' : Ds} {L : FMap} (h : DkW W d mb D L) (hb : Kx [d] W W') (hB : Blk W' d 55 (dsL D' mb)) : DkW W' d mb D' L :=
  ⟨hB, MapG.kx h.map hb (by have := h.ne; simp; omega), fun p hp => (h.con p hp).kx hb (fun g hg => by
    rcases h.con p hp with ⟨h1, -⟩ | ⟨g', h1, h2⟩
    · rw [h1] at hg; cases hg
    · rw [h1] at hg
      cases hg
      have := h2.ne_blk h.blk
      simpa using this), h.room⟩
def okS (s : ByteArray) : Prop := s.size ≤ maxLen
theorem laidOutD : laidOutB Try.prog = true := by kernel_rfl
theorem keyS : KeyE Try.prog 9 okS Value.string where
  keyed := Keyed.of_law (Go.WideMaps.string_law Try.underlying9)
  reads := by
    intro s hs
    refine ⟨.string s.data.toList, ?_⟩
    unfold okS at hs
    simp [keyOf, mapKey, Try.underlying9, hs]
  inj := by
    intro x y h
    injection h
theorem eql_map_nil (w : World) (r : Option Nat) : (binOp .eql 53 (.map r) (.map none)).run Try.prog w = .ok (.bool r.isNone) w := run_eql_map_nil w _ _ _ r Try.underlying53
set_option maxRecDepth 100000 in
set_option maxHeartbeats 400000 in
theorem dnone_at (d : Nat) (mb : Nat) (w : World) (hc : w.cell? ⟨d, 1, none⟩ = some (.map (some mb))) : Calls Try.prog 23 #[.pointer (some ⟨d, 0, none⟩)] w fun e w' => e = .returned (.bool false) ∧ w = w' := by
  have hq := fun w => eql_map_nil w (some mb)
  simp only [Option.isNone_some] at hq
  go_enter Try.func23, Try.ntmps23
  go_wp2
  go_ret
  exact ⟨rfl, rfl⟩
theorem DkW.c1 {W : World} {d mb : Nat} {D : Ds} {L : FMap} (h : DkW W d mb D L) : W.cell? ⟨d, 1, none⟩ = some (.map (some mb)) := h.blk.cell (j := 1) rfl
set_option maxRecDepth 100000 in
set_option maxHeartbeats 1000000 in
theorem dnew_any (room : Int) (w : World) (h1 : 1 ≤ room) (h2 : room ≤ 16777216) :
    Calls Try.prog 7 #[.int .i64 room] w fun e w' => (∃ d mb, e = .returned (.tuple #[.pointer (some ⟨d, 0, none⟩), .int .i64 0]) ∧ DkW w' d mb ⟨room, false, 0, false⟩ [] ∧ w.heap.size ≤ d ∧ w.heap.size ≤ mb) ∧ Below w.heap.size w w' := by
  have hmm := @run_makeMap Try.prog
  have hb := From.refl w
  have hM : MapD (w.alloc (.map #[] 0)) w.heap.size [] := MapG.made w
  have h3 : ¬ room < 1 := by omega
  have h4 : ¬ 16777216 < room := by omega
  go_enter Try.func7, Try.ntmps7
  go_wp2_with fail
  go_ret2
  refine ⟨⟨_, rfl, w.heap.size, ⟨?_, ?_, fun p hp => (by cases hp), fun p hp => (by cases hp)⟩, ?_, Nat.le_refl _⟩, ?_⟩
  · exact Blk.newV (by simp) _ _
  · exact MapG.step hM ((Below.refl _ _).alloc (Nat.le_refl _) _)
  · simp
  · exact ((Below.refl _ _).alloc (Nat.le_refl _) _).alloc (by simp) _
def okR (r : Int) : Bool := !((decide (r < 97) || decide (122 < r)) && ((decide (r < 48) || decide (57 < r)) && !(r == 46)))
def nmFrom (s : ByteArray) : (fuel : Nat) → (pos : Nat) → Bool
  | 0, _ => true
  | k + 1, pos => if pos < s.size then (if okR ((Utf8.decode s pos).1 : Nat) then nmFrom s k (pos + (Utf8.decode s pos).2) else false) else true
def nmB (s : ByteArray) : Bool := !(s.size == 0) && (decide (s.size ≤ 20) && nmFrom s s.size 0)
end Go.Proofs.Ytceoehjjebkgpaa
