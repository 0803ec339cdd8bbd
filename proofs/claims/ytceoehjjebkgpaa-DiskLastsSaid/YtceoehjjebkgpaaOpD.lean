
/- A slice of bytes, of numbers, as arguments. -/
import Derived.Test.YtceoehjjebkgpaaDkY
import Derived.Deep.Strs
import Derived.Deep.Slices
import Derived.ChangeSame
import Derived.ChangeSlices
import Derived.Lib.SmallJoins
import Derived.OpenShut
namespace Go.Proofs.Ytceoehjjebkgpaa
set_option linter.unusedSimpArgs false
set_option linter.unusedVariables false
open Go.ChangeShapes Go.WideShapes Go.ChangeAt Go.RowKit Go.Deep Joins
theorem cells_int : Try.prog.cellsOf 3 = 1 := by kernel_rfl
theorem cells_u8 : Try.prog.cellsOf 5 = 1 := by kernel_rfl
theorem spot_of {w : World} {a : Addr} {v : Value} (h : w.cell? (a.add 0) = some v) : a.spot = none := by
  obtain ⟨b, off, spot⟩ := a
  unfold World.cell? Addr.add at h
  rw [if_pos rfl] at h
  split at h
  · split at h
    · cases h
    · rename_i hs; simpa using hs
  · cases h
theorem bd_i64 {n : Int} (h : (Lit.int .i64 n).wf = true) : -9223372036854775808 ≤ n ∧ n ≤ 9223372036854775807 := bounds_i64 h
theorem cells_str : Try.prog.cellsOf 9 = 1 := by kernel_rfl
theorem cells_bool : Try.prog.cellsOf 4 = 1 := by kernel_rfl
theorem cells_sb : Try.prog.cellsOf 22 = 1 := by kernel_rfl
theorem cells_si : Try.prog.cellsOf 23 = 1 := by kernel_rfl
theorem cells_step : Try.prog.cellsOf 39 = 5 := by kernel_rfl
theorem cells_act07 : Try.prog.cellsOf 41 = 8 := by kernel_rfl
def a7L (e : A7) : List Value := [.int .i64 e.what, .string e.nm, .string e.to, .slice e.bo e.y.length e.cb, .int .i64 e.n, .bool e.stop, .bool e.crash, .slice e.po e.pk.length e.cp]
section
variable {H : Type} {enc : TypeId × Value → H} {w : World} {base : Nat} {spare : Nat → Bool} {held : Bool}
theorem trod_struct5 {P : Program} {t : TypeId} {f0 f1 f2 f3 f4 : Field} {fuel : Nat} {cs : List Value} {x : DataW H × List MemPlace} (ht : P.underlying t = some (.struct #[f0, f1, f2, f3, f4])) (h : DataW.trod enc P w base spare held fuel t cs = some x) :
    ∃ y0 y1 y2 y3 y4 n, cs.length = P.cellsOf t ∧ DataW.trod enc P w base spare held n f0.type ((cs.drop f0.offset).take (P.cellsOf f0.type)) = some y0 ∧
      DataW.trod enc P w base spare held n f1.type ((cs.drop f1.offset).take (P.cellsOf f1.type)) = some y1 ∧ DataW.trod enc P w base spare held n f2.type ((cs.drop f2.offset).take (P.cellsOf f2.type)) = some y2 ∧
      DataW.trod enc P w base spare held n f3.type ((cs.drop f3.offset).take (P.cellsOf f3.type)) = some y3 ∧ DataW.trod enc P w base spare held n f4.type ((cs.drop f4.offset).take (P.cellsOf f4.type)) = some y4 := by
  obtain ⟨xs, n, _, rfl, hl, hlen, hf⟩ := DataW.trod_struct ht h
  match xs, hlen with
  | [y0, y1, y2, y3, y4], _ => exact ⟨y0, y1, y2, y3, y4, n, hl, by simpa using hf 0 f0 rfl, by simpa using hf 1 f1 rfl, by simpa using hf 2 f2 rfl, by simpa using hf 3 f3 rfl, by simpa using hf 4 f4 rfl⟩
set_option maxRecDepth 100000 in
set_option maxHeartbeats 400000 in
theorem trod_ints {n : Nat} {cs : List Value} {y : DataW H × List MemPlace} (hf : DataW.trod enc Try.prog w base spare held n 23 cs = some y) :
    ∃ (x : Option Addr) (l : List Int) (cap : Nat), cs = [.slice x l.length cap] ∧ HasInt w x l ∧ l.length ≤ 9223372036854775807 := by
  rcases open_ints Try.underlying23 Try.underlying3 cells_int hf with ⟨h1, -⟩ | ⟨a, len, cap, zs, h1, -, hle, hcm, hz, -, hi, hw⟩
  · exact ⟨none, [], 0, h1, fun k z hz => by simp at hz, by decide⟩
  · have hlz : len ≤ zs.length := by rw [hz]; split <;> omega
    have hll : (zs.take len).length = len := by simp; omega
    refine ⟨some a, zs.take len, cap, by rw [hll]; exact h1, fun k z hk => ?_, by rw [hll]; unfold maxLen at hcm; omega⟩
    obtain ⟨hk1, hk2⟩ := List.getElem?_eq_some_iff.1 hk
    have hk3 : k < zs.length := by simp at hk1; omega
    have h0 := hi 0 (by omega)
    have h1 := hi k hk3
    have hsp := spot_of h0
    obtain ⟨b, off, spot⟩ := a
    simp only at hsp
    subst hsp
    rw [Addr.add_lit] at h1
    refine ⟨b, off, rfl, ?_⟩
    rw [h1, ← hk2]
    simp [hk3]
set_option maxRecDepth 100000 in
set_option maxHeartbeats 400000 in
theorem trod_bytes {n : Nat} {cs : List Value} {y : DataW H × List MemPlace} (hf : DataW.trod enc Try.prog w base spare held n 22 cs = some y) :
    ∃ (x : Option Addr) (y : BL) (cap : Nat), cs = [.slice x y.length cap] ∧ ByAt w x y ∧ y.length ≤ 9223372036854775807 := by
  rcases open_ints Try.underlying22 Try.underlying5 cells_u8 hf with ⟨h1, -⟩ | ⟨a, len, cap, zs, h1, -, hle, hcm, hz, -, hi, hw⟩
  · exact ⟨none, [], 0, h1, .inl rfl, by decide⟩
  · have hlz : len ≤ zs.length := by rw [hz]; split <;> omega
    have hll : ((zs.take len).map (fun z => UInt8.ofNat z.toNat)).length = len := by simp; omega
    refine ⟨some a, (zs.take len).map (fun z => UInt8.ofNat z.toNat), cap, by rw [hll]; exact h1, ?_, by rw [hll]; unfold maxLen at hcm; omega⟩
    by_cases h0l : len = 0
    · exact .inl (by subst h0l; simp)
    have h0 := hi 0 (by omega)
    have hsp := spot_of h0
    obtain ⟨b, off, spot⟩ := a
    simp only at hsp
    subst hsp
    refine .inr ⟨b, off, rfl, fun k z hk => ?_⟩
    obtain ⟨hk1, hk2⟩ := List.getElem?_eq_some_iff.1 hk
    have hk3 : k < zs.length := by simp at hk1; omega
    have h1 := hi k hk3
    rw [Addr.add_lit] at h1
    rw [h1, ← hk2]
    have hwz := bounds_u8 (hw (zs.getD k 0) (by rw [List.getD_eq_getElem?_getD, List.getElem?_eq_getElem hk3]; simp))
    have e : zs.getD k 0 = zs[k] := by rw [List.getD_eq_getElem?_getD, List.getElem?_eq_getElem hk3]; rfl
    rw [e] at hwz ⊢
    simp only [List.getElem_map, List.getElem_take]
    congr 2
    rw [UInt8.toNat_ofNat']
    omega
theorem open_ints07 {x : Option Addr} {len cap : Nat} {d : DataW H} {p : List MemPlace} (h : DataW.Trod enc Try.prog w base spare held 23 (.slice x len cap) d p) :
    ∃ l : List Int, l.length = len ∧ HasInt w x l ∧ len ≤ 9223372036854775807 := by
  obtain ⟨fuel, hf⟩ := h
  obtain ⟨x', l, cap', h1, h2, h3⟩ := trod_ints hf
  simp [Value.cells] at h1
  obtain ⟨rfl, rfl, rfl⟩ := h1
  exact ⟨l, rfl, h2, h3⟩
theorem open_bytes07 {x : Option Addr} {len cap : Nat} {d : DataW H} {p : List MemPlace} (h : DataW.Trod enc Try.prog w base spare held 22 (.slice x len cap) d p) :
    ∃ y : BL, y.length = len ∧ ByAt w x y ∧ len ≤ 9223372036854775807 := by
  obtain ⟨fuel, hf⟩ := h
  obtain ⟨x', l, cap', h1, h2, h3⟩ := trod_bytes hf
  simp [Value.cells] at h1
  obtain ⟨rfl, rfl, rfl⟩ := h1
  exact ⟨l, rfl, h2, h3⟩
set_option maxRecDepth 100000 in
set_option maxHeartbeats 400000 in
theorem trod_step {n : Nat} {cs : List Value} {x : DataW H × List MemPlace} (h : DataW.trod enc Try.prog w base spare held n 39 cs = some x) :
    ∃ (what : Int) (nm to : ByteArray) (bo : Option Addr) (y : BL) (cb : Nat) (k : Int), cs = [.int .i64 what, .string nm, .string to, .slice bo y.length cb, .int .i64 k] ∧ nm.size ≤ maxLen ∧ to.size ≤ maxLen ∧ ByAt w bo y ∧ y.length ≤ 9223372036854775807 ∧ (-9223372036854775808 ≤ k ∧ k ≤ 9223372036854775807) := by
  obtain ⟨y0, y1, y2, y3, y4, n', hlen, h0, h1, h2, h3, h4⟩ := trod_struct5 Try.underlying39 h
  rw [cells_step] at hlen
  match cs, hlen with
  | [u0, u1, u2, u3, u4], _ =>
    obtain ⟨what, e0, -, -⟩ := DataW.trod_int Try.underlying3 h0
    obtain ⟨nm, e1, -, s1⟩ := DataW.trod_string Try.underlying9 h1
    obtain ⟨to, e2, -, s2⟩ := DataW.trod_string Try.underlying9 h2
    obtain ⟨bo, y, cb, e3, hy, hyl⟩ := trod_bytes h3
    obtain ⟨k, e4, -, wk⟩ := DataW.trod_int Try.underlying3 h4
    simp [cells_int] at e0
    simp [cells_str] at e1
    simp [cells_str] at e2
    simp [cells_sb] at e3
    simp [cells_int] at e4
    subst e0 e1 e2 e3 e4
    exact ⟨what, nm, to, bo, y, cb, k, rfl, s1, s2, hy, hyl, bd_i64 wk⟩
set_option maxRecDepth 100000 in
set_option maxHeartbeats 400000 in
theorem trod_act07 {n : Nat} {cs : List Value} {x : DataW H × List MemPlace} (h : DataW.trod enc Try.prog w base spare held n 41 cs = some x) :
    ∃ e : A7, cs = a7L e ∧ FitA e ∧ ByAt w e.bo e.y ∧ HasInt w e.po e.pk := by
  obtain ⟨y0, y1, y2, y3, n', -, hlen, h0, h1, h2, h3⟩ := trod_struct4 Try.underlying41 h
  rw [cells_act07] at hlen
  match cs, hlen with
  | [u0, u1, u2, u3, u4, u5, u6, u7], _ =>
    obtain ⟨what, nm, to, bo, y, cb, k, e0, s1, s2, hy, hyl, hkb⟩ := trod_step h0
    obtain ⟨s, e1, -⟩ := DataW.trod_bool Try.underlying4 h1
    obtain ⟨c, e2, -⟩ := DataW.trod_bool Try.underlying4 h2
    obtain ⟨po, pk, cp, e3, hp, hpl⟩ := trod_ints h3
    simp [cells_step] at e0
    simp [cells_bool] at e1
    simp [cells_bool] at e2
    simp [cells_si] at e3
    obtain ⟨rfl, rfl, rfl, rfl, rfl⟩ := e0
    subst e1 e2 e3
    exact ⟨⟨what, nm, to, bo, y, cb, k, s, c, po, pk, cp⟩, rfl, ⟨hyl, s1, s2, hpl, hkb⟩, hy, hp⟩
set_option maxRecDepth 100000 in
set_option maxHeartbeats 400000 in
theorem open_acts07 {x : Option Addr} {len cap : Nat} {d : DataW H} {p : List MemPlace} (h : DataW.Trod enc Try.prog w base spare held 35 (.slice x len cap) d p) :
    ∃ l : List A7, l.length = len ∧ HasA7 w x l ∧ (∀ e, e ∈ l → FitA e) ∧ len ≤ 9223372036854775807 := by
  obtain ⟨fuel, hf⟩ := h
  rcases open_slice Try.underlying35 hf with ⟨h1, -⟩ | ⟨a, len', cap', m, n, D, Pl, h1, -, hle, hcm, hm, -, hi⟩
  · simp [Value.cells] at h1
    obtain ⟨rfl, rfl, rfl⟩ := h1
    exact ⟨[], rfl, fun k e he => by simp at he, fun e he => by simp at he, by decide⟩
  · simp [Value.cells] at h1
    obtain ⟨rfl, rfl, rfl⟩ := h1
    have hlm : len ≤ m := by rw [hm]; split <;> omega
    have key : ∀ i, ∃ e : A7, i < len → (w.cell? (a.add (i * 8)) = some (.int .i64 e.what) ∧ w.cell? ((a.add (i * 8)).add 1) = some (.string e.nm) ∧ w.cell? ((a.add (i * 8)).add 2) = some (.string e.to) ∧ w.cell? ((a.add (i * 8)).add 3) = some (.slice e.bo e.y.length e.cb) ∧ w.cell? ((a.add (i * 8)).add 4) = some (.int .i64 e.n) ∧ w.cell? ((a.add (i * 8)).add 5) = some (.bool e.stop) ∧ w.cell? ((a.add (i * 8)).add 6) = some (.bool e.crash) ∧ w.cell? ((a.add (i * 8)).add 7) = some (.slice e.po e.pk.length e.cp)) ∧ FitA e ∧ ByAt w e.bo e.y ∧ HasInt w e.po e.pk := by
      intro i
      by_cases hil : i < len
      · obtain ⟨cs', hc, ht⟩ := hi i (by omega)
        rw [cells_act07] at hc
        obtain ⟨e, he, hs⟩ := trod_act07 ht
        obtain ⟨_, hcl, hat⟩ := World.cells?_some hc
        subst he
        have a0 := hat 0 (by simp)
        have a1 := hat 1 (by simp)
        have a2 := hat 2 (by simp)
        have a3 := hat 3 (by simp)
        have a4 := hat 4 (by simp)
        have a5 := hat 5 (by simp)
        have a6 := hat 6 (by simp)
        have a7 := hat 7 (by simp)
        simp only [a7L] at a0 a1 a2 a3 a4 a5 a6 a7
        exact ⟨e, fun _ => ⟨⟨by simpa [Addr.add] using a0, by simpa using a1, by simpa using a2, by simpa using a3, by simpa using a4, by simpa using a5, by simpa using a6, by simpa using a7⟩, hs⟩⟩
      · exact ⟨⟨0, ⟨#[]⟩, ⟨#[]⟩, none, [], 0, 0, false, false, none, [], 0⟩, fun h => absurd h hil⟩
    obtain ⟨f, hf⟩ := Classical.axiomOfChoice key
    refine ⟨(List.range len).map f, by simp, fun k e he => ?_, fun e he => ?_, by unfold maxLen at hcm; omega⟩
    · obtain ⟨hk, rfl⟩ := List.getElem?_eq_some_iff.1 he
      have hk' : k < len := by simpa using hk
      simp only [List.getElem_map, List.getElem_range]
      obtain ⟨⟨c0, c1, c2, c3, c4, c5, c6, c7⟩, -, hy, hp⟩ := hf k hk'
      obtain ⟨b, off, spot⟩ := a
      have hsp : spot = none := by
        obtain ⟨⟨d0, -⟩, -⟩ := hf 0 (by omega)
        rw [Nat.zero_mul] at d0
        exact spot_of d0
      subst hsp
      rw [Addr.add_lit] at c0 c1 c2 c3 c4 c5 c6 c7
      rw [Addr.add_lit] at c1 c2 c3 c4 c5 c6 c7
      exact ⟨b, off, rfl, c0, c1, c2, c3, c4, c5, c6, c7, hy, hp⟩
    · simp only [List.mem_map, List.mem_range] at he
      obtain ⟨k, hk, rfl⟩ := he
      exact (hf k hk).2.1
end
end Go.Proofs.Ytceoehjjebkgpaa
