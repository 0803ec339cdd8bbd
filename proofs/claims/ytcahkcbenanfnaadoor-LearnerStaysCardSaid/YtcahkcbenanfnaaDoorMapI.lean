
/- A map literal of whole numbers, just made: how it is laid, and what is found in it. -/
import Derived.Test.YtcahkcbenanfnaaDoorBlk
import Derived.MapKept
import Derived.WideMake
namespace Go.Proofs.YtcahkcbenanfnaaDoor
set_option linter.unusedSimpArgs false
set_option linter.unusedVariables false
open Go.RowKit
variable {P : Program} {mt kt et : TypeId}

def ent (k : Int) (v : Value) (n : Nat) : MapEntry := { key := .int .i64 k, val := v, born := n }
theorem heap_map (W : World) {g : Nat} (hg : W.heap.size = g) (es : Array MapEntry) (c : Nat) : (W.alloc (.map es c)).heap[g]? = some (.map es c) := hg ▸ World.alloc_heap_new W _
theorem set_map (W : World) {g : Nat} (hg : W.heap.size = g) (es es' : Array MapEntry) (c c' : Nat) : ({ (W.alloc (.map es c)) with heap := (W.alloc (.map es c)).heap.setIfInBounds g (.map es' c') } : World) = W.alloc (.map es' c') := by
  subst hg
  have e : (W.heap.push (.map es c)).setIfInBounds W.heap.size (.map es' c') = W.heap.push (.map es' c') := by
    apply Array.ext_getElem?
    intro i
    rw [Array.getElem?_setIfInBounds, Array.getElem?_push, Array.getElem?_push]
    by_cases e : W.heap.size = i
    · subst e; simp
    · have e' : ¬ i = W.heap.size := fun h => e h.symm
      simp [e, e']
  simp only [World.alloc, e]
theorem ins_at (W : World) {g : Nat} (hg : W.heap.size = g) (es : Array MapEntry) (c : Nat) (k : Int) (v : Value) (hm : P.underlying mt = some (.map kt et)) (hk : P.underlying kt = some (.int .i64))
    (hf : Instr.findNow (.int .i64) (.int .i64 k) es.toList 0 = some none) :
    (Instr.mapUpdate mt (.map (some g)) (.int .i64 k) v).run P (W.alloc (.map es c)) = .ok () (W.alloc (.map (es.push (ent k v c)) (c + 1))) := by
  have hb := heap_map W hg es c
  have hc : (Instr.checkKey false 10000 kt (.int .i64 k)).run P (W.alloc (.map es c)) = .ok () (W.alloc (.map es c)) := MapKept.run_checkKey (k := .int .i64 k) hk (by simp [MapKept.IsKey]) false 9999
  simp [Instr.mapUpdate, run_underlying hm, MapKept.run_getObj_map hb, hc, MapKept.run_findKey hk hf, MapKept.run_setObj_map _ hb, Result.andThen]
  exact set_map W hg es _ c _
theorem look_at (W : World) {g : Nat} (hg : W.heap.size = g) (es : Array MapEntry) (c : Nat) (k : Int) (i : Nat) (v : Value) (hm : P.underlying mt = some (.map kt et)) (hk : P.underlying kt = some (.int .i64))
    (hf : Instr.findNow (.int .i64) (.int .i64 k) es.toList 0 = some (some (i, v))) :
    (Instr.lookup mt (.map (some g)) (.int .i64 k) true).run P (W.alloc (.map es c)) = .ok (.tuple #[v, .bool true]) (W.alloc (.map es c)) := by
  have hb := heap_map W hg es c
  have hc : ∀ e, (Instr.checkKey e 10000 kt (.int .i64 k)).run P (W.alloc (.map es c)) = .ok () (W.alloc (.map es c)) := fun e => MapKept.run_checkKey (k := .int .i64 k) hk (by simp [MapKept.IsKey]) e 9999
  simp [Instr.lookup, run_underlying hm, MapKept.run_getObj_map hb, hc, MapKept.run_findKey hk hf, Result.andThen]
theorem look_no (W : World) {g : Nat} (hg : W.heap.size = g) (es : Array MapEntry) (c : Nat) (k : Int) (z : Value) (hm : P.underlying mt = some (.map kt et)) (hk : P.underlying kt = some (.int .i64)) (hz : ∀ w, (zeroValue et).run P w = .ok z w)
    (hf : Instr.findNow (.int .i64) (.int .i64 k) es.toList 0 = some none) :
    (Instr.lookup mt (.map (some g)) (.int .i64 k) true).run P (W.alloc (.map es c)) = .ok (.tuple #[z, .bool false]) (W.alloc (.map es c)) := by
  have hb := heap_map W hg es c
  have hc : ∀ e, (Instr.checkKey e 10000 kt (.int .i64 k)).run P (W.alloc (.map es c)) = .ok () (W.alloc (.map es c)) := fun e => MapKept.run_checkKey (k := .int .i64 k) hk (by simp [MapKept.IsKey]) e 9999
  simp [Instr.lookup, run_underlying hm, MapKept.run_getObj_map hb, hc, MapKept.run_findKey hk hf, Result.andThen, hz]
/-- A key is compared with each in turn. -/
theorem find_step (k a : Int) (v : Value) (n i : Nat) (es : List MapEntry) : Instr.findNow (.int .i64) (.int .i64 k) (ent a v n :: es) i = if k = a then some (some (i, v)) else Instr.findNow (.int .i64) (.int .i64 k) es (i + 1) := by
  by_cases h : k = a
  · subst h; simp [Instr.findNow, Instr.sameNow, ent]
  · have hb : (k == a) = false := by rw [beq_eq_false_iff_ne]; exact h
    simp [Instr.findNow, Instr.sameNow, ent, h, hb]
theorem find_nil (k : Int) (i : Nat) : Instr.findNow (.int .i64) (.int .i64 k) [] i = some none := rfl
end Go.Proofs.YtcahkcbenanfnaaDoor
