
/- Package disk: all: the files, in the order of their names. -/
import Derived.Test.YtceoehjjebkgpaaDkB
import Derived.Test.YtceoehjjebkgpaaDkS
import Derived.OwnWalkIn
import Derived.TacticsInMore
import Derived.LoopNIn
import Derived.LoopIn
import Derived.BigGuardIn
import Derived.OwnWalk
namespace Go.Proofs.Ytceoehjjebkgpaa
set_option linter.unusedSimpArgs false
set_option linter.unusedVariables false
open Go.RowKit Go.Maps Go.Sort Go.Shelf
attribute [local go_sem] Oper.semAt_some
theorem sorts7 (m : Nat) : AnyZ.SortsIn Try.prog Try.sorted7_ren Fence.wide m :=
  ⟨fun blk off cap ss W hH hblk hsz => callsIn_wide.2 (AnyM.slices_Sort_string Try.sort7 blk off cap ss W hH hblk hsz),
   fun p cap W => callsIn_wide.2 (AnyM.slices_Sort_string_none Try.sort7 p cap W)⟩
theorem keys7_in (mb : Option Nat) (W : World) : CallsIn Fence.wide 5 Try.prog 43 #[.map mb] W fun e w' => e = .returned (.func (.func 50) #[] #[.pointer (some ⟨W.heap.size, 0, none⟩)]) ∧ w' = W.alloc (.cells #[.map mb] 53) :=
  AnyZ.keys_in Try.keys7 Fence.wide 5 trivial rfl mb W
set_option maxRecDepth 100000 in
set_option maxHeartbeats 1000000 in
theorem sorted7_in {H : Type} (b nn : Nat) (D0 : DataW H) (R : Value → Option (DataW H × List MemPlace)) (w : World) (hown : w.ownsMap Try.prog 9 R b nn D0) (hmax : Maps.size D0 ≤ maxLen) (hbytes : Maps.size D0 * 16 ≤ 140737488355328) :
    CallsIn Fence.wide 5 Try.prog 42 #[.func (.func 50) #[] #[.pointer (some ⟨w.heap.size, 0, none⟩)]] (w.alloc (.cells #[.map (some b)] 53)) fun e w' => ∃ (v : Value) (ss : List (List UInt8)), e = .returned v ∧ ss.Perm (strKeys D0) ∧
      w'.ownsRow (w.alloc (.cells #[.map (some b)] 53)).heap.size 9 1 v ss.length ((ss.mergeSort (fun x y => decide (x ≤ y))).map encStr) ∧ (v = .slice none 0 0 ↔ ss = []) ∧ Below (w.alloc (.cells #[.map (some b)] 53)).heap.size (w.alloc (.cells #[.map (some b)] 53)) w' := by
  have hbl := hown.lt
  have hseq : SeqGives Fence.wide 2 Try.prog 50 #[.pointer (some ⟨w.heap.size, 0, none⟩)] encStr (fun ss => ss.Perm (strKeys D0)) (Maps.size D0) (w.alloc (.cells #[.map (some b)] 53)) :=
    AnyZ.keys_gives (ρ := Try.keys7_ren) { Try.keys7 with } Fence.wide _ trivial rfl (by omega) w.heap.size b nn D0 _ (by simp) (by simp) (by
      obtain ⟨es, clock, hb, Ft, hs, hD⟩ := hown
      exact ⟨es, clock, (Below.heap_alloc _ _ b hbl).trans hb, Ft, hs, hD⟩)
  exact AnyZ.sorted_in Try.sorted7 Fence.wide 5 trivial trivial trivial trivial rfl (by omega) (sorts7 _) (enters_of Try.func49 (by kernel_rfl) rfl) 50 #[.pointer (some ⟨w.heap.size, 0, none⟩)] trivial (enters_of Try.func50 (by kernel_rfl) rfl) _ _ hmax hbytes _ hseq
/-! The names, in order. -/
def nmK (s : ByteArray) : BL := s.data.toList
def leK (p q : ByteArray × Fm) : Bool := decide (nmK p.1 ≤ nmK q.1)
/-- The files in the order of their names. -/
def srt (L : FMap) : FMap := L.mergeSort leK
theorem nmK_inj {s t : ByteArray} (h : nmK s = nmK t) : s = t := by
  obtain ⟨⟨a⟩⟩ := s
  obtain ⟨⟨b⟩⟩ := t
  unfold nmK at h
  simp at h
  rw [h]
theorem leK_trans (a b c : ByteArray × Fm) : leK a b = true → leK b c = true → leK a c = true := by
  unfold leK
  simp only [decide_eq_true_eq]
  exact fun h1 h2 => List.le_trans h1 h2
theorem leK_total (a b : ByteArray × Fm) : (leK a b || leK b a) = true := by
  unfold leK
  simp only [Bool.or_eq_true, decide_eq_true_eq]
  exact List.le_total _ _
theorem srt_perm (L : FMap) : (srt L).Perm L := List.mergeSort_perm L leK
theorem srt_keys {L : FMap} {ss : List BL} (h : ss.Perm (L.map fun p => nmK p.1)) : ss.mergeSort (fun x y => decide (x ≤ y)) = (srt L).map fun p => nmK p.1 := by
  refine List.Perm.eq_of_pairwise (le := fun x y => x ≤ y) (fun a b _ _ h1 h2 => List.le_antisymm h1 h2) ?_ ?_ ?_
  · have := List.pairwise_mergeSort (le := fun x y : BL => decide (x ≤ y)) (by
      intro a b c h1 h2
      simp only [decide_eq_true_eq] at h1 h2 ⊢
      exact List.le_trans h1 h2) (by
      intro a b
      simp only [Bool.or_eq_true, decide_eq_true_eq]
      exact List.le_total _ _) ss
    exact this.imp (fun h => by simpa using h)
  · rw [List.pairwise_map]
    exact (List.pairwise_mergeSort leK_trans leK_total L).imp (fun h => by simpa [leK] using h)
  · exact (List.mergeSort_perm ss _).trans (h.trans ((srt_perm L).map _).symm)
def bytesOf : Value → BL
  | .string s => nmK s
  | _ => []
theorem keys_mapD {W : World} {b : Nat} {L : FMap} (h : MapD W b L) : ∃ D0 : DataW Value, W.ownsMap Try.prog 9 heldR b L.length D0 ∧ (strKeys D0).Perm (L.map fun p => nmK p.1) ∧ Maps.size D0 = L.length := by
  obtain ⟨es, clock, hb, F, hp, hn⟩ := h
  have hlen := hp.length_eq
  simp at hlen
  have hperm := Go.WideShapes.sorted_perm (es.toList.map (Go.WideElems.rg Try.prog 9 heldR))
  refine ⟨_, ⟨es, clock, hb, F, by omega, rfl⟩, ?_, ?_⟩
  · unfold strKeys
    refine (hperm.map _).trans ?_
    have e1 : (es.toList.map (Go.WideElems.rg Try.prog 9 heldR)).map (fun p => strOf p.1) = (es.toList.map fun e => (e.key, e.val)).map (fun q => bytesOf q.1) := by
      rw [List.map_map, List.map_map]
      apply List.map_congr_left
      intro x hx
      obtain ⟨l, h1, h2⟩ := rg_held F hx
      simp only [Function.comp, h2]
      have hm : (x.key, x.val) ∈ L.map fun p => (Value.string p.1, fmV p.2) := hp.mem_iff.1 (List.mem_map.2 ⟨x, hx, rfl⟩)
      obtain ⟨p, -, hpe⟩ := List.mem_map.1 hm
      have hk : x.key = .string p.1 := (congrArg Prod.fst hpe).symm
      rw [hk] at h1 ⊢
      have h3 : keyOf Try.prog 9 (.string p.1) = if p.1.size ≤ maxLen then some (.string p.1.data.toList) else none := by
        simp [keyOf, mapKey, Try.underlying9]
      rw [h3] at h1
      split at h1
      · cases h1; rfl
      · cases h1
    rw [e1]
    refine (hp.map _).trans (List.Perm.of_eq ?_)
    rw [List.map_map]
    rfl
  · rw [Maps.size_eq, hperm.length_eq]
    simpa using hlen
end Go.Proofs.Ytceoehjjebkgpaa
