
/- Package acceptor: Right. -/
import Derived.Test.YthhpblchiodahaaGreatDoorM4
import Derived.Deep.Cut
namespace Go.Proofs.YthhpblchiodahaaGreatDoor
set_option linter.unusedSimpArgs false
set_option linter.unusedVariables false
open Go.RowKit
attribute [local go_sem] run_makeMap_plain
def entB (k m n : Int) (s : ByteArray) : Bool := if k = 1 then m == 0 && (n == 0 && emptyB s) else if k = 2 ∨ k = 3 then memB m && (n == 0 && emptyB s) else if k = 4 then memB m && sayB n s else false
def tab (g0 : Nat) : Array MapEntry := #[ent 1 (.func (.func 58) #[] #[]) 0, ent 2 (.func (.func 56) #[] #[.pointer (some ⟨g0 + 1, 0, none⟩)]) 1, ent 3 (.func (.func 56) #[] #[.pointer (some ⟨g0 + 1, 0, none⟩)]) 2, ent 4 (.func (.func 59) #[] #[.pointer (some ⟨g0 + 1, 0, none⟩)]) 3]
set_option maxRecDepth 100000 in
set_option maxHeartbeats 2000000 in
theorem ent_any (k m n : Int) (s : ByteArray) (w : World) (hs : s.size ≤ 9223372036854775807) (hT : Tabs w) :
    Calls Tryz.prog 28 #[.agg #[.int .i64 k, .int .i64 m, .int .i64 n, .string s]] w fun e w' => e = .returned (.bool (entB k m n s)) ∧ Below w.heap.size w w' := by
  by_cases h0 : 0 ≤ m
  · by_cases h1 : m < 16
    · have hv : memB m = true := by simp [memB, h0, h1]
      go_enter Tryz.func28, Tryz.ntmps28
      go_upto_region 3 with fail
      obtain ⟨g0, hg0⟩ : ∃ g, w.heap.size = g := ⟨_, rfl⟩
      have hg1 : (w.alloc (.cells #[.int .i64 k, .int .i64 m, .int .i64 n, .string s] 24)).heap.size = g0 + 1 := alloc_size hg0 _
      have hB1 := boxed_newA hg1 4 (.bool true)
      have X0 := (Blk.newA hg0 24 [.int .i64 k, .int .i64 m, .int .i64 n, .string s]).alloc (.cells #[.bool true] 4)
      have hb2 := ((Below.refl w.heap.size w).alloc (Nat.le_refl _) (.cells #[.int .i64 k, .int .i64 m, .int .i64 n, .string s] 24)).alloc (by rw [hg1, hg0]; exact Nat.le_succ _) (.cells #[.bool true] 4)
      have hT2 := hT.step hb2
      have hs2 : ((w.alloc (.cells #[.int .i64 k, .int .i64 m, .int .i64 n, .string s] 24)).alloc (.cells #[.bool true] 4)).heap.size = g0 + 2 := alloc_size hg1 _
      rw [hg0] at hb2 ⊢
      generalize hW2 : ((w.alloc (.cells #[.int .i64 k, .int .i64 m, .int .i64 n, .string s] 24)).alloc (.cells #[.bool true] 4)) = W2 at *
      clear hW2 hg1
      have mm : Tryz.prog.underlying 146 = some (.map 22 87) := rfl
      have mk : Tryz.prog.underlying 22 = some (.int .i64) := rfl
      have i1 : (Instr.mapUpdate 146 (.map (some W2.heap.size)) (.int .i64 1) (.func (.func 58) #[] #[])).run Tryz.prog (W2.alloc (.map #[] 0)) = .ok () (W2.alloc (.map #[ent 1 (.func (.func 58) #[] #[]) 0] 1)) := ins_at W2 rfl _ _ _ _ mm mk rfl
      have i2 : (Instr.mapUpdate 146 (.map (some W2.heap.size)) (.int .i64 2) (.func (.func 56) #[] #[.pointer (some ⟨g0 + 1, 0, none⟩)])).run Tryz.prog (W2.alloc (.map #[ent 1 (.func (.func 58) #[] #[]) 0] 1)) = .ok () (W2.alloc (.map #[ent 1 (.func (.func 58) #[] #[]) 0, ent 2 (.func (.func 56) #[] #[.pointer (some ⟨g0 + 1, 0, none⟩)]) 1] 2)) := ins_at W2 rfl _ _ _ _ mm mk (by simp [find_step, find_nil])
      have i3 : (Instr.mapUpdate 146 (.map (some W2.heap.size)) (.int .i64 3) (.func (.func 56) #[] #[.pointer (some ⟨g0 + 1, 0, none⟩)])).run Tryz.prog (W2.alloc (.map #[ent 1 (.func (.func 58) #[] #[]) 0, ent 2 (.func (.func 56) #[] #[.pointer (some ⟨g0 + 1, 0, none⟩)]) 1] 2)) = .ok () (W2.alloc (.map #[ent 1 (.func (.func 58) #[] #[]) 0, ent 2 (.func (.func 56) #[] #[.pointer (some ⟨g0 + 1, 0, none⟩)]) 1, ent 3 (.func (.func 56) #[] #[.pointer (some ⟨g0 + 1, 0, none⟩)]) 2] 3)) := ins_at W2 rfl _ _ _ _ mm mk (by simp [find_step, find_nil])
      have i4 : (Instr.mapUpdate 146 (.map (some W2.heap.size)) (.int .i64 4) (.func (.func 59) #[] #[.pointer (some ⟨g0 + 1, 0, none⟩)])).run Tryz.prog (W2.alloc (.map #[ent 1 (.func (.func 58) #[] #[]) 0, ent 2 (.func (.func 56) #[] #[.pointer (some ⟨g0 + 1, 0, none⟩)]) 1, ent 3 (.func (.func 56) #[] #[.pointer (some ⟨g0 + 1, 0, none⟩)]) 2] 3)) = .ok () (W2.alloc (.map (tab g0) 4)) := ins_at W2 rfl _ _ _ _ mm mk (by simp [find_step, find_nil])
      have e0 := (X0.alloc (.map (tab g0) 4)).cell (j := 0) rfl
      have e1 := (X0.alloc (.map (tab g0) 4)).cell (j := 1) rfl
      have e2 := (X0.alloc (.map (tab g0) 4)).cell (j := 2) rfl
      have e3 := (X0.alloc (.map (tab g0) 4)).cell (j := 3) rfl
      have hB3 := hB1.alloc (.map (tab g0) 4)
      have hb3 := hb2.alloc (by omega) (.map (tab g0) 4)
      have hT3 := hT2.step ((Below.refl _ _).alloc (Nat.le_refl _) (.map (tab g0) 4))
      have lk : (if k = 1 then (Instr.lookup 146 (.map (some W2.heap.size)) (.int .i64 k) true).run Tryz.prog (W2.alloc (.map (tab g0) 4)) = .ok (.tuple #[.func (.func 58) #[] #[], .bool true]) (W2.alloc (.map (tab g0) 4))
          else if k = 2 ∨ k = 3 then (Instr.lookup 146 (.map (some W2.heap.size)) (.int .i64 k) true).run Tryz.prog (W2.alloc (.map (tab g0) 4)) = .ok (.tuple #[.func (.func 56) #[] #[.pointer (some ⟨g0 + 1, 0, none⟩)], .bool true]) (W2.alloc (.map (tab g0) 4))
          else if k = 4 then (Instr.lookup 146 (.map (some W2.heap.size)) (.int .i64 k) true).run Tryz.prog (W2.alloc (.map (tab g0) 4)) = .ok (.tuple #[.func (.func 59) #[] #[.pointer (some ⟨g0 + 1, 0, none⟩)], .bool true]) (W2.alloc (.map (tab g0) 4))
          else (Instr.lookup 146 (.map (some W2.heap.size)) (.int .i64 k) true).run Tryz.prog (W2.alloc (.map (tab g0) 4)) = .ok (.tuple #[.nilFunc, .bool false]) (W2.alloc (.map (tab g0) 4))) := by
        by_cases k1 : k = 1
        · subst k1
          exact look_at W2 rfl _ _ _ 0 _ mm mk (by simp [tab, find_step])
        · rw [if_neg k1]
          by_cases k2 : k = 2
          · subst k2
            exact look_at W2 rfl _ _ _ 1 _ mm mk (by simp [tab, find_step])
          · by_cases k3 : k = 3
            · subst k3
              exact look_at W2 rfl _ _ _ 2 _ mm mk (by simp [tab, find_step])
            · rw [if_neg (fun h => h.elim k2 k3)]
              by_cases k4 : k = 4
              · subst k4
                exact look_at W2 rfl _ _ _ 3 _ mm mk (by simp [tab, find_step])
              · rw [if_neg k4]
                exact look_no W2 rfl _ _ _ _ mm mk (fun w => by go_simp) (by simp [tab, find_step, find_nil, k1, k2, k3, k4])
      generalize W2.alloc (.map (tab g0) 4) = W3 at *
      clear hs2 hT2 X0 hB1 hT
      have hgs : g0 ≤ W3.heap.size := hg0 ▸ hb3.size
      clear hb2 mm mk
      by_cases k1 : k = 1
      · subst k1
        rw [if_pos rfl] at lk
        go_wp2_with fail
        refine (r2_any 1 m n s W3).mono ?_
        rintro e w' ⟨rfl, hb⟩
        go_wp2_with fail
        go_ret
        exact ⟨by simp [entB], hg0 ▸ hb3.trans (hb.mono hgs)⟩
      ·
        rw [if_neg k1] at lk
        by_cases k2 : k = 2 ∨ k = 3
        · rw [if_pos k2] at lk
          go_wp2_with fail
          refine (r1_any (g0 + 1) k m n s true W3 hB3).mono ?_
          rintro e w' ⟨rfl, hb⟩
          go_wp2_with fail
          go_ret
          exact ⟨by simp [entB, k1, k2, hv], hg0 ▸ hb3.trans (hb.mono hgs)⟩
        ·
          rw [if_neg k2] at lk
          by_cases k4 : k = 4
          · subst k4
            rw [if_pos rfl] at lk
            go_wp2_with fail
            refine (r3_any (g0 + 1) 4 m n s true W3 hs hT3 hB3).mono ?_
            rintro e w' ⟨rfl, hb⟩
            go_wp2_with fail
            go_ret
            exact ⟨by simp [entB, hv], hg0 ▸ hb3.trans (hb.mono hgs)⟩
          ·
            rw [if_neg k4] at lk
            go_wp2_with fail
            go_ret
            exact ⟨by simp [entB, k1, k2, k4], hg0 ▸ hb3⟩
    · have hv : memB m = false := by simp [memB, h1]
      go_enter Tryz.func28, Tryz.ntmps28
      go_upto_region 3 with fail
      obtain ⟨g0, hg0⟩ : ∃ g, w.heap.size = g := ⟨_, rfl⟩
      have hg1 : (w.alloc (.cells #[.int .i64 k, .int .i64 m, .int .i64 n, .string s] 24)).heap.size = g0 + 1 := alloc_size hg0 _
      have hB1 := boxed_newA hg1 4 (.bool false)
      have X0 := (Blk.newA hg0 24 [.int .i64 k, .int .i64 m, .int .i64 n, .string s]).alloc (.cells #[.bool false] 4)
      have hb2 := ((Below.refl w.heap.size w).alloc (Nat.le_refl _) (.cells #[.int .i64 k, .int .i64 m, .int .i64 n, .string s] 24)).alloc (by rw [hg1, hg0]; exact Nat.le_succ _) (.cells #[.bool false] 4)
      have hT2 := hT.step hb2
      have hs2 : ((w.alloc (.cells #[.int .i64 k, .int .i64 m, .int .i64 n, .string s] 24)).alloc (.cells #[.bool false] 4)).heap.size = g0 + 2 := alloc_size hg1 _
      rw [hg0] at hb2 ⊢
      generalize hW2 : ((w.alloc (.cells #[.int .i64 k, .int .i64 m, .int .i64 n, .string s] 24)).alloc (.cells #[.bool false] 4)) = W2 at *
      clear hW2 hg1
      have mm : Tryz.prog.underlying 146 = some (.map 22 87) := rfl
      have mk : Tryz.prog.underlying 22 = some (.int .i64) := rfl
      have i1 : (Instr.mapUpdate 146 (.map (some W2.heap.size)) (.int .i64 1) (.func (.func 58) #[] #[])).run Tryz.prog (W2.alloc (.map #[] 0)) = .ok () (W2.alloc (.map #[ent 1 (.func (.func 58) #[] #[]) 0] 1)) := ins_at W2 rfl _ _ _ _ mm mk rfl
      have i2 : (Instr.mapUpdate 146 (.map (some W2.heap.size)) (.int .i64 2) (.func (.func 56) #[] #[.pointer (some ⟨g0 + 1, 0, none⟩)])).run Tryz.prog (W2.alloc (.map #[ent 1 (.func (.func 58) #[] #[]) 0] 1)) = .ok () (W2.alloc (.map #[ent 1 (.func (.func 58) #[] #[]) 0, ent 2 (.func (.func 56) #[] #[.pointer (some ⟨g0 + 1, 0, none⟩)]) 1] 2)) := ins_at W2 rfl _ _ _ _ mm mk (by simp [find_step, find_nil])
      have i3 : (Instr.mapUpdate 146 (.map (some W2.heap.size)) (.int .i64 3) (.func (.func 56) #[] #[.pointer (some ⟨g0 + 1, 0, none⟩)])).run Tryz.prog (W2.alloc (.map #[ent 1 (.func (.func 58) #[] #[]) 0, ent 2 (.func (.func 56) #[] #[.pointer (some ⟨g0 + 1, 0, none⟩)]) 1] 2)) = .ok () (W2.alloc (.map #[ent 1 (.func (.func 58) #[] #[]) 0, ent 2 (.func (.func 56) #[] #[.pointer (some ⟨g0 + 1, 0, none⟩)]) 1, ent 3 (.func (.func 56) #[] #[.pointer (some ⟨g0 + 1, 0, none⟩)]) 2] 3)) := ins_at W2 rfl _ _ _ _ mm mk (by simp [find_step, find_nil])
      have i4 : (Instr.mapUpdate 146 (.map (some W2.heap.size)) (.int .i64 4) (.func (.func 59) #[] #[.pointer (some ⟨g0 + 1, 0, none⟩)])).run Tryz.prog (W2.alloc (.map #[ent 1 (.func (.func 58) #[] #[]) 0, ent 2 (.func (.func 56) #[] #[.pointer (some ⟨g0 + 1, 0, none⟩)]) 1, ent 3 (.func (.func 56) #[] #[.pointer (some ⟨g0 + 1, 0, none⟩)]) 2] 3)) = .ok () (W2.alloc (.map (tab g0) 4)) := ins_at W2 rfl _ _ _ _ mm mk (by simp [find_step, find_nil])
      have e0 := (X0.alloc (.map (tab g0) 4)).cell (j := 0) rfl
      have e1 := (X0.alloc (.map (tab g0) 4)).cell (j := 1) rfl
      have e2 := (X0.alloc (.map (tab g0) 4)).cell (j := 2) rfl
      have e3 := (X0.alloc (.map (tab g0) 4)).cell (j := 3) rfl
      have hB3 := hB1.alloc (.map (tab g0) 4)
      have hb3 := hb2.alloc (by omega) (.map (tab g0) 4)
      have hT3 := hT2.step ((Below.refl _ _).alloc (Nat.le_refl _) (.map (tab g0) 4))
      have lk : (if k = 1 then (Instr.lookup 146 (.map (some W2.heap.size)) (.int .i64 k) true).run Tryz.prog (W2.alloc (.map (tab g0) 4)) = .ok (.tuple #[.func (.func 58) #[] #[], .bool true]) (W2.alloc (.map (tab g0) 4))
          else if k = 2 ∨ k = 3 then (Instr.lookup 146 (.map (some W2.heap.size)) (.int .i64 k) true).run Tryz.prog (W2.alloc (.map (tab g0) 4)) = .ok (.tuple #[.func (.func 56) #[] #[.pointer (some ⟨g0 + 1, 0, none⟩)], .bool true]) (W2.alloc (.map (tab g0) 4))
          else if k = 4 then (Instr.lookup 146 (.map (some W2.heap.size)) (.int .i64 k) true).run Tryz.prog (W2.alloc (.map (tab g0) 4)) = .ok (.tuple #[.func (.func 59) #[] #[.pointer (some ⟨g0 + 1, 0, none⟩)], .bool true]) (W2.alloc (.map (tab g0) 4))
          else (Instr.lookup 146 (.map (some W2.heap.size)) (.int .i64 k) true).run Tryz.prog (W2.alloc (.map (tab g0) 4)) = .ok (.tuple #[.nilFunc, .bool false]) (W2.alloc (.map (tab g0) 4))) := by
        by_cases k1 : k = 1
        · subst k1
          exact look_at W2 rfl _ _ _ 0 _ mm mk (by simp [tab, find_step])
        · rw [if_neg k1]
          by_cases k2 : k = 2
          · subst k2
            exact look_at W2 rfl _ _ _ 1 _ mm mk (by simp [tab, find_step])
          · by_cases k3 : k = 3
            · subst k3
              exact look_at W2 rfl _ _ _ 2 _ mm mk (by simp [tab, find_step])
            · rw [if_neg (fun h => h.elim k2 k3)]
              by_cases k4 : k = 4
              · subst k4
                exact look_at W2 rfl _ _ _ 3 _ mm mk (by simp [tab, find_step])
              · rw [if_neg k4]
                exact look_no W2 rfl _ _ _ _ mm mk (fun w => by go_simp) (by simp [tab, find_step, find_nil, k1, k2, k3, k4])
      generalize W2.alloc (.map (tab g0) 4) = W3 at *
      clear hs2 hT2 X0 hB1 hT
      have hgs : g0 ≤ W3.heap.size := hg0 ▸ hb3.size
      clear hb2 mm mk
      by_cases k1 : k = 1
      · subst k1
        rw [if_pos rfl] at lk
        go_wp2_with fail
        refine (r2_any 1 m n s W3).mono ?_
        rintro e w' ⟨rfl, hb⟩
        go_wp2_with fail
        go_ret
        exact ⟨by simp [entB], hg0 ▸ hb3.trans (hb.mono hgs)⟩
      ·
        rw [if_neg k1] at lk
        by_cases k2 : k = 2 ∨ k = 3
        · rw [if_pos k2] at lk
          go_wp2_with fail
          refine (r1_any (g0 + 1) k m n s false W3 hB3).mono ?_
          rintro e w' ⟨rfl, hb⟩
          go_wp2_with fail
          go_ret
          exact ⟨by simp [entB, k1, k2, hv], hg0 ▸ hb3.trans (hb.mono hgs)⟩
        ·
          rw [if_neg k2] at lk
          by_cases k4 : k = 4
          · subst k4
            rw [if_pos rfl] at lk
            go_wp2_with fail
            refine (r3_any (g0 + 1) 4 m n s false W3 hs hT3 hB3).mono ?_
            rintro e w' ⟨rfl, hb⟩
            go_wp2_with fail
            go_ret
            exact ⟨by simp [entB, hv], hg0 ▸ hb3.trans (hb.mono hgs)⟩
          ·
            rw [if_neg k4] at lk
            go_wp2_with fail
            go_ret
            exact ⟨by simp [entB, k1, k2, k4], hg0 ▸ hb3⟩
  · have hv : memB m = false := by simp [memB, h0]
    go_enter Tryz.func28, Tryz.ntmps28
    go_upto_region 3 with fail
    obtain ⟨g0, hg0⟩ : ∃ g, w.heap.size = g := ⟨_, rfl⟩
    have hg1 : (w.alloc (.cells #[.int .i64 k, .int .i64 m, .int .i64 n, .string s] 24)).heap.size = g0 + 1 := alloc_size hg0 _
    have hB1 := boxed_newA hg1 4 (.bool false)
    have X0 := (Blk.newA hg0 24 [.int .i64 k, .int .i64 m, .int .i64 n, .string s]).alloc (.cells #[.bool false] 4)
    have hb2 := ((Below.refl w.heap.size w).alloc (Nat.le_refl _) (.cells #[.int .i64 k, .int .i64 m, .int .i64 n, .string s] 24)).alloc (by rw [hg1, hg0]; exact Nat.le_succ _) (.cells #[.bool false] 4)
    have hT2 := hT.step hb2
    have hs2 : ((w.alloc (.cells #[.int .i64 k, .int .i64 m, .int .i64 n, .string s] 24)).alloc (.cells #[.bool false] 4)).heap.size = g0 + 2 := alloc_size hg1 _
    rw [hg0] at hb2 ⊢
    generalize hW2 : ((w.alloc (.cells #[.int .i64 k, .int .i64 m, .int .i64 n, .string s] 24)).alloc (.cells #[.bool false] 4)) = W2 at *
    clear hW2 hg1
    have mm : Tryz.prog.underlying 146 = some (.map 22 87) := rfl
    have mk : Tryz.prog.underlying 22 = some (.int .i64) := rfl
    have i1 : (Instr.mapUpdate 146 (.map (some W2.heap.size)) (.int .i64 1) (.func (.func 58) #[] #[])).run Tryz.prog (W2.alloc (.map #[] 0)) = .ok () (W2.alloc (.map #[ent 1 (.func (.func 58) #[] #[]) 0] 1)) := ins_at W2 rfl _ _ _ _ mm mk rfl
    have i2 : (Instr.mapUpdate 146 (.map (some W2.heap.size)) (.int .i64 2) (.func (.func 56) #[] #[.pointer (some ⟨g0 + 1, 0, none⟩)])).run Tryz.prog (W2.alloc (.map #[ent 1 (.func (.func 58) #[] #[]) 0] 1)) = .ok () (W2.alloc (.map #[ent 1 (.func (.func 58) #[] #[]) 0, ent 2 (.func (.func 56) #[] #[.pointer (some ⟨g0 + 1, 0, none⟩)]) 1] 2)) := ins_at W2 rfl _ _ _ _ mm mk (by simp [find_step, find_nil])
    have i3 : (Instr.mapUpdate 146 (.map (some W2.heap.size)) (.int .i64 3) (.func (.func 56) #[] #[.pointer (some ⟨g0 + 1, 0, none⟩)])).run Tryz.prog (W2.alloc (.map #[ent 1 (.func (.func 58) #[] #[]) 0, ent 2 (.func (.func 56) #[] #[.pointer (some ⟨g0 + 1, 0, none⟩)]) 1] 2)) = .ok () (W2.alloc (.map #[ent 1 (.func (.func 58) #[] #[]) 0, ent 2 (.func (.func 56) #[] #[.pointer (some ⟨g0 + 1, 0, none⟩)]) 1, ent 3 (.func (.func 56) #[] #[.pointer (some ⟨g0 + 1, 0, none⟩)]) 2] 3)) := ins_at W2 rfl _ _ _ _ mm mk (by simp [find_step, find_nil])
    have i4 : (Instr.mapUpdate 146 (.map (some W2.heap.size)) (.int .i64 4) (.func (.func 59) #[] #[.pointer (some ⟨g0 + 1, 0, none⟩)])).run Tryz.prog (W2.alloc (.map #[ent 1 (.func (.func 58) #[] #[]) 0, ent 2 (.func (.func 56) #[] #[.pointer (some ⟨g0 + 1, 0, none⟩)]) 1, ent 3 (.func (.func 56) #[] #[.pointer (some ⟨g0 + 1, 0, none⟩)]) 2] 3)) = .ok () (W2.alloc (.map (tab g0) 4)) := ins_at W2 rfl _ _ _ _ mm mk (by simp [find_step, find_nil])
    have e0 := (X0.alloc (.map (tab g0) 4)).cell (j := 0) rfl
    have e1 := (X0.alloc (.map (tab g0) 4)).cell (j := 1) rfl
    have e2 := (X0.alloc (.map (tab g0) 4)).cell (j := 2) rfl
    have e3 := (X0.alloc (.map (tab g0) 4)).cell (j := 3) rfl
    have hB3 := hB1.alloc (.map (tab g0) 4)
    have hb3 := hb2.alloc (by omega) (.map (tab g0) 4)
    have hT3 := hT2.step ((Below.refl _ _).alloc (Nat.le_refl _) (.map (tab g0) 4))
    have lk : (if k = 1 then (Instr.lookup 146 (.map (some W2.heap.size)) (.int .i64 k) true).run Tryz.prog (W2.alloc (.map (tab g0) 4)) = .ok (.tuple #[.func (.func 58) #[] #[], .bool true]) (W2.alloc (.map (tab g0) 4))
        else if k = 2 ∨ k = 3 then (Instr.lookup 146 (.map (some W2.heap.size)) (.int .i64 k) true).run Tryz.prog (W2.alloc (.map (tab g0) 4)) = .ok (.tuple #[.func (.func 56) #[] #[.pointer (some ⟨g0 + 1, 0, none⟩)], .bool true]) (W2.alloc (.map (tab g0) 4))
        else if k = 4 then (Instr.lookup 146 (.map (some W2.heap.size)) (.int .i64 k) true).run Tryz.prog (W2.alloc (.map (tab g0) 4)) = .ok (.tuple #[.func (.func 59) #[] #[.pointer (some ⟨g0 + 1, 0, none⟩)], .bool true]) (W2.alloc (.map (tab g0) 4))
        else (Instr.lookup 146 (.map (some W2.heap.size)) (.int .i64 k) true).run Tryz.prog (W2.alloc (.map (tab g0) 4)) = .ok (.tuple #[.nilFunc, .bool false]) (W2.alloc (.map (tab g0) 4))) := by
      by_cases k1 : k = 1
      · subst k1
        exact look_at W2 rfl _ _ _ 0 _ mm mk (by simp [tab, find_step])
      · rw [if_neg k1]
        by_cases k2 : k = 2
        · subst k2
          exact look_at W2 rfl _ _ _ 1 _ mm mk (by simp [tab, find_step])
        · by_cases k3 : k = 3
          · subst k3
            exact look_at W2 rfl _ _ _ 2 _ mm mk (by simp [tab, find_step])
          · rw [if_neg (fun h => h.elim k2 k3)]
            by_cases k4 : k = 4
            · subst k4
              exact look_at W2 rfl _ _ _ 3 _ mm mk (by simp [tab, find_step])
            · rw [if_neg k4]
              exact look_no W2 rfl _ _ _ _ mm mk (fun w => by go_simp) (by simp [tab, find_step, find_nil, k1, k2, k3, k4])
    generalize W2.alloc (.map (tab g0) 4) = W3 at *
    clear hs2 hT2 X0 hB1 hT
    have hgs : g0 ≤ W3.heap.size := hg0 ▸ hb3.size
    clear hb2 mm mk
    by_cases k1 : k = 1
    · subst k1
      rw [if_pos rfl] at lk
      go_wp2_with fail
      refine (r2_any 1 m n s W3).mono ?_
      rintro e w' ⟨rfl, hb⟩
      go_wp2_with fail
      go_ret
      exact ⟨by simp [entB], hg0 ▸ hb3.trans (hb.mono hgs)⟩
    ·
      rw [if_neg k1] at lk
      by_cases k2 : k = 2 ∨ k = 3
      · rw [if_pos k2] at lk
        go_wp2_with fail
        refine (r1_any (g0 + 1) k m n s false W3 hB3).mono ?_
        rintro e w' ⟨rfl, hb⟩
        go_wp2_with fail
        go_ret
        exact ⟨by simp [entB, k1, k2, hv], hg0 ▸ hb3.trans (hb.mono hgs)⟩
      ·
        rw [if_neg k2] at lk
        by_cases k4 : k = 4
        · subst k4
          rw [if_pos rfl] at lk
          go_wp2_with fail
          refine (r3_any (g0 + 1) 4 m n s false W3 hs hT3 hB3).mono ?_
          rintro e w' ⟨rfl, hb⟩
          go_wp2_with fail
          go_ret
          exact ⟨by simp [entB, hv], hg0 ▸ hb3.trans (hb.mono hgs)⟩
        ·
          rw [if_neg k4] at lk
          go_wp2_with fail
          go_ret
          exact ⟨by simp [entB, k1, k2, k4], hg0 ▸ hb3⟩
end Go.Proofs.YthhpblchiodahaaGreatDoor
