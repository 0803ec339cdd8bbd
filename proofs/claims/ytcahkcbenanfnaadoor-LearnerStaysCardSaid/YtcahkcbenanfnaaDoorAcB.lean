
/- Package acceptor: Right. -/
import Derived.Test.YtcahkcbenanfnaaDoorAcA
import Derived.Test.YtcahkcbenanfnaaDoorMapI
import Derived.Deep.Cut
namespace Go.Proofs.YtcahkcbenanfnaaDoor
set_option linter.unusedSimpArgs false
set_option linter.unusedVariables false
open Go.RowKit
attribute [local go_sem] run_makeMap_plain
def sayB (n : Int) (s : ByteArray) : Bool := decide (1 ≤ n) && (decide (n ≤ 2147483647) && chkT s == 0)
set_option maxRecDepth 100000 in
set_option maxHeartbeats 2000000 in
theorem r3_any (b : Nat) (k m n : Int) (s : ByteArray) (v : Bool) (w : World) (hs : s.size ≤ 9223372036854775807) (hT : Tabs w) (hB : Boxed w b 4 (.bool v)) :
    Calls Tryd.prog 56 #[.agg #[.int .i64 k, .int .i64 m, .int .i64 n, .string s], .pointer (some ⟨b, 0, none⟩)] w fun e w' => e = .returned (.bool (v && sayB n s)) ∧ Below w.heap.size w w' := by
  have cb := extA_cell (hB.alloc (.cells #[.int .i64 k, .int .i64 m, .int .i64 n, .string s] 33)).cell
  have X := Blk.new w 33 [.int .i64 k, .int .i64 m, .int .i64 n, .string s]
  have HT := Lib.hid (hT.step ((Below.refl _ _).alloc (Nat.le_refl _) (.cells #[.int .i64 k, .int .i64 m, .int .i64 n, .string s] 33)))
  have c0 := extA_cell (X.cell (j := 0) rfl)
  have c1 := extA_cell (X.cell (j := 1) rfl)
  have c2 := extA_cell (X.cell (j := 2) rfl)
  have c3 := extA_cell (X.cell (j := 3) rfl)
  obtain ⟨e, he⟩ : ∃ e, chkT s = e := ⟨_, rfl⟩
  have cT := fun W hW => textCheck_any s hs W hW
  rw [he] at cT
  clear X hB hT
  rw [show sayB n s = (decide (1 ≤ n) && (decide (n ≤ 2147483647) && e == 0)) by simp [sayB, he]]
  clear he
  go_enter Tryd.func56, Tryd.ntmps56
  go_wp2
  refine wp_region_head (C := ExtA (w.alloc (.cells #[.int .i64 k, .int .i64 m, .int .i64 n, .string s] 33))) 11 (by kernel_rfl) (by decide) (by kernel_rfl) ⟨rfl, rfl, rfl, Nat.le_refl _, fun _ _ => rfl⟩ ?_
  simp only [List.take_succ_cons, List.take_zero]
  repeat
    (first
      | go_big_quiet_skip
      | (go_big_quiet_want
         go_big_quiet_op
         first
           | go_big_quiet_on
           | (apply Exists.intro
              refine ⟨fun w' hC => ?_, ?_⟩
              · (first
                  | with_reducible rfl
                  | (go_at_call 57; refine (cT _ (Tabs.step HT.out hC)).mono ?_; rintro e w2 ⟨rfl, hb⟩; exact ⟨rfl, Below.trans hC (hb.mono (Below.size hC))⟩)
                  | (go_simp; done)
                  | (go_simp; with_reducible rfl))
              go_big_quiet_on)))
  refine wpQuiet_nil ?_
  intro wq hq
  clear cb c0 c1 c2 c3 cT
  change wpAny _ _ _ _ (2 + 1) _ _ _
  refine wpAny_ready (rs := [11]) (by kernel_rfl) (by simp) ?_
  refine AllReady.cons (o := { dst := some 15, op := .buildSlice 114 4 #[(0, .tmp 4), (1, .tmp 7), (2, .tmp 10), (3, .tmp 14)], type := _, pos := _, after := _, guard := _ }) rfl (fun K hK => ?_) AllReady.nil
  go_simp
  refine hK _ _ ?_
  clear hK K
  refine wpAny_ready (rs := [12]) (by kernel_rfl) (by simp) ?_
  refine AllReady.cons (o := { dst := some 16, op := .call ⟨.value (.func 54), #[.tmp 15], #[114]⟩, type := _, pos := _, after := _, guard := _ }) rfl (fun K hK => ?_) AllReady.nil
  go_simp
  refine (allA_any _ [v, (decide (1 ≤ n)), (decide (n ≤ 2147483647)), (e == 0)] 4 rfl (by omega) _ (Blk.newA rfl 4 [.bool v, .bool (decide (1 ≤ n)), .bool (decide (n ≤ 2147483647)), .bool (e == 0)])).mono ?_
  rintro e w' ⟨rfl, rfl⟩
  refine hK _ _ ?_
  clear hK K
  refine wpAny_ready (rs := [13]) (by kernel_rfl) (by simp) ?_
  refine AllReady.cons (o := { dst := some 3, op := .assign (.tmp 16), type := _, pos := _, after := _, guard := _ }) rfl (fun K hK => ?_) AllReady.nil
  go_simp
  refine hK _ _ ?_
  clear hK K
  refine wpAny_done (by kernel_rfl) ?_ _
  go_wp2
  go_ret
  exact ⟨tx_bool (by simp), ((Below.refl _ _).alloc (Nat.le_refl _) _).trans ((Below.alloc hq hq.size _).mono (by simp))⟩
end Go.Proofs.YtcahkcbenanfnaaDoor
