
/- Package disk: slices.Clone, Read; the statements' num, left. -/
import Derived.Test.YtceoehjjebkgpaaDkM
import Derived.Test.YtceoehjjebkgpaaDkK
import Derived.Lib.SliceRun
namespace Go.Proofs.Ytceoehjjebkgpaa
set_option linter.unusedSimpArgs false
set_option linter.unusedVariables false
open Go.RowKit Go.Maps
theorem wpList_append2 {P : Program} {ops : Array Oper} {rest : List Oper} {o : Oper} {a : Act} {w w' : World} {Q : Exit → Act → World → Prop} (hgd : o.guard = none) (s x : Operand) (t tx : TypeId)
    (ho : o.op = .call { callee := .builtin .append, args := #[s, x], argTypes := #[t, tx] }) {v v2 v' : Value} (hs : a.eval s = v) (hx : a.eval x = v2) (hrun : (Builtin.append_ #[t, tx] o.type #[v, v2]).run P w = .ok v' w') (h : wpList P ops Q rest (a.put o.dst v') w') :
    wpList P ops Q (o :: rest) a w :=
  wpList_plain hgd fun K hK => by
    unfold Oper.wp execOp
    simp only [ho, resolve, invoke, builtin, Sem.run_bind, Sem.run_pure, Result.andThen_ok, List.map_toArray, List.map_cons, List.map_nil, hs, hx, hrun]
    exact hK _ _ h
theorem eqlC_nil (w : World) (a : Option Addr) (n c n' c' : Nat) : (binOp .eql 59 (.slice a n c) (.slice none n' c')).run Try.prog w = .ok (.bool a.isNone) w := Lib.run_eql_slice_nil w _ _ a n c n' c' Try.underlying59
theorem bySl_some {W : World} {g : Nat} (h : W.heap[g]? = some (.cells #[] 5 (0, 0))) : BySl W (some ⟨g, 0, none⟩) [] := .inr ⟨g, rfl, [], (0, 0), h, .inr rfl⟩
set_option maxRecDepth 100000 in
set_option maxHeartbeats 2000000 in
theorem clone_any (ao : Option Addr) (x : BL) (cap : Nat) (w : World) (h : BySl w ao x) (hl : x.length ≤ 16777216) :
    Calls Try.prog 31 #[.slice ao x.length cap] w fun e w' => (∃ ao2 c2, e = .returned (.slice ao2 x.length c2) ∧ BySl w' ao2 x) ∧ Below w.heap.size w w' := by
  have hq := fun w n c => eqlC_nil w ao n c 0 0
  rcases id h with ⟨rfl, rfl⟩ | ⟨g, rfl, hg⟩
  · simp only [Option.isNone_none] at hq
    go_enter Try.func31, Try.ntmps31
    go_wp2_with fail
    go_ret
    exact ⟨⟨none, 0, rfl, .inl ⟨rfl, rfl⟩⟩, Below.refl _ _⟩
  · simp only [Option.isNone_some] at hq
    have hb1 := (Below.refl w.heap.size w).alloc (Nat.le_refl _) (.cells #[] 5)
    obtain ⟨ao2, c2, w2, hrun, h2, -, -, hb2⟩ := append_fullC (w.alloc (.cells #[] 5)) (some ⟨w.heap.size, 0, none⟩) (some ⟨g, 0, none⟩) [] x cap 59 (bySl_some (World.alloc_heap_new w _)) (h.step hb1).at (by simp; omega)
    simp only [List.nil_append, List.length_nil] at hrun h2
    go_enter Try.func31, Try.ntmps31
    go_wp2_with (at_builtin; refine wpList_append2 rfl _ _ _ _ rfl rfl rfl hrun ?_)
    go_ret
    exact ⟨⟨ao2, c2, rfl, h2⟩, hb1.trans (hb2.mono hb1.size)⟩
set_option maxRecDepth 100000 in
set_option maxHeartbeats 2000000 in
theorem dread_any (d mb : Nat) (D : Ds) (L : FMap) (s : ByteArray) (w : World) (h : DkW w d mb D L) (hG : GoodD D L) (hs : okS s) :
    Calls Try.prog 10 #[.pointer (some ⟨d, 0, none⟩), .string s] w fun e w' => (∃ ao2 c2, e = .returned (.tuple #[.slice ao2 (fileM L s).b.length c2, .int .i64 (fileE L s)]) ∧ BySl w' ao2 (fileM L s).b) ∧ Below w.heap.size w w' := by
  have hb := From.refl w
  have cF := fun W (hW : DkW W d mb D L) => dfile_any d mb D L s W hW hs
  have hcon := fun W (hW : DkW W d mb D L) => (file_con hW s).1
  have hle : (fileM L s).b.length ≤ 16777216 := by
    have h1 := getM_le (L := L) s
    have h2 := hG.used
    unfold fileM
    split
    · exact Nat.le_trans h1 h2
    · simp
  generalize fileM L s = m at *
  generalize fileE L s = E at *
  obtain ⟨ao, cap, x, sr⟩ := m
  unfold fmV at cF
  simp only at cF hcon hle ⊢
  go_enter Try.func10, Try.ntmps10
  go_upto_region 1 with fail
  go_wp2_with fail
  refine (cF _ h).mono ?_
  rintro e w2 ⟨rfl, hbn⟩
  replace hb := hb.step hbn
  replace h := h.step hbn
  clear hbn cF
  go_upto_region 2 with fail
  obtain ⟨gX, hgX⟩ : ∃ g, (w2).heap.size = g := ⟨_, rfl⟩
  have X := Blk.newV hgX 61 #[.slice ao x.length cap, .int .i64 sr]
  have hbn := (Below.refl (w2).heap.size w2).alloc (Nat.le_refl _) (.cells #[.slice ao x.length cap, .int .i64 sr] 61)
  replace hb := hb.step hbn
  replace h := h.step hbn
  clear hbn
  rw [hgX]
  generalize (w2).alloc (.cells #[.slice ao x.length cap, .int .i64 sr] 61) = w3 at *
  have x0 := X.cell (j := 0) rfl
  go_wp2_with fail
  refine (clone_any ao x cap _ (hcon _ h) hle).mono ?_
  rintro e w4 ⟨⟨ao2, c2, rfl, h2⟩, hbn⟩
  replace hb := hb.step hbn
  replace h := h.step hbn
  replace X := X.step hbn
  go_wp2_with fail
  go_ret2
  exact ⟨⟨ao2, c2, rfl, h2⟩, hb.out⟩
theorem num07_any (x : Int) (w : World) : Calls Try.prog 11 #[.int .i64 x] w fun e w' => e = .returned (.int .i64 x) ∧ w = w' := by
  go_enter Try.func11, Try.ntmps11
  go_wp2_with fail
  go_ret
  exact ⟨rfl, rfl⟩
def mkS (l : BL) : ByteArray := ⟨⟨l⟩⟩
theorem bySl_back {W : World} {ao : Option Addr} {b : BL} (h : BySl W ao b) (cap : Nat) : (convert 22 9 (.slice ao b.length cap)).run Try.prog W = .ok (.string (mkS b)) W := by
  rcases h with ⟨rfl, rfl⟩ | ⟨g, rfl, h⟩
  · simp [convert, run_underlying Try.underlying22, run_underlying Try.underlying5, run_underlying Try.underlying9, mkS, Conv.bytesToString]
    rfl
  · refine run_convert_bytes_back W 22 9 5 ⟨g, 0, none⟩ cap b Try.underlying22 Try.underlying5 Try.underlying9 fun j hj => ?_
    rw [show (⟨g, 0, none⟩ : Addr).add j = ⟨g, j, none⟩ by simp [Addr.add_lit]]
    exact h.cell (List.getElem?_eq_getElem hj)
end Go.Proofs.Ytceoehjjebkgpaa
