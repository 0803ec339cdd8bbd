
/- The document's learner: with, walked. -/
import Derived.Test.YthhpblchiodahaaGreatDoorLpC
namespace Go.Proofs.YthhpblchiodahaaGreatDoor
set_option linter.unusedSimpArgs false
set_option linter.unusedVariables false
open Go.RowKit Go.Maps
theorem wpList_append2 {P : Program} {ops : Array Oper} {rest : List Oper} {o : Oper} {a : Act} {w w' : World} {Q : Exit → Act → World → Prop} (hgd : o.guard = none) (s x : Operand) (t tx : TypeId)
    (ho : o.op = .call { callee := .builtin .append, args := #[s, x], argTypes := #[t, tx] }) {v v2 v' : Value} (hs : a.eval s = v) (hx : a.eval x = v2) (hrun : (Builtin.append_ #[t, tx] o.type #[v, v2]).run P w = .ok v' w') (h : wpList P ops Q rest (a.put o.dst v') w') :
    wpList P ops Q (o :: rest) a w :=
  wpList_plain hgd fun K hK => by
    unfold Oper.wp execOp
    simp only [ho, resolve, invoke, builtin, Sem.run_bind, Sem.run_pure, Result.andThen_ok, List.map_toArray, List.map_cons, List.map_nil, hs, hx, hrun]
    exact hK _ _ h
/-- One more number is put behind. -/
theorem RowI.app {W : World} {base : Nat} {v : Value} {l : List Int} (h : RowI W base v l) (x : Int) (hn : l.length ≤ 10000) (hb : base ≤ W.heap.size) (ty : TypeId) :
    ∃ v' w', (Builtin.append_ #[79, 79] ty #[v, .slice (some ⟨W.heap.size, 0, none⟩) 1 1]).run Tryz.prog (W.alloc (.cells #[.int .i64 x] 3)) = .ok v' w' ∧ RowI w' base v' (l ++ [x]) ∧
      Kx v.ownBlock.toList (W.alloc (.cells #[.int .i64 x] 3)) w' := by
  obtain ⟨i0, hi, hz0, hz1, hz2⟩ := info_parts15 info_int15
  have hba := (Below.refl W.heap.size W).alloc (Nat.le_refl _) (.cells #[.int .i64 x] 3)
  have hsz : (W.alloc (.cells #[.int .i64 x] 3)).heap.size = W.heap.size + 1 := Array.size_push ..
  have T0 := Blk.newV (W := W) rfl 3 #[.int .i64 x]
  have hown2 : (W.alloc (.cells #[.int .i64 x] 3)).ownsRow 0 3 1 (.slice (some ⟨W.heap.size, 0, none⟩) 1 1) 1 [.int .i64 x] :=
    ⟨rfl, .inr ⟨W.heap.size, 1, #[.int .i64 x], rfl, Nat.zero_le _, T0, Nat.le_refl _, by decide, rfl, rfl⟩⟩
  obtain ⟨v', w', hrun, own5, hgrow, -⟩ := run_append_rows (P := Tryz.prog) (W.alloc (.cells #[.int .i64 x] 3)) base 0 79 ty 3 i0 (.int .i64 0) 1 8 Tryz.underlying79 hi hz0 hz1 hz2 rfl (by decide) _ _ _ (own_step h hba) _ _ _ hown2 (by simp [Value.oneCell']) (by unfold maxLen; omega) (by omega) (by omega)
  refine ⟨v', w', hrun, ?_, kx_grown hgrow⟩
  unfold RowI
  rw [List.length_append]
  unfold intsL at own5 ⊢
  rw [List.map_append]
  exact own5
theorem RowI.cellsAt {W : World} {base : Nat} {v : Value} {l : List Int} (h : RowI W base v l) : ∃ ao cap, v = .slice ao l.length cap ∧ ∀ (j : Nat) x, l[j]? = some x → ∃ g, ao = some ⟨g, 0, none⟩ ∧ W.cell? ⟨g, j, none⟩ = some (.int .i64 x) := by
  rcases h.2 with ⟨rfl, h0⟩ | ⟨g, cap, cur, rfl, hg, hh, r⟩
  · exact ⟨none, 0, by rw [h0], fun j x hx => by have := (List.getElem?_eq_some_iff.1 hx).1; omega⟩
  · refine ⟨_, cap, rfl, fun j x hx => ⟨g, rfl, ?_⟩⟩
    have := World.ownsRow.cells h (g := g) rfl j (.int .i64 x) (by unfold intsL; rw [List.getElem?_map, hx]; rfl)
    simpa [Addr.add_lit] using this
/-- Is the number i the place, or among the places? -/
theorem with_is {vs : List Bool} (hl : vs.length = 9) {pl : Int} (h0 : 0 ≤ pl) (h9 : pl < 9) (i : Nat) (hi : i < 9) :
    ((((i : Int) == pl) || (plK 0 vs).any (fun x => x == (i : Int)))) = (vs.set pl.toNat true).getD i false := by
  rw [Bool.eq_iff_iff]
  simp only [Bool.or_eq_true, beq_iff_eq, List.any_eq_true]
  have hset : (vs.set pl.toNat true).getD i false = if pl.toNat = i then true else vs.getD i false := by
    simp only [List.getD_eq_getElem?_getD, List.getElem?_set]
    split
    · rename_i h; rw [if_pos (by omega)]; rfl
    · rfl
  rw [hset]
  by_cases hp : pl.toNat = i
  · rw [if_pos hp]
    simp
    left; omega
  · rw [if_neg hp]
    constructor
    · rintro (h | ⟨x, hx, rfl⟩)
      · omega
      · obtain ⟨-, -, h3⟩ := plK_in vs 0 i hx
        rw [show ((i : Int) - 0).toNat = i by omega] at h3
        rw [List.getD_eq_getElem?_getD, h3]
        rfl
    · intro h
      right
      refine ⟨i, ?_, rfl⟩
      have h2 : vs[i]? = some true := by
        rw [List.getD_eq_getElem?_getD] at h
        cases hv : vs[i]? with
        | none => rw [hv] at h; cases h
        | some b => rw [hv] at h; simp at h; rw [h]
      have := plK_has vs 0 i h2
      simpa using this
set_option maxRecDepth 100000 in
set_option maxHeartbeats 4000000 in
theorem rwith_any (base : Nat) (u : Value) (vs : List Bool) (pl : Int) (w : World) (h : RowI w base u (plK 0 vs)) (hl : vs.length = 9) (h0 : 0 ≤ pl) (h9 : pl < 9) :
    Calls Tryz.prog 88 #[u, .int .i64 pl] w fun e w' => (∃ u', e = .returned u' ∧ RowI w' w.heap.size u' (plK 0 (vs.set pl.toNat true))) ∧ Below w.heap.size w w' := by
  have hW := fun i hi => with_is hl h0 h9 i hi
  have hws : (vs.set pl.toNat true).length = 9 := by simp [hl]
  have hpl := plK_len 0 vs
  obtain ⟨ao, cap, rfl, hc⟩ := RowI.cellsAt h
  obtain ⟨ws, hw⟩ : ∃ ws, vs.set pl.toNat true = ws := ⟨_, rfl⟩
  obtain ⟨L, hL⟩ : ∃ L, plK 0 vs = L := ⟨_, rfl⟩
  rw [hw] at hws ⊢
  simp only [hw, hL] at hW
  rw [hL] at hc hpl ⊢
  rw [hl] at hpl
  obtain ⟨N, hN⟩ : ∃ N, L.length = N := ⟨_, rfl⟩
  rw [hN] at hpl ⊢
  have HC := Lib.hid hc
  have HW := Lib.hid hW
  clear h hl hw hL hc hW
  have hb := From.refl w
  go_enter Tryz.func88, Tryz.ntmps88
  go_wp2_with fail
  have R0 : RowI w w.heap.size (.slice none 0 0) (plK 0 (ws.take 0)) := World.ownsRow_nil _ _ _ _
  go_loopw [5, 6, 7, 8] (fun v5 v6 _ _ wr => ∃ i : Nat, v6 = .int .i64 i ∧ i ≤ 9 ∧ RowI wr w.heap.size v5 (plK 0 (ws.take i)) ∧ From w wr) (fun _ v6 _ _ _ => 9 - (intOf v6).toNat)
  case atStart => exact ⟨0, rfl, by omega, R0, hb⟩
  case round =>
    clear hb R0
    obtain ⟨i, rfl, hi, hR, hb⟩ := hrel
    have hi0 : (0 : Int) ≤ (i : Int) := by omega
    by_cases hlt : i < 9
    · have hi1 : (i : Int) < 9 := by omega
      have hIS := HW.out i hlt
      obtain ⟨b0, hb0⟩ : ∃ b, ((i : Int) == pl) = b := ⟨_, rfl⟩
      rw [hb0] at hIS
      have HIS := Lib.hid hIS
      clear hIS
      go_wp2_with fail
      go_loopw [7, 8] (fun v7 v8 W => ∃ k : Nat, v8 = .int .i64 k ∧ k ≤ N ∧ v7 = .bool (b0 || (L.take k).any (fun x => x == (i : Int))) ∧ W = wr) (fun _ v8 _ => N - (intOf v8).toNat)
      case atStart => exact ⟨0, rfl, by omega, by simp, rfl⟩
      case round =>
        obtain ⟨k, rfl, hk, rfl, rfl⟩ := hrel
        have hk0 : (0 : Int) ≤ (k : Int) := by omega
        by_cases hlk : k < N
        · have hk1 : (k : Int) < (N : Int) := by omega
          obtain ⟨x, hx⟩ : ∃ x, L[k]? = some x := ⟨L[k], by simp [hN, hlk]⟩
          obtain ⟨g, hao, hcell⟩ := HC.out k x hx
          have hcell2 := cells_kept hb hcell
          have hst : (L.take (k + 1)).any (fun x => x == (i : Int)) = ((L.take k).any (fun x => x == (i : Int)) || (x == (i : Int))) := by
            rw [List.take_add_one, hx, List.any_append]
            simp
          obtain ⟨Bk, hBk⟩ : ∃ Bk, (L.take k).any (fun x => x == (i : Int)) = Bk := ⟨_, rfl⟩
          rw [hBk] at hst ⊢
          obtain ⟨Bx, hBx⟩ : ∃ Bx, (x == (i : Int)) = Bx := ⟨_, rfl⟩
          rw [hBx] at hst
          have HST := Lib.hid hst
          clear hst
          subst hao
          clear hcell hx hBk
          cases hv : b0 || Bk
          · go_wp2_with fail
            go_roundw
            case rel => exact ⟨k + 1, by go_num, by omega, by rw [HST.out, ← Bool.or_assoc, hv]; simp, by first | rfl | trivial⟩
            case measure => simp [intOf]; omega
          · go_wp2_with fail
            go_roundw
            case rel => exact ⟨k + 1, by go_num, by omega, by rw [HST.out, ← Bool.or_assoc, hv]; simp, by first | rfl | trivial⟩
            case measure => simp [intOf]; omega
        · obtain rfl : k = N := by omega
          obtain ⟨d, hd⟩ : ∃ d, ws.getD i false = d := ⟨_, rfl⟩
          have e : (b0 || (L.take k).any (fun x => x == (i : Int))) = d := by rw [List.take_of_length_le (by omega), HIS.out, hd]
          rw [e]
          have hst : plK 0 (ws.take (i + 1)) = plK 0 (ws.take i) ++ (if d then [(i : Int)] else []) := by
            have h1 : ws[i]? = some d := by rw [← hd, List.getD_eq_getElem?_getD, List.getElem?_eq_getElem (by omega)]; rfl
            rw [List.take_add_one, h1]
            have h2 := plK_snoc (ws.take i) 0 d
            rw [List.length_take, hws, show min i 9 = i by omega, Int.zero_add] at h2
            exact h2
          obtain ⟨P0, hP0⟩ : ∃ P0, plK 0 (ws.take i) = P0 := ⟨_, rfl⟩
          have hPl := plK_len 0 (ws.take i)
          rw [hP0] at hst hPl hR
          rw [List.length_take] at hPl
          have HST := Lib.hid hst
          clear hst
          clear e hd HIS hP0
          cases d
          · go_wp2_with fail
            go_roundw
            case rel => exact ⟨i + 1, by go_num, by omega, by rw [HST.out]; simpa using hR, hb⟩
            case measure => simp [intOf]; omega
          · obtain ⟨v', w', hrun, hR2, hk⟩ := hR.app (i : Int) (by omega) hb.size 79
            have hge := row_ge hR
            obtain ⟨a5, c5, rfl⟩ := RowI.form hR
            obtain ⟨n5, hn5⟩ : ∃ n, P0.length = n := ⟨_, rfl⟩
            obtain ⟨a6, c6, rfl⟩ := RowI.form hR2
            obtain ⟨n6, hn6⟩ : ∃ n, (P0 ++ [(i : Int)]).length = n := ⟨_, rfl⟩
            rw [hn5] at hrun hge hk
            rw [hn6] at hrun hR2
            rw [hn5] at hR ⊢
            have hb2 := (hb.step ((Below.refl wr.heap.size wr).alloc (Nat.le_refl _) (.cells #[.int .i64 i] 3))).kx hk (fun r hr => (hge r (by simpa using hr)).1)
            clear hn5 hn6 hge hk hR
            go_wp2_with (first | (at_builtin; refine wpList_append2 rfl _ _ _ _ rfl rfl rfl hrun ?_) | fail)
            go_roundw
            case rel => exact ⟨i + 1, by go_num, by omega, by rw [HST.out]; exact hR2, hb2⟩
            case measure => simp [intOf]; omega
    · obtain rfl : i = 9 := by omega
      rw [List.take_of_length_le (by omega)] at hR
      obtain ⟨a5, c5, rfl⟩ := RowI.form hR
      obtain ⟨n5, hn5⟩ : ∃ n, (plK 0 ws).length = n := ⟨_, rfl⟩
      rw [hn5] at hR ⊢
      go_wp2_with fail
      go_ret
      exact ⟨⟨_, rfl, hR⟩, hb⟩
end Go.Proofs.YthhpblchiodahaaGreatDoor
