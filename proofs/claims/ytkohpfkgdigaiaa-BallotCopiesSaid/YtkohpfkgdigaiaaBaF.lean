
/- Package ballot: the greatest of a slice's ballots and another one. -/
import Derived.Test.YtkohpfkgdigaiaaBaE
import Derived.StillTailTactics
import Derived.Deep.OwnRows
import Derived.Laws.OwnMore
namespace Go.Proofs.Ytkohpfkgdigaiaa
open Go.RowKit

section
variable {P : Program} (w : World)
theorem step_append_grows {ops : Array Oper} {o : Oper} {a : Act} {K : Act → World → Prop} {Q : Exit → Act → World → Prop} {E : Prop} (hgd : o.guard = none) (s x : Operand) (t : TypeId)
    (ho : o.op = .call { callee := .builtin .append, args := #[s, x], argTypes := #[t, t] })
    (e : TypeId) (i : TypeInfo) (z : Value) (size bytes : Nat) (ht : P.underlying t = some (.slice e)) (hi : P.info? e = some i) (hz : i.zero = some z)
    (hsize : i.size = size) (hby : i.bytes = bytes) (hzs : z.cells.size = size) (hsz : 0 < size)
    (ao : Option Addr) (n cap : Nat) (olds : List Value) (hs : a.eval s = .slice ao n cap) (hnone : ao = none → n = 0 ∧ cap = 0) (hlo : olds.length = n * size) (holds : ∀ b, ao = some b → ∀ j u, olds[j]? = some u → w.cell? (b.add j) = some u)
    (ad : Addr) (m c : Nat) (news : List Value) (hx : a.eval x = .slice (some ad) m c) (hl : news.length = m * size) (hnews : ∀ j u, news[j]? = some u → w.cell? (ad.add j) = some u) (h1 : ∀ u ∈ news, u.oneCell' = true)
    (hm : 0 < m) (hfull : cap < n + m) (h63 : n + m ≤ maxLen) (hbytes : (n + m) * bytes ≤ 140737488355328)
    (h : ∀ g cap' w', w'.ownsRow w.heap.size e size (.slice (some ⟨g, 0, none⟩) (n + m) cap') (n + m) (olds ++ news) → Below w.heap.size w w' → w.heap.size ≤ g → g < w'.heap.size → K (a.put o.dst (.slice (some ⟨g, 0, none⟩) (n + m) cap')) w') :
    if Region.wanted o (yielded ops a.tmps) = true then Oper.wp P o a w K Q else E := by
  have hw : Region.wanted o (yielded ops a.tmps) = true := by simp [Region.wanted, hgd]
  rw [if_pos hw]
  have key : ∃ v' w', (Builtin.append_ #[t, t] o.type #[.slice ao n cap, .slice (some ad) m c]).run P w = .ok v' w' ∧ w'.ownsRow w.heap.size e size v' (n + m) (olds ++ news) ∧ w.grownBy w' none := by
    cases ao with
    | some b => exact run_append_arg_grows (P := P) w t o.type e i z size bytes ht hi hz hsize hby hzs hsz b n cap olds hlo (holds b rfl) ad m c news hl hnews hfull h63 hbytes
    | none =>
      obtain ⟨rfl, rfl⟩ := hnone rfl
      obtain rfl : olds = [] := List.eq_nil_of_length_eq_zero (by simpa using hlo)
      obtain ⟨v', w', hrun, r1, r2, _⟩ := run_append_own (P := P) w w.heap.size t o.type e i z size bytes ht hi hz hsize hby hzs hsz (.slice none 0 0) 0 [] (World.ownsRow_nil w _ e size) ad m c news hl hnews h1 h63 hbytes (Nat.le_refl _)
      exact ⟨v', w', hrun, r1, r2⟩
  obtain ⟨v', w', hr, h2, h3⟩ := key
  obtain ⟨g, cap', rfl, hge, hlt⟩ := h2.form (by omega)
  unfold Oper.wp execOp
  simp only [ho, resolve, invoke, builtin, Sem.run_bind, Sem.run_pure, Result.andThen_ok, List.map_toArray, List.map_cons, List.map_nil, hs, hx, hr]
  exact h g cap' w' h2 ((Below.refl _ _).grown h3 (Nat.le_refl _) (fun _ h => nomatch h)) hge hlt
end
theorem Blk.new' {W : World} {g : Nat} (hg : W.heap.size = g) (t : TypeId) (cs : List Value) : Blk (W.alloc (.cells cs.toArray t)) g t cs := hg ▸ Blk.new W t cs

theorem info_ballot : (Try.prog.info? 23).map (fun i => (i.zero, i.size, i.bytes)) = some (some (.agg #[.int .i64 0, .int .i64 0]), 2, 16) := by kernel_rfl
theorem cellsB_len (xs : List Bl) : (cellsB xs).length = xs.length * 2 := by
  induction xs with
  | nil => rfl
  | cons b t ih => simp only [cellsB, List.flatMap_cons, List.length_append, List.length_cons, List.length_nil] at ih ⊢; omega
theorem cellsB_get (xs : List Bl) (k : Nat) : (cellsB xs)[k * 2]? = xs[k]?.map (fun b => .int .i64 b.1) ∧ (cellsB xs)[k * 2 + 1]? = xs[k]?.map (fun b => .int .i64 b.2) := by
  induction xs generalizing k with
  | nil => simp [cellsB]
  | cons b t ih =>
    cases k with
    | zero => simp [cellsB]
    | succ k =>
      have h := ih k
      simp only [cellsB, List.flatMap_cons] at h ⊢
      rw [show (k + 1) * 2 = k * 2 + 2 by omega, show k * 2 + 2 + 1 = k * 2 + 1 + 2 by omega]
      simpa using h
theorem HasB.cells {w : World} {g : Nat} {xs : List Bl} (h : HasB w g xs) : ∀ j u, (cellsB xs)[j]? = some u → w.cell? ((⟨g, 0, none⟩ : Addr).add j) = some u := by
  intro j u hu
  have hj : j < (cellsB xs).length := (List.getElem?_eq_some_iff.1 hu).1
  rw [cellsB_len] at hj
  rw [Addr.add_lit, Nat.zero_add]
  obtain ⟨k, rfl | rfl⟩ : ∃ k, j = k * 2 ∨ j = k * 2 + 1 := ⟨j / 2, by omega⟩
  · have hk : k < xs.length := by omega
    rw [(cellsB_get xs k).1, List.getElem?_eq_getElem hk] at hu
    rw [(h k hk).1]; simpa using hu
  · have hk : k < xs.length := by omega
    rw [(cellsB_get xs k).2, List.getElem?_eq_getElem hk] at hu
    rw [(h k hk).2]; simpa using hu
theorem hasB_of_row {w : World} {base g n cap : Nat} {e : TypeId} {xs : List Bl} (h : w.ownsRow base e 2 (.slice (some ⟨g, 0, none⟩) n cap) n (cellsB xs)) (hn : xs.length = n) : HasB w g xs := by
  intro k hk
  have h1 := h.cellAt (k * 2) (by omega)
  have h2 := h.cellAt (k * 2 + 1) (by omega)
  rw [(cellsB_get xs k).1, List.getElem?_eq_getElem hk] at h1
  rw [(cellsB_get xs k).2, List.getElem?_eq_getElem hk] at h2
  exact ⟨h1, h2⟩
theorem cellsB_app (xs : List Bl) (r p : Int) : cellsB xs ++ [.int .i64 r, .int .i64 p] = cellsB (xs ++ [(r, p)]) := by simp [cellsB]

theorem Blk.news {W : World} {g : Nat} {t : TypeId} {cs : List Value} (h : Blk W g t cs) : ∀ j u, cs[j]? = some u → W.cell? ((⟨g, 0, none⟩ : Addr).add j) = some u := by
  intro j u hu
  rw [Addr.add_lit, Nat.zero_add]
  exact h.cell hu
theorem S_step {W W' : World} {b : Nat} {r p : Int} (h : W.cell? ⟨b, 0, none⟩ = some (.int .i64 r) ∧ W.cell? ⟨b, 1, none⟩ = some (.int .i64 p) ∧ W.cell? ⟨b + 1, 0, none⟩ = some (.int .i64 0) ∧ W.cell? ⟨b + 1, 1, none⟩ = some (.int .i64 0) ∧ W.frozen? ⟨b + 1, 0, none⟩ = false ∧ W.frozen? ⟨b + 1, 1, none⟩ = false)
    (hb : Below W.heap.size W W') : W'.cell? ⟨b, 0, none⟩ = some (.int .i64 r) ∧ W'.cell? ⟨b, 1, none⟩ = some (.int .i64 p) ∧ W'.cell? ⟨b + 1, 0, none⟩ = some (.int .i64 0) ∧ W'.cell? ⟨b + 1, 1, none⟩ = some (.int .i64 0) ∧ W'.frozen? ⟨b + 1, 0, none⟩ = false ∧ W'.frozen? ⟨b + 1, 1, none⟩ = false := by
  obtain ⟨h1, h2, h3, h4, h5, h6⟩ := h
  have hlt : b + 1 < W.heap.size := World.block_lt_of_cell? W _ h3
  exact ⟨cells_kept hb h1, cells_kept hb h2, cells_kept hb h3, cells_kept hb h4, (hb.frozen (p := ⟨b + 1, 0, none⟩) hlt).trans h5, (hb.frozen (p := ⟨b + 1, 1, none⟩) hlt).trans h6⟩
theorem S_new (w : World) (r p : Int) : ((w.alloc (.cells #[.int .i64 r, .int .i64 p] 23)).alloc (.cells #[.int .i64 0, .int .i64 0] 23)).cell? ⟨w.heap.size, 0, none⟩ = some (.int .i64 r) ∧ ((w.alloc (.cells #[.int .i64 r, .int .i64 p] 23)).alloc (.cells #[.int .i64 0, .int .i64 0] 23)).cell? ⟨w.heap.size, 1, none⟩ = some (.int .i64 p) ∧
    ((w.alloc (.cells #[.int .i64 r, .int .i64 p] 23)).alloc (.cells #[.int .i64 0, .int .i64 0] 23)).cell? ⟨w.heap.size + 1, 0, none⟩ = some (.int .i64 0) ∧ ((w.alloc (.cells #[.int .i64 r, .int .i64 p] 23)).alloc (.cells #[.int .i64 0, .int .i64 0] 23)).cell? ⟨w.heap.size + 1, 1, none⟩ = some (.int .i64 0) ∧
    ((w.alloc (.cells #[.int .i64 r, .int .i64 p] 23)).alloc (.cells #[.int .i64 0, .int .i64 0] 23)).frozen? ⟨w.heap.size + 1, 0, none⟩ = false ∧ ((w.alloc (.cells #[.int .i64 r, .int .i64 p] 23)).alloc (.cells #[.int .i64 0, .int .i64 0] 23)).frozen? ⟨w.heap.size + 1, 1, none⟩ = false := by
  have X : Blk ((w.alloc (.cells #[.int .i64 r, .int .i64 p] 23)).alloc (.cells #[.int .i64 0, .int .i64 0] 23)) w.heap.size 23 [.int .i64 r, .int .i64 p] := (Blk.new w _ _).alloc _
  have R : Blk ((w.alloc (.cells #[.int .i64 r, .int .i64 p] 23)).alloc (.cells #[.int .i64 0, .int .i64 0] 23)) (w.heap.size + 1) 23 [.int .i64 0, .int .i64 0] := Blk.new' (by simp) _ _
  exact ⟨X.cell (j := 0) rfl, X.cell (j := 1) rfl, R.cell (j := 0) rfl, R.cell (j := 1) rfl, R.frozen 0, R.frozen 1⟩
theorem S2 {A B C D E F : Prop} (h : A ∧ B ∧ C ∧ D ∧ E ∧ F) : A ∧ B := ⟨h.1, h.2.1⟩
set_option maxRecDepth 100000 in
set_option maxHeartbeats 8000000 in
theorem greatest_any (r p : Int) (sl : Value) (xs : List Bl) (hm : xs.length ≤ 900) (w : World) (hx : SlB w sl xs) :
    Calls Try.prog 42 #[CmpF, .agg #[.int .i64 r, .int .i64 p], sl] w fun e w' => e = .returned (.agg #[.int .i64 (topK (xs ++ [(r, p)]) (xs.length + 1)).1, .int .i64 (topK (xs ++ [(r, p)]) (xs.length + 1)).2]) ∧ Below w.heap.size w w' := by
  obtain ⟨i0, hi, hz0, hz1, hz2⟩ := info_parts info_ballot
  obtain ⟨n, hn⟩ : ∃ n, xs.length = n := ⟨_, rfl⟩
  rw [hn] at hm
  rw [hn]
  have hlen : (xs ++ [(r, p)]).length = n + 1 := by simp [hn]
  have HL := Lib.hid hlen
  clear hlen
  rcases hx with ⟨rfl, hxs⟩ | ⟨g, cap, rfl, hcap, hx, hg⟩
  · have hn0 : n = 0 := by rw [← hn, hxs]; rfl
    subst hn0
    clear hn
    have HX := Lib.hid hxs
    clear hxs
    have HC : cellsB xs = [] := by rw [HX.out]; rfl
    go_enter Try.func42, Try.ntmps42
    go_wp2
    have S0 := S_new w r p
    go_region_held3 (fun w' => w'.cell? ⟨w.heap.size, 0, none⟩ = some (.int .i64 r) ∧ w'.cell? ⟨w.heap.size, 1, none⟩ = some (.int .i64 p))
      (first | exact S2 S0 | exact S2 (S_step S0 ((Below.refl _ _).alloc (Nat.le_refl _) _).drew) | exact S2 S3 | exact ⟨q1, q2⟩ | (go_keep; done))
      (first
        | ((refine step_append_grows _ (by rfl) _ _ _ (by rfl) 23 i0 (.agg #[.int .i64 0, .int .i64 0]) 2 16 Try.underlying40 hi hz0 hz1 hz2 rfl (by decide) none 0 0 (cellsB xs) (by rfl) (fun _ => ⟨rfl, rfl⟩) (by rw [HC]; rfl) (fun _ h => nomatch h) ⟨w.heap.size + 1 + 1, 0, none⟩ 1 1 [.int .i64 r, .int .i64 p] (by rfl) rfl (Blk.new' (by simp) 23 [.int .i64 r, .int .i64 p]).news (by simp [Value.oneCell']) (by omega) (by omega) (by unfold maxLen; omega) (by omega) ?_; intro g3 cap3 w3 hown hb3 hge hlt; have S3 := S_step (S_step S0 ((Below.refl _ _).alloc (Nat.le_refl _) _).drew) hb3))
        | (go_at_call 58; refine (max_any g3 cap3 (0 + 1) (xs ++ [(r, p)]) HL.out (by omega) (by omega) _ (hasB_of_row (by rw [← cellsB_app]; exact hown) HL.out)).mono ?_; rintro e w4 ⟨rfl, hb4⟩; have S4 := S_step S3 hb4; obtain ⟨q1, q2, q3, q4, q5, q6⟩ := S4))
    have bb4 : Below w.heap.size w w4 := by
      have b1 : Below w.heap.size w (((w.alloc (.cells #[.int .i64 r, .int .i64 p] 23)).alloc (.cells #[.int .i64 0, .int .i64 0] 23)).alloc (.cells #[.int .i64 r, .int .i64 p] 23)).drew := by go_grown
      have b3 := b1.trans (hb3.mono b1.size)
      exact b3.trans (hb4.mono b3.size)
    have R : Blk w4 (w.heap.size + 1) 23 [.int .i64 0, .int .i64 0] := by
      have h : Blk ((w.alloc (.cells #[.int .i64 r, .int .i64 p] 23)).alloc (.cells #[.int .i64 0, .int .i64 0] 23)) (w.heap.size + 1) 23 [.int .i64 0, .int .i64 0] := Blk.new' (by simp) _ _
      have h2 : Blk (((w.alloc (.cells #[.int .i64 r, .int .i64 p] 23)).alloc (.cells #[.int .i64 0, .int .i64 0] 23)).alloc (.cells #[.int .i64 r, .int .i64 p] 23)).drew (w.heap.size + 1) 23 [.int .i64 0, .int .i64 0] := h.alloc _
      exact (h2.step hb3).step hb4
    clear S0 S3 q1 q2 q3 q4 q5 q6
    go_wp2
    have R2 := (R.set 0 (.int .i64 (topK (xs ++ [(r, p)]) (0 + 1)).1)).set 1 (.int .i64 (topK (xs ++ [(r, p)]) (0 + 1)).2)
    have bb := (bb4.setCell (p := ⟨w.heap.size + 1, 0, none⟩) (by simp) (.int .i64 (topK (xs ++ [(r, p)]) (0 + 1)).1)).setCell (p := ⟨w.heap.size + 1, 1, none⟩) (by simp) (.int .i64 (topK (xs ++ [(r, p)]) (0 + 1)).2)
    try simp only [Nat.zero_add] at R2 bb
    generalize (w4.setCell _ _).setCell _ _ = w5 at R2 bb ⊢
    have c0R2 := R2.cell (j := 0) rfl
    have c1R2 := R2.cell (j := 1) rfl
    have z0R2 := R2.frozen 0
    have z1R2 := R2.frozen 1
    refine bodyPost_ret (v := .agg #[.int .i64 (topK (xs ++ [(r, p)]) (0 + 1)).1, .int .i64 (topK (xs ++ [(r, p)]) (0 + 1)).2]) (by simp [results, Try.results42, go_sem, c0R2, c1R2]) rfl ?_
    exact ⟨rfl, bb⟩
  · rw [hn] at hcap
    have hcap' : (n : Int) ≤ (cap : Int) := by omega
    have hn0 : (0 : Int) ≤ (n : Int) := by omega
    have HN := Lib.hid hn
    have HX := Lib.hid hx
    rw [hn]
    clear hn hx
    go_enter Try.func42, Try.ntmps42
    go_wp2
    have S0 := S_new w r p
    go_region_held3 (fun w' => w'.cell? ⟨w.heap.size, 0, none⟩ = some (.int .i64 r) ∧ w'.cell? ⟨w.heap.size, 1, none⟩ = some (.int .i64 p))
      (first | exact S2 S0 | exact S2 (S_step S0 ((Below.refl _ _).alloc (Nat.le_refl _) _).drew) | exact S2 S3 | exact ⟨q1, q2⟩ | (go_keep; done))
      (first
        | ((refine step_append_grows _ (by rfl) _ _ _ (by rfl) 23 i0 (.agg #[.int .i64 0, .int .i64 0]) 2 16 Try.underlying40 hi hz0 hz1 hz2 rfl (by decide) (some ⟨g, 0, none⟩) n n (cellsB xs) (by rfl) (fun h => nomatch h) (by rw [cellsB_len, HN.out]) (fun b hb j u hu => by cases hb; exact (HasB.below (B := w.heap.size) HX.out (by go_grown) hg).cells j u hu) ⟨w.heap.size + 1 + 1, 0, none⟩ 1 1 [.int .i64 r, .int .i64 p] (by rfl) rfl (Blk.new' (by simp) 23 [.int .i64 r, .int .i64 p]).news (by simp [Value.oneCell']) (by omega) (by omega) (by unfold maxLen; omega) (by omega) ?_; intro g3 cap3 w3 hown hb3 hge hlt; have S3 := S_step (S_step S0 ((Below.refl _ _).alloc (Nat.le_refl _) _).drew) hb3))
        | (go_at_call 58; refine (max_any g3 cap3 (n + 1) (xs ++ [(r, p)]) HL.out (by omega) (by omega) _ (hasB_of_row (by rw [← cellsB_app]; exact hown) HL.out)).mono ?_; rintro e w4 ⟨rfl, hb4⟩; have S4 := S_step S3 hb4; obtain ⟨q1, q2, q3, q4, q5, q6⟩ := S4))
    have bb4 : Below w.heap.size w w4 := by
      have b1 : Below w.heap.size w (((w.alloc (.cells #[.int .i64 r, .int .i64 p] 23)).alloc (.cells #[.int .i64 0, .int .i64 0] 23)).alloc (.cells #[.int .i64 r, .int .i64 p] 23)).drew := by go_grown
      have b3 := b1.trans (hb3.mono b1.size)
      exact b3.trans (hb4.mono b3.size)
    have R : Blk w4 (w.heap.size + 1) 23 [.int .i64 0, .int .i64 0] := by
      have h : Blk ((w.alloc (.cells #[.int .i64 r, .int .i64 p] 23)).alloc (.cells #[.int .i64 0, .int .i64 0] 23)) (w.heap.size + 1) 23 [.int .i64 0, .int .i64 0] := Blk.new' (by simp) _ _
      have h2 : Blk (((w.alloc (.cells #[.int .i64 r, .int .i64 p] 23)).alloc (.cells #[.int .i64 0, .int .i64 0] 23)).alloc (.cells #[.int .i64 r, .int .i64 p] 23)).drew (w.heap.size + 1) 23 [.int .i64 0, .int .i64 0] := h.alloc _
      exact (h2.step hb3).step hb4
    clear S0 S3 q1 q2 q3 q4 q5 q6
    go_wp2
    have R2 := (R.set 0 (.int .i64 (topK (xs ++ [(r, p)]) (n + 1)).1)).set 1 (.int .i64 (topK (xs ++ [(r, p)]) (n + 1)).2)
    have bb := (bb4.setCell (p := ⟨w.heap.size + 1, 0, none⟩) (by simp) (.int .i64 (topK (xs ++ [(r, p)]) (n + 1)).1)).setCell (p := ⟨w.heap.size + 1, 1, none⟩) (by simp) (.int .i64 (topK (xs ++ [(r, p)]) (n + 1)).2)
    try simp only [Nat.zero_add] at R2 bb
    generalize (w4.setCell _ _).setCell _ _ = w5 at R2 bb ⊢
    have c0R2 := R2.cell (j := 0) rfl
    have c1R2 := R2.cell (j := 1) rfl
    have z0R2 := R2.frozen 0
    have z1R2 := R2.frozen 1
    refine bodyPost_ret (v := .agg #[.int .i64 (topK (xs ++ [(r, p)]) (n + 1)).1, .int .i64 (topK (xs ++ [(r, p)]) (n + 1)).2]) (by simp [results, Try.results42, go_sem, c0R2, c1R2]) rfl ?_
    exact ⟨rfl, bb⟩
end Go.Proofs.Ytkohpfkgdigaiaa
