
/- Package chat: what a talk is; joins, leaves, says. -/
import Derived.Test.YtndechodaegkiaaDoorAcD
import Derived.OwnWalk
import Derived.Deep.OwnRows
import Derived.Maps.AppendAt
namespace Go.Proofs.YtndechodaegkiaaDoor
open Go.RowKit

structure En where (k m n : Int) (s : ByteArray)
structure Ln where (i sl : Int) (e : En)
structure St where (inn : Bool) (j l : Int)
structure Tk where (sl : Nat) (L : List Ln) (M : List St)
def enL (e : En) : List Value := [.int .i64 e.k, .int .i64 e.m, .int .i64 e.n, .string e.s]
def enV (e : En) : Value := .agg (enL e).toArray
def lnL (x : Ln) : List Value := .int .i64 x.i :: .int .i64 x.sl :: enL x.e
def lnV (x : Ln) : Value := .agg (lnL x).toArray
def stL (s : St) : List Value := [.bool s.inn, .int .i64 s.j, .int .i64 s.l]
def stV (s : St) : Value := .agg (stL s).toArray
def cellsN (l : List Ln) : List Value := l.flatMap lnL
def talkL (v : Value) (t : Tk) : List Value := v :: .int .i64 t.sl :: (t.M.flatMap stL ++ [.bool true])
/-- A talk, held in block g; its lines in the row of v. -/
structure TkW (W : World) (base g : Nat) (v : Value) (t : Tk) : Prop where
  blk : Blk W g 79 (talkL v t)
  row : W.ownsRow base 33 6 v t.L.length (cellsN t.L)
  len : t.M.length = 16
  few : t.L.length ≤ t.sl
  top : t.sl ≤ 4096
def z0 : St := ⟨false, 0, 0⟩
theorem TkW.step {W W' : World} {base g : Nat} {v : Value} {t : Tk} (h : TkW W base g v t) (hb : Below W.heap.size W W') : TkW W' base g v t := ⟨h.blk.step hb, own_step h.row hb, h.len, h.few, h.top⟩
theorem Blk.newA' {W : World} {g : Nat} (hg : W.heap.size = g) (t : TypeId) (cs : Array Value) : Blk (W.alloc (.cells cs t)) g t cs.toList := hg ▸ World.alloc_heap_new W _
/-- A slice as it lies. -/
def Sl (v : Value) (n : Nat) : Prop := ∃ a c, v = .slice a n c
theorem TkW.sl {W : World} {base g : Nat} {v : Value} {t : Tk} (h : TkW W base g v t) : Sl v t.L.length := by
  rcases h.row.2 with ⟨rfl, h0⟩ | ⟨g, c, cur, hv, _⟩
  · exact ⟨none, 0, by rw [h0]⟩
  · exact ⟨_, _, hv⟩
theorem cells_kept {w w' : World} (hb : Below w.heap.size w w') : ∀ {b o : Nat} {u : Value}, w.cell? ⟨b, o, none⟩ = some u → w'.cell? ⟨b, o, none⟩ = some u :=
  fun h => (hb.cell (World.block_lt_of_cell? w _ h)).trans h
theorem three (w : World) (t1 t2 t3 : TypeId) (c1 c2 c3 : Array Value) :
    Blk (((w.alloc (.cells c1 t1)).alloc (.cells c2 t2)).alloc (.cells c3 t3)) w.heap.size t1 c1.toList ∧ Blk (((w.alloc (.cells c1 t1)).alloc (.cells c2 t2)).alloc (.cells c3 t3)) (w.heap.size + 1) t2 c2.toList ∧
    Blk (((w.alloc (.cells c1 t1)).alloc (.cells c2 t2)).alloc (.cells c3 t3)) (w.heap.size + 1 + 1) t3 c3.toList ∧ Below w.heap.size w (((w.alloc (.cells c1 t1)).alloc (.cells c2 t2)).alloc (.cells c3 t3)) ∧
    (((w.alloc (.cells c1 t1)).alloc (.cells c2 t2)).alloc (.cells c3 t3)).heap.size = w.heap.size + 1 + 1 + 1 :=
  have h1 := alloc_size rfl (.cells c1 t1)
  have h2 := alloc_size h1 (.cells c2 t2)
  ⟨((Blk.newA' rfl t1 c1).alloc _).alloc _, (Blk.newA' h1 t2 c2).alloc _, Blk.newA' h2 t3 c3,
    (((Below.refl _ w).alloc (Nat.le_refl _) _).alloc (by omega) _).alloc (by omega) _, alloc_size h2 _⟩
set_option maxRecDepth 100000 in
set_option maxHeartbeats 1000000 in
theorem joins_any (g n : Nat) (v : Value) (s : St) (e : En) (w : World) (hv : Sl v n) (hc : w.cell? ⟨g, 0, none⟩ = some v) :
    Calls Tryd.prog 53 #[.pointer (some ⟨g, 0, none⟩), stV s, enV e] w fun r w' => r = .returned (.tuple #[stV ⟨true, n, s.l⟩, .bool (!s.inn)]) ∧ Below w.heap.size w w' := by
  obtain ⟨a, c, rfl⟩ := hv
  obtain ⟨x, j, l⟩ := s
  obtain ⟨k, m, q, t⟩ := e
  change Calls Tryd.prog 53 #[.pointer (some ⟨g, 0, none⟩), .agg #[.bool x, .int .i64 j, .int .i64 l], .agg #[.int .i64 k, .int .i64 m, .int .i64 q, .string t]] w fun r w' => r = .returned (.tuple #[.agg #[.bool true, .int .i64 n, .int .i64 l], .bool (!x)]) ∧ Below w.heap.size w w'
  go_enter Tryd.func53, Tryd.ntmps53
  go_upto_region 1 with fail
  obtain ⟨XS, XE, XR, hb, hz⟩ := three w 64 26 64 #[.bool x, .int .i64 j, .int .i64 l] #[.int .i64 k, .int .i64 m, .int .i64 q, .string t] #[.bool false, .int .i64 0, .int .i64 0]
  generalize ((w.alloc (.cells #[.bool x, .int .i64 j, .int .i64 l] 64)).alloc (.cells #[.int .i64 k, .int .i64 m, .int .i64 q, .string t] 26)).alloc (.cells #[.bool false, .int .i64 0, .int .i64 0] 64) = W at *
  obtain ⟨g0, hg0⟩ : ∃ g, w.heap.size = g := ⟨_, rfl⟩
  rw [hg0] at XS XE XR hb hz ⊢
  have s0 := XS.cell (j := 0) rfl
  have s1 := XS.cell (j := 1) rfl
  have s2 := XS.cell (j := 2) rfl
  have r0 := XR.cell (j := 0) rfl
  have r1 := XR.cell (j := 1) rfl
  have r2 := XR.cell (j := 2) rfl
  have f0 := XR.frozen 0
  have f1 := XR.frozen 1
  have f2 := XR.frozen 2
  have ct := cells_kept (hg0 ▸ hb) hc
  clear XE XS XR hc
  go_region
  have hb4 := ((((hb.setCell (p := ⟨g0 + 1 + 1, 0, none⟩) (by simp; omega) (.bool true)).setCell (p := ⟨g0 + 1 + 1, 1, none⟩) (by simp; omega) (.int .i64 n)).setCell (p := ⟨g0 + 1 + 1, 2, none⟩) (by simp; omega) (.int .i64 l))).drew
  go_wp2
  (try simp only [Exit.inBlock, Exit.then])
  refine bodyPost_ret (v := .tuple #[.agg #[.bool true, .int .i64 n, .int .i64 l], .bool (!x)]) ?_ rfl ⟨rfl, by rw [hg0]; exact hb4⟩
  rw [results_cell_tmp rfl]
  go_simp
set_option maxRecDepth 100000 in
set_option maxHeartbeats 1000000 in
theorem leaves_any (g : Nat) (s : St) (e : En) (w : World) :
    Calls Tryd.prog 54 #[.pointer (some ⟨g, 0, none⟩), stV s, enV e] w fun r w' => r = .returned (.tuple #[stV ⟨false, s.j, s.l⟩, .bool s.inn]) ∧ Below w.heap.size w w' := by
  obtain ⟨x, j, l⟩ := s
  obtain ⟨k, m, q, t⟩ := e
  change Calls Tryd.prog 54 #[.pointer (some ⟨g, 0, none⟩), .agg #[.bool x, .int .i64 j, .int .i64 l], .agg #[.int .i64 k, .int .i64 m, .int .i64 q, .string t]] w fun r w' => r = .returned (.tuple #[.agg #[.bool false, .int .i64 j, .int .i64 l], .bool (x)]) ∧ Below w.heap.size w w'
  go_enter Tryd.func54, Tryd.ntmps54
  go_upto_region 1 with fail
  obtain ⟨XS, XE, XR, hb, hz⟩ := three w 64 26 64 #[.bool x, .int .i64 j, .int .i64 l] #[.int .i64 k, .int .i64 m, .int .i64 q, .string t] #[.bool false, .int .i64 0, .int .i64 0]
  generalize ((w.alloc (.cells #[.bool x, .int .i64 j, .int .i64 l] 64)).alloc (.cells #[.int .i64 k, .int .i64 m, .int .i64 q, .string t] 26)).alloc (.cells #[.bool false, .int .i64 0, .int .i64 0] 64) = W at *
  obtain ⟨g0, hg0⟩ : ∃ g, w.heap.size = g := ⟨_, rfl⟩
  rw [hg0] at XS XE XR hb hz ⊢
  have s0 := XS.cell (j := 0) rfl
  have s1 := XS.cell (j := 1) rfl
  have s2 := XS.cell (j := 2) rfl
  have r0 := XR.cell (j := 0) rfl
  have r1 := XR.cell (j := 1) rfl
  have r2 := XR.cell (j := 2) rfl
  have f0 := XR.frozen 0
  have f1 := XR.frozen 1
  have f2 := XR.frozen 2
  clear XE XS XR
  go_region
  have hb4 := ((((hb.setCell (p := ⟨g0 + 1 + 1, 0, none⟩) (by simp; omega) (.bool false)).setCell (p := ⟨g0 + 1 + 1, 1, none⟩) (by simp; omega) (.int .i64 j)).setCell (p := ⟨g0 + 1 + 1, 2, none⟩) (by simp; omega) (.int .i64 l))).drew
  go_wp2
  (try simp only [Exit.inBlock, Exit.then])
  refine bodyPost_ret (v := .tuple #[.agg #[.bool false, .int .i64 j, .int .i64 l], .bool (x)]) ?_ rfl ⟨rfl, by rw [hg0]; exact hb4⟩
  rw [results_cell_tmp rfl]
  go_simp
def nextB (s : St) (e : En) : Bool := s.inn && (e.n == wrap64 (s.l + 1))
set_option maxRecDepth 100000 in
set_option maxHeartbeats 1000000 in
theorem says_any (g : Nat) (s : St) (e : En) (w : World) :
    Calls Tryd.prog 55 #[.pointer (some ⟨g, 0, none⟩), stV s, enV e] w fun r w' => r = .returned (.tuple #[stV ⟨s.inn, s.j, e.n⟩, .bool (nextB s e)]) ∧ Below w.heap.size w w' := by
  obtain ⟨N, hN⟩ : ∃ N, nextB s e = N := ⟨_, rfl⟩
  rw [hN]
  obtain ⟨x, j, l⟩ := s
  obtain ⟨k, m, q, t⟩ := e
  change Calls Tryd.prog 55 #[.pointer (some ⟨g, 0, none⟩), .agg #[.bool x, .int .i64 j, .int .i64 l], .agg #[.int .i64 k, .int .i64 m, .int .i64 q, .string t]] w fun r w' => r = .returned (.tuple #[.agg #[.bool x, .int .i64 j, .int .i64 q], .bool (N)]) ∧ Below w.heap.size w w'
  go_enter Tryd.func55, Tryd.ntmps55
  go_upto_region 1 with fail
  obtain ⟨XS, XE, XR, hb, hz⟩ := three w 64 26 64 #[.bool x, .int .i64 j, .int .i64 l] #[.int .i64 k, .int .i64 m, .int .i64 q, .string t] #[.bool false, .int .i64 0, .int .i64 0]
  generalize ((w.alloc (.cells #[.bool x, .int .i64 j, .int .i64 l] 64)).alloc (.cells #[.int .i64 k, .int .i64 m, .int .i64 q, .string t] 26)).alloc (.cells #[.bool false, .int .i64 0, .int .i64 0] 64) = W at *
  obtain ⟨g0, hg0⟩ : ∃ g, w.heap.size = g := ⟨_, rfl⟩
  rw [hg0] at XS XE XR hb hz ⊢
  have s0 := XS.cell (j := 0) rfl
  have s1 := XS.cell (j := 1) rfl
  have s2 := XS.cell (j := 2) rfl
  have r0 := XR.cell (j := 0) rfl
  have r1 := XR.cell (j := 1) rfl
  have r2 := XR.cell (j := 2) rfl
  have f0 := XR.frozen 0
  have f1 := XR.frozen 1
  have f2 := XR.frozen 2
  have e2 := XE.cell (j := 2) rfl
  have g2 := XS.frozen 2
  clear XE XS XR
  have hb4 := ((((hb.setCell (p := ⟨g0, 2, none⟩) (by simp) (.int .i64 q)).setCell (p := ⟨g0 + 1 + 1, 0, none⟩) (by simp; omega) (.bool x)).setCell (p := ⟨g0 + 1 + 1, 1, none⟩) (by simp; omega) (.int .i64 j)).setCell (p := ⟨g0 + 1 + 1, 2, none⟩) (by simp; omega) (.int .i64 q))
  cases x
  · have hN' : N = false := by rw [← hN]; rfl
    subst hN'
    clear hN
    go_wp2
    (try simp only [Exit.inBlock, Exit.then])
    refine bodyPost_ret (v := .tuple #[.agg #[.bool false, .int .i64 j, .int .i64 q], .bool (false)]) ?_ rfl ⟨rfl, by rw [hg0]; exact hb4⟩
    rw [results_cell_tmp rfl]
    go_simp
  · have hN' : (q == wrap64 (l + 1)) = N := by rw [← hN]; simp [nextB]
    clear hN
    go_wp2
    (try simp only [Exit.inBlock, Exit.then])
    refine bodyPost_ret (v := .tuple #[.agg #[.bool true, .int .i64 j, .int .i64 q], .bool (N)]) ?_ rfl ⟨rfl, by rw [hg0]; exact hb4⟩
    rw [results_cell_tmp rfl]
    go_simp
end Go.Proofs.YtndechodaegkiaaDoor
