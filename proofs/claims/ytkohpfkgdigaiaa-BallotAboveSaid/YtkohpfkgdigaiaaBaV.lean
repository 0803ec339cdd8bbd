
/- A slice of ballots as an argument; the walk of 'BallotAbove' joined. -/
import Derived.Test.YtkohpfkgdigaiaaBaU
import Derived.Test.YtkohpfkgdigaiaaBaO
import Derived.Deep.Slices
import Derived.ChangeSame
namespace Go.Proofs.Ytkohpfkgdigaiaa
open Go.ChangeShapes Go.WideShapes Go.ChangeAt Go.RowKit Go.Deep
theorem cells_i64 : Try.prog.cellsOf 2 = 1 := by kernel_rfl
theorem cells_int : Try.prog.cellsOf 3 = 1 := by kernel_rfl
section
variable {H : Type} {enc : TypeId × Value → H} {w : World} {base : Nat} {spare : Nat → Bool} {held : Bool}
theorem open_ballots {x : Option Addr} {len cap : Nat} {d : DataW H} {p : List MemPlace} (h : DataW.Trod enc Try.prog w base spare held 40 (.slice x len cap) d p) :
    (x = none ∧ len = 0 ∧ cap = 0) ∨ ∃ (a : Addr) (xs : List Bl), x = some a ∧ xs.length = len ∧ HasA w a xs := by
  obtain ⟨fuel, hf⟩ := h
  rcases open_slice Try.underlying40 hf with ⟨h1, -⟩ | ⟨a, len', cap', m, n, D, Pl, h1, -, hle, -, hm, -, hi⟩
  · simp [Value.cells] at h1
    exact .inl h1
  · simp [Value.cells] at h1
    obtain ⟨rfl, rfl, rfl⟩ := h1
    have hlm : len ≤ m := by rw [hm]; split <;> omega
    have key : ∀ i, ∃ b : Bl, i < len → w.cell? (a.add (i * 2)) = some (.int .i64 b.1) ∧ w.cell? ((a.add (i * 2)).add 1) = some (.int .i64 b.2) := by
      intro i
      by_cases hil : i < len
      · obtain ⟨cs', hc, ht⟩ := hi i (by omega)
        rw [cells_ballot] at hc
        obtain ⟨y0, y1, n', -, hlen, h0, h1⟩ := trod_struct2 Try.underlying23 ht
        rw [cells_ballot] at hlen
        obtain ⟨_, hcl, hat⟩ := World.cells?_some hc
        match cs', hlen with
        | [u0, u1], _ =>
          obtain ⟨r, e0, -, -⟩ := DataW.trod_int Try.underlying2 h0
          obtain ⟨q, e1, -, -⟩ := DataW.trod_int Try.underlying3 h1
          have a0 := hat 0 (by simp)
          have a1 := hat 1 (by simp)
          simp [cells_i64] at e0
          simp [cells_int] at e1
          subst e0 e1
          exact ⟨(r, q), fun _ => ⟨by simpa [Addr.add] using a0, by simpa using a1⟩⟩
      · exact ⟨(0, 0), fun h => absurd h hil⟩
    obtain ⟨f, hf⟩ := Classical.axiomOfChoice key
    exact .inr ⟨a, (List.range len).map f, rfl, by simp, fun k hk => by simpa using hf k (by simpa using hk)⟩
end
theorem BallotAbove_walk (c p : Int) (x : Option Addr) (len cap : Nat) (w : World) (h : (x = none ∧ len = 0 ∧ cap = 0) ∨ ∃ (a : Addr) (xs : List Bl), x = some a ∧ xs.length = len ∧ HasA w a xs) :
    Calls Try.prog 5 #[.int .i64 c, .int .i64 p, .slice x len cap] w fun e w' => e = .returned (.bool true) ∧ Below w.heap.size w w' := by
  rcases h with ⟨rfl, rfl, rfl⟩ | ⟨a, xs, rfl, hn, hx⟩
  · exact BallotAbove_nil c p w
  · by_cases hm : 20 < len
    · exact BallotAbove_far c p _ cap len hm w
    · exact BallotAbove_some c p a cap len xs hn (by omega) w hx
end Go.Proofs.Ytkohpfkgdigaiaa
