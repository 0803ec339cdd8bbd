
/- Package text: the pieces between blanks. -/
import Derived.Test.YtehjglaofhgjfaaDoorTyN
import Derived.Test.YtehjglaofhgjfaaDoorTxS
namespace Go.Proofs.YtehjglaofhgjfaaDoor
set_option linter.unusedSimpArgs false
set_option linter.unusedVariables false
open Go.RowKit
/-- The library's bound of a search lies as some number. -/
def MaxL (w : World) : Prop := ∃ m : Int, w.cell? ⟨Tryd.lays146_ren.g 1, 0, none⟩ = some (.int .i64 m)
theorem MaxL.step {w w' : World} (h : MaxL w) (hb : Below w.heap.size w w') : MaxL w' := by
  obtain ⟨m, h⟩ := h
  exact ⟨m, (hb.cell (World.block_lt_of_cell? w _ h)).trans h⟩
def pcsV (s : ByteArray) : List BL := pcs [] s.data.toList
theorem pieces_eq (s : ByteArray) : Lib.splitB ⟨#[32]⟩ 0 (Lib.countB s ⟨#[32]⟩) s = (pcsV s).map mkS := by
  have h := Lib.splitB_data ⟨#[32]⟩ 0 (Lib.countB s ⟨#[32]⟩) s
  have h2 : Lib.splitK (⟨#[32]⟩ : ByteArray).data.toList 0 (Lib.countB s ⟨#[32]⟩) s.data.toList = pcsV s := split_pcs s.data.toList
  rw [h2] at h
  rw [← h, List.map_map]
  have : (mkS ∘ fun x : ByteArray => x.data.toList) = id := by funext x; exact mkS_self x
  rw [this, List.map_id]
theorem pcs_len : ∀ (l cur : BL), (pcs cur l).length ≤ l.length + 1 ∧ ∀ x ∈ pcs cur l, x.length ≤ cur.length + l.length
  | [], cur => by simp [pcs]
  | c :: t, cur => by
    unfold pcs
    split
    · obtain ⟨h1, h2⟩ := pcs_len t []
      refine ⟨by simp only [List.length_cons]; omega, ?_⟩
      intro x hx
      rcases List.mem_cons.1 hx with rfl | hx
      · simp
      · have := h2 x hx; simp at this ⊢; omega
    · obtain ⟨h1, h2⟩ := pcs_len t (cur ++ [c])
      refine ⟨by simp only [List.length_cons]; omega, ?_⟩
      intro x hx
      have := h2 x hx
      simp at this ⊢
      omega
theorem split_any (s : ByteArray) (hs : s.size ≤ 1000000) (w : World) (hM : MaxL w) :
    Calls Tryd.prog 42 #[.string s, .string ⟨#[32]⟩] w fun e w' => e = .returned (.slice (some ⟨w.heap.size, 0, none⟩) (pcsV s).length (pcsV s).length) ∧ w' = w.alloc (.cells (strL (pcsV s)).toArray 9) := by
  obtain ⟨m, hm⟩ := hM
  have h := Tryd.strings_Split s ⟨#[32]⟩ m w (by omega) hm (by decide)
  have he := pieces_eq s
  have hl : Lib.countB s ⟨#[32]⟩ + 1 = (pcsV s).length := by
    have := Lib.splitB_all ⟨#[32]⟩ (by decide) 0 _ s rfl
    rw [he, List.length_map] at this
    omega
  rw [he, hl, List.map_map] at h
  exact h
end Go.Proofs.YtehjglaofhgjfaaDoor
