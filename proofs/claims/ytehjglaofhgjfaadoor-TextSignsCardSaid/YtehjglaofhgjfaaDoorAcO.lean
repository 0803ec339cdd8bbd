
/- Package acceptor: all; worlds with new blocks. -/
import Derived.Test.YtehjglaofhgjfaaDoorTail
import Derived.Test.YtehjglaofhgjfaaDoorRows
import Derived.WalkKit
import Derived.WalkSpells
import Derived.WalkLawsBesides
import Derived.LoopTactic
import Derived.Lib.Hide
namespace Go.Proofs.YtehjglaofhgjfaaDoor
set_option linter.unusedSimpArgs false
set_option linter.unusedVariables false
open Go.RowKit
def ExtA (W W' : World) : Prop := Below W.heap.size W W'
theorem extA_cell {W : World} {b o : Nat} {v : Value} (h : W.cell? ⟨b, o, none⟩ = some v) (W' : World) (hx : ExtA W W') : W'.cell? ⟨b, o, none⟩ = some v := (Below.cell hx (World.block_lt_of_cell? W _ h)).trans h
theorem Blk.newA {W : World} {g : Nat} (hg : W.heap.size = g) (t : TypeId) (cs : List Value) : Blk (W.alloc (.cells cs.toArray t)) g t cs := hg ▸ Blk.new W t cs
theorem boxed_newA {W : World} {g : Nat} (hg : W.heap.size = g) (t : TypeId) (v : Value) : Boxed (W.alloc (.cells #[v] t)) g t v := hg ▸ Boxed.new W t v
theorem alloc_size {W : World} {g : Nat} (hg : W.heap.size = g) (o : Obj) : (W.alloc o).heap.size = g + 1 := by subst hg; exact Array.size_push ..
end Go.Proofs.YtehjglaofhgjfaaDoor
