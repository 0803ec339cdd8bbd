
/- As BaL, without the ballots' votes. -/
import Derived.Test.YtcahkcbenanfnaaDoorBaC
import Derived.BigQuiet
namespace Go.Proofs.YtcahkcbenanfnaaDoor
set_option linter.unusedSimpArgs false
set_option linter.unusedVariables false
open Go.RowKit

/-- W' is W with new blocks. -/
def Ext (W W' : World) : Prop := Below W.heap.size W W'
theorem Ext.call {W W' W'' : World} (h : Ext W W') (hb : Below W'.heap.size W' W'') : Ext W W'' := Below.trans h (hb.mono h.size)
theorem ext_cell {W : World} {b o : Nat} {v : Value} (h : W.cell? ⟨b, o, none⟩ = some v) (W' : World) (hx : Ext W W') : W'.cell? ⟨b, o, none⟩ = some v := cells_kept hx h
theorem wp_region_ext {P : Program} {id : Nat} {Q : Exit → Act → World → Prop} {a : Act} {w : World} {l : List Oper} (hm : P.follows .mixedOrders = true) (hB : Region.lexB .any l.toArray = true)
    (h : wpQuiet P l.toArray (Ext w) (fun a' => ∀ w', Ext w w' → Q .normal a' w') l a) : (Code.region id l.toArray true).wp P Q a w :=
  wp_region_quiet (C := Ext w) hm hB ⟨rfl, rfl, rfl, Nat.le_refl _, fun _ _ => rfl⟩ (by simpa using h)
end Go.Proofs.YtcahkcbenanfnaaDoor
