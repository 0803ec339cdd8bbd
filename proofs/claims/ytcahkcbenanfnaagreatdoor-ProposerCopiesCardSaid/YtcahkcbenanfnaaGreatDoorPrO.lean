
/- Walk of ProposerGives. -/
import Derived.Test.YtcahkcbenanfnaaGreatDoorPrM
import Derived.Test.YtcahkcbenanfnaaGreatDoorPrN
namespace Go.Proofs.YtcahkcbenanfnaaGreatDoor
set_option linter.unusedSimpArgs false
set_option linter.unusedVariables false
open Go.RowKit


theorem ask_some (c sl r p : Int) (w : World) : Calls Tryz.prog 41 #[.int .i64 c, .int .i64 sl, .agg #[.int .i64 r, .int .i64 p]] w fun e w' => (∃ (v : Value) (E : Int), e = .returned (.tuple #[v, .int .i64 E])) ∧ Below w.heap.size w w' := by
  by_cases he : opErr c sl = 0
  · cases hq : askB c sl r p
    · exact (ask_bad c sl r p w he hq).mono (fun e w' h => ⟨⟨_, _, h.1⟩, h.2⟩)
    · refine (ask_ok c sl r p w he hq).mono ?_
      rintro e w' ⟨⟨g, h, -⟩, hb⟩
      exact ⟨⟨_, _, h⟩, hb⟩
  · exact (ask_no c sl r p w he).mono (fun e w' h => ⟨⟨_, _, h.1⟩, h.2⟩)
def mkE (c sl : Int) (own : Bool) (r p k m n : Int) (s : ByteArray) : Int := if opErr c sl = 0 then (if (if own then entB k m n s else askB c sl r p) then 0 else 2) else opErr c sl
def mkA (c sl : Int) (own : Bool) (r p k m n : Int) (s : ByteArray) : Prp := if own then ownA c sl (ownerI c sl) k m n s else freshA c sl r p
theorem ask_mk (c sl r p : Int) (k m n : Int) (s : ByteArray) (w : World) (h : mkE c sl false r p k m n s ≠ 0) : Calls Tryz.prog 41 #[.int .i64 c, .int .i64 sl, .agg #[.int .i64 r, .int .i64 p]] w fun e w' => e = .returned (.tuple #[.pointer none, .int .i64 (mkE c sl false r p k m n s)]) ∧ Below w.heap.size w w' := by
  unfold mkE at h ⊢
  by_cases he : opErr c sl = 0
  · cases hq : askB c sl r p
    · simpa [he, hq] using ask_bad c sl r p w he hq
    · simp [he, hq] at h
  · simpa [he] using ask_no c sl r p w he
theorem own_mk (c sl r p : Int) (k m n : Int) (s : ByteArray) (w : World) (hs : s.size ≤ 9223372036854775807) (hT : Tabs w) (h : mkE c sl true r p k m n s ≠ 0) : Calls Tryz.prog 23 #[.int .i64 c, .int .i64 sl, .agg #[.int .i64 k, .int .i64 m, .int .i64 n, .string s]] w fun e w' => e = .returned (.tuple #[.pointer none, .int .i64 (mkE c sl true r p k m n s)]) ∧ Below w.heap.size w w' := by
  unfold mkE at h ⊢
  by_cases he : opErr c sl = 0
  · cases hq : entB k m n s
    · simpa [he, hq] using own_bad c sl k m n s w hs hT he hq
    · simp [he, hq] at h
  · simpa [he] using own_no c sl k m n s w he
theorem mk_zero {c sl : Int} {own : Bool} {r p k m n : Int} {s : ByteArray} (h : mkE c sl own r p k m n s = 0) : opErr c sl = 0 ∧ (if own then entB k m n s else askB c sl r p) = true := by
  unfold mkE at h
  by_cases he : opErr c sl = 0
  · cases hq : (if own then entB k m n s else askB c sl r p)
    · simp [he, hq] at h
    · exact ⟨he, rfl⟩
  · simp [he] at h
end Go.Proofs.YtcahkcbenanfnaaGreatDoor
