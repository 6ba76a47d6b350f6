/-
  Contracts of the laws' helpers on slices of bools.
-/
import Derived.Test.YtbolpanfgbhbnaaCommon
import Derived.Test.YtbolpanfgbhbnaaFlat
namespace Go.Proofs.Ytbolpanfgbhbnaa
open Go.RowKit
set_option linter.unusedSimpArgs false
set_option linter.unusedVariables false

theorem infoBool : (Try.prog.info? 4).map (fun i => (i.zero, i.size, i.bytes)) = some (some (.bool false), 1, 1) := by kernel_rfl
theorem madeB (m : Nat) : (madeCells (Value.bool false).cells (m * 1)).toList = mapB (List.replicate m false) := by
  simp [Value.cells, toList_madeCells_one, mapB]
theorem mapB_set (bs : List Bool) (k : Nat) (x : Bool) : (mapB bs).set k (.bool x) = mapB (bs.set k x) := by simp [mapB, List.map_set]
/-- A new slice of bools, in new memory; all that was there is as it was. -/
def NewB (bs : List Bool) (w : World) (e : Ending) (w' : World) : Prop :=
  ∃ A n c, e = .returned (.slice A n c) ∧ OwnB w' w.heap.size w'.heap.size A n c bs ∧ Below w.heap.size w w'
end Go.Proofs.Ytbolpanfgbhbnaa
