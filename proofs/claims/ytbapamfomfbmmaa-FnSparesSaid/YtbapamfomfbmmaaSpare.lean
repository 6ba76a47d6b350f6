/-
  States Spare: how they lie in memory, and the contracts of the laws' helpers on them.
-/
import Derived.Test.YtbapamfomfbmmaaUni
namespace Go.Proofs.Ytbapamfomfbmmaa
open Go.RowKit
set_option linter.unusedSimpArgs false
set_option linter.unusedVariables false

/-- A new state Spare, its row in new memory; all that was there is as it was. -/
def NewSp (zs : List Int) (sp : Int) (w : World) (e : Ending) (w' : World) : Prop :=
  ∃ A n c, e = .returned (.agg #[.int .i64 sp, .slice A n c]) ∧ OwnH w' w.heap.size w'.heap.size A n c zs ∧ Below w.heap.size w w'
/-- The same and a bool. -/
def NewSpB (zs : List Int) (sp : Int) (ok : Bool) (w : World) (e : Ending) (w' : World) : Prop :=
  ∃ A n c, e = .returned (.tuple #[.agg #[.int .i64 sp, .slice A n c], .bool ok]) ∧ OwnH w' w.heap.size w'.heap.size A n c zs ∧ Below w.heap.size w w'







end Go.Proofs.Ytbapamfomfbmmaa
