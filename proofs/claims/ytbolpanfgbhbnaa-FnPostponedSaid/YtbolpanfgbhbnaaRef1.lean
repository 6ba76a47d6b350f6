/-
  Contracts of the laws' helpers on refresh states.
-/
import Derived.Test.YtbolpanfgbhbnaaCommon
import Derived.Test.YtbolpanfgbhbnaaKit2
namespace Go.Proofs.Ytbolpanfgbhbnaa
open Go.RowKit
set_option linter.unusedSimpArgs false
set_option linter.unusedVariables false

/-- A new refresh state, its row in new memory; all that was there is as it was. -/
def NewR (zs : List Int) (s : Int) (t : Bool) (w : World) (e : Ending) (w' : World) : Prop :=
  ∃ A n c, e = .returned (.agg #[.slice A n c, .int .i64 s, .bool t]) ∧ OwnH w' w.heap.size w'.heap.size A n c zs ∧ Below w.heap.size w w'

end Go.Proofs.Ytbolpanfgbhbnaa
