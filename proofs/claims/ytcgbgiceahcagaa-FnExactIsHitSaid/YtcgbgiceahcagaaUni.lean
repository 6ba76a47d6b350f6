/-
  The helpers' contracts in one form for all types: memory letters, then data, then the world.
-/
import Derived.Test.YtcgbgiceahcagaaCommon
import Derived.Test.YtcgbgiceahcagaaKit2
namespace Go.Proofs.Ytcgbgiceahcagaa
open Go.RowKit
set_option linter.unusedSimpArgs false
set_option linter.unusedVariables false

/-- A new slice of integers, in new memory; all that was there is as it was. -/
def NewL (zs : List Int) (w : World) (e : Ending) (w' : World) : Prop :=
  ∃ A n c, e = .returned (.slice A n c) ∧ OwnH w' w.heap.size w'.heap.size A n c zs ∧ Below w.heap.size w w'

end Go.Proofs.Ytcgbgiceahcagaa
