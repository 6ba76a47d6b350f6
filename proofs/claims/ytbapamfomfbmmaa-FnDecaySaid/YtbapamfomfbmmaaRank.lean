/-
  States Rank: how they lie in memory, and the contracts of the laws' helpers on them.
-/
import Derived.Test.YtbapamfomfbmmaaBnk
import Derived.Test.YtbapamfomfbmmaaUni
namespace Go.Proofs.Ytbapamfomfbmmaa
open Go.RowKit
set_option linter.unusedSimpArgs false
set_option linter.unusedVariables false

/-- A new state Rank, its row in new memory; all that was there is as it was. -/
def NewRk (ks : List Bnk) (pw : Int) (w : World) (e : Ending) (w' : World) : Prop :=
  ∃ A n c, e = .returned (.agg #[.slice A n c, .int .i64 pw]) ∧ OwnBnk w' w.heap.size w'.heap.size A n c ks ∧ Below w.heap.size w w'
/-- The same and a bool. -/
def NewRkB (ks : List Bnk) (pw : Int) (ok : Bool) (w : World) (e : Ending) (w' : World) : Prop :=
  ∃ A n c, e = .returned (.tuple #[.agg #[.slice A n c, .int .i64 pw], .bool ok]) ∧ OwnBnk w' w.heap.size w'.heap.size A n c ks ∧ Below w.heap.size w w'





end Go.Proofs.Ytbapamfomfbmmaa
