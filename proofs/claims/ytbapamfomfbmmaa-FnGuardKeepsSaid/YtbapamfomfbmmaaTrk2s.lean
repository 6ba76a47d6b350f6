/-
  Contract of the reference's TrackerOk.
-/
import Derived.Test.YtbapamfomfbmmaaTrk2
namespace Go.Proofs.Ytbapamfomfbmmaa
open Go.RowKit
set_option linter.unusedSimpArgs false
set_option linter.unusedVariables false

end Go.Proofs.Ytbapamfomfbmmaa
