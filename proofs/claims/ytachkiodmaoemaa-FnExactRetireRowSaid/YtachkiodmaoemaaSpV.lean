/-
  The contracts of RetireRow with their arguments in the order of the laws.
-/
import Derived.Test.YtachkiodmaoemaaSpG
import Derived.Test.YtachkiodmaoemaaSpW
import Derived.Deep.DeepCutAuto
namespace Go.Proofs.Ytachkiodmaoemaa
open Go.RowKit
set_option linter.unusedSimpArgs false
set_option linter.unusedVariables false

theorem iRetireRow_x (gg gb gr gc : Int) (A : Option Addr) (n c : Nat) (zs : List Int) (sp : Int) (bank row : Int) (w : World) (hA : Ints w A n zs) (hn : n ≤ 1048576) (hc : n ≤ c ∧ c ≤ maxLen) :
    Calls Try.prog 32 #[.agg #[.int .i64 gg, .int .i64 gb, .int .i64 gr, .int .i64 gc], .agg #[.int .i64 sp, .slice A n c], .int .i64 bank, .int .i64 row] w (NewSpB (retMap gg gb gr gc sp zs bank row) sp (retOk gg gb gr gc sp zs bank row) w) :=
  iRetireRow_c gg gb gr gc sp A n c zs bank row w hA hn hc
theorem sRetireRow_x (gg gb gr gc : Int) (A : Option Addr) (n c : Nat) (zs : List Int) (sp : Int) (bank row : Int) (w : World) (hA : Ints w A n zs) (hn : n ≤ 1048576) (hc : n ≤ c ∧ c ≤ maxLen) :
    Calls Try.prog 31 #[.agg #[.int .i64 gg, .int .i64 gb, .int .i64 gr, .int .i64 gc], .agg #[.int .i64 sp, .slice A n c], .int .i64 bank, .int .i64 row] w (NewSpB (retMap gg gb gr gc sp zs bank row) sp (retOk gg gb gr gc sp zs bank row) w) :=
  sRetireRow_c gg gb gr gc sp A n c zs bank row w hA hn hc
end Go.Proofs.Ytachkiodmaoemaa
