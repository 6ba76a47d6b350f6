/-
  The walk of FnExactRequestOk.
-/
import Derived.Test.YtmkkimpljnmpoaaReqA
import Derived.Test.YtmkkimpljnmpoaaOpen
namespace Go.Proofs.Ytmkkimpljnmpoaa
open Go.RowKit
set_option linter.unusedSimpArgs false
set_option linter.unusedVariables false

set_option maxHeartbeats 8000000 in
theorem fnExactRequestOk_walk (lines : Int) (id : Int) (ten : Int) (line : Int) (wrt : Bool) (dat : Int) (att : Int) (w : World) (ilines : I64 lines) (iid : I64 id) (iten : I64 ten) (iline : I64 line) (idat : I64 dat) (iatt : I64 att) :
    Calls Try.prog 3 #[.int .i64 lines, .agg #[.int .i64 id, .int .i64 ten, .int .i64 line, .bool wrt, .int .i64 dat, .int .i64 att]] w fun e w' => e = .returned (.bool true) ∧ Below w.heap.size w w' := by
  clear ilines iid iten iline idat iatt
  have hs0 : ((reqOk lines id ten line wrt dat att) != (reqOk lines id ten line wrt dat att)) = false := by simp
  have bel : Below w.heap.size w w := Below.refl _ _
  go_enter Try.func3, Try.ntmps3
  go_wp2_with fail
  refine abs_call ?_
  intro W1 hW
  replace bel := bel.alloc bel.size (.cells #[.int .i64 id, .int .i64 ten, .int .i64 line, .bool wrt, .int .i64 dat, .int .i64 att] 23)
  rw [← hW] at bel
  have pRequest : Box W1 w.heap.size 23 #[.int .i64 id, .int .i64 ten, .int .i64 line, .bool wrt, .int .i64 dat, .int .i64 att] := by rw [hW]; exact Box.new _ _ _
  have szW1 : w.heap.size < W1.heap.size := by rw [hW]; simp
  clear hW
  refine (toRequest_h  id ten line wrt dat att _ ).mono ?_
  rintro e w2 ⟨rfl, hbb⟩
  have szw2 := hbb.size
  replace bel := bel.trans (hbb.mono bel.size)
  replace pRequest := pRequest.kept hbb
  clear hbb
  go_wp2_with fail
  refine (sRequestOk_c lines id ten line wrt dat att _ ).mono ?_
  rintro e w3 ⟨rfl, hbb⟩
  have szw3 := hbb.size
  replace bel := bel.trans (hbb.mono bel.size)
  replace pRequest := pRequest.kept hbb
  clear hbb
  obtain ⟨pRequestc0, pRequestc1, pRequestc2, pRequestc3, pRequestc4, pRequestc5⟩ := pRequest.c6
  have pRequest_lt := pRequest.lt
  go_wp2_with fail
  refine (toRequest_h  id ten line wrt dat att _ ).mono ?_
  rintro e w4 ⟨rfl, hbb⟩
  clear pRequestc0 pRequestc1 pRequestc2 pRequestc3 pRequestc4 pRequestc5 pRequest_lt
  have szw4 := hbb.size
  replace bel := bel.trans (hbb.mono bel.size)
  replace pRequest := pRequest.kept hbb
  clear hbb
  go_wp2_with fail
  refine (iRequestOk_c lines id ten line wrt dat att _ ).mono ?_
  rintro e w5 ⟨rfl, hbb⟩
  have szw5 := hbb.size
  replace bel := bel.trans (hbb.mono bel.size)
  replace pRequest := pRequest.kept hbb
  clear hbb
  go_wp2
  go_ret
  exact ⟨rfl, bel⟩
end Go.Proofs.Ytmkkimpljnmpoaa
