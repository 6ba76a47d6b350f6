/-
  Contracts of the small functions that nearly every law calls: the tests of a range, and the laws' own helpers on slices of integers.
-/
import Derived.Test.YtmkkimpljnmpoaaProg
import Derived.Test.YtmkkimpljnmpoaaKit
namespace Go.Proofs.Ytmkkimpljnmpoaa
open Go.RowKit
set_option linter.unusedSimpArgs false
set_option linter.unusedVariables false

theorem infoInt : (Try.prog.info? 3).map (fun i => (i.zero, i.size, i.bytes)) = some (some (.int .i64 0), 1, 8) := by kernel_rfl

set_option maxHeartbeats 400000 in
theorem between_c (x lo hi : Int) (w : World) :
    Calls Try.prog 45 #[.int .i64 x, .int .i64 lo, .int .i64 hi] w fun e w' => e = .returned (.bool (inB x lo hi)) ∧ w = w' := by
  unfold inB
  go_enter Try.func45, Try.ntmps45
  go_wp2
  all_goals
    go_ret
    refine ⟨ret_bool ?_, rfl⟩
    simp
    try omega

set_option maxHeartbeats 400000 in
theorem in_c (x lo hi : Int) (w : World) :
    Calls Try.prog 43 #[.int .i64 x, .int .i64 lo, .int .i64 hi] w fun e w' => e = .returned (.bool (inB x lo hi)) ∧ w = w' := by
  unfold inB
  go_enter Try.func43, Try.ntmps43
  go_wp2
  all_goals
    go_ret
    refine ⟨ret_bool ?_, rfl⟩
    simp
    try omega





end Go.Proofs.Ytmkkimpljnmpoaa
