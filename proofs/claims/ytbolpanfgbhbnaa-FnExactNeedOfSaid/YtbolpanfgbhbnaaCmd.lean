/-
  The contract of the laws' comparison of commands.
-/
import Derived.Test.YtbolpanfgbhbnaaCommon
namespace Go.Proofs.Ytbolpanfgbhbnaa
open Go.RowKit
set_option linter.unusedSimpArgs false
set_option linter.unusedVariables false
set_option maxHeartbeats 400000 in
theorem eqCommand_h (kd bk rw_ cl : Int) (w : World) :
    Calls Try.prog 32 #[.agg #[.int .i64 kd, .int .i64 bk, .int .i64 rw_, .int .i64 cl], .agg #[.int .i64 kd, .int .i64 bk, .int .i64 rw_, .int .i64 cl]] w fun x w' => x = .returned (.bool true) ∧ Below w.heap.size w w' := by
  have ne0 : (kd != kd) = false := by simp
  have ne1 : (bk != bk) = false := by simp
  have ne2 : (rw_ != rw_) = false := by simp
  have ne3 : (cl != cl) = false := by simp
  go_enter Try.func32, Try.ntmps32
  go_wp2
  go_ret
  exact ⟨rfl, ((Below.refl _ _).alloc (Nat.le_refl _) _).alloc (by simp) _⟩
end Go.Proofs.Ytbolpanfgbhbnaa
