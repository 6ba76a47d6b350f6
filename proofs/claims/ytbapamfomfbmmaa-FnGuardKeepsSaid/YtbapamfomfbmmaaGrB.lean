/-
  The contract of GuardBound.
-/
import Derived.Test.YtbapamfomfbmmaaGr6
import Derived.Test.YtbapamfomfbmmaaPatD
import Derived.Test.YtbapamfomfbmmaaExpo
import Derived.Test.YtbapamfomfbmmaaPlc
import Derived.Deep.DeepCutAuto
import Derived.Deep.RegionHeld3
namespace Go.Proofs.Ytbapamfomfbmmaa
open Go.RowKit
set_option linter.unusedSimpArgs false
set_option linter.unusedVariables false

/-- 2 * limit + 2 within the limits. -/
def guardB (limit : Int) : Int := if inB limit 3 1000 = true then 2 * limit + 2 else 0
set_option maxHeartbeats 400000 in
theorem iGuardBound_c (l : Int) (w : World) : Calls Try.prog 47 #[.int .i64 l] w fun e w' => e = .returned (.int .i64 (guardB l)) ∧ w = w' := by
  by_cases hr : inB l 3 1000 = true
  · obtain ⟨r1, r2⟩ := inB_t hr
    have HG : Hid (guardB l = 2 * l + 2) := by unfold Hid guardB; rw [if_pos hr]
    go_enter Try.func47, Try.ntmps47
    go_wp2_with (go_at_call 75; refine (between_c _ _ _ _).mono ?_; rintro e w' ⟨rfl, rfl⟩)
    go_ret
    exact ⟨ret_int HG.out.symm, rfl⟩
  · have HG : Hid (guardB l = 0) := by unfold Hid guardB; rw [if_neg hr]
    have hr' : inB l 3 1000 = false := by simpa using hr
    clear hr
    go_enter Try.func47, Try.ntmps47
    go_wp2_with (go_at_call 75; refine (between_c _ _ _ _).mono ?_; rintro e w' ⟨rfl, rfl⟩)
    go_ret
    exact ⟨ret_int HG.out.symm, rfl⟩
theorem guardB_in {l : Int} (h1 : 3 ≤ l) (h2 : l ≤ 1000) : guardB l = 2 * l + 2 := by unfold guardB; rw [if_pos (inB_mk h1 h2)]
end Go.Proofs.Ytbapamfomfbmmaa
