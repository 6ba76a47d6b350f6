/-
  Contracts of slices.Index and of the laws' helpers on trackers.
-/
import Derived.Test.YtbapamfomfbmmaaCommon
import Derived.Test.YtbapamfomfbmmaaKit2
namespace Go.Proofs.Ytbapamfomfbmmaa
open Go.RowKit
set_option linter.unusedSimpArgs false
set_option linter.unusedVariables false

set_option maxHeartbeats 400000 in
theorem index_c (A : Option Addr) (n c : Nat) (zs : List Int) (x : Int) (w : World) (h : Ints w A n zs) (hn : n ≤ 1048576) :
    Calls Try.prog 146 #[.slice A n c, .int .i64 x] w fun e w' => e = .returned (.int .i64 (idxI zs x)) ∧ w = w' := by
  have HL := Lib.hid h.1
  go_enter Try.func146, Try.ntmps146
  go_wp2
  go_loop [8] (fun i => ∃ k : Nat, k ≤ n ∧ i = .int .i64 k ∧ Hid (x ∉ zs.take k)) (fun i => n - (intOf i).toNat)
  case atStart => exact ⟨0, Nat.zero_le _, rfl, by unfold Hid; simp⟩
  case round =>
    obtain ⟨k, hk, rfl, HK⟩ := hrel
    by_cases hlt : k < n
    · obtain ⟨g, o, y, rfl, hc1, hy⟩ := h.at_ hlt
      by_cases hxy : (x == y) = true
      · obtain rfl : x = y := by simpa using hxy
        have HI := Lib.hid (idxI_at HK.out hy.out)
        go_wp2
        go_ret
        exact ⟨ret_int HI.out.symm, rfl⟩
      · have hxy' : (x == y) = false := by simpa using hxy
        have HM := Lib.hid (not_mem_snoc HK.out hy.out hxy')
        clear hxy
        go_wp2
        go_round
        case rel => exact ⟨k + 1, by omega, by go_num, HM.out⟩
        case measure => simp [intOf]; omega
    · have HM : Hid (idxI zs x = -1) := by
        have := HK.out
        rw [List.take_of_length_le (by rw [HL.out]; omega)] at this
        exact idxI_none this
      go_wp2
      go_ret
      exact ⟨ret_int HM.out.symm, rfl⟩





end Go.Proofs.Ytbapamfomfbmmaa
