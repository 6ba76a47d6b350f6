/-
  Contracts of the functions of chapter 15 (patterns): how often a row occurs, whether a pattern is valid, the neighbors of a row.
-/
import Derived.Test.YtbapamfomfbmmaaCommon
namespace Go.Proofs.Ytbapamfomfbmmaa
open Go.RowKit
set_option linter.unusedSimpArgs false
set_option linter.unusedVariables false

/-- How often r occurs in zs. -/
def cnt (zs : List Int) (r : Int) : Int := (zs.count r : Nat)
theorem cnt_le (zs : List Int) (r : Int) : 0 ≤ cnt zs r ∧ cnt zs r ≤ zs.length := by
  unfold cnt; exact ⟨by omega, by have := List.count_le_length (a := r) (l := zs); omega⟩
theorem cnt_yes {zs : List Int} {r x : Int} {k : Nat} (h : zs[k]? = some x) (e : (x == r) = true) : cnt (zs.take (k + 1)) r = cnt (zs.take k) r + 1 := by
  unfold cnt
  rw [take_snoc h, List.count_append]
  simp at e
  simp [e]
theorem cnt_no {zs : List Int} {r x : Int} {k : Nat} (h : zs[k]? = some x) (e : (x == r) = false) : cnt (zs.take (k + 1)) r = cnt (zs.take k) r := by
  unfold cnt
  rw [take_snoc h, List.count_append]
  simp at e
  simp [e, List.count_singleton]


set_option maxHeartbeats 400000 in
theorem iCountRow_c (A : Option Addr) (n c : Nat) (zs : List Int) (r : Int) (w : World) (h : Ints w A n zs) (hn : n ≤ 1048576) :
    Calls Try.prog 76 #[.slice A n c, .int .i64 r] w fun e w' => e = .returned (.int .i64 (cnt zs r)) ∧ w = w' := by
  have HL := Lib.hid h.1
  go_enter Try.func76, Try.ntmps76
  go_wp2
  go_loop [5, 10] (fun j i => ∃ k : Nat, k ≤ n ∧ i = .int .i64 k ∧ j = .int .i64 (cnt (zs.take k) r)) (fun _ i => n - (intOf i).toNat)
  case atStart => exact ⟨0, Nat.zero_le _, rfl, by simp [cnt]⟩
  case round =>
    obtain ⟨k, hk, rfl, rfl⟩ := hrel
    have hb := cnt_le (zs.take k) r
    have hl : (zs.take k).length ≤ k := List.length_take_le _ _
    by_cases hlt : k < n
    · obtain ⟨g, o, x, rfl, hc1, hx⟩ := h.at_ hlt
      go_wp2
      all_goals
        go_round
        case rel => exact ⟨k + 1, by omega, by go_num, by first | rw [cnt_yes hx.out (by assumption)] | rw [cnt_no hx.out (by assumption)]⟩
        case measure => simp [intOf]; omega
    · go_wp2
      go_ret
      exact ⟨ret_int (by rw [List.take_of_length_le (by rw [HL.out]; omega)]), rfl⟩
end Go.Proofs.Ytbapamfomfbmmaa
