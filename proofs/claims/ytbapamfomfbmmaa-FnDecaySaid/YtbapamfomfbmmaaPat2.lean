/-
  Contracts of PatternOk and Neighbors, in the program and in the reference.
-/
import Derived.Test.YtbapamfomfbmmaaPat1
namespace Go.Proofs.Ytbapamfomfbmmaa
open Go.RowKit
set_option linter.unusedSimpArgs false
set_option linter.unusedVariables false

/-- Every element of zs is a row. -/
def rowsIn (rows : Int) (zs : List Int) : Bool := zs.all fun x => inB x 0 (rows - 1)
/-- A valid pattern. -/
def patOk (rows : Int) (zs : List Int) : Bool := inB rows 2 16 && (decide (zs.length ≤ 1000) && rowsIn rows zs)
theorem rowsIn_yes {zs : List Int} {rows x : Int} {k : Nat} (hr : rowsIn rows (zs.take k) = true) (h : zs[k]? = some x) (e : inB x 0 (rows - 1) = true) : rowsIn rows (zs.take (k + 1)) = true := by
  unfold rowsIn at *
  rw [take_snoc h, List.all_append, hr]
  simp [e]
theorem rowsIn_no {zs : List Int} {rows x : Int} {k : Nat} (h : zs[k]? = some x) (e : inB x 0 (rows - 1) = false) : rowsIn rows zs = false := by
  unfold rowsIn
  rw [Bool.eq_false_iff]
  intro hc
  rw [List.all_eq_true] at hc
  have := hc x (List.mem_of_getElem? h)
  rw [e] at this
  cases this

set_option maxHeartbeats 400000 in
theorem sPatternOk_c (A : Option Addr) (n c : Nat) (zs : List Int) (rows : Int) (w : World) (h : Ints w A n zs) (hn : n ≤ 1048576) :
    Calls Try.prog 93 #[.int .i64 rows, .slice A n c] w fun e w' => e = .returned (.bool (patOk rows zs)) ∧ w = w' := by
  have HL := Lib.hid h.1
  by_cases hr : inB rows 2 16 = true
  · obtain ⟨r1, r2⟩ := inB_t hr
    by_cases hlen : n ≤ 1000
    · have HP : Hid (patOk rows zs = rowsIn rows zs) := by unfold Hid patOk; rw [hr, HL.out]; simp [hlen]
      go_enter Try.func93, Try.ntmps93
      go_wp2_with (go_at_call 70; refine (in_c _ _ _ _).mono ?_; rintro e w' ⟨rfl, rfl⟩)
      go_loop [5] (fun i => ∃ k : Nat, k ≤ n ∧ i = .int .i64 k ∧ Hid (rowsIn rows (zs.take k) = true)) (fun i => n - (intOf i).toNat)
      case atStart => exact ⟨0, Nat.zero_le _, rfl, by unfold Hid; simp [rowsIn]⟩
      case round =>
        obtain ⟨k, hk, rfl, HR⟩ := hrel
        by_cases hlt : k < n
        · obtain ⟨g, o, x, rfl, hc1, hx⟩ := h.at_ hlt
          by_cases hi : inB x 0 (rows - 1) = true
          · go_wp2_with (go_at_call 70; refine (in_c _ _ _ _).mono ?_; rintro e w' ⟨rfl, rfl⟩)
            go_round
            case rel => exact ⟨k + 1, by omega, by go_num, rowsIn_yes HR.out hx.out hi⟩
            case measure => simp [intOf]; omega
          · have hi' : inB x 0 (rows - 1) = false := by simpa using hi
            clear hi
            go_wp2_with (go_at_call 70; refine (in_c _ _ _ _).mono ?_; rintro e w' ⟨rfl, rfl⟩)
            go_ret
            exact ⟨ret_bool (by rw [HP.out, rowsIn_no hx.out hi']), rfl⟩
        · go_wp2
          go_ret
          refine ⟨ret_bool ?_, rfl⟩
          have := HR.out
          rw [List.take_of_length_le (by rw [HL.out]; omega)] at this
          rw [HP.out, this]
    · have HP : Hid (patOk rows zs = false) := by unfold Hid patOk; rw [hr, HL.out]; simp [hlen]
      go_enter Try.func93, Try.ntmps93
      go_wp2_with (go_at_call 70; refine (in_c _ _ _ _).mono ?_; rintro e w' ⟨rfl, rfl⟩)
      go_ret
      exact ⟨ret_bool (by rw [HP.out]), rfl⟩
  · have hr' : inB rows 2 16 = false := by simpa using hr
    have HP : Hid (patOk rows zs = false) := by unfold Hid patOk; rw [hr']; simp
    clear hr
    go_enter Try.func93, Try.ntmps93
    go_wp2_with (go_at_call 70; refine (in_c _ _ _ _).mono ?_; rintro e w' ⟨rfl, rfl⟩)
    go_ret
    exact ⟨ret_bool (by rw [HP.out]), rfl⟩

set_option maxHeartbeats 400000 in
theorem iPatternOk_c (A : Option Addr) (n c : Nat) (zs : List Int) (rows : Int) (w : World) (h : Ints w A n zs) (hn : n ≤ 1048576) :
    Calls Try.prog 97 #[.int .i64 rows, .slice A n c] w fun e w' => e = .returned (.bool (patOk rows zs)) ∧ w = w' := by
  have HL := Lib.hid h.1
  by_cases hr : inB rows 2 16 = true
  · obtain ⟨r1, r2⟩ := inB_t hr
    have HP : Hid (patOk rows zs = (decide (n ≤ 1000) && rowsIn rows zs)) := by unfold Hid patOk; rw [hr, HL.out]; simp
    go_enter Try.func97, Try.ntmps97
    go_wp2
    go_loop [9] (fun i => ∃ k : Nat, k ≤ n ∧ i = .int .i64 k ∧ Hid (rowsIn rows (zs.take k) = true)) (fun i => n - (intOf i).toNat)
    case atStart => exact ⟨0, Nat.zero_le _, rfl, by unfold Hid; simp [rowsIn]⟩
    case round =>
      obtain ⟨k, hk, rfl, HR⟩ := hrel
      by_cases hlt : k < n
      · obtain ⟨g, o, x, rfl, hc1, hx⟩ := h.at_ hlt
        by_cases hi : inB x 0 (rows - 1) = true
        · go_wp2_with (go_at_call 75; refine (between_c _ _ _ _).mono ?_; rintro e w' ⟨rfl, rfl⟩)
          go_round
          case rel => exact ⟨k + 1, by omega, by go_num, rowsIn_yes HR.out hx.out hi⟩
          case measure => simp [intOf]; omega
        · have hi' : inB x 0 (rows - 1) = false := by simpa using hi
          clear hi
          go_wp2_with (go_at_call 75; refine (between_c _ _ _ _).mono ?_; rintro e w' ⟨rfl, rfl⟩)
          go_ret
          exact ⟨ret_bool (by rw [HP.out, rowsIn_no hx.out hi']; simp), rfl⟩
      · have HE := HR.out
        rw [List.take_of_length_le (by rw [HL.out]; omega)] at HE
        have HE2 := Lib.hid HE
        clear HE
        go_wp2_with (go_at_call 75; refine (between_c _ _ _ _).mono ?_; rintro e w' ⟨rfl, rfl⟩)
        go_ret
        refine ⟨ret_bool ?_, rfl⟩
        rw [HP.out, HE2.out]
        simp
        try omega
  · have hr' : inB rows 2 16 = false := by simpa using hr
    have HP : Hid (patOk rows zs = false) := by unfold Hid patOk; rw [hr']; simp
    clear hr
    go_enter Try.func97, Try.ntmps97
    go_wp2
    go_loop [9] (fun i => ∃ k : Nat, k ≤ n ∧ i = .int .i64 k) (fun i => n - (intOf i).toNat)
    case atStart => exact ⟨0, Nat.zero_le _, rfl⟩
    case round =>
      obtain ⟨k, hk, rfl⟩ := hrel
      by_cases hlt : k < n
      · obtain ⟨g, o, x, rfl, hc1, hx⟩ := h.at_ hlt
        go_wp2_with (go_at_call 75; refine (between_c _ _ _ _).mono ?_; rintro e w' ⟨rfl, rfl⟩)
        · go_ret
          exact ⟨ret_bool (by rw [HP.out]), rfl⟩
        · go_round
          case rel => exact ⟨k + 1, by omega, by go_num⟩
          case measure => simp [intOf]; omega
      · go_wp2_with (go_at_call 75; refine (between_c _ _ _ _).mono ?_; rintro e w' ⟨rfl, rfl⟩)
        go_ret
        exact ⟨ret_bool (by rw [HP.out]), rfl⟩

/-- The neighbors of a row; none where the row does not exist. -/
def nears (rows row : Int) : List Int :=
  if inB rows 2 16 = true ∧ inB row 0 (rows - 1) = true then (if 0 < row then [row - 1] else []) ++ (if row < rows - 1 then [row + 1] else []) else []
theorem nears_len (rows row : Int) : (nears rows row).length ≤ 2 := by
  unfold nears; repeat' split
  all_goals simp

end Go.Proofs.Ytbapamfomfbmmaa
