/-
  Contracts of Exposure and WorstExposure, in the program and in the reference.
-/
import Derived.Test.YtbapamfomfbmmaaPat3
namespace Go.Proofs.Ytbapamfomfbmmaa
open Go.RowKit
set_option linter.unusedSimpArgs false
set_option linter.unusedVariables false

/-- One activation: the greatest exposure so far, and the exposure since the row was activated. -/
def expoStep (near : List Int) (row : Int) (s : Int × Int) (x : Int) : Int × Int :=
  (max s.1 ((if x = row then 0 else s.2) + cnt near x), (if x = row then 0 else s.2) + cnt near x)
def expoTo (near : List Int) (row : Int) (zs : List Int) : Int × Int := zs.foldl (expoStep near row) (0, 0)
def expo (rows : Int) (zs : List Int) (row : Int) : Int := if patOk rows zs = true then (expoTo (nears rows row) row zs).1 else 0

theorem expoTo_snoc {near zs : List Int} {row x : Int} {k : Nat} (h : zs[k]? = some x) : expoTo near row (zs.take (k + 1)) = expoStep near row (expoTo near row (zs.take k)) x := by
  unfold expoTo; rw [take_snoc h, List.foldl_append]; rfl
theorem snoc_ind {α : Type} {p : List α → Prop} (h0 : p []) (h1 : ∀ l x, p l → p (l ++ [x])) (l : List α) : p l := by
  have : ∀ m : List α, p m.reverse := by
    intro m
    induction m with
    | nil => exact h0
    | cons x m ih => rw [List.reverse_cons]; exact h1 _ x ih
  have h := this l.reverse
  rwa [List.reverse_reverse] at h
theorem expoTo_bd (near : List Int) (row : Int) (hn : near.length ≤ 2) (zs : List Int) : 0 ≤ (expoTo near row zs).1 ∧ (expoTo near row zs).1 ≤ 2 * zs.length ∧ 0 ≤ (expoTo near row zs).2 ∧ (expoTo near row zs).2 ≤ 2 * zs.length := by
  induction zs using snoc_ind with
  | h0 => simp [expoTo]
  | h1 zs x ih =>
    have e : expoTo near row (zs ++ [x]) = expoStep near row (expoTo near row zs) x := by unfold expoTo; rw [List.foldl_append]; rfl
    rw [e]
    have hc := cnt_le near x
    unfold expoStep
    simp only [List.length_append, List.length_cons, List.length_nil]
    split <;> omega

theorem beq_flip {x y : Int} {b : Bool} (h : (x == y) = b) : (y == x) = b := by rw [← h]; exact Bool.eq_iff_iff.2 (by rw [beq_iff_eq, beq_iff_eq]; exact ⟨Eq.symm, Eq.symm⟩)
theorem expoStep_yes {near : List Int} {row x s1 s2 : Int} (h : (x == row) = true) : expoStep near row (s1, s2) x = (if s1 < cnt near x then cnt near x else s1, cnt near x) := by
  simp at h
  subst h
  unfold expoStep
  simp only [if_true, Int.zero_add]
  rw [show max s1 (cnt near x) = if s1 < cnt near x then cnt near x else s1 from by split <;> omega]
theorem expoStep_no {near : List Int} {row x s1 s2 : Int} (h : (x == row) = false) : expoStep near row (s1, s2) x = (if s1 < s2 + cnt near x then s2 + cnt near x else s1, s2 + cnt near x) := by
  simp at h
  unfold expoStep
  simp only [if_neg h]
  rw [show max s1 (s2 + cnt near x) = if s1 < s2 + cnt near x then s2 + cnt near x else s1 from by split <;> omega]

set_option maxHeartbeats 1000000 in
theorem iExposure_c (rows : Int) (A : Option Addr) (n c : Nat) (zs : List Int) (row : Int) (w : World) (h : Ints w A n zs) (hn : n ≤ 1048576) :
    Calls Try.prog 103 #[.int .i64 rows, .slice A n c, .int .i64 row] w fun e w' => e = .returned (.int .i64 (expo rows zs row)) ∧ Below w.heap.size w w' := by
  have HL := Lib.hid h.1
  by_cases hp : patOk rows zs = true
  · have HE : Hid (expo rows zs row = (expoTo (nears rows row) row zs).1) := by unfold Hid expo; rw [if_pos hp]
    have HNL := Lib.hid (nears_len rows row)
    go_enter Try.func103, Try.ntmps103
    go_wp2_with fail
    refine (iPatternOk_c A n c zs rows _ h hn).mono ?_
    rintro e w' ⟨rfl, rfl⟩
    go_wp2_with fail
    refine (iNeighbors_c rows row _).mono ?_
    rintro e w1 ⟨A1, n1, c1, rfl, o1, b1⟩
    have hn1 : n1 ≤ 2 := by have := o1.len; have := HNL.out; omega
    generalize nears rows row = near at *
    have h1 := h.below b1
    clear hp
    go_wp2
    go_loop [7, 8, 21] (fun a b i => ∃ k : Nat, k ≤ n ∧ i = .int .i64 k ∧ a = .int .i64 (expoTo near row (zs.take k)).1 ∧ b = .int .i64 (expoTo near row (zs.take k)).2) (fun _ _ i => n - (intOf i).toNat)
    case atStart => exact ⟨0, Nat.zero_le _, rfl, rfl, rfl⟩
    case round =>
      obtain ⟨k, hk, rfl, rfl, rfl⟩ := hrel
      have hbd := expoTo_bd near row HNL.out (zs.take k)
      have hl : (zs.take k).length ≤ k := List.length_take_le _ _
      by_cases hlt : k < n
      · obtain ⟨g, o, x, rfl, hc1, hx⟩ := h1.at_ hlt
        have HS : Hid (expoTo near row (zs.take (k + 1)) = expoStep near row (expoTo near row (zs.take k)) x) := expoTo_snoc hx.out
        have hcn := cnt_le near x
        have hnl := HNL.out
        generalize expoTo near row (zs.take k) = st at *
        obtain ⟨s1, s2⟩ := st
        go_wp2_with (go_at_call 76; refine (iCountRow_c A1 n1 c1 near x _ o1.ints (by omega)).mono ?_; rintro e w' ⟨rfl, rfl⟩)
        all_goals
          go_round
          case rel => first | exact ⟨k + 1, by omega, by go_num, by rw [HS.out, expoStep_yes (by assumption)], by rw [HS.out, expoStep_yes (by assumption)]⟩ | exact ⟨k + 1, by omega, by go_num, by rw [HS.out, expoStep_no (by assumption)], by rw [HS.out, expoStep_no (by assumption)]⟩
          case measure => simp [intOf]; omega
      · go_wp2
        go_ret
        refine ⟨ret_int ?_, b1⟩
        rw [HE.out, List.take_of_length_le (by rw [HL.out]; omega)]
  · have HE : Hid (expo rows zs row = 0) := by unfold Hid expo; rw [if_neg hp]
    have hp' : patOk rows zs = false := by simpa using hp
    clear hp
    go_enter Try.func103, Try.ntmps103
    go_wp2_with (go_at_call 97; refine (iPatternOk_c A n c zs rows _ h hn).mono ?_; rintro e w' ⟨rfl, rfl⟩)
    go_ret
    exact ⟨ret_int HE.out.symm, Below.refl _ _⟩

set_option maxHeartbeats 1000000 in
theorem sExposure_c (rows : Int) (A : Option Addr) (n c : Nat) (zs : List Int) (row : Int) (w : World) (h : Ints w A n zs) (hn : n ≤ 1048576) :
    Calls Try.prog 104 #[.int .i64 rows, .slice A n c, .int .i64 row] w fun e w' => e = .returned (.int .i64 (expo rows zs row)) ∧ Below w.heap.size w w' := by
  have HL := Lib.hid h.1
  by_cases hp : patOk rows zs = true
  · have HE : Hid (expo rows zs row = (expoTo (nears rows row) row zs).1) := by unfold Hid expo; rw [if_pos hp]
    have HNL := Lib.hid (nears_len rows row)
    go_enter Try.func104, Try.ntmps104
    go_wp2_with fail
    refine (sPatternOk_c A n c zs rows _ h hn).mono ?_
    rintro e w' ⟨rfl, rfl⟩
    go_wp2_with fail
    refine (sNeighbors_c rows row _).mono ?_
    rintro e w1 ⟨A1, n1, c1, rfl, o1, b1⟩
    have hn1 : n1 ≤ 2 := by have := o1.len; have := HNL.out; omega
    have HN1 := Lib.hid o1.len
    generalize nears rows row = near at *
    have h1 := h.below b1
    have i1 := o1.ints
    clear hp o1
    go_wp2
    go_loopw [7, 8, 10] (fun a b i wr => ∃ k : Nat, k ≤ n ∧ i = .int .i64 k ∧ a = .int .i64 (expoTo near row (zs.take k)).1 ∧ b = .int .i64 (expoTo near row (zs.take k)).2 ∧ ∃ q, wr = w1.drewN q) (fun _ _ i _ => n - (intOf i).toNat)
    case atStart => exact ⟨0, Nat.zero_le _, rfl, rfl, rfl, 0, rfl⟩
    case round =>
      obtain ⟨k, hk, rfl, rfl, rfl, q, rfl⟩ := hrel
      have hbd := expoTo_bd near row HNL.out (zs.take k)
      have hl : (zs.take k).length ≤ k := List.length_take_le _ _
      by_cases hlt : k < n
      · obtain ⟨g, o, x, rfl, hc1, hx⟩ := h1.at_ hlt
        have HS : Hid (expoTo near row (zs.take (k + 1)) = expoStep near row (expoTo near row (zs.take k)) x) := expoTo_snoc hx.out
        have hcn := cnt_le near x
        have hnl := HNL.out
        generalize expoTo near row (zs.take k) = st at *
        obtain ⟨s1, s2⟩ := st
        by_cases hxr : (x == row) = true
        · have HX := Lib.hid hxr
          go_wp2
          go_loopw [8, 11] (fun b i wr => ∃ j : Nat, j ≤ n1 ∧ i = .int .i64 j ∧ b = .int .i64 (0 + cnt (near.take j) x) ∧ ∃ q', wr = w1.drewN q') (fun _ i _ => n1 - (intOf i).toNat)
          case atStart => exact ⟨0, Nat.zero_le _, rfl, by simp [cnt], _, rfl⟩
          case round =>
            obtain ⟨j, hj, rfl, rfl, q', rfl⟩ := hrel
            have hbj := cnt_le (near.take j) x
            have hlj : (near.take j).length ≤ j := List.length_take_le _ _
            by_cases hjt : j < n1
            · obtain ⟨g', o', y, rfl, hc2, hy⟩ := i1.at_ hjt
              have ib1 : (0 : Int) ≤ (k : Int) := by omega
              have ib2 : (k : Int) < (n : Int) := by omega
              have jb1 : (0 : Int) ≤ (j : Int) := by omega
              have jb2 : (j : Int) < (n1 : Int) := by omega
              go_wp2
              go_quiet (fail)
              go_wp2
              all_goals
                go_roundw
                case rel => exact ⟨j + 1, by omega, by go_num, by first | (rw [cnt_yes hy.out (beq_flip (by assumption))]; go_num) | (rw [cnt_no hy.out (beq_flip (by assumption))]), _, rfl⟩
                case measure => simp [intOf]; omega
            · have HC : Hid (cnt (near.take j) x = cnt near x) := by unfold Hid; rw [List.take_of_length_le (by rw [HN1.out]; omega)]
              go_wp2
              go_roundw
              case rel => exact ⟨k + 1, by omega, by go_num, by rw [HS.out, expoStep_yes HX.out, HC.out]; try simp, by rw [HS.out, expoStep_yes HX.out, HC.out]; try simp, _, rfl⟩
              case measure => simp [intOf]; omega
        · have hxf : (x == row) = false := by simpa using hxr
          have HX := Lib.hid hxf
          clear hxr
          go_wp2
          go_loopw [8, 11] (fun b i wr => ∃ j : Nat, j ≤ n1 ∧ i = .int .i64 j ∧ b = .int .i64 (s2 + cnt (near.take j) x) ∧ ∃ q', wr = w1.drewN q') (fun _ i _ => n1 - (intOf i).toNat)
          case atStart => exact ⟨0, Nat.zero_le _, rfl, by simp [cnt], _, rfl⟩
          case round =>
            obtain ⟨j, hj, rfl, rfl, q', rfl⟩ := hrel
            have hbj := cnt_le (near.take j) x
            have hlj : (near.take j).length ≤ j := List.length_take_le _ _
            by_cases hjt : j < n1
            · obtain ⟨g', o', y, rfl, hc2, hy⟩ := i1.at_ hjt
              have ib1 : (0 : Int) ≤ (k : Int) := by omega
              have ib2 : (k : Int) < (n : Int) := by omega
              have jb1 : (0 : Int) ≤ (j : Int) := by omega
              have jb2 : (j : Int) < (n1 : Int) := by omega
              go_wp2
              go_quiet (fail)
              go_wp2
              all_goals
                go_roundw
                case rel => exact ⟨j + 1, by omega, by go_num, by first | (rw [cnt_yes hy.out (beq_flip (by assumption))]; go_num) | (rw [cnt_no hy.out (beq_flip (by assumption))]), _, rfl⟩
                case measure => simp [intOf]; omega
            · have HC : Hid (cnt (near.take j) x = cnt near x) := by unfold Hid; rw [List.take_of_length_le (by rw [HN1.out]; omega)]
              go_wp2
              go_roundw
              case rel => exact ⟨k + 1, by omega, by go_num, by rw [HS.out, expoStep_no HX.out, HC.out]; try simp, by rw [HS.out, expoStep_no HX.out, HC.out]; try simp, _, rfl⟩
              case measure => simp [intOf]; omega
      · go_wp2
        go_ret
        refine ⟨ret_int ?_, belowN b1 q⟩
        rw [HE.out, List.take_of_length_le (by rw [HL.out]; omega)]
  · have HE : Hid (expo rows zs row = 0) := by unfold Hid expo; rw [if_neg hp]
    have hp' : patOk rows zs = false := by simpa using hp
    clear hp
    go_enter Try.func104, Try.ntmps104
    go_wp2_with (go_at_call 93; refine (sPatternOk_c A n c zs rows _ h hn).mono ?_; rintro e w' ⟨rfl, rfl⟩)
    go_ret
    exact ⟨ret_int HE.out.symm, Below.refl _ _⟩

/-- The greatest exposure among the rows below k. -/
def worstTo (rows : Int) (zs : List Int) (k : Nat) : Int := (List.range k).foldl (fun (m : Int) (r : Nat) => max m (expo rows zs (r : Int))) 0
def worst (rows : Int) (zs : List Int) : Int := if patOk rows zs = true then worstTo rows zs rows.toNat else 0
theorem worstTo_succ (rows : Int) (zs : List Int) (k : Nat) : worstTo rows zs (k + 1) = if worstTo rows zs k < expo rows zs k then expo rows zs k else worstTo rows zs k := by
  unfold worstTo
  rw [List.range_succ, List.foldl_append]
  simp only [List.foldl_cons, List.foldl_nil]
  split <;> omega
theorem patOk_rows {rows : Int} {zs : List Int} (h : patOk rows zs = true) : 2 ≤ rows ∧ rows ≤ 16 := by
  unfold patOk at h
  simp only [Bool.and_eq_true] at h
  exact inB_t h.1

set_option maxHeartbeats 1000000 in
theorem iWorstExposure_c (rows : Int) (A : Option Addr) (n c : Nat) (zs : List Int) (w : World) (h : Ints w A n zs) (hn : n ≤ 1048576) :
    Calls Try.prog 48 #[.int .i64 rows, .slice A n c] w fun e w' => e = .returned (.int .i64 (worst rows zs)) ∧ Below w.heap.size w w' := by
  by_cases hp : patOk rows zs = true
  · have HE : Hid (worst rows zs = worstTo rows zs rows.toNat) := by unfold Hid worst; rw [if_pos hp]
    obtain ⟨hr1, hr2⟩ := patOk_rows hp
    obtain ⟨m, rfl⟩ := Int.eq_ofNat_of_zero_le (show 0 ≤ rows by omega)
    go_enter Try.func48, Try.ntmps48
    go_wp2
    go_loopw [5, 6] (fun a i wr => ∃ k : Nat, k ≤ m ∧ i = .int .i64 k ∧ a = .int .i64 (worstTo m zs k) ∧ Below w.heap.size w wr) (fun _ i _ => m - (intOf i).toNat)
    case atStart => exact ⟨0, Nat.zero_le _, rfl, rfl, Below.refl _ _⟩
    case round =>
      obtain ⟨k, hk, rfl, rfl, b⟩ := hrel
      have h1 := h.below b
      by_cases hlt : k < m
      · have HS := Lib.hid (worstTo_succ m zs k)
        have hlt' : (k : Int) < (m : Int) := by omega
        go_wp2_with fail
        refine (iPatternOk_c A n c zs m _ h1 hn).mono ?_
        rintro e w' ⟨rfl, rfl⟩
        go_wp2_with fail
        refine (iExposure_c m A n c zs k _ h1 hn).mono ?_
        rintro e w2 ⟨rfl, b2⟩
        have b3 : Below w.heap.size w w2 := b.trans (b2.mono b.size)
        go_wp2
        go_roundw
        case rel => exact ⟨k + 1, by omega, by go_num, by rw [HS.out], b3⟩
        case measure => simp [intOf]; omega
      · have hlt' : decide ((k : Int) < (m : Int)) = false := by simp; omega
        go_wp2
        go_ret
        refine ⟨ret_int ?_, b⟩
        rw [HE.out, Int.toNat_natCast, show k = m by omega]
  · have HE : Hid (worst rows zs = 0) := by unfold Hid worst; rw [if_neg hp]
    have hp' : patOk rows zs = false := by simpa using hp
    clear hp
    by_cases hr : 0 < rows
    · have HW := Lib.hid hr
      go_enter Try.func48, Try.ntmps48
      go_wp2
      refine wp_loop_rounds 1 ?_
      rw [rounds_succ]
      go_wp2_with (go_at_call 97; refine (iPatternOk_c A n c zs rows _ h hn).mono ?_; rintro e w' ⟨rfl, rfl⟩)
      go_ret
      exact ⟨ret_int HE.out.symm, Below.refl _ _⟩
    · have hr' : decide (0 < rows) = false := by simpa using hr
      go_enter Try.func48, Try.ntmps48
      go_wp2
      refine wp_loop_rounds 1 ?_
      rw [rounds_succ]
      go_wp2
      go_ret
      exact ⟨ret_int HE.out.symm, Below.refl _ _⟩

set_option maxHeartbeats 1000000 in
theorem sWorstExposure_c (rows : Int) (A : Option Addr) (n c : Nat) (zs : List Int) (w : World) (h : Ints w A n zs) (hn : n ≤ 1048576) :
    Calls Try.prog 49 #[.int .i64 rows, .slice A n c] w fun e w' => e = .returned (.int .i64 (worst rows zs)) ∧ Below w.heap.size w w' := by
  by_cases hp : patOk rows zs = true
  · have HE : Hid (worst rows zs = worstTo rows zs rows.toNat) := by unfold Hid worst; rw [if_pos hp]
    obtain ⟨hr1, hr2⟩ := patOk_rows hp
    obtain ⟨m, rfl⟩ := Int.eq_ofNat_of_zero_le (show 0 ≤ rows by omega)
    go_enter Try.func49, Try.ntmps49
    go_wp2
    go_loopw [5, 6] (fun a i wr => ∃ k : Nat, k ≤ m ∧ i = .int .i64 k ∧ a = .int .i64 (worstTo m zs k) ∧ Below w.heap.size w wr) (fun _ i _ => m - (intOf i).toNat)
    case atStart => exact ⟨0, Nat.zero_le _, rfl, rfl, Below.refl _ _⟩
    case round =>
      obtain ⟨k, hk, rfl, rfl, b⟩ := hrel
      have h1 := h.below b
      by_cases hlt : k < m
      · have HS := Lib.hid (worstTo_succ m zs k)
        have hlt' : (k : Int) < (m : Int) := by omega
        go_wp2_with fail
        refine (sPatternOk_c A n c zs m _ h1 hn).mono ?_
        rintro e w' ⟨rfl, rfl⟩
        go_wp2_with fail
        refine (sExposure_c m A n c zs k _ h1 hn).mono ?_
        rintro e w2 ⟨rfl, b2⟩
        have b3 : Below w.heap.size w w2 := b.trans (b2.mono b.size)
        go_wp2
        go_roundw
        case rel => exact ⟨k + 1, by omega, by go_num, by rw [HS.out], b3⟩
        case measure => simp [intOf]; omega
      · have hlt' : decide ((k : Int) < (m : Int)) = false := by simp; omega
        go_wp2
        go_ret
        refine ⟨ret_int ?_, b⟩
        rw [HE.out, Int.toNat_natCast, show k = m by omega]
  · have HE : Hid (worst rows zs = 0) := by unfold Hid worst; rw [if_neg hp]
    have hp' : patOk rows zs = false := by simpa using hp
    clear hp
    by_cases hr : 0 < rows
    · have HW := Lib.hid hr
      go_enter Try.func49, Try.ntmps49
      go_wp2
      refine wp_loop_rounds 1 ?_
      rw [rounds_succ]
      go_wp2_with (go_at_call 93; refine (sPatternOk_c A n c zs rows _ h hn).mono ?_; rintro e w' ⟨rfl, rfl⟩)
      go_ret
      exact ⟨ret_int HE.out.symm, Below.refl _ _⟩
    · have hr' : decide (0 < rows) = false := by simpa using hr
      go_enter Try.func49, Try.ntmps49
      go_wp2
      refine wp_loop_rounds 1 ?_
      rw [rounds_succ]
      go_wp2
      go_ret
      exact ⟨ret_int HE.out.symm, Below.refl _ _⟩
end Go.Proofs.Ytbapamfomfbmmaa
