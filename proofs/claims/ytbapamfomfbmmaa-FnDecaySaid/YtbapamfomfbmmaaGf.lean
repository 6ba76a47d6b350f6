/-
  The field of 16 elements: products and powers in the reference.
-/
import Derived.Test.YtbapamfomfbmmaaSenA
namespace Go.Proofs.Ytbapamfomfbmmaa
open Go.RowKit
set_option linter.unusedSimpArgs false
set_option linter.unusedVariables false

/-- The product before it is reduced, of the lowest k bits of b. -/
def gfAcc (a b : Int) : Nat → Int
  | 0 => 0
  | k + 1 => if (bits .and .i64 (b / 2 ^ k) 1 == 1) = true then bits .xor .i64 (gfAcc a b k) (wrap64 (a * 2 ^ k)) else gfAcc a b k
/-- Reduced by k places, from the sixth on. -/
def gfRed (x : Int) : Nat → Int
  | 0 => x
  | k + 1 => if (bits .and .i64 (gfRed x k / 2 ^ (6 - k)) 1 == 1) = true then bits .xor .i64 (gfRed x k) (wrap64 (19 * 2 ^ (6 - k - 4))) else gfRed x k
def gf (a b : Int) : Int := gfRed (gfAcc a b 4) 3
set_option maxHeartbeats 4000000 in
theorem gfMul_c (a b : Int) (w : World) (ha : symF a = true) (hb : symF b = true) : Calls Try.prog 165 #[.int .i64 a, .int .i64 b] w fun e w' => e = .returned (.int .i64 (gf a b)) ∧ w = w' := by
  obtain ⟨a0, a1⟩ := inB_t ha
  obtain ⟨b0, b1⟩ := inB_t hb
  go_enter Try.func165, Try.ntmps165
  go_wp2_with fail
  refine (l11Is_c a _).mono ?_
  rintro e w' ⟨rfl, rfl⟩
  rw [ha]
  go_wp2_with fail
  refine (l11Is_c b _).mono ?_
  rintro e w' ⟨rfl, rfl⟩
  rw [hb]
  go_wp2_with fail
  go_loopw [5, 6] (fun o i wr => ∃ k : Nat, k ≤ 4 ∧ i = .int .i64 k ∧ (∃ x, o = .int .i64 x ∧ Hid (gfAcc a b k = x)) ∧ wr = w) (fun _ i _ => 4 - (intOf i).toNat)
  case atStart => exact ⟨0, Nat.zero_le _, rfl, ⟨0, rfl, rfl⟩, rfl⟩
  case round =>
    obtain ⟨k, hk, rfl, ⟨x, rfl, HX⟩, rfl⟩ := hrel
    by_cases hlt : k < 4
    · cases hbit : (bits .and .i64 (b / 2 ^ k) 1 == 1)
      · have HN : Hid (gfAcc a b (k + 1) = x) := by unfold Hid; rw [gfAcc, hbit, HX.out]; rfl
        go_wp2
        go_roundw
        case rel => exact ⟨k + 1, by omega, by go_num, ⟨x, rfl, HN⟩, trivial⟩
        case measure => simp [intOf]; omega
      · have HN : Hid (gfAcc a b (k + 1) = bits .xor .i64 x (wrap64 (a * 2 ^ k))) := by unfold Hid; rw [gfAcc, hbit, HX.out]; rfl
        go_wp2
        go_roundw
        case rel => exact ⟨k + 1, by omega, by go_num, ⟨_, rfl, HN⟩, trivial⟩
        case measure => simp [intOf]; omega
    · obtain rfl : k = 4 := by omega
      go_wp2_with fail
      go_loopw [5, 7] (fun o i wx => ∃ k : Nat, k ≤ 3 ∧ i = .int .i64 (6 - (k : Int)) ∧ (∃ y, o = .int .i64 y ∧ Hid (gfRed x k = y)) ∧ wx = wr) (fun _ i _ => (intOf i).toNat)
      case atStart => exact ⟨0, Nat.zero_le _, rfl, ⟨x, rfl, rfl⟩, rfl⟩
      case round =>
        obtain ⟨k, hk, rfl, ⟨y, rfl, HY⟩, rfl⟩ := hrel
        by_cases hlt : k < 3
        · have e6 : ((6 : Int) - (k : Int)) = ((6 - k : Nat) : Int) := by omega
          have e2 : ((6 : Int) - (k : Int)) - 4 = ((2 - k : Nat) : Int) := by omega
          cases hbit : (bits .and .i64 (y / 2 ^ (6 - k)) 1 == 1)
          · have HN : Hid (gfRed x (k + 1) = y) := by unfold Hid; rw [gfRed, HY.out, hbit]; rfl
            go_wp2
            go_roundw
            case rel => exact ⟨k + 1, by omega, by go_num, ⟨_, rfl, HN⟩, trivial⟩
            case measure => simp [intOf]; omega
          · have HN : Hid (gfRed x (k + 1) = bits .xor .i64 y (wrap64 (19 * 2 ^ (6 - k - 4)))) := by unfold Hid; rw [gfRed, HY.out, hbit]; rfl
            go_wp2
            go_roundw
            case rel => exact ⟨k + 1, by omega, by go_num, ⟨_, rfl, HN⟩, trivial⟩
            case measure => simp [intOf]; omega
        · obtain rfl : k = 3 := by omega
          have HG : Hid (gf a b = y) := by unfold Hid gf; rw [HX.out, HY.out]
          go_wp2
          go_ret
          exact ⟨ret_int HG.out.symm, rfl⟩
theorem gf_ok {a b : Int} (ha : symF a = true) (hb : symF b = true) : symF (gf a b) = true := by
  obtain ⟨a0, a1⟩ := inB_t ha
  obtain ⟨b0, b1⟩ := inB_t hb
  obtain ⟨x, rfl⟩ := Int.eq_ofNat_of_zero_le a0
  obtain ⟨y, rfl⟩ := Int.eq_ofNat_of_zero_le b0
  have key : ∀ x : Fin 16, ∀ y : Fin 16, symF (gf (x.1 : Int) (y.1 : Int)) = true := by decide +kernel
  exact key ⟨x, by omega⟩ ⟨y, by omega⟩
theorem xor_ok {a b : Int} (ha : symF a = true) (hb : symF b = true) : symF (bits .xor .i64 a b) = true := by
  obtain ⟨a0, a1⟩ := inB_t ha
  obtain ⟨b0, b1⟩ := inB_t hb
  obtain ⟨x, rfl⟩ := Int.eq_ofNat_of_zero_le a0
  obtain ⟨y, rfl⟩ := Int.eq_ofNat_of_zero_le b0
  have key : ∀ x : Fin 16, ∀ y : Fin 16, symF (bits .xor .i64 (x.1 : Int) (y.1 : Int)) = true := by decide +kernel
  exact key ⟨x, by omega⟩ ⟨y, by omega⟩
/-- The n-th power of a. -/
def gfP (a : Int) : Nat → Int
  | 0 => 1
  | n + 1 => gf (gfP a n) a
theorem gfP_ok {a : Int} (ha : symF a = true) (n : Nat) : symF (gfP a n) = true := by
  induction n with
  | zero => rfl
  | succ n ih => exact gf_ok ih ha
set_option maxHeartbeats 4000000 in
theorem gfPow_c (a : Int) (n : Nat) (w : World) (ha : symF a = true) (hn : n ≤ 1000) : Calls Try.prog 164 #[.int .i64 a, .int .i64 (n : Int)] w fun e w' => e = .returned (.int .i64 (gfP a n)) ∧ w = w' := by
  obtain ⟨a0, a1⟩ := inB_t ha
  have hin : inB (n : Int) 0 1000 = true := inB_mk (by omega) (by omega)
  go_enter Try.func164, Try.ntmps164
  go_wp2_with fail
  refine (l11Is_c a _).mono ?_
  rintro e w' ⟨rfl, rfl⟩
  rw [ha]
  go_wp2_with fail
  refine (in_c (n : Int) 0 1000 _).mono ?_
  rintro e w' ⟨rfl, rfl⟩
  rw [hin]
  go_wp2_with fail
  go_loopw [5, 6] (fun o i wr => ∃ k : Nat, k ≤ n ∧ i = .int .i64 k ∧ (∃ x, o = .int .i64 x ∧ Hid (gfP a k = x)) ∧ wr = w) (fun _ i _ => n - (intOf i).toNat)
  case atStart => exact ⟨0, Nat.zero_le _, rfl, ⟨1, rfl, rfl⟩, rfl⟩
  case round =>
    obtain ⟨k, hk, rfl, ⟨x, rfl, HX⟩, rfl⟩ := hrel
    have hx : symF x = true := by rw [← HX.out]; exact gfP_ok ha k
    by_cases hlt : k < n
    · have HN : Hid (gfP a (k + 1) = gf x a) := by unfold Hid; rw [gfP, HX.out]
      go_wp2_with fail
      refine (gfMul_c x a _ hx ha).mono ?_
      rintro e w' ⟨rfl, rfl⟩
      go_wp2
      go_roundw
      case rel => exact ⟨k + 1, by omega, by go_num, ⟨_, rfl, HN⟩, trivial⟩
      case measure => simp [intOf]; omega
    · obtain rfl : n = k := by omega
      go_wp2
      go_ret
      exact ⟨ret_int HX.out.symm, rfl⟩
end Go.Proofs.Ytbapamfomfbmmaa
