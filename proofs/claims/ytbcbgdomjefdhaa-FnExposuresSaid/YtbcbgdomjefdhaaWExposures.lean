/-
  The walk of FnExposures.
-/
import Derived.Test.YtbcbgdomjefdhaaPatD
import Derived.Test.YtbcbgdomjefdhaaPlc
import Derived.Test.YtbcbgdomjefdhaaExM
namespace Go.Proofs.Ytbcbgdomjefdhaa
open Go.RowKit
set_option linter.unusedSimpArgs false
set_option linter.unusedVariables false

set_option maxRecDepth 100000 in
set_option maxHeartbeats 8000000 in
theorem fnExposures_walk (A : Option Addr) (n c : Nat) (zs : List Int) (w : World) (hA : Bytes w A n zs) (hn : n ≤ maxLen) :
    Calls Try.prog 12 #[.slice A n c] w fun e w' => e = .returned (.bool true) ∧ Below w.heap.size w w' := by
  by_cases hb : 1048576 < n
  · have hd : decide (1048576 < n) = true := by simpa using hb
    go_enter Try.func12, Try.ntmps12
    go_wp2_with (go_at_call 15; refine (big_c A n c _ hn).mono ?_; rintro e w' ⟨rfl, rfl⟩)
    go_ret
    exact ⟨rfl, Below.refl _ _⟩
  · have hd : decide (1048576 < n) = false := by simpa using hb
    have bel : Below w.heap.size w w := Below.refl _ _
    go_enter Try.func12, Try.ntmps12
    go_wp2_with (first | (go_at_call 15; refine (big_c A n c _ hn).mono ?_; rintro e w' ⟨rfl, rfl⟩) | fail)
    refine (drawPattern_c A n c zs _ hA hn).mono ?_
    rintro e w1 ⟨R, A1, n1, c1, ps, hR1, hR2, rfl, o1, hp1, b1⟩
    have szw1 := b1.size
    replace bel := bel.trans (b1.mono bel.size)
    clear b1
    have HP1 := Lib.hid hp1
    have hn60 : n1 ≤ 60 := by have := o1.len; have := hp1.1; omega
    clear hp1
    go_wp2_with fail
    refine (drawPlaces_c A n c zs _ (hA.below bel) hn).mono ?_
    rintro e w3 ⟨p, hp, A2, n2, c2, rfl, o2, b3⟩
    have szw3 := b3.size
    replace bel := bel.trans (b3.mono bel.size)
    replace o1 := o1.below b3
    clear b3
    have hn12 : n2 = 12 := by rw [← o2.len]; exact hp.1
    subst hn12
    obtain ⟨z0, hz0, z0a, z0b⟩ := hp.at_ (show 0 < 12 by omega)
    obtain ⟨z1, hz1, z1a, z1b⟩ := hp.at_ (show 1 < 12 by omega)
    obtain ⟨gp, x0, eg, -, -, -, gp1, gp2⟩ := o2.at_ (show 0 < 12 by omega)
    subst eg
    have cp0 := place_cell o2 (show 0 < 12 by omega) hz0
    have cp1 := place_cell o2 (show 1 < 12 by omega) hz1
    clear hp hz0 hz1
    obtain ⟨r, hr, er1, er2⟩ := rem_nat z0a (show 0 < R by omega)
    have R0 : (R : Int) ≠ 0 := by omega
    have R00 : R ≠ 0 := by omega
    have L0 : ((n1 : Int) + 1) ≠ 0 := by omega
    obtain ⟨k, hk, ek1, ek2⟩ := rem_nat z1a (show 0 < n1 + 1 by omega)
    rw [show ((n1 + 1 : Nat) : Int) = (n1 : Int) + 1 by omega] at ek1 ek2
    have HX := Lib.hid (exposed (rows := (R : Int)) (zs := ps) (r := (r : Int)) k (by omega) (by omega) (by have := HP1.out.1; omega) HP1.out.2 (by omega) (by omega))
    go_wp2_with fail
    refine (iNeighbors_c (R : Int) (r : Int) _).mono ?_
    rintro e w5 ⟨A5, n5, c5, rfl, o5, b5⟩
    have h51 : n5 ≤ 2 := by have := o5.len; have := HX.out.two; omega
    have h52 : 1 ≤ n5 := by have := o5.len; have := HX.out.one; omega
    have szw5 := b5.size
    replace bel := bel.trans (b5.mono bel.size)
    replace o1 := o1.below b5
    replace o2 := o2.below b5
    clear b5
    go_wp2_with fail
    go_loop [9, 10] (fun v i => ∃ (j : Nat), j ≤ n5 ∧ i = .int .i64 j ∧ v = .int .i64 (sumTo (nears (R : Int) (r : Int)) ps j)) (fun _ i => n5 - (intOf i).toNat)
    case atStart => exact ⟨0, Nat.zero_le _, rfl, rfl⟩
    case round =>
      obtain ⟨j, hj, rfl, rfl⟩ := hrel
      have s1 := sumTo_bd (nears (R : Int) (r : Int)) ps j
      have s2 := sumTo_le (near := nears (R : Int) (r : Int)) (zs := ps) j HX.out.two (by have := HP1.out.1; omega)
      by_cases hlt : j < n5
      · obtain ⟨g1, o1', y, rfl, hy, hyx⟩ := o5.ints.at_ hlt
        have HS := Lib.hid (sumTo_succ ps hyx.out)
        have s3 := sumTo_le (near := nears (R : Int) (r : Int)) (zs := ps) (j + 1) HX.out.two (by have := HP1.out.1; omega)
        have s4 := (cnt_le ps y).1
        have s5 : cnt ps y ≤ 60 := by have := (cnt_le ps y).2; have := o1.len; omega
        have i0 : (0 : Int) ≤ (j : Int) := by omega
        have i1 : (j : Int) < (n5 : Int) := by omega
        clear hyx s3
        generalize sumTo (nears (R : Int) (r : Int)) ps j = sj at s1 s2 HS ⊢
        go_wp2_with (go_at_call 62; refine (iCountRow_c A1 n1 c1 ps y _ (by exact o1.ints) (by omega)).mono ?_; rintro e w' ⟨rfl, rfl⟩)
        go_round
        case rel => exact ⟨j + 1, by omega, by go_num, by rw [HS.out]⟩
        case measure => simp [intOf]; omega
      · obtain rfl : n5 = j := by omega
        rw [sumTo_all ps (show (nears (R : Int) (r : Int)).length ≤ n5 by have := o5.len; omega)]
        have t1 : decide (expo (R : Int) ps (r : Int) ≤ sumC (nears (R : Int) (r : Int)) ps) = true := by simpa using HX.out.sum
        have t2 : decide (expo (R : Int) (ps.take k) (r : Int) ≤ expo (R : Int) ps (r : Int)) = true := by simpa using HX.out.less
        have t3 : decide (expo (R : Int) ps (r : Int) ≤ worst (R : Int) ps) = true := by simpa using HX.out.most
        have t4 : decide ((n5 : Int) ≤ 2) = true := by simp; omega
        have t5 : decide (1 ≤ (n5 : Int)) = true := by simp; omega
        have cap1 := o1.1.cap
        have k0 : (0 : Int) ≤ (k : Int) := by omega
        have k1 : (k : Int) ≤ (c1 : Int) := by omega
        generalize sumC (nears (R : Int) (r : Int)) ps = sC at t1 ⊢
        go_wp2_with fail
        refine (iExposure_c (R : Int) A1 n1 c1 ps (r : Int) _ (by exact o1.ints) (by omega)).mono ?_
        rintro e w7 ⟨rfl, b7⟩
        have szw7 := b7.size
        replace bel := bel.trans (b7.mono bel.size)
        replace o1 := o1.below b7
        replace o2 := o2.below b7
        clear b7
        have HE := Lib.hid (And.intro t1 (And.intro t2 t3))
        go_wp2_with fail
        refine (iPatternOk_c A1 n1 c1 ps (R : Int) _ (by exact o1.ints) (by omega)).mono ?_
        rintro e w8 ⟨rfl, rfl⟩
        rw [HX.out.ok]
        go_wp2_with fail
        refine (iExposure_c (R : Int) A1 k c1 (ps.take k) (r : Int) _ (by exact o1.ints.take (by omega)) (by omega)).mono ?_
        rintro e w9 ⟨rfl, b9⟩
        have szw9 := b9.size
        replace bel := bel.trans (b9.mono bel.size)
        replace o1 := o1.below b9
        replace o2 := o2.below b9
        clear b9
        go_wp2_with fail
        refine (iWorstExposure_c (R : Int) A1 n1 c1 ps _ (by exact o1.ints) (by omega)).mono ?_
        rintro e w10 ⟨rfl, b10⟩
        have szw10 := b10.size
        replace bel := bel.trans (b10.mono bel.size)
        replace o1 := o1.below b10
        replace o2 := o2.below b10
        clear b10
        go_wp2
        go_ret
        exact ⟨rfl, bel⟩
end Go.Proofs.Ytbcbgdomjefdhaa
