/-
  The walk of FnGuarded.
-/
import Derived.Test.YtbapamfomfbmmaaGrB
import Derived.Test.YtbapamfomfbmmaaPatD
import Derived.Test.YtbapamfomfbmmaaExpo
import Derived.Test.YtbapamfomfbmmaaPlc
import Derived.Deep.DeepCutAuto
import Derived.Deep.RegionHeld3
namespace Go.Proofs.Ytbapamfomfbmmaa
open Go.RowKit
set_option linter.unusedSimpArgs false
set_option linter.unusedVariables false


set_option maxRecDepth 100000 in
set_option maxHeartbeats 8000000 in
theorem fnGuarded_walk (A : Option Addr) (n c : Nat) (zs : List Int) (w : World) (hA : Bytes w A n zs) (hn : n ≤ maxLen) :
    Calls Try.prog 8 #[.slice A n c] w fun e w' => e = .returned (.bool true) ∧ Below w.heap.size w w' := by
  by_cases hb : 1048576 < n
  · have hd : decide (1048576 < n) = true := by simpa using hb
    go_enter Try.func8, Try.ntmps8
    go_wp2_with (go_at_call 14; refine (big_c A n c _ hn).mono ?_; rintro e w' ⟨rfl, rfl⟩)
    go_ret
    exact ⟨rfl, Below.refl _ _⟩
  · have hd : decide (1048576 < n) = false := by simpa using hb
    have bel : Below w.heap.size w w := Below.refl _ _
    go_enter Try.func8, Try.ntmps8
    go_wp2_with (first | (go_at_call 14; refine (big_c A n c _ hn).mono ?_; rintro e w' ⟨rfl, rfl⟩) | fail)
    refine (drawPattern_c A n c zs _ hA hn).mono ?_
    rintro e w1 ⟨R, A1, n1, c1, p, hR1, hR2, rfl, o1, hp, b1⟩
    have szw1 := b1.size
    replace bel := bel.trans (b1.mono bel.size)
    clear b1
    have hn1 : n1 ≤ 60 := by have := o1.len; have := hp.1; omega
    have hA1 := hA.below bel
    have HPI := Lib.hid hp
    clear hp hA
    go_wp2_with fail
    refine (drawPlaces_c A n c zs _ hA1 hn).mono ?_
    rintro e w2 ⟨pl, hpl, A2, n2, c2, rfl, o2, b2⟩
    replace o1 := o1.below b2
    have szw2 := b2.size
    replace bel := bel.trans (b2.mono bel.size)
    clear b2
    obtain ⟨gp, hgp, P⟩ := places_at hpl o2
    obtain ⟨rfl, rfl, gp1, gp2⟩ := hgp
    obtain ⟨p0, p1, p2, p3, hp0, hp1, hp2, hp3, ⟨p0a, p0b⟩, ⟨p1a, p1b⟩, -, -⟩ := P
    clear hpl hA1 o2 hp2 hp3
    go_wp2_with fail
    have m0 : 0 ≤ p0 % 4 ∧ p0 % 4 < 4 := ⟨Int.emod_nonneg _ (by omega), Int.emod_lt_of_pos _ (by omega)⟩
    have m1 : 0 ≤ p1 % 16 ∧ p1 % 16 < 16 := ⟨Int.emod_nonneg _ (by omega), Int.emod_lt_of_pos _ (by omega)⟩
    generalize p0 % 4 = q0 at m0 ⊢
    generalize p1 % 16 = q1 at m1 ⊢
    obtain ⟨LM, hLM⟩ : ∃ l : Int, l = 3 + q0 := ⟨_, rfl⟩
    obtain ⟨KK, hKK⟩ : ∃ l : Int, l = 1 + q1 := ⟨_, rfl⟩
    have hL : 3 ≤ LM ∧ LM ≤ 6 := by omega
    have hK : 1 ≤ KK ∧ KK ≤ 16 := by omega
    rw [← hLM, ← hKK]
    clear hLM hKK m0 m1 hp0 hp1
    obtain ⟨hL1, hL2⟩ := hL
    obtain ⟨hK1, hK2⟩ := hK
    refine (iGuardedRun_c (R : Int) KK LM A1 n1 c1 p _ o1.ints (by omega)).mono ?_
    rintro e w3 ⟨A3, n3, c3, rfl, o3, b3⟩
    replace o1 := o1.below b3
    have szw3 := b3.size
    replace bel := bel.trans (b3.mono bel.size)
    clear b3
    have hn3 : n3 ≤ 1000 := by have := o3.len; have := gList_len (R : Int) KK LM p; omega
    cases hok : gOk (R : Int) KK LM p
    · have HO := Lib.hid hok
      clear hok
      go_wp2_with fail
      refine (sGuardedRun_c (R : Int) KK LM A1 n1 c1 p _ o1.ints (by omega)).mono ?_
      rintro e w4 ⟨A4, n4, c4, rfl, o4, b4⟩
      rw [HO.out]
      have szw4 := b4.size
      replace bel := bel.trans (b4.mono bel.size)
      clear b4
      go_wp2_with fail
      refine (iGuardBound_c 3 _).mono ?_
      rintro e w5 ⟨rfl, rfl⟩
      rw [guardB_in (by omega) (by omega)]
      go_wp2
      go_ret
      exact ⟨rfl, bel⟩
    · have HO := Lib.hid hok
      clear hok
      have HLn := Lib.hid o3.len
      obtain ⟨PR, hPR⟩ : ∃ x : Int, x = (KK + 1) * LM := ⟨_, rfl⟩
      have hPR1 : 0 ≤ PR ∧ PR ≤ 102 := by
        have h1 : 0 ≤ (KK + 1) * LM := Int.mul_nonneg (by omega) (by omega)
        have h2 : (KK + 1) * LM ≤ 17 * 6 := Int.mul_le_mul (by omega) (by omega) (by omega) (by omega)
        omega
      obtain ⟨hPR0, hPR2⟩ := hPR1
      have eP : IntKind.i64.wrap ((KK + 1) * LM) = PR := by rw [← hPR]; exact IntWalk.i64_in _ (by omega)
      have eP2 : (KK + 1) * LM = PR := hPR.symm
      have HPR := Lib.hid hPR
      clear hPR
      by_cases hlen : PR ≤ (n3 : Int)
      · have t0 : decide (PR ≤ (n3 : Int)) = true := by simpa using hlen
        go_wp2_with fail
        refine (iGuardBound_c LM _).mono ?_
        rintro e w5 ⟨rfl, rfl⟩
        rw [guardB_in hL1 (by omega)]
        go_wp2
        go_ret
        exact ⟨ret_bool (by simp), bel⟩
      · have t0 : decide (PR ≤ (n3 : Int)) = false := by simpa using hlen
        have HW := Lib.hid (guarded_worst HO.out (by rw [HLn.out, ← HPR.out]; omega))
        have HWv : Hid (0 ≤ worst (R : Int) (gList (R : Int) KK LM p)) := by
          unfold Hid worst worstTo
          split
          · generalize List.range _ = l
            have : ∀ (l : List Nat) (a : Int), 0 ≤ a → 0 ≤ l.foldl (fun (m : Int) (r : Nat) => max m (expo (R : Int) (gList (R : Int) KK LM p) (r : Int))) a := by
              intro l
              induction l with
              | nil => intro a ha; exact ha
              | cons x l ih => intro a ha; exact ih _ (by show 0 ≤ max _ _; omega)
            exact this l 0 (by omega)
          · omega
        go_wp2_with fail
        refine (iWorstExposure_c (R : Int) A3 n3 c3 _ _ o3.ints (by omega)).mono ?_
        rintro e w5 ⟨rfl, b5⟩
        replace o3 := o3.below b5
        have szw5 := b5.size
        replace bel := bel.trans (b5.mono bel.size)
        clear b5
        go_wp2_with fail
        refine (iGuardBound_c LM _).mono ?_
        rintro e w6 ⟨rfl, rfl⟩
        rw [guardB_in hL1 (by omega)]
        obtain ⟨h1, -, -, -⟩ := HW.out
        have h0 := HWv.out
        obtain ⟨WV, hWV⟩ : ∃ x : Int, x = worst (R : Int) (gList (R : Int) KK LM p) := ⟨_, rfl⟩
        rw [← hWV] at h1 h0 ⊢
        have HE := Lib.hid hWV
        have t1 : decide (WV ≤ 2 * LM + 2) = true := by simp; omega
        clear hWV
        go_wp2_with fail
        refine (sWorstExposure_c (R : Int) A3 n3 c3 _ _ o3.ints (by omega)).mono ?_
        rintro e w7 ⟨rfl, b7⟩
        rw [← HE.out]
        have szw7 := b7.size
        replace bel := bel.trans (b7.mono bel.size)
        clear b7
        go_wp2
        go_ret
        exact ⟨rfl, bel⟩
end Go.Proofs.Ytbapamfomfbmmaa
