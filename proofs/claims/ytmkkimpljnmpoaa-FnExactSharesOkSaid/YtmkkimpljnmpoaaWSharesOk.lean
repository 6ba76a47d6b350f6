/-
  The walk of FnExactSharesOk.
-/
import Derived.Test.YtmkkimpljnmpoaaShrA
import Derived.Test.YtmkkimpljnmpoaaOpen
namespace Go.Proofs.Ytmkkimpljnmpoaa
open Go.RowKit
set_option linter.unusedSimpArgs false
set_option linter.unusedVariables false

set_option maxHeartbeats 8000000 in
theorem fnExactSharesOk_walk (A : Option Addr) (n c : Nat) (rs : List Shr) (w : World) (hA : Shrs w A n rs) (hn : n ≤ maxLen) :
    Calls Try.prog 4 #[.slice A n c] w fun e w' => e = .returned (.bool true) ∧ Below w.heap.size w w' := by
  by_cases hz0 : (1048576) < (n : Int)
  · skip
    have bel : Below w.heap.size w w := Below.refl _ _
    go_enter Try.func4, Try.ntmps4
    go_wp2_with fail
    refine (szShareS_n A n c (1048576) _ (by omega) (by omega) hn (by omega)).mono ?_
    rintro e w1 ⟨rfl, hbb⟩
    have szw1 := hbb.size
    replace bel := bel.trans (hbb.mono bel.size)
    clear hbb
    go_wp2
    go_ret
    exact ⟨rfl, bel⟩
  · skip
    have t0 : decide ((1048576 - (n : Int)) < 0) = false := by simp; omega
    have hs0 : ((shrsOk rs) != (shrsOk rs)) = false := by simp
    have bel : Below w.heap.size w w := Below.refl _ _
    go_enter Try.func4, Try.ntmps4
    go_wp2_with fail
    refine (szShareS_y A n c (1048576) _ (by omega) (by omega)).mono ?_
    rintro e w2 ⟨rfl, hbb⟩
    have szw2 := hbb.size
    replace bel := bel.trans (hbb.mono bel.size)
    clear hbb
    go_wp2_with fail
    refine (toShareS_h A n c rs _ (hA.below bel) (by omega)).mono ?_
    rintro e w3 ⟨A1, n1, c1, rfl, oaShareS, hbb⟩
    have n1l : n1 ≤ 1048576 := by have := oaShareS.len; have := hA.len; omega
    have szw3 := hbb.size
    replace bel := bel.trans (hbb.mono bel.size)
    clear hbb
    go_wp2_with fail
    refine (sSharesOk_c A1 n1 c1 rs _ oaShareS.recs n1l).mono ?_
    rintro e w4 ⟨rfl, hbb⟩
    have szw4 := hbb.size
    replace bel := bel.trans (hbb.mono bel.size)
    replace oaShareS := oaShareS.below hbb
    clear hbb
    clear oaShareS
    go_wp2_with fail
    refine (toShareS_h A n c rs _ (hA.below bel) (by omega)).mono ?_
    rintro e w5 ⟨A3, n3, c3, rfl, oxShareS, hbb⟩
    have n3l : n3 ≤ 1048576 := by have := oxShareS.len; have := hA.len; omega
    have szw5 := hbb.size
    replace bel := bel.trans (hbb.mono bel.size)
    clear hbb
    go_wp2_with fail
    refine (iSharesOk_c A3 n3 c3 rs _ oxShareS.recs n3l).mono ?_
    rintro e w6 ⟨rfl, hbb⟩
    have szw6 := hbb.size
    replace bel := bel.trans (hbb.mono bel.size)
    replace oxShareS := oxShareS.below hbb
    clear hbb
    go_wp2_with fail
    refine (toShareS_h A n c rs _ (hA.below bel) (by omega)).mono ?_
    rintro e w7 ⟨A7, n7, c7, rfl, oeShareS, hbb⟩
    have n7l : n7 ≤ 1048576 := by have := oeShareS.len; have := hA.len; omega
    have szw7 := hbb.size
    replace bel := bel.trans (hbb.mono bel.size)
    replace oxShareS := oxShareS.below hbb
    clear hbb
    go_wp2_with fail
    refine (eqShareS_h A3 n3 c3 A7 n7 c7 rs _ oxShareS.recs oeShareS.recs n3l).mono ?_
    rintro e w8 ⟨rfl, hbb⟩
    have szw8 := hbb.size
    replace bel := bel.trans (hbb.mono bel.size)
    replace oxShareS := oxShareS.below hbb
    replace oeShareS := oeShareS.below hbb
    clear hbb
    clear oeShareS
    go_wp2
    go_ret
    exact ⟨rfl, bel⟩
end Go.Proofs.Ytmkkimpljnmpoaa
