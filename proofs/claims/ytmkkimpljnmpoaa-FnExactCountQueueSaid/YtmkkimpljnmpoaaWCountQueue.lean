/-
  The walk of FnExactCountQueue.
-/
import Derived.Test.YtmkkimpljnmpoaaReqA
import Derived.Test.YtmkkimpljnmpoaaOpen
namespace Go.Proofs.Ytmkkimpljnmpoaa
open Go.RowKit
set_option linter.unusedSimpArgs false
set_option linter.unusedVariables false

set_option maxHeartbeats 8000000 in
theorem fnExactCountQueue_walk (A : Option Addr) (n c : Nat) (rs : List Req) (b : Bool) (w : World) (hA : Reqs w A n rs) (hn : n ≤ maxLen)  :
    Calls Try.prog 5 #[.slice A n c, .bool b] w fun e w' => e = .returned (.bool true) ∧ Below w.heap.size w w' := by
  by_cases hz0 : (1048576) < (n : Int)
  · skip
    have bel : Below w.heap.size w w := Below.refl _ _
    go_enter Try.func5, Try.ntmps5
    go_wp2_with fail
    refine (szRequestS_n A n c (1048576) _ (by omega) (by omega) hn (by omega)).mono ?_
    rintro e w1 ⟨rfl, hbb⟩
    have szw1 := hbb.size
    replace bel := bel.trans (hbb.mono bel.size)
    clear hbb
    go_wp2
    go_ret
    exact ⟨rfl, bel⟩
  · skip
    have t0 : decide ((1048576 - (n : Int)) < 0) = false := by simp; omega
    have hs0 : ((cntW rs b) != (cntW rs b)) = false := by simp
    have bel : Below w.heap.size w w := Below.refl _ _
    go_enter Try.func5, Try.ntmps5
    go_wp2_with fail
    refine (szRequestS_y A n c (1048576) _ (by omega) (by omega)).mono ?_
    rintro e w2 ⟨rfl, hbb⟩
    have szw2 := hbb.size
    replace bel := bel.trans (hbb.mono bel.size)
    clear hbb
    go_wp2_with fail
    refine (toRequestS_h A n c rs _ (hA.below bel) (by omega)).mono ?_
    rintro e w3 ⟨A1, n1, c1, rfl, oaRequestS, hbb⟩
    have n1l : n1 ≤ 1048576 := by have := oaRequestS.len; have := hA.len; omega
    have szw3 := hbb.size
    replace bel := bel.trans (hbb.mono bel.size)
    clear hbb
    go_wp2_with fail
    refine (sCountQueue_c A1 n1 c1 rs b _ oaRequestS.recs n1l).mono ?_
    rintro e w4 ⟨rfl, hbb⟩
    have szw4 := hbb.size
    replace bel := bel.trans (hbb.mono bel.size)
    replace oaRequestS := oaRequestS.below hbb
    clear hbb
    clear oaRequestS
    go_wp2_with fail
    refine (toRequestS_h A n c rs _ (hA.below bel) (by omega)).mono ?_
    rintro e w5 ⟨A3, n3, c3, rfl, oxRequestS, hbb⟩
    have n3l : n3 ≤ 1048576 := by have := oxRequestS.len; have := hA.len; omega
    have szw5 := hbb.size
    replace bel := bel.trans (hbb.mono bel.size)
    clear hbb
    go_wp2_with fail
    refine (iCountQueue_c A3 n3 c3 rs b _ oxRequestS.recs n3l).mono ?_
    rintro e w6 ⟨rfl, hbb⟩
    have szw6 := hbb.size
    replace bel := bel.trans (hbb.mono bel.size)
    replace oxRequestS := oxRequestS.below hbb
    clear hbb
    go_wp2_with fail
    refine (toRequestS_h A n c rs _ (hA.below bel) (by omega)).mono ?_
    rintro e w7 ⟨A7, n7, c7, rfl, oeRequestS, hbb⟩
    have n7l : n7 ≤ 1048576 := by have := oeRequestS.len; have := hA.len; omega
    have szw7 := hbb.size
    replace bel := bel.trans (hbb.mono bel.size)
    replace oxRequestS := oxRequestS.below hbb
    clear hbb
    go_wp2_with fail
    refine (eqRequestS_h A3 n3 c3 A7 n7 c7 rs _ oxRequestS.recs oeRequestS.recs n3l).mono ?_
    rintro e w8 ⟨rfl, hbb⟩
    have szw8 := hbb.size
    replace bel := bel.trans (hbb.mono bel.size)
    replace oxRequestS := oxRequestS.below hbb
    replace oeRequestS := oeRequestS.below hbb
    clear hbb
    clear oeRequestS
    go_wp2
    go_ret
    exact ⟨rfl, bel⟩
end Go.Proofs.Ytmkkimpljnmpoaa
