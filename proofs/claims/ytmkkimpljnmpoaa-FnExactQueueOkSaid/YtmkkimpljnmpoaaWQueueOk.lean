/-
  The walk of FnExactQueueOk.
-/
import Derived.Test.YtmkkimpljnmpoaaReqD
import Derived.Test.YtmkkimpljnmpoaaOpen
namespace Go.Proofs.Ytmkkimpljnmpoaa
open Go.RowKit
set_option linter.unusedSimpArgs false
set_option linter.unusedVariables false

set_option maxHeartbeats 8000000 in
theorem fnExactQueueOk_walk (lines : Int) (A : Option Addr) (n c : Nat) (rs : List Req) (w : World) (ilines : I64 lines) (hA : Reqs w A n rs) (hn : n ≤ maxLen) :
    Calls Try.prog 7 #[.int .i64 lines, .slice A n c] w fun e w' => e = .returned (.bool true) ∧ Below w.heap.size w w' := by
  clear ilines
  by_cases hz0 : (1048576) < (n : Int)
  · skip
    have bel : Below w.heap.size w w := Below.refl _ _
    go_enter Try.func7, Try.ntmps7
    go_wp2_with fail
    refine (szRequestS_n A n c (1048576) _ (by omega) (by omega) hn (by omega)).mono ?_
    rintro e w1 ⟨rfl, hbb⟩
    have szw1 := hbb.size
    replace bel := bel.trans (hbb.mono bel.size)
    clear hbb
    go_wp2
    go_ret
    exact ⟨rfl, bel⟩
  · skip
    have t0 : decide ((1048576 - (n : Int)) < 0) = false := by simp; omega
    have hs0 : ((queueOk lines rs) != (queueOk lines rs)) = false := by simp
    have bel : Below w.heap.size w w := Below.refl _ _
    go_enter Try.func7, Try.ntmps7
    go_wp2_with fail
    refine (szRequestS_y A n c (1048576) _ (by omega) (by omega)).mono ?_
    rintro e w2 ⟨rfl, hbb⟩
    have szw2 := hbb.size
    replace bel := bel.trans (hbb.mono bel.size)
    clear hbb
    go_wp2_with fail
    refine (toRequestS_h A n c rs _ (hA.below bel) (by omega)).mono ?_
    rintro e w3 ⟨A1, n1, c1, rfl, oaRequestS, hbb⟩
    have n1l : n1 ≤ 1048576 := by have := oaRequestS.len; have := hA.len; omega
    have n1c : n1 ≤ c1 ∧ c1 ≤ maxLen := OwnV.cap oaRequestS.1
    have szw3 := hbb.size
    replace bel := bel.trans (hbb.mono bel.size)
    clear hbb
    go_wp2_with fail
    refine (sQueueOk_c lines A1 n1 c1 rs _ oaRequestS.recs n1l n1c).mono ?_
    rintro e w4 ⟨rfl, hbb⟩
    have szw4 := hbb.size
    replace bel := bel.trans (hbb.mono bel.size)
    replace oaRequestS := oaRequestS.below hbb
    clear hbb
    clear oaRequestS
    go_wp2_with fail
    refine (toRequestS_h A n c rs _ (hA.below bel) (by omega)).mono ?_
    rintro e w5 ⟨A3, n3, c3, rfl, oxRequestS, hbb⟩
    have n3l : n3 ≤ 1048576 := by have := oxRequestS.len; have := hA.len; omega
    have n3c : n3 ≤ c3 ∧ c3 ≤ maxLen := OwnV.cap oxRequestS.1
    have szw5 := hbb.size
    replace bel := bel.trans (hbb.mono bel.size)
    clear hbb
    go_wp2_with fail
    refine (iQueueOk_c lines A3 n3 c3 rs _ oxRequestS.recs n3l n3c).mono ?_
    rintro e w6 ⟨rfl, hbb⟩
    have szw6 := hbb.size
    replace bel := bel.trans (hbb.mono bel.size)
    replace oxRequestS := oxRequestS.below hbb
    clear hbb
    go_wp2_with fail
    refine (toRequestS_h A n c rs _ (hA.below bel) (by omega)).mono ?_
    rintro e w7 ⟨A7, n7, c7, rfl, oeRequestS, hbb⟩
    have n7l : n7 ≤ 1048576 := by have := oeRequestS.len; have := hA.len; omega
    have n7c : n7 ≤ c7 ∧ c7 ≤ maxLen := OwnV.cap oeRequestS.1
    have szw7 := hbb.size
    replace bel := bel.trans (hbb.mono bel.size)
    replace oxRequestS := oxRequestS.below hbb
    clear hbb
    go_wp2_with fail
    refine (eqRequestS_h A3 n3 c3 A7 n7 c7 rs _ oxRequestS.recs oeRequestS.recs n3l).mono ?_
    rintro e w8 ⟨rfl, hbb⟩
    have szw8 := hbb.size
    replace bel := bel.trans (hbb.mono bel.size)
    replace oxRequestS := oxRequestS.below hbb
    replace oeRequestS := oeRequestS.below hbb
    clear hbb
    clear oeRequestS
    go_wp2
    go_ret
    exact ⟨rfl, bel⟩
end Go.Proofs.Ytmkkimpljnmpoaa
