/-
  The walk of FnExactQueueDrop.
-/
import Derived.Test.YtmkkimpljnmpoaaReqB
import Derived.Test.YtmkkimpljnmpoaaOpen
namespace Go.Proofs.Ytmkkimpljnmpoaa
open Go.RowKit
set_option linter.unusedSimpArgs false
set_option linter.unusedVariables false

set_option maxHeartbeats 8000000 in
theorem fnExactQueueDrop_walk (A : Option Addr) (n c : Nat) (rs : List Req) (x : Int) (w : World) (hA : Reqs w A n rs) (hn : n ≤ maxLen) (ix : I64 x) :
    Calls Try.prog 8 #[.slice A n c, .int .i64 x] w fun e w' => e = .returned (.bool true) ∧ Below w.heap.size w w' := by
  clear ix
  by_cases hz0 : (1048576) < (n : Int)
  · skip
    have bel : Below w.heap.size w w := Below.refl _ _
    go_enter Try.func8, Try.ntmps8
    go_wp2_with fail
    refine (szRequestS_n A n c (1048576) _ (by omega) (by omega) hn (by omega)).mono ?_
    rintro e w1 ⟨rfl, hbb⟩
    have szw1 := hbb.size
    replace bel := bel.trans (hbb.mono bel.size)
    clear hbb
    go_wp2
    go_ret
    exact ⟨rfl, bel⟩
  · skip
    have t0 : decide ((1048576 - (n : Int)) < 0) = false := by simp; omega
    have hs0 : ((dropOk rs x) != (dropOk rs x)) = false := by simp
    have bel : Below w.heap.size w w := Below.refl _ _
    go_enter Try.func8, Try.ntmps8
    go_wp2_with fail
    refine (szRequestS_y A n c (1048576) _ (by omega) (by omega)).mono ?_
    rintro e w2 ⟨rfl, hbb⟩
    have szw2 := hbb.size
    replace bel := bel.trans (hbb.mono bel.size)
    clear hbb
    go_wp2_with fail
    refine (toRequestS_h A n c rs _ (hA.below bel) (by omega)).mono ?_
    rintro e w3 ⟨A1, n1, c1, rfl, oaRequestS, hbb⟩
    have n1l : n1 ≤ 1048576 := by have := oaRequestS.len; have := hA.len; omega
    have n1c : n1 ≤ c1 ∧ c1 ≤ maxLen := OwnV.cap oaRequestS.1
    have szw3 := hbb.size
    replace bel := bel.trans (hbb.mono bel.size)
    clear hbb
    go_wp2_with fail
    refine (sQueueDrop_c A1 n1 c1 rs x _ oaRequestS.recs n1l n1c).mono ?_
    rintro e w4 ⟨A2, n2, c2, rfl, ow, hbb⟩
    have n2l : n2 ≤ 1048576 := by have := ow.len; have := dropQ_len rs x; have := hA.len; omega
    have szw4 := hbb.size
    replace bel := bel.trans (hbb.mono bel.size)
    replace oaRequestS := oaRequestS.below hbb
    clear hbb
    clear oaRequestS
    go_wp2_with fail
    refine (toRequestS_h A n c rs _ (hA.below bel) (by omega)).mono ?_
    rintro e w5 ⟨A3, n3, c3, rfl, oxRequestS, hbb⟩
    have n3l : n3 ≤ 1048576 := by have := oxRequestS.len; have := hA.len; omega
    have n3c : n3 ≤ c3 ∧ c3 ≤ maxLen := OwnV.cap oxRequestS.1
    have szw5 := hbb.size
    replace bel := bel.trans (hbb.mono bel.size)
    replace ow := ow.below hbb
    clear hbb
    go_wp2_with fail
    refine (iQueueDrop_c A3 n3 c3 rs x _ oxRequestS.recs n3l n3c).mono ?_
    rintro e w6 ⟨A4, n4, c4, rfl, og, hbb⟩
    have n4l : n4 ≤ 1048576 := by have := og.len; have := dropQ_len rs x; have := hA.len; omega
    have szw6 := hbb.size
    replace bel := bel.trans (hbb.mono bel.size)
    replace ow := ow.below hbb
    replace oxRequestS := oxRequestS.below hbb
    clear hbb
    go_wp2_with fail
    refine (eqRequestS_h A4 n4 c4 A2 n2 c2 (dropQ rs x) _ og.recs ow.recs n4l).mono ?_
    rintro e w7 ⟨rfl, hbb⟩
    have szw7 := hbb.size
    replace bel := bel.trans (hbb.mono bel.size)
    replace ow := ow.below hbb
    replace oxRequestS := oxRequestS.below hbb
    replace og := og.below hbb
    clear hbb
    go_wp2_with fail
    refine (toRequestS_h A n c rs _ (hA.below bel) (by omega)).mono ?_
    rintro e w8 ⟨A7, n7, c7, rfl, oeRequestS, hbb⟩
    have n7l : n7 ≤ 1048576 := by have := oeRequestS.len; have := hA.len; omega
    have n7c : n7 ≤ c7 ∧ c7 ≤ maxLen := OwnV.cap oeRequestS.1
    have szw8 := hbb.size
    replace bel := bel.trans (hbb.mono bel.size)
    replace ow := ow.below hbb
    replace oxRequestS := oxRequestS.below hbb
    replace og := og.below hbb
    clear hbb
    go_wp2_with fail
    refine (eqRequestS_h A3 n3 c3 A7 n7 c7 rs _ oxRequestS.recs oeRequestS.recs n3l).mono ?_
    rintro e w9 ⟨rfl, hbb⟩
    have szw9 := hbb.size
    replace bel := bel.trans (hbb.mono bel.size)
    replace ow := ow.below hbb
    replace oxRequestS := oxRequestS.below hbb
    replace og := og.below hbb
    replace oeRequestS := oeRequestS.below hbb
    clear hbb
    clear oeRequestS
    go_wp2_with fail
    refine (markRequestS_h A3 n3 c3 w4.heap.size w5.heap.size rs (1) _ oxRequestS n3l (by omega) (by omega)).mono ?_
    rintro e w10 ⟨rfl, oy, C⟩
    clear oxRequestS oy
    have szw10 := C.size
    replace bel := C.below bel (by omega)
    replace ow := ow.chg C (by omega)
    replace og := og.chg C (by omega)
    clear C
    have t9 : decide (1 + 6 * (n3 : Int) < 0) = false := by simp; omega
    go_wp2_with fail
    refine (eqRequestS_h A4 n4 c4 A2 n2 c2 (dropQ rs x) _ og.recs ow.recs n4l).mono ?_
    rintro e w11 ⟨rfl, hbb⟩
    have szw11 := hbb.size
    replace bel := bel.trans (hbb.mono bel.size)
    replace ow := ow.below hbb
    replace og := og.below hbb
    clear hbb
    go_wp2_with fail
    refine (markRequestS_h A4 n4 c4 w5.heap.size w6.heap.size (dropQ rs x) 1 _ og n4l (by omega) (by omega)).mono ?_
    rintro e w12 ⟨rfl, om, C⟩
    clear og
    have szw12 := C.size
    replace bel := C.below bel (by omega)
    replace ow := ow.chg C (by omega)
    clear C
    go_wp2_with fail
    refine (heldRequestS_h A4 n4 c4  1 _ om.recs n4l (by omega) (by omega)).mono ?_
    rintro e w13 ⟨rfl, hbb⟩
    have szw13 := hbb.size
    replace bel := bel.trans (hbb.mono bel.size)
    replace ow := ow.below hbb
    replace om := om.below hbb
    clear hbb
    have t7 : decide (1 + 6 * (n4 : Int) < 0) = false := by simp; omega
    have t8 : ((1 + 6 * (n4 : Int)) != (1 + 6 * (n4 : Int))) = false := by simp
    go_wp2_with fail
    refine (toRequestS_h A n c rs _ (hA.below bel) (by omega)).mono ?_
    rintro e w14 ⟨A5, n5, c5, rfl, ocRequestS, hbb⟩
    have n5l : n5 ≤ 1048576 := by have := ocRequestS.len; have := hA.len; omega
    have n5c : n5 ≤ c5 ∧ c5 ≤ maxLen := OwnV.cap ocRequestS.1
    have szw14 := hbb.size
    replace bel := bel.trans (hbb.mono bel.size)
    replace ow := ow.below hbb
    replace om := om.below hbb
    clear hbb
    go_wp2_with fail
    refine (iQueueDrop_c A5 n5 c5 rs x _ ocRequestS.recs n5l n5c).mono ?_
    rintro e w15 ⟨A6, n6, c6, rfl, oh, hbb⟩
    have n6l : n6 ≤ 1048576 := by have := oh.len; have := dropQ_len rs x; have := hA.len; omega
    have szw15 := hbb.size
    replace bel := bel.trans (hbb.mono bel.size)
    replace ow := ow.below hbb
    replace om := om.below hbb
    replace ocRequestS := ocRequestS.below hbb
    clear hbb
    clear ocRequestS
    go_wp2_with fail
    refine (eqRequestS_h A6 n6 c6 A2 n2 c2 (dropQ rs x) _ oh.recs ow.recs n6l).mono ?_
    rintro e w16 ⟨rfl, hbb⟩
    have szw16 := hbb.size
    replace bel := bel.trans (hbb.mono bel.size)
    replace ow := ow.below hbb
    replace om := om.below hbb
    replace oh := oh.below hbb
    clear hbb
    go_wp2_with fail
    refine (heldRequestS_h A4 n4 c4  1 _ om.recs n4l (by omega) (by omega)).mono ?_
    rintro e w17 ⟨rfl, hbb⟩
    have szw17 := hbb.size
    replace bel := bel.trans (hbb.mono bel.size)
    replace ow := ow.below hbb
    replace om := om.below hbb
    replace oh := oh.below hbb
    clear hbb
    go_wp2
    go_ret
    exact ⟨rfl, bel⟩
end Go.Proofs.Ytmkkimpljnmpoaa
