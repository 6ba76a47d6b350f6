/-
  The walk of FnExactGuardedRun.
-/
import Derived.Test.YtbapamfomfbmmaaGr6
import Derived.Test.YtbapamfomfbmmaaOpen
import Derived.Test.YtbapamfomfbmmaaLater
import Derived.Test.YtbapamfomfbmmaaUni
import Derived.Deep.DeepCutAuto
namespace Go.Proofs.Ytbapamfomfbmmaa
open Go.RowKit
set_option linter.unusedSimpArgs false
set_option linter.unusedVariables false

set_option maxHeartbeats 8000000 in
theorem fnExactGuardedRun_walk (rows : Int) (k : Int) (limit : Int) (A : Option Addr) (n c : Nat) (zs : List Int) (w : World) (irows : I64 rows) (ik : I64 k) (ilimit : I64 limit) (hA : Ints w A n zs) (hn : n ≤ maxLen) (iA : ∀ z ∈ zs, I64 z) :
    Calls Try.prog 7 #[.int .i64 rows, .int .i64 k, .int .i64 limit, .slice A n c] w fun e w' => e = .returned (.bool true) ∧ Below w.heap.size w w' := by
  clear irows ik ilimit iA
  by_cases hsz0 : 1048576 < n
  · go_enter Try.func7, Try.ntmps7
    go_wp2
    go_ret
    exact ⟨rfl, (Below.refl _ _)⟩
  · skip
    have hs0 : ((gOk rows k limit zs) != (gOk rows k limit zs)) = false := by simp
    have bel : Below w.heap.size w w := Below.refl _ _
    go_enter Try.func7, Try.ntmps7
    go_wp2_with fail
    refine (toIntS_h A n c zs _ (hA.below bel) (by omega)).mono ?_
    rintro e w1 ⟨A1, n1, c1, rfl, oaIntS, hbb⟩
    have n1l : n1 ≤ 1048576 := by have := oaIntS.len; have := hA.1; omega
    have szw1 := hbb.size
    replace bel := bel.trans (hbb.mono bel.size)
    clear hbb
    go_wp2_with fail
    refine (sGuardedRun_c rows k limit A1 n1 c1 zs _ oaIntS.ints n1l).mono ?_
    rintro e w2 ⟨A2, n2, c2, rfl, ow, hbb⟩
    have n2l : n2 ≤ 1048576 := by have := ow.len; have := gList_len rows k limit zs; omega
    have szw2 := hbb.size
    replace bel := bel.trans (hbb.mono bel.size)
    replace oaIntS := oaIntS.below hbb
    clear hbb
    clear oaIntS
    go_wp2_with fail
    refine (toIntS_h A n c zs _ (hA.below bel) (by omega)).mono ?_
    rintro e w3 ⟨A3, n3, c3, rfl, oxIntS, hbb⟩
    have n3l : n3 ≤ 1048576 := by have := oxIntS.len; have := hA.1; omega
    have szw3 := hbb.size
    replace bel := bel.trans (hbb.mono bel.size)
    replace ow := ow.below hbb
    clear hbb
    go_wp2_with fail
    refine (iGuardedRun_c rows k limit A3 n3 c3 zs _ oxIntS.ints n3l).mono ?_
    rintro e w4 ⟨A4, n4, c4, rfl, og, hbb⟩
    have n4l : n4 ≤ 1048576 := by have := og.len; have := gList_len rows k limit zs; omega
    have szw4 := hbb.size
    replace bel := bel.trans (hbb.mono bel.size)
    replace ow := ow.below hbb
    replace oxIntS := oxIntS.below hbb
    clear hbb
    go_wp2_with fail
    refine (eqIntS_h A4 n4 c4 A2 n2 c2 (gList rows k limit zs) _ og.ints ow.ints n4l).mono ?_
    rintro e w5 ⟨rfl, hbb⟩
    have szw5 := hbb.size
    replace bel := bel.trans (hbb.mono bel.size)
    replace ow := ow.below hbb
    replace oxIntS := oxIntS.below hbb
    replace og := og.below hbb
    clear hbb
    go_wp2_with fail
    refine (toIntS_h A n c zs _ (hA.below bel) (by omega)).mono ?_
    rintro e w6 ⟨A7, n7, c7, rfl, oeIntS, hbb⟩
    have n7l : n7 ≤ 1048576 := by have := oeIntS.len; have := hA.1; omega
    have szw6 := hbb.size
    replace bel := bel.trans (hbb.mono bel.size)
    replace ow := ow.below hbb
    replace oxIntS := oxIntS.below hbb
    replace og := og.below hbb
    clear hbb
    go_wp2_with fail
    refine (eqIntS_h A3 n3 c3 A7 n7 c7 zs _ oxIntS.ints oeIntS.ints n3l).mono ?_
    rintro e w7 ⟨rfl, hbb⟩
    have szw7 := hbb.size
    replace bel := bel.trans (hbb.mono bel.size)
    replace ow := ow.below hbb
    replace oxIntS := oxIntS.below hbb
    replace og := og.below hbb
    replace oeIntS := oeIntS.below hbb
    clear hbb
    clear oeIntS
    go_wp2_with fail
    refine (markIntS_h A3 n3 c3 (w2.heap.size) (w3.heap.size) zs (1) _ oxIntS n3l (by omega) (by omega)).mono ?_
    rintro e w8 ⟨rfl, oy, C⟩
    clear oxIntS oy
    have szw8 := C.size
    replace bel := C.below bel (by omega)
    replace ow := ow.chg C (by omega)
    replace og := og.chg C (by omega)
    clear C
    have t9 : decide (1 + (n3 : Int) < 0) = false := by simp; omega
    go_wp2_with fail
    refine (eqIntS_h A4 n4 c4 A2 n2 c2 (gList rows k limit zs) _ og.ints ow.ints n4l).mono ?_
    rintro e w9 ⟨rfl, hbb⟩
    have szw9 := hbb.size
    replace bel := bel.trans (hbb.mono bel.size)
    replace ow := ow.below hbb
    replace og := og.below hbb
    clear hbb
    go_wp2_with fail
    refine (markIntS_h A4 n4 c4 (w3.heap.size) (w4.heap.size) (gList rows k limit zs) 1 _ og n4l (by omega) (by omega)).mono ?_
    rintro e w10 ⟨rfl, om, C⟩
    clear og
    have szw10 := C.size
    replace bel := C.below bel (by omega)
    replace ow := ow.chg C (by omega)
    clear C
    go_wp2_with fail
    refine (heldIntS_h A4 n4 c4  1 _ om.ints n4l (by omega) (by omega)).mono ?_
    rintro e w11 ⟨rfl, hbb⟩
    have szw11 := hbb.size
    replace bel := bel.trans (hbb.mono bel.size)
    replace ow := ow.below hbb
    replace om := om.below hbb
    clear hbb
    have t7 : decide (1 + (n4 : Int) < 0) = false := by simp; omega
    have t8 : ((1 + (n4 : Int)) != (1 + (n4 : Int))) = false := by simp
    go_wp2_with fail
    refine (toIntS_h A n c zs _ (hA.below bel) (by omega)).mono ?_
    rintro e w12 ⟨A5, n5, c5, rfl, ocIntS, hbb⟩
    have n5l : n5 ≤ 1048576 := by have := ocIntS.len; have := hA.1; omega
    have szw12 := hbb.size
    replace bel := bel.trans (hbb.mono bel.size)
    replace ow := ow.below hbb
    replace om := om.below hbb
    clear hbb
    go_wp2_with fail
    refine (iGuardedRun_c rows k limit A5 n5 c5 zs _ ocIntS.ints n5l).mono ?_
    rintro e w13 ⟨A6, n6, c6, rfl, oh, hbb⟩
    have n6l : n6 ≤ 1048576 := by have := oh.len; have := gList_len rows k limit zs; omega
    have szw13 := hbb.size
    replace bel := bel.trans (hbb.mono bel.size)
    replace ow := ow.below hbb
    replace om := om.below hbb
    replace ocIntS := ocIntS.below hbb
    clear hbb
    clear ocIntS
    go_wp2_with fail
    refine (eqIntS_h A6 n6 c6 A2 n2 c2 (gList rows k limit zs) _ oh.ints ow.ints n6l).mono ?_
    rintro e w14 ⟨rfl, hbb⟩
    have szw14 := hbb.size
    replace bel := bel.trans (hbb.mono bel.size)
    replace ow := ow.below hbb
    replace om := om.below hbb
    replace oh := oh.below hbb
    clear hbb
    go_wp2_with fail
    refine (heldIntS_h A4 n4 c4  1 _ om.ints n4l (by omega) (by omega)).mono ?_
    rintro e w15 ⟨rfl, hbb⟩
    have szw15 := hbb.size
    replace bel := bel.trans (hbb.mono bel.size)
    replace ow := ow.below hbb
    replace om := om.below hbb
    replace oh := oh.below hbb
    clear hbb
    go_wp2
    go_ret
    exact ⟨rfl, bel⟩
end Go.Proofs.Ytbapamfomfbmmaa
