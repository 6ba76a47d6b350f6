/-
  The walk of FnExactQueueAdd.
-/
import Derived.Test.YtmkkimpljnmpoaaReqF
import Derived.Test.YtmkkimpljnmpoaaOpen
import Derived.Deep.DeepCutAuto
namespace Go.Proofs.Ytmkkimpljnmpoaa
open Go.RowKit
set_option linter.unusedSimpArgs false
set_option linter.unusedVariables false

set_option maxHeartbeats 8000000 in
theorem fnExactQueueAdd_walk (lines : Int) (A : Option Addr) (n c : Nat) (rs : List Req) (id : Int) (ten : Int) (line : Int) (wrt : Bool) (dat : Int) (att : Int) (w : World) (ilines : I64 lines) (hA : Reqs w A n rs) (hn : n ≤ maxLen) (iid : I64 id) (iten : I64 ten) (iline : I64 line) (idat : I64 dat) (iatt : I64 att) :
    Calls Try.prog 9 #[.int .i64 lines, .slice A n c, .agg #[.int .i64 id, .int .i64 ten, .int .i64 line, .bool wrt, .int .i64 dat, .int .i64 att]] w fun e w' => e = .returned (.bool true) ∧ Below w.heap.size w w' := by
  clear ilines iid iten iline idat iatt
  by_cases hz0 : (1048576) < (n : Int)
  · skip
    have bel : Below w.heap.size w w := Below.refl _ _
    go_enter Try.func9, Try.ntmps9
    go_wp2_with fail
    refine abs_call ?_
    intro W1 hW
    replace bel := (Below.alloc bel (by first | exact bel.size | (have hbs := bel.size; simp <;> omega)) (.cells #[.int .i64 id, .int .i64 ten, .int .i64 line, .bool wrt, .int .i64 dat, .int .i64 att] 23))
    rw [← hW] at bel
    have pRequest : Box W1 (w.heap.size) 23 #[.int .i64 id, .int .i64 ten, .int .i64 line, .bool wrt, .int .i64 dat, .int .i64 att] := by rw [hW]; exact (Box.newAt (by simp))
    have szW1 : w.heap.size + 1 ≤ W1.heap.size := by rw [hW]; simp
    clear hW
    refine (szRequestS_n A n c (1048576) _ (by omega) (by omega) hn (by omega)).mono ?_
    rintro e w2 ⟨rfl, hbb⟩
    have szw2 := hbb.size
    replace bel := bel.trans (hbb.mono bel.size)
    replace pRequest := pRequest.kept hbb
    clear hbb
    go_wp2
    go_ret
    exact ⟨rfl, bel⟩
  · skip
    have t0 : decide ((1048576 - (n : Int)) < 0) = false := by simp; omega
    have hs0 : ((addOk lines rs ⟨id, ten, line, wrt, dat, att⟩) != (addOk lines rs ⟨id, ten, line, wrt, dat, att⟩)) = false := by simp
    have bel : Below w.heap.size w w := Below.refl _ _
    go_enter Try.func9, Try.ntmps9
    go_wp2_with fail
    refine abs_call ?_
    intro W3 hW
    replace bel := (Below.alloc bel (by first | exact bel.size | (have hbs := bel.size; simp <;> omega)) (.cells #[.int .i64 id, .int .i64 ten, .int .i64 line, .bool wrt, .int .i64 dat, .int .i64 att] 23))
    rw [← hW] at bel
    have pRequest : Box W3 (w.heap.size) 23 #[.int .i64 id, .int .i64 ten, .int .i64 line, .bool wrt, .int .i64 dat, .int .i64 att] := by rw [hW]; exact (Box.newAt (by simp))
    have szW3 : w.heap.size + 1 ≤ W3.heap.size := by rw [hW]; simp
    clear hW
    refine (szRequestS_y A n c (1048576) _ (by omega) (by omega)).mono ?_
    rintro e w4 ⟨rfl, hbb⟩
    have szw4 := hbb.size
    replace bel := bel.trans (hbb.mono bel.size)
    replace pRequest := pRequest.kept hbb
    clear hbb
    go_wp2_with fail
    obtain ⟨pRequestc0, pRequestc1, pRequestc2, pRequestc3, pRequestc4, pRequestc5⟩ := pRequest.c6
    have pRequest_lt := pRequest.lt
    have rd_RequestS0 := hA.below bel
    go_region_held3 (fun W' => W'.cell? ⟨w.heap.size, 0, none⟩ = some (.int .i64 id) ∧ W'.cell? ⟨w.heap.size, 1, none⟩ = some (.int .i64 ten) ∧ W'.cell? ⟨w.heap.size, 2, none⟩ = some (.int .i64 line) ∧ W'.cell? ⟨w.heap.size, 3, none⟩ = some (.bool wrt) ∧ W'.cell? ⟨w.heap.size, 4, none⟩ = some (.int .i64 dat) ∧ W'.cell? ⟨w.heap.size, 5, none⟩ = some (.int .i64 att))
      (first | exact ⟨pRequestc0, pRequestc1, pRequestc2, pRequestc3, pRequestc4, pRequestc5⟩ | exact ⟨pRequest_q1c0, pRequest_q1c1, pRequest_q1c2, pRequest_q1c3, pRequest_q1c4, pRequest_q1c5⟩ | exact ⟨pRequest_q2c0, pRequest_q2c1, pRequest_q2c2, pRequest_q2c3, pRequest_q2c4, pRequest_q2c5⟩ | exact ⟨pRequest_q3c0, pRequest_q3c1, pRequest_q3c2, pRequest_q3c3, pRequest_q3c4, pRequest_q3c5⟩)
      (first | (go_at_call 23; refine (toRequestS_h A n c rs _ (by exact rd_RequestS0) (by omega)).mono ?_; rintro e w5 ⟨A1, n1, c1, rfl, oaRequestS, hb1'⟩; have hb1 : Below w4.heap.size w4 w5 := ⟨hb1'.os, hb1'.tape, hb1'.output, hb1'.size, hb1'.block⟩; have n1l : n1 ≤ 1048576 := (by have := oaRequestS.len; have := hA.len; omega); have n1c : n1 ≤ c1 ∧ c1 ≤ maxLen := OwnV.cap oaRequestS.1; have rd_RequestS0_1 := rd_RequestS0.below hb1; have pRequest_q1 := pRequest.kept hb1; obtain ⟨pRequest_q1c0, pRequest_q1c1, pRequest_q1c2, pRequest_q1c3, pRequest_q1c4, pRequest_q1c5⟩ := pRequest_q1.c6)
                 | (go_at_call 14; refine (toRequest_h  id ten line wrt dat att _ ).mono ?_; rintro e w6 ⟨rfl, hb2'⟩; have hb2 : Below w5.heap.size w5 w6 := ⟨hb2'.os, hb2'.tape, hb2'.output, hb2'.size, hb2'.block⟩; have oaRequestS_2 := oaRequestS.below hb2; have rd_RequestS0_2 := rd_RequestS0_1.below hb2; have pRequest_q2 := pRequest_q1.kept hb2; obtain ⟨pRequest_q2c0, pRequest_q2c1, pRequest_q2c2, pRequest_q2c3, pRequest_q2c4, pRequest_q2c5⟩ := pRequest_q2.c6)
                 | (go_at_call 34; refine (sQueueAdd_c lines A1 n1 c1 rs id ten line wrt dat att _ oaRequestS_2.recs n1l n1c).mono ?_; rintro e w7 ⟨A2, n2, c2, rfl, ow, hb3'⟩; have hb3 : Below w6.heap.size w6 w7 := ⟨hb3'.os, hb3'.tape, hb3'.output, hb3'.size, hb3'.block⟩; have pRequest_q3 := pRequest_q2.kept hb3; obtain ⟨pRequest_q3c0, pRequest_q3c1, pRequest_q3c2, pRequest_q3c3, pRequest_q3c4, pRequest_q3c5⟩ := pRequest_q3.c6))
    clear rd_RequestS0_1 pRequest_q1 pRequest_q1c0 pRequest_q1c1 pRequest_q1c2 pRequest_q1c3 pRequest_q1c4 pRequest_q1c5 oaRequestS_2 rd_RequestS0_2 pRequest_q2 pRequest_q2c0 pRequest_q2c1 pRequest_q2c2 pRequest_q2c3 pRequest_q2c4 pRequest_q2c5 pRequest_q3 pRequest_q3c0 pRequest_q3c1 pRequest_q3c2 pRequest_q3c3 pRequest_q3c4 pRequest_q3c5 hb1' hb2' hb3' rd_RequestS0
    clear pRequestc0 pRequestc1 pRequestc2 pRequestc3 pRequestc4 pRequestc5 pRequest_lt
    have szw5 := hb1.size
    replace bel := bel.trans (hb1.mono bel.size)
    replace pRequest := pRequest.kept hb1
    clear hb1
    have szw6 := hb2.size
    replace bel := bel.trans (hb2.mono bel.size)
    replace pRequest := pRequest.kept hb2
    replace oaRequestS := oaRequestS.below hb2
    clear hb2
    have szw7 := hb3.size
    replace bel := bel.trans (hb3.mono bel.size)
    replace pRequest := pRequest.kept hb3
    replace oaRequestS := oaRequestS.below hb3
    clear hb3
    have n2l : n2 ≤ 1048576 := by have := ow.len; have := addQ_len13 lines rs ⟨id, ten, line, wrt, dat, att⟩; have := hA.len; omega
    clear oaRequestS
    go_wp2_with fail
    refine (toRequestS_h A n c rs _ (hA.below bel) (by omega)).mono ?_
    rintro e w8 ⟨A3, n3, c3, rfl, oxRequestS, hbb⟩
    have n3l : n3 ≤ 1048576 := by have := oxRequestS.len; have := hA.len; omega
    have n3c : n3 ≤ c3 ∧ c3 ≤ maxLen := OwnV.cap oxRequestS.1
    have szw8 := hbb.size
    replace bel := bel.trans (hbb.mono bel.size)
    replace pRequest := pRequest.kept hbb
    replace ow := ow.below hbb
    clear hbb
    obtain ⟨pRequestc0, pRequestc1, pRequestc2, pRequestc3, pRequestc4, pRequestc5⟩ := pRequest.c6
    have pRequest_lt := pRequest.lt
    go_wp2_with fail
    refine (toRequest_h  id ten line wrt dat att _ ).mono ?_
    rintro e w9 ⟨rfl, hbb⟩
    clear pRequestc0 pRequestc1 pRequestc2 pRequestc3 pRequestc4 pRequestc5 pRequest_lt
    have szw9 := hbb.size
    replace bel := bel.trans (hbb.mono bel.size)
    replace pRequest := pRequest.kept hbb
    replace ow := ow.below hbb
    replace oxRequestS := oxRequestS.below hbb
    clear hbb
    go_wp2_with fail
    refine (iQueueAdd_c lines A3 n3 c3 rs id ten line wrt dat att _ oxRequestS.recs n3l n3c).mono ?_
    rintro e w10 ⟨A4, n4, c4, rfl, og, hbb⟩
    have n4l : n4 ≤ 1048576 := by have := og.len; have := addQ_len13 lines rs ⟨id, ten, line, wrt, dat, att⟩; have := hA.len; omega
    have szw10 := hbb.size
    replace bel := bel.trans (hbb.mono bel.size)
    replace pRequest := pRequest.kept hbb
    replace ow := ow.below hbb
    replace oxRequestS := oxRequestS.below hbb
    clear hbb
    go_wp2_with fail
    refine (eqRequestS_h A4 n4 c4 A2 n2 c2 (addQ lines rs ⟨id, ten, line, wrt, dat, att⟩) _ og.recs ow.recs n4l).mono ?_
    rintro e w11 ⟨rfl, hbb⟩
    have szw11 := hbb.size
    replace bel := bel.trans (hbb.mono bel.size)
    replace pRequest := pRequest.kept hbb
    replace ow := ow.below hbb
    replace oxRequestS := oxRequestS.below hbb
    replace og := og.below hbb
    clear hbb
    go_wp2_with fail
    refine (toRequestS_h A n c rs _ (hA.below bel) (by omega)).mono ?_
    rintro e w12 ⟨A7, n7, c7, rfl, oeRequestS, hbb⟩
    have n7l : n7 ≤ 1048576 := by have := oeRequestS.len; have := hA.len; omega
    have n7c : n7 ≤ c7 ∧ c7 ≤ maxLen := OwnV.cap oeRequestS.1
    have szw12 := hbb.size
    replace bel := bel.trans (hbb.mono bel.size)
    replace pRequest := pRequest.kept hbb
    replace ow := ow.below hbb
    replace oxRequestS := oxRequestS.below hbb
    replace og := og.below hbb
    clear hbb
    go_wp2_with fail
    refine (eqRequestS_h A3 n3 c3 A7 n7 c7 rs _ oxRequestS.recs oeRequestS.recs n3l).mono ?_
    rintro e w13 ⟨rfl, hbb⟩
    have szw13 := hbb.size
    replace bel := bel.trans (hbb.mono bel.size)
    replace pRequest := pRequest.kept hbb
    replace ow := ow.below hbb
    replace oxRequestS := oxRequestS.below hbb
    replace og := og.below hbb
    replace oeRequestS := oeRequestS.below hbb
    clear hbb
    clear oeRequestS
    go_wp2_with fail
    refine (markRequestS_h A3 n3 c3 (w7.heap.size) (w8.heap.size) rs (1) _ oxRequestS n3l (by omega) (by omega)).mono ?_
    rintro e w14 ⟨rfl, oy, C⟩
    clear oxRequestS oy
    have szw14 := C.size
    replace bel := C.below bel (by omega)
    replace pRequest := pRequest.chg C (by omega)
    replace ow := ow.chg C (by omega)
    replace og := og.chg C (by omega)
    clear C
    have t9 : decide (1 + 6 * (n3 : Int) < 0) = false := by simp; omega
    go_wp2_with fail
    refine (eqRequestS_h A4 n4 c4 A2 n2 c2 (addQ lines rs ⟨id, ten, line, wrt, dat, att⟩) _ og.recs ow.recs n4l).mono ?_
    rintro e w15 ⟨rfl, hbb⟩
    have szw15 := hbb.size
    replace bel := bel.trans (hbb.mono bel.size)
    replace pRequest := pRequest.kept hbb
    replace ow := ow.below hbb
    replace og := og.below hbb
    clear hbb
    go_wp2_with fail
    refine (markRequestS_h A4 n4 c4 (w9.heap.size) (w10.heap.size) (addQ lines rs ⟨id, ten, line, wrt, dat, att⟩) 1 _ og n4l (by omega) (by omega)).mono ?_
    rintro e w16 ⟨rfl, om, C⟩
    clear og
    have szw16 := C.size
    replace bel := C.below bel (by omega)
    replace pRequest := pRequest.chg C (by omega)
    replace ow := ow.chg C (by omega)
    clear C
    go_wp2_with fail
    refine (heldRequestS_h A4 n4 c4  1 _ om.recs n4l (by omega) (by omega)).mono ?_
    rintro e w17 ⟨rfl, hbb⟩
    have szw17 := hbb.size
    replace bel := bel.trans (hbb.mono bel.size)
    replace pRequest := pRequest.kept hbb
    replace ow := ow.below hbb
    replace om := om.below hbb
    clear hbb
    have t7 : decide (1 + 6 * (n4 : Int) < 0) = false := by simp; omega
    have t8 : ((1 + 6 * (n4 : Int)) != (1 + 6 * (n4 : Int))) = false := by simp
    go_wp2_with fail
    obtain ⟨pRequestc0, pRequestc1, pRequestc2, pRequestc3, pRequestc4, pRequestc5⟩ := pRequest.c6
    have pRequest_lt := pRequest.lt
    have rd_RequestS0 := hA.below bel
    go_region_held3 (fun W' => W'.cell? ⟨w.heap.size, 0, none⟩ = some (.int .i64 id) ∧ W'.cell? ⟨w.heap.size, 1, none⟩ = some (.int .i64 ten) ∧ W'.cell? ⟨w.heap.size, 2, none⟩ = some (.int .i64 line) ∧ W'.cell? ⟨w.heap.size, 3, none⟩ = some (.bool wrt) ∧ W'.cell? ⟨w.heap.size, 4, none⟩ = some (.int .i64 dat) ∧ W'.cell? ⟨w.heap.size, 5, none⟩ = some (.int .i64 att))
      (first | exact ⟨pRequestc0, pRequestc1, pRequestc2, pRequestc3, pRequestc4, pRequestc5⟩ | exact ⟨pRequest_q1c0, pRequest_q1c1, pRequest_q1c2, pRequest_q1c3, pRequest_q1c4, pRequest_q1c5⟩ | exact ⟨pRequest_q2c0, pRequest_q2c1, pRequest_q2c2, pRequest_q2c3, pRequest_q2c4, pRequest_q2c5⟩ | exact ⟨pRequest_q3c0, pRequest_q3c1, pRequest_q3c2, pRequest_q3c3, pRequest_q3c4, pRequest_q3c5⟩)
      (first | (go_at_call 23; refine (toRequestS_h A n c rs _ (by exact rd_RequestS0) (by omega)).mono ?_; rintro e w18 ⟨A5, n5, c5, rfl, ocRequestS, hb1'⟩; have hb1 : Below w17.heap.size w17 w18 := ⟨hb1'.os, hb1'.tape, hb1'.output, hb1'.size, hb1'.block⟩; have n5l : n5 ≤ 1048576 := (by have := ocRequestS.len; have := hA.len; omega); have n5c : n5 ≤ c5 ∧ c5 ≤ maxLen := OwnV.cap ocRequestS.1; have ow_1 := ow.below hb1; have om_1 := om.below hb1; have rd_RequestS0_1 := rd_RequestS0.below hb1; have pRequest_q1 := pRequest.kept hb1; obtain ⟨pRequest_q1c0, pRequest_q1c1, pRequest_q1c2, pRequest_q1c3, pRequest_q1c4, pRequest_q1c5⟩ := pRequest_q1.c6)
                 | (go_at_call 14; refine (toRequest_h  id ten line wrt dat att _ ).mono ?_; rintro e w19 ⟨rfl, hb2'⟩; have hb2 : Below w18.heap.size w18 w19 := ⟨hb2'.os, hb2'.tape, hb2'.output, hb2'.size, hb2'.block⟩; have ow_2 := ow_1.below hb2; have om_2 := om_1.below hb2; have ocRequestS_2 := ocRequestS.below hb2; have rd_RequestS0_2 := rd_RequestS0_1.below hb2; have pRequest_q2 := pRequest_q1.kept hb2; obtain ⟨pRequest_q2c0, pRequest_q2c1, pRequest_q2c2, pRequest_q2c3, pRequest_q2c4, pRequest_q2c5⟩ := pRequest_q2.c6)
                 | (go_at_call 35; refine (iQueueAdd_c lines A5 n5 c5 rs id ten line wrt dat att _ ocRequestS_2.recs n5l n5c).mono ?_; rintro e w20 ⟨A6, n6, c6, rfl, oh, hb3'⟩; have hb3 : Below w19.heap.size w19 w20 := ⟨hb3'.os, hb3'.tape, hb3'.output, hb3'.size, hb3'.block⟩; have pRequest_q3 := pRequest_q2.kept hb3; obtain ⟨pRequest_q3c0, pRequest_q3c1, pRequest_q3c2, pRequest_q3c3, pRequest_q3c4, pRequest_q3c5⟩ := pRequest_q3.c6))
    clear ow_1 om_1 rd_RequestS0_1 pRequest_q1 pRequest_q1c0 pRequest_q1c1 pRequest_q1c2 pRequest_q1c3 pRequest_q1c4 pRequest_q1c5 ow_2 om_2 ocRequestS_2 rd_RequestS0_2 pRequest_q2 pRequest_q2c0 pRequest_q2c1 pRequest_q2c2 pRequest_q2c3 pRequest_q2c4 pRequest_q2c5 pRequest_q3 pRequest_q3c0 pRequest_q3c1 pRequest_q3c2 pRequest_q3c3 pRequest_q3c4 pRequest_q3c5 hb1' hb2' hb3' rd_RequestS0
    clear pRequestc0 pRequestc1 pRequestc2 pRequestc3 pRequestc4 pRequestc5 pRequest_lt
    have szw18 := hb1.size
    replace bel := bel.trans (hb1.mono bel.size)
    replace pRequest := pRequest.kept hb1
    replace ow := ow.below hb1
    replace om := om.below hb1
    clear hb1
    have szw19 := hb2.size
    replace bel := bel.trans (hb2.mono bel.size)
    replace pRequest := pRequest.kept hb2
    replace ow := ow.below hb2
    replace om := om.below hb2
    replace ocRequestS := ocRequestS.below hb2
    clear hb2
    have szw20 := hb3.size
    replace bel := bel.trans (hb3.mono bel.size)
    replace pRequest := pRequest.kept hb3
    replace ow := ow.below hb3
    replace om := om.below hb3
    replace ocRequestS := ocRequestS.below hb3
    clear hb3
    have n6l : n6 ≤ 1048576 := by have := oh.len; have := addQ_len13 lines rs ⟨id, ten, line, wrt, dat, att⟩; have := hA.len; omega
    clear ocRequestS
    go_wp2_with fail
    refine (eqRequestS_h A6 n6 c6 A2 n2 c2 (addQ lines rs ⟨id, ten, line, wrt, dat, att⟩) _ oh.recs ow.recs n6l).mono ?_
    rintro e w21 ⟨rfl, hbb⟩
    have szw21 := hbb.size
    replace bel := bel.trans (hbb.mono bel.size)
    replace pRequest := pRequest.kept hbb
    replace ow := ow.below hbb
    replace om := om.below hbb
    replace oh := oh.below hbb
    clear hbb
    go_wp2_with fail
    refine (heldRequestS_h A4 n4 c4  1 _ om.recs n4l (by omega) (by omega)).mono ?_
    rintro e w22 ⟨rfl, hbb⟩
    have szw22 := hbb.size
    replace bel := bel.trans (hbb.mono bel.size)
    replace pRequest := pRequest.kept hbb
    replace ow := ow.below hbb
    replace om := om.below hbb
    replace oh := oh.below hbb
    clear hbb
    go_wp2
    go_ret
    exact ⟨rfl, bel⟩
end Go.Proofs.Ytmkkimpljnmpoaa
