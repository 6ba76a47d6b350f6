/-
  The walk of FnExactTrackRow.
-/
import Derived.Test.YtbcbgdomjefdhaaTkV
import Derived.Test.YtbcbgdomjefdhaaOpen
import Derived.Test.YtbcbgdomjefdhaaLater
import Derived.Deep.DeepCutAuto
namespace Go.Proofs.Ytbcbgdomjefdhaa
open Go.RowKit
set_option linter.unusedSimpArgs false
set_option linter.unusedVariables false

set_option maxRecDepth 100000 in
set_option maxHeartbeats 8000000 in
theorem fnExactTrackRow_walk (A : Option Addr) (n c : Nat) (rs : List Int) (B : Option Addr) (m d : Nat) (cs : List Int) (s : Int) (row : Int) (limit : Int) (w : World) (hA : Ints w A n rs) (hn : n ≤ maxLen) (iA : ∀ z ∈ rs, I64 z) (hB : Ints w B m cs) (hm : m ≤ maxLen) (iB : ∀ z ∈ cs, I64 z) (is : I64 s) (irow : I64 row) (ilimit : I64 limit) :
    Calls Try.prog 10 #[.agg #[.slice A n c, .slice B m d, .int .i64 s], .int .i64 row, .int .i64 limit] w fun e w' => e = .returned (.bool true) ∧ Below w.heap.size w w' := by
  clear iA iB is irow ilimit
  by_cases hz0 : (1048576) < (n + m : Int)
  · skip
    have bel : Below w.heap.size w w := Below.refl _ _
    go_enter Try.func10, Try.ntmps10
    go_wp2_with fail
    refine abs_call ?_
    intro W1 hW
    replace bel := (Below.alloc bel (by first | exact bel.size | (have hbs := bel.size; simp <;> omega)) (.cells #[.slice A n c, .slice B m d, .int .i64 s] 81))
    rw [← hW] at bel
    have pTracker : Box W1 (w.heap.size) 81 #[.slice A n c, .slice B m d, .int .i64 s] := by rw [hW]; exact (Box.newAt (by simp))
    have szW1 : w.heap.size + 1 ≤ W1.heap.size := by rw [hW]; simp
    clear hW
    refine (szTracker_n A n c B m d rs cs s (1048576) _ (by omega) (by omega) hn hm (by omega)).mono ?_
    rintro e w2 ⟨rfl, hbb⟩
    have szw2 := hbb.size
    replace bel := bel.trans (hbb.mono bel.size)
    replace pTracker := pTracker.kept hbb
    clear hbb
    go_wp2
    go_ret
    exact ⟨rfl, bel⟩
  · skip
    have t0 : decide ((1048576 - (n : Int) - (m : Int)) < 0) = false := by simp; omega
    have hs0 : ((trkFull rs cs s row limit) != (trkFull rs cs s row limit)) = false := by simp
    have bel : Below w.heap.size w w := Below.refl _ _
    go_enter Try.func10, Try.ntmps10
    go_wp2_with fail
    refine abs_call ?_
    intro W3 hW
    replace bel := (Below.alloc bel (by first | exact bel.size | (have hbs := bel.size; simp <;> omega)) (.cells #[.slice A n c, .slice B m d, .int .i64 s] 81))
    rw [← hW] at bel
    have pTracker : Box W3 (w.heap.size) 81 #[.slice A n c, .slice B m d, .int .i64 s] := by rw [hW]; exact (Box.newAt (by simp))
    have szW3 : w.heap.size + 1 ≤ W3.heap.size := by rw [hW]; simp
    clear hW
    refine (szTracker_y A n c B m d rs cs s (1048576) _ (by omega) (by omega)).mono ?_
    rintro e w4 ⟨rfl, hbb⟩
    have szw4 := hbb.size
    replace bel := bel.trans (hbb.mono bel.size)
    replace pTracker := pTracker.kept hbb
    clear hbb
    obtain ⟨pTrackerc0, pTrackerc1, pTrackerc2⟩ := pTracker.c3
    have pTracker_lt := pTracker.lt
    go_wp2_with fail
    refine (toTracker_h A n c B m d rs cs s _ (hA.below bel) (hB.below bel) (by omega)).mono ?_
    rintro e w5 ⟨A1, n1, c1, B1, m1, d1, rfl, oaTracker, hbb⟩
    have n1l : n1 ≤ 1048576 := by have := oaTracker.1.len; have := hA.1; omega
    have m1l : m1 ≤ 1048576 := by have := oaTracker.2.1.len; have := hB.1; omega
    clear pTrackerc0 pTrackerc1 pTrackerc2 pTracker_lt
    have szw5 := hbb.size
    replace bel := bel.trans (hbb.mono bel.size)
    replace pTracker := pTracker.kept hbb
    clear hbb
    go_wp2_with fail
    refine (sTrackRow_t A1 n1 c1 B1 m1 d1 rs cs s row limit _ oaTracker.1.ints oaTracker.2.1.ints n1l m1l).mono ?_
    rintro e w6 ⟨A2, n2, c2, B2, m2, d2, rfl, ow, hbb⟩
    have n2l : n2 ≤ 1048576 := by have := ow.1.len; have := trk_len rs cs s row limit; have := hA.1; omega
    have m2l : m2 ≤ 1048576 := by have := ow.2.1.len; have := trk_len rs cs s row limit; have := hB.1; omega
    have szw6 := hbb.size
    replace bel := bel.trans (hbb.mono bel.size)
    replace pTracker := pTracker.kept hbb
    replace oaTracker := oaTracker.below hbb
    clear hbb
    clear oaTracker
    obtain ⟨pTrackerc0, pTrackerc1, pTrackerc2⟩ := pTracker.c3
    have pTracker_lt := pTracker.lt
    go_wp2_with fail
    clear pTrackerc0 pTrackerc1 pTrackerc2 pTracker_lt
    refine abs_call ?_
    intro W7 hW
    replace bel := (Below.alloc bel (by first | exact bel.size | (have hbs := bel.size; simp <;> omega)) (.cells #[.slice A2 n2 c2, .slice B2 m2 d2, .int .i64 (trkS' rs cs s row limit)] 75))
    rw [← hW] at bel
    replace pTracker := (pTracker).alloc (.cells #[.slice A2 n2 c2, .slice B2 m2 d2, .int .i64 (trkS' rs cs s row limit)] 75)
    rw [← hW] at pTracker
    replace ow := (ow).alloc (.cells #[.slice A2 n2 c2, .slice B2 m2 d2, .int .i64 (trkS' rs cs s row limit)] 75)
    rw [← hW] at ow
    have pw : Box W7 (w6.heap.size) 75 #[.slice A2 n2 c2, .slice B2 m2 d2, .int .i64 (trkS' rs cs s row limit)] := by rw [hW]; exact (Box.newAt (by simp))
    have szW7 : w6.heap.size + 1 ≤ W7.heap.size := by rw [hW]; simp
    clear hW
    refine (toTracker_h A n c B m d rs cs s _ (hA.below bel) (hB.below bel) (by omega)).mono ?_
    rintro e w8 ⟨A3, n3, c3, B3, m3, d3, rfl, oxTracker, hbb⟩
    have n3l : n3 ≤ 1048576 := by have := oxTracker.1.len; have := hA.1; omega
    have m3l : m3 ≤ 1048576 := by have := oxTracker.2.1.len; have := hB.1; omega
    have szw8 := hbb.size
    replace bel := bel.trans (hbb.mono bel.size)
    replace pTracker := pTracker.kept hbb
    replace pw := pw.kept hbb
    replace ow := ow.below hbb
    clear hbb
    go_wp2_with fail
    refine abs_call ?_
    intro W9 hW
    replace bel := (Below.alloc bel (by first | exact bel.size | (have hbs := bel.size; simp <;> omega)) (.cells #[.slice A3 n3 c3, .slice B3 m3 d3, .int .i64 s] 75))
    rw [← hW] at bel
    replace pTracker := (pTracker).alloc (.cells #[.slice A3 n3 c3, .slice B3 m3 d3, .int .i64 s] 75)
    rw [← hW] at pTracker
    replace pw := (pw).alloc (.cells #[.slice A3 n3 c3, .slice B3 m3 d3, .int .i64 s] 75)
    rw [← hW] at pw
    replace ow := (ow).alloc (.cells #[.slice A3 n3 c3, .slice B3 m3 d3, .int .i64 s] 75)
    rw [← hW] at ow
    replace oxTracker := (oxTracker).alloc (.cells #[.slice A3 n3 c3, .slice B3 m3 d3, .int .i64 s] 75)
    rw [← hW] at oxTracker
    have xTracker : Box W9 (w8.heap.size) 75 #[.slice A3 n3 c3, .slice B3 m3 d3, .int .i64 s] := by rw [hW]; exact (Box.newAt (by simp))
    have szW9 : w8.heap.size + 1 ≤ W9.heap.size := by rw [hW]; simp
    clear hW
    refine (iTrackRow_t A3 n3 c3 B3 m3 d3 rs cs s row limit _ oxTracker.1.ints oxTracker.2.1.ints n3l m3l).mono ?_
    rintro e w10 ⟨A4, n4, c4, B4, m4, d4, rfl, og, hbb⟩
    have n4l : n4 ≤ 1048576 := by have := og.1.len; have := trk_len rs cs s row limit; have := hA.1; omega
    have m4l : m4 ≤ 1048576 := by have := og.2.1.len; have := trk_len rs cs s row limit; have := hB.1; omega
    have szw10 := hbb.size
    replace bel := bel.trans (hbb.mono bel.size)
    replace pTracker := pTracker.kept hbb
    replace pw := pw.kept hbb
    replace xTracker := xTracker.kept hbb
    replace ow := ow.below hbb
    replace oxTracker := oxTracker.below hbb
    clear hbb
    obtain ⟨pwc0, pwc1, pwc2⟩ := pw.c3
    have pw_lt := pw.lt
    go_wp2_with fail
    clear pwc0 pwc1 pwc2 pw_lt
    refine abs_call ?_
    intro W11 hW
    replace bel := (Below.alloc bel (by first | exact bel.size | (have hbs := bel.size; simp <;> omega)) (.cells #[.slice A4 n4 c4, .slice B4 m4 d4, .int .i64 (trkS' rs cs s row limit)] 75))
    rw [← hW] at bel
    replace pTracker := (pTracker).alloc (.cells #[.slice A4 n4 c4, .slice B4 m4 d4, .int .i64 (trkS' rs cs s row limit)] 75)
    rw [← hW] at pTracker
    replace pw := (pw).alloc (.cells #[.slice A4 n4 c4, .slice B4 m4 d4, .int .i64 (trkS' rs cs s row limit)] 75)
    rw [← hW] at pw
    replace xTracker := (xTracker).alloc (.cells #[.slice A4 n4 c4, .slice B4 m4 d4, .int .i64 (trkS' rs cs s row limit)] 75)
    rw [← hW] at xTracker
    replace ow := (ow).alloc (.cells #[.slice A4 n4 c4, .slice B4 m4 d4, .int .i64 (trkS' rs cs s row limit)] 75)
    rw [← hW] at ow
    replace oxTracker := (oxTracker).alloc (.cells #[.slice A4 n4 c4, .slice B4 m4 d4, .int .i64 (trkS' rs cs s row limit)] 75)
    rw [← hW] at oxTracker
    replace og := (og).alloc (.cells #[.slice A4 n4 c4, .slice B4 m4 d4, .int .i64 (trkS' rs cs s row limit)] 75)
    rw [← hW] at og
    have pg : Box W11 (w10.heap.size) 75 #[.slice A4 n4 c4, .slice B4 m4 d4, .int .i64 (trkS' rs cs s row limit)] := by rw [hW]; exact (Box.newAt (by simp))
    have szW11 : w10.heap.size + 1 ≤ W11.heap.size := by rw [hW]; simp
    clear hW
    refine (eqTracker_h A4 n4 c4 B4 m4 d4 A2 n2 c2 B2 m2 d2 (trkR' rs cs s row limit) (trkC' rs cs s row limit) (trkS' rs cs s row limit) _ og.1.ints og.2.1.ints ow.1.ints ow.2.1.ints n4l m4l).mono ?_
    rintro e w12 ⟨rfl, hbb⟩
    have szw12 := hbb.size
    replace bel := bel.trans (hbb.mono bel.size)
    replace pTracker := pTracker.kept hbb
    replace pw := pw.kept hbb
    replace xTracker := xTracker.kept hbb
    replace pg := pg.kept hbb
    replace ow := ow.below hbb
    replace oxTracker := oxTracker.below hbb
    replace og := og.below hbb
    clear hbb
    go_wp2_with fail
    obtain ⟨xTrackerc0, xTrackerc1, xTrackerc2⟩ := xTracker.c3
    have xTracker_lt := xTracker.lt
    obtain ⟨pTrackerc0, pTrackerc1, pTrackerc2⟩ := pTracker.c3
    have pTracker_lt := pTracker.lt
    have rd_Tracker0 := hA.below bel
    have rd_Tracker1 := hB.below bel
    go_region_held3 (fun W' => W'.cell? ⟨w8.heap.size, 0, none⟩ = some (.slice A3 n3 c3) ∧ W'.cell? ⟨w8.heap.size, 1, none⟩ = some (.slice B3 m3 d3) ∧ W'.cell? ⟨w8.heap.size, 2, none⟩ = some (.int .i64 s) ∧ W'.cell? ⟨w.heap.size, 0, none⟩ = some (.slice A n c) ∧ W'.cell? ⟨w.heap.size, 1, none⟩ = some (.slice B m d) ∧ W'.cell? ⟨w.heap.size, 2, none⟩ = some (.int .i64 s))
      (first | exact ⟨xTrackerc0, xTrackerc1, xTrackerc2, pTrackerc0, pTrackerc1, pTrackerc2⟩ | exact ⟨xTracker_q1c0, xTracker_q1c1, xTracker_q1c2, pTracker_q1c0, pTracker_q1c1, pTracker_q1c2⟩ | exact ⟨xTracker_q2c0, xTracker_q2c1, xTracker_q2c2, pTracker_q2c0, pTracker_q2c1, pTracker_q2c2⟩)
      (first | (go_at_call 52; refine (toTracker_h A n c B m d rs cs s _ (by exact rd_Tracker0) (by exact rd_Tracker1) (by omega)).mono ?_; rintro e w13 ⟨A7, n7, c7, B7, m7, d7, rfl, oeTracker, hb1'⟩; have hb1 : Below w12.heap.size w12 w13 := ⟨hb1'.os, hb1'.tape, hb1'.output, hb1'.size, hb1'.block⟩; have n7l : n7 ≤ 1048576 := (by have := oeTracker.1.len; have := hA.1; omega); have m7l : m7 ≤ 1048576 := (by have := oeTracker.2.1.len; have := hB.1; omega); have ow_1 := ow.below hb1; have oxTracker_1 := oxTracker.below hb1; have og_1 := og.below hb1; have rd_Tracker0_1 := rd_Tracker0.below hb1; have rd_Tracker1_1 := rd_Tracker1.below hb1; have xTracker_q1 := xTracker.kept hb1; obtain ⟨xTracker_q1c0, xTracker_q1c1, xTracker_q1c2⟩ := xTracker_q1.c3; have pTracker_q1 := pTracker.kept hb1; obtain ⟨pTracker_q1c0, pTracker_q1c1, pTracker_q1c2⟩ := pTracker_q1.c3)
                 | (go_at_call 47; refine (eqTracker_h A3 n3 c3 B3 m3 d3 A7 n7 c7 B7 m7 d7 rs cs s _ oxTracker_1.1.ints oxTracker_1.2.1.ints oeTracker.1.ints oeTracker.2.1.ints n3l m3l).mono ?_; rintro e w14 ⟨rfl, hb2'⟩; have hb2 : Below w13.heap.size w13 w14 := ⟨hb2'.os, hb2'.tape, hb2'.output, hb2'.size, hb2'.block⟩; have xTracker_q2 := xTracker_q1.kept hb2; obtain ⟨xTracker_q2c0, xTracker_q2c1, xTracker_q2c2⟩ := xTracker_q2.c3; have pTracker_q2 := pTracker_q1.kept hb2; obtain ⟨pTracker_q2c0, pTracker_q2c1, pTracker_q2c2⟩ := pTracker_q2.c3))
    clear ow_1 oxTracker_1 og_1 rd_Tracker0_1 rd_Tracker1_1 xTracker_q1 xTracker_q1c0 xTracker_q1c1 xTracker_q1c2 pTracker_q1 pTracker_q1c0 pTracker_q1c1 pTracker_q1c2 xTracker_q2 xTracker_q2c0 xTracker_q2c1 xTracker_q2c2 pTracker_q2 pTracker_q2c0 pTracker_q2c1 pTracker_q2c2 hb1' hb2' rd_Tracker0 rd_Tracker1
    clear xTrackerc0 xTrackerc1 xTrackerc2 xTracker_lt pTrackerc0 pTrackerc1 pTrackerc2 pTracker_lt
    have szw13 := hb1.size
    replace bel := bel.trans (hb1.mono bel.size)
    replace pTracker := pTracker.kept hb1
    replace pw := pw.kept hb1
    replace xTracker := xTracker.kept hb1
    replace pg := pg.kept hb1
    replace ow := ow.below hb1
    replace oxTracker := oxTracker.below hb1
    replace og := og.below hb1
    clear hb1
    have szw14 := hb2.size
    replace bel := bel.trans (hb2.mono bel.size)
    replace pTracker := pTracker.kept hb2
    replace pw := pw.kept hb2
    replace xTracker := xTracker.kept hb2
    replace pg := pg.kept hb2
    replace ow := ow.below hb2
    replace oxTracker := oxTracker.below hb2
    replace og := og.below hb2
    replace oeTracker := oeTracker.below hb2
    clear hb2
    clear oeTracker
    obtain ⟨xTrackerc0, xTrackerc1, xTrackerc2⟩ := xTracker.c3
    have xTracker_lt := xTracker.lt
    go_wp2_with fail
    refine (markTracker_h A3 n3 c3 B3 m3 d3 (W7.heap.size) (w8.heap.size) rs cs s (1) _ oxTracker n3l m3l (by omega) (by omega)).mono ?_
    rintro e w15 ⟨rfl, oy, C⟩
    clear oxTracker oy
    clear xTrackerc0 xTrackerc1 xTrackerc2 xTracker_lt
    have szw15 := C.size
    replace bel := C.below bel (by omega)
    replace pTracker := pTracker.chg C (by omega)
    replace pw := pw.chg C (by omega)
    replace xTracker := xTracker.chg C (by omega)
    replace pg := pg.chg C (by omega)
    replace ow := ow.chg C (by omega)
    replace og := og.chg C (by omega)
    clear C
    have t9 : decide (1 + (n3 : Int) + (m3 : Int) < 0) = false := by simp; omega
    obtain ⟨pgc0, pgc1, pgc2⟩ := pg.c3
    have pg_lt := pg.lt
    obtain ⟨pwc0, pwc1, pwc2⟩ := pw.c3
    have pw_lt := pw.lt
    go_wp2_with fail
    refine (eqTracker_h A4 n4 c4 B4 m4 d4 A2 n2 c2 B2 m2 d2 (trkR' rs cs s row limit) (trkC' rs cs s row limit) (trkS' rs cs s row limit) _ og.1.ints og.2.1.ints ow.1.ints ow.2.1.ints n4l m4l).mono ?_
    rintro e w16 ⟨rfl, hbb⟩
    clear pgc0 pgc1 pgc2 pg_lt pwc0 pwc1 pwc2 pw_lt
    have szw16 := hbb.size
    replace bel := bel.trans (hbb.mono bel.size)
    replace pTracker := pTracker.kept hbb
    replace pw := pw.kept hbb
    replace xTracker := xTracker.kept hbb
    replace pg := pg.kept hbb
    replace ow := ow.below hbb
    replace og := og.below hbb
    clear hbb
    obtain ⟨pgc0, pgc1, pgc2⟩ := pg.c3
    have pg_lt := pg.lt
    go_wp2_with fail
    refine (markTracker_h A4 n4 c4 B4 m4 d4 (W9.heap.size) (w10.heap.size) (trkR' rs cs s row limit) (trkC' rs cs s row limit) (trkS' rs cs s row limit) 1 _ og n4l m4l (by omega) (by omega)).mono ?_
    rintro e w17 ⟨rfl, om, C⟩
    clear og
    clear pgc0 pgc1 pgc2 pg_lt
    have szw17 := C.size
    replace bel := C.below bel (by omega)
    replace pTracker := pTracker.chg C (by omega)
    replace pw := pw.chg C (by omega)
    replace xTracker := xTracker.chg C (by omega)
    replace pg := pg.chg C (by omega)
    replace ow := ow.chg C (by omega)
    clear C
    obtain ⟨pgc0, pgc1, pgc2⟩ := pg.c3
    have pg_lt := pg.lt
    go_wp2_with fail
    refine (heldTracker_h A4 n4 c4 B4 m4 d4 (trkS' rs cs s row limit) 1 _ om.1.ints om.2.1.ints n4l m4l (by omega) (by omega)).mono ?_
    rintro e w18 ⟨rfl, hbb⟩
    clear pgc0 pgc1 pgc2 pg_lt
    have szw18 := hbb.size
    replace bel := bel.trans (hbb.mono bel.size)
    replace pTracker := pTracker.kept hbb
    replace pw := pw.kept hbb
    replace xTracker := xTracker.kept hbb
    replace pg := pg.kept hbb
    replace ow := ow.below hbb
    replace om := om.below hbb
    clear hbb
    have t7 : decide (1 + (n4 : Int) + (m4 : Int) < 0) = false := by simp; omega
    have t8 : ((1 + (n4 : Int) + (m4 : Int)) != (1 + (n4 : Int) + (m4 : Int))) = false := by simp
    obtain ⟨pTrackerc0, pTrackerc1, pTrackerc2⟩ := pTracker.c3
    have pTracker_lt := pTracker.lt
    go_wp2_with fail
    refine (toTracker_h A n c B m d rs cs s _ (hA.below bel) (hB.below bel) (by omega)).mono ?_
    rintro e w19 ⟨A5, n5, c5, B5, m5, d5, rfl, ocTracker, hbb⟩
    have n5l : n5 ≤ 1048576 := by have := ocTracker.1.len; have := hA.1; omega
    have m5l : m5 ≤ 1048576 := by have := ocTracker.2.1.len; have := hB.1; omega
    clear pTrackerc0 pTrackerc1 pTrackerc2 pTracker_lt
    have szw19 := hbb.size
    replace bel := bel.trans (hbb.mono bel.size)
    replace pTracker := pTracker.kept hbb
    replace pw := pw.kept hbb
    replace xTracker := xTracker.kept hbb
    replace pg := pg.kept hbb
    replace ow := ow.below hbb
    replace om := om.below hbb
    clear hbb
    go_wp2_with fail
    refine (iTrackRow_t A5 n5 c5 B5 m5 d5 rs cs s row limit _ ocTracker.1.ints ocTracker.2.1.ints n5l m5l).mono ?_
    rintro e w20 ⟨A6, n6, c6, B6, m6, d6, rfl, oh, hbb⟩
    have n6l : n6 ≤ 1048576 := by have := oh.1.len; have := trk_len rs cs s row limit; have := hA.1; omega
    have m6l : m6 ≤ 1048576 := by have := oh.2.1.len; have := trk_len rs cs s row limit; have := hB.1; omega
    have szw20 := hbb.size
    replace bel := bel.trans (hbb.mono bel.size)
    replace pTracker := pTracker.kept hbb
    replace pw := pw.kept hbb
    replace xTracker := xTracker.kept hbb
    replace pg := pg.kept hbb
    replace ow := ow.below hbb
    replace om := om.below hbb
    replace ocTracker := ocTracker.below hbb
    clear hbb
    clear ocTracker
    obtain ⟨pwc0, pwc1, pwc2⟩ := pw.c3
    have pw_lt := pw.lt
    go_wp2_with fail
    clear pwc0 pwc1 pwc2 pw_lt
    refine abs_call ?_
    intro W21 hW
    replace bel := (Below.alloc bel (by first | exact bel.size | (have hbs := bel.size; simp <;> omega)) (.cells #[.slice A6 n6 c6, .slice B6 m6 d6, .int .i64 (trkS' rs cs s row limit)] 75))
    rw [← hW] at bel
    replace pTracker := (pTracker).alloc (.cells #[.slice A6 n6 c6, .slice B6 m6 d6, .int .i64 (trkS' rs cs s row limit)] 75)
    rw [← hW] at pTracker
    replace pw := (pw).alloc (.cells #[.slice A6 n6 c6, .slice B6 m6 d6, .int .i64 (trkS' rs cs s row limit)] 75)
    rw [← hW] at pw
    replace xTracker := (xTracker).alloc (.cells #[.slice A6 n6 c6, .slice B6 m6 d6, .int .i64 (trkS' rs cs s row limit)] 75)
    rw [← hW] at xTracker
    replace pg := (pg).alloc (.cells #[.slice A6 n6 c6, .slice B6 m6 d6, .int .i64 (trkS' rs cs s row limit)] 75)
    rw [← hW] at pg
    replace ow := (ow).alloc (.cells #[.slice A6 n6 c6, .slice B6 m6 d6, .int .i64 (trkS' rs cs s row limit)] 75)
    rw [← hW] at ow
    replace om := (om).alloc (.cells #[.slice A6 n6 c6, .slice B6 m6 d6, .int .i64 (trkS' rs cs s row limit)] 75)
    rw [← hW] at om
    replace oh := (oh).alloc (.cells #[.slice A6 n6 c6, .slice B6 m6 d6, .int .i64 (trkS' rs cs s row limit)] 75)
    rw [← hW] at oh
    have ph : Box W21 (w20.heap.size) 75 #[.slice A6 n6 c6, .slice B6 m6 d6, .int .i64 (trkS' rs cs s row limit)] := by rw [hW]; exact (Box.newAt (by simp))
    have szW21 : w20.heap.size + 1 ≤ W21.heap.size := by rw [hW]; simp
    clear hW
    refine (eqTracker_h A6 n6 c6 B6 m6 d6 A2 n2 c2 B2 m2 d2 (trkR' rs cs s row limit) (trkC' rs cs s row limit) (trkS' rs cs s row limit) _ oh.1.ints oh.2.1.ints ow.1.ints ow.2.1.ints n6l m6l).mono ?_
    rintro e w22 ⟨rfl, hbb⟩
    have szw22 := hbb.size
    replace bel := bel.trans (hbb.mono bel.size)
    replace pTracker := pTracker.kept hbb
    replace pw := pw.kept hbb
    replace xTracker := xTracker.kept hbb
    replace pg := pg.kept hbb
    replace ph := ph.kept hbb
    replace ow := ow.below hbb
    replace om := om.below hbb
    replace oh := oh.below hbb
    clear hbb
    obtain ⟨pgc0, pgc1, pgc2⟩ := pg.c3
    have pg_lt := pg.lt
    go_wp2_with fail
    refine (heldTracker_h A4 n4 c4 B4 m4 d4 (trkS' rs cs s row limit) 1 _ om.1.ints om.2.1.ints n4l m4l (by omega) (by omega)).mono ?_
    rintro e w23 ⟨rfl, hbb⟩
    clear pgc0 pgc1 pgc2 pg_lt
    have szw23 := hbb.size
    replace bel := bel.trans (hbb.mono bel.size)
    replace pTracker := pTracker.kept hbb
    replace pw := pw.kept hbb
    replace xTracker := xTracker.kept hbb
    replace pg := pg.kept hbb
    replace ph := ph.kept hbb
    replace ow := ow.below hbb
    replace om := om.below hbb
    replace oh := oh.below hbb
    clear hbb
    go_wp2
    go_ret
    exact ⟨rfl, bel⟩
end Go.Proofs.Ytbcbgdomjefdhaa
