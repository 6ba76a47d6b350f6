/-
  The walk of FnExactSpareNew.
-/
import Derived.Test.YtachkiodmaoemaaSpW
import Derived.Test.YtachkiodmaoemaaOpen
import Derived.Deep.DeepCutAuto
namespace Go.Proofs.Ytachkiodmaoemaa
open Go.RowKit
set_option linter.unusedSimpArgs false
set_option linter.unusedVariables false

set_option maxHeartbeats 8000000 in
theorem fnExactSpareNew_walk (gg : Int) (gb : Int) (gr : Int) (gc : Int) (s : Int) (w : World) (igg : I64 gg) (igb : I64 gb) (igr : I64 gr) (igc : I64 gc) (is : I64 s) :
    Calls Try.prog 3 #[.agg #[.int .i64 gg, .int .i64 gb, .int .i64 gr, .int .i64 gc], .int .i64 s] w fun e w' => e = .returned (.bool true) ∧ Below w.heap.size w w' := by
  clear igg igb igr igc is
  have hs0 : ((spOk gg gb gr gc s) != (spOk gg gb gr gc s)) = false := by simp
  have bel : Below w.heap.size w w := Below.refl _ _
  go_enter Try.func3, Try.ntmps3
  go_wp2_with fail
  refine abs_call ?_
  intro W1 hW
  replace bel := (Below.alloc bel (by first | exact bel.size | (have hbs := bel.size; simp <;> omega)) (.cells #[.int .i64 gg, .int .i64 gb, .int .i64 gr, .int .i64 gc] 23))
  rw [← hW] at bel
  have pGeometry : Box W1 (w.heap.size) 23 #[.int .i64 gg, .int .i64 gb, .int .i64 gr, .int .i64 gc] := by rw [hW]; exact (Box.newAt (by simp))
  have szW1 : w.heap.size + 1 ≤ W1.heap.size := by rw [hW]; simp
  clear hW
  refine (toGeometry_h  gg gb gr gc _ ).mono ?_
  rintro e w2 ⟨rfl, hbb⟩
  have szw2 := hbb.size
  replace bel := bel.trans (hbb.mono bel.size)
  replace pGeometry := pGeometry.kept hbb
  clear hbb
  go_wp2_with fail
  refine (sSpareNew_c gg gb gr gc s _ ).mono ?_
  rintro e w3 ⟨A2, n2, c2, rfl, ow, hbb⟩
  have n2l : n2 ≤ 1048576 := by have := ow.len; have := spMap_len gg gb gr gc s; omega
  have szw3 := hbb.size
  replace bel := bel.trans (hbb.mono bel.size)
  replace pGeometry := pGeometry.kept hbb
  clear hbb
  obtain ⟨pGeometryc0, pGeometryc1, pGeometryc2, pGeometryc3⟩ := pGeometry.c4
  have pGeometry_lt := pGeometry.lt
  go_wp2_with fail
  clear pGeometryc0 pGeometryc1 pGeometryc2 pGeometryc3 pGeometry_lt
  refine abs_call ?_
  intro W4 hW
  replace bel := (Below.alloc bel (by first | exact bel.size | (have hbs := bel.size; simp <;> omega)) (.cells #[.int .i64 (spSp gg gb gr gc s), .slice A2 n2 c2] 26))
  rw [← hW] at bel
  replace pGeometry := (pGeometry).alloc (.cells #[.int .i64 (spSp gg gb gr gc s), .slice A2 n2 c2] 26)
  rw [← hW] at pGeometry
  replace ow := (ow).alloc (.cells #[.int .i64 (spSp gg gb gr gc s), .slice A2 n2 c2] 26)
  rw [← hW] at ow
  have pw : Box W4 (w3.heap.size) 26 #[.int .i64 (spSp gg gb gr gc s), .slice A2 n2 c2] := by rw [hW]; exact (Box.newAt (by simp))
  have szW4 : w3.heap.size + 1 ≤ W4.heap.size := by rw [hW]; simp
  clear hW
  refine (toGeometry_h  gg gb gr gc _ ).mono ?_
  rintro e w5 ⟨rfl, hbb⟩
  have szw5 := hbb.size
  replace bel := bel.trans (hbb.mono bel.size)
  replace pGeometry := pGeometry.kept hbb
  replace pw := pw.kept hbb
  replace ow := ow.below hbb
  clear hbb
  go_wp2_with fail
  refine (iSpareNew_c gg gb gr gc s _ ).mono ?_
  rintro e w6 ⟨A4, n4, c4, rfl, og, hbb⟩
  have n4l : n4 ≤ 1048576 := by have := og.len; have := spMap_len gg gb gr gc s; omega
  have szw6 := hbb.size
  replace bel := bel.trans (hbb.mono bel.size)
  replace pGeometry := pGeometry.kept hbb
  replace pw := pw.kept hbb
  replace ow := ow.below hbb
  clear hbb
  obtain ⟨pwc0, pwc1⟩ := pw.c2
  have pw_lt := pw.lt
  go_wp2_with fail
  clear pwc0 pwc1 pw_lt
  refine abs_call ?_
  intro W7 hW
  replace bel := (Below.alloc bel (by first | exact bel.size | (have hbs := bel.size; simp <;> omega)) (.cells #[.int .i64 (spSp gg gb gr gc s), .slice A4 n4 c4] 26))
  rw [← hW] at bel
  replace pGeometry := (pGeometry).alloc (.cells #[.int .i64 (spSp gg gb gr gc s), .slice A4 n4 c4] 26)
  rw [← hW] at pGeometry
  replace pw := (pw).alloc (.cells #[.int .i64 (spSp gg gb gr gc s), .slice A4 n4 c4] 26)
  rw [← hW] at pw
  replace ow := (ow).alloc (.cells #[.int .i64 (spSp gg gb gr gc s), .slice A4 n4 c4] 26)
  rw [← hW] at ow
  replace og := (og).alloc (.cells #[.int .i64 (spSp gg gb gr gc s), .slice A4 n4 c4] 26)
  rw [← hW] at og
  have pg : Box W7 (w6.heap.size) 26 #[.int .i64 (spSp gg gb gr gc s), .slice A4 n4 c4] := by rw [hW]; exact (Box.newAt (by simp))
  have szW7 : w6.heap.size + 1 ≤ W7.heap.size := by rw [hW]; simp
  clear hW
  refine (eqSpare_h A4 n4 c4 A2 n2 c2 (spMap gg gb gr gc s) (spSp gg gb gr gc s) _ og.ints ow.ints n4l).mono ?_
  rintro e w8 ⟨rfl, hbb⟩
  have szw8 := hbb.size
  replace bel := bel.trans (hbb.mono bel.size)
  replace pGeometry := pGeometry.kept hbb
  replace pw := pw.kept hbb
  replace pg := pg.kept hbb
  replace ow := ow.below hbb
  replace og := og.below hbb
  clear hbb
  obtain ⟨pgc0, pgc1⟩ := pg.c2
  have pg_lt := pg.lt
  go_wp2_with fail
  refine (markSpare_h A4 n4 c4 (w5.heap.size) (w6.heap.size) (spMap gg gb gr gc s) (spSp gg gb gr gc s) 1 _ og n4l (by omega) (by omega)).mono ?_
  rintro e w9 ⟨rfl, om, C⟩
  clear og
  clear pgc0 pgc1 pg_lt
  have szw9 := C.size
  replace bel := C.below bel (by omega)
  replace pGeometry := pGeometry.chg C (by omega)
  replace pw := pw.chg C (by omega)
  replace pg := pg.chg C (by omega)
  replace ow := ow.chg C (by omega)
  clear C
  obtain ⟨pgc0, pgc1⟩ := pg.c2
  have pg_lt := pg.lt
  go_wp2_with fail
  refine (heldSpare_h A4 n4 c4 (spSp gg gb gr gc s) 1 _ om.ints n4l (by omega) (by omega)).mono ?_
  rintro e w10 ⟨rfl, hbb⟩
  clear pgc0 pgc1 pg_lt
  have szw10 := hbb.size
  replace bel := bel.trans (hbb.mono bel.size)
  replace pGeometry := pGeometry.kept hbb
  replace pw := pw.kept hbb
  replace pg := pg.kept hbb
  replace ow := ow.below hbb
  replace om := om.below hbb
  clear hbb
  have t7 : decide (1 + (n4 : Int) < 0) = false := by simp; omega
  have t8 : ((1 + (n4 : Int)) != (1 + (n4 : Int))) = false := by simp
  obtain ⟨pGeometryc0, pGeometryc1, pGeometryc2, pGeometryc3⟩ := pGeometry.c4
  have pGeometry_lt := pGeometry.lt
  go_wp2_with fail
  refine (toGeometry_h  gg gb gr gc _ ).mono ?_
  rintro e w11 ⟨rfl, hbb⟩
  clear pGeometryc0 pGeometryc1 pGeometryc2 pGeometryc3 pGeometry_lt
  have szw11 := hbb.size
  replace bel := bel.trans (hbb.mono bel.size)
  replace pGeometry := pGeometry.kept hbb
  replace pw := pw.kept hbb
  replace pg := pg.kept hbb
  replace ow := ow.below hbb
  replace om := om.below hbb
  clear hbb
  go_wp2_with fail
  refine (iSpareNew_c gg gb gr gc s _ ).mono ?_
  rintro e w12 ⟨A6, n6, c6, rfl, oh, hbb⟩
  have n6l : n6 ≤ 1048576 := by have := oh.len; have := spMap_len gg gb gr gc s; omega
  have szw12 := hbb.size
  replace bel := bel.trans (hbb.mono bel.size)
  replace pGeometry := pGeometry.kept hbb
  replace pw := pw.kept hbb
  replace pg := pg.kept hbb
  replace ow := ow.below hbb
  replace om := om.below hbb
  clear hbb
  obtain ⟨pwc0, pwc1⟩ := pw.c2
  have pw_lt := pw.lt
  go_wp2_with fail
  clear pwc0 pwc1 pw_lt
  refine abs_call ?_
  intro W13 hW
  replace bel := (Below.alloc bel (by first | exact bel.size | (have hbs := bel.size; simp <;> omega)) (.cells #[.int .i64 (spSp gg gb gr gc s), .slice A6 n6 c6] 26))
  rw [← hW] at bel
  replace pGeometry := (pGeometry).alloc (.cells #[.int .i64 (spSp gg gb gr gc s), .slice A6 n6 c6] 26)
  rw [← hW] at pGeometry
  replace pw := (pw).alloc (.cells #[.int .i64 (spSp gg gb gr gc s), .slice A6 n6 c6] 26)
  rw [← hW] at pw
  replace pg := (pg).alloc (.cells #[.int .i64 (spSp gg gb gr gc s), .slice A6 n6 c6] 26)
  rw [← hW] at pg
  replace ow := (ow).alloc (.cells #[.int .i64 (spSp gg gb gr gc s), .slice A6 n6 c6] 26)
  rw [← hW] at ow
  replace om := (om).alloc (.cells #[.int .i64 (spSp gg gb gr gc s), .slice A6 n6 c6] 26)
  rw [← hW] at om
  replace oh := (oh).alloc (.cells #[.int .i64 (spSp gg gb gr gc s), .slice A6 n6 c6] 26)
  rw [← hW] at oh
  have ph : Box W13 (w12.heap.size) 26 #[.int .i64 (spSp gg gb gr gc s), .slice A6 n6 c6] := by rw [hW]; exact (Box.newAt (by simp))
  have szW13 : w12.heap.size + 1 ≤ W13.heap.size := by rw [hW]; simp
  clear hW
  refine (eqSpare_h A6 n6 c6 A2 n2 c2 (spMap gg gb gr gc s) (spSp gg gb gr gc s) _ oh.ints ow.ints n6l).mono ?_
  rintro e w14 ⟨rfl, hbb⟩
  have szw14 := hbb.size
  replace bel := bel.trans (hbb.mono bel.size)
  replace pGeometry := pGeometry.kept hbb
  replace pw := pw.kept hbb
  replace pg := pg.kept hbb
  replace ph := ph.kept hbb
  replace ow := ow.below hbb
  replace om := om.below hbb
  replace oh := oh.below hbb
  clear hbb
  obtain ⟨pgc0, pgc1⟩ := pg.c2
  have pg_lt := pg.lt
  go_wp2_with fail
  refine (heldSpare_h A4 n4 c4 (spSp gg gb gr gc s) 1 _ om.ints n4l (by omega) (by omega)).mono ?_
  rintro e w15 ⟨rfl, hbb⟩
  clear pgc0 pgc1 pg_lt
  have szw15 := hbb.size
  replace bel := bel.trans (hbb.mono bel.size)
  replace pGeometry := pGeometry.kept hbb
  replace pw := pw.kept hbb
  replace pg := pg.kept hbb
  replace ph := ph.kept hbb
  replace ow := ow.below hbb
  replace om := om.below hbb
  replace oh := oh.below hbb
  clear hbb
  go_wp2
  go_ret
  exact ⟨rfl, bel⟩
end Go.Proofs.Ytachkiodmaoemaa
