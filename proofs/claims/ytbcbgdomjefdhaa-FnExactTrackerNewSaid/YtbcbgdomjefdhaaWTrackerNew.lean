/-
  The walk of FnExactTrackerNew.
-/
import Derived.Test.YtbcbgdomjefdhaaTkW
import Derived.Test.YtbcbgdomjefdhaaOpen
import Derived.Deep.DeepCutAuto
namespace Go.Proofs.Ytbcbgdomjefdhaa
open Go.RowKit
set_option linter.unusedSimpArgs false
set_option linter.unusedVariables false

set_option maxHeartbeats 8000000 in
theorem fnExactTrackerNew_walk (k : Int) (w : World) (ik : I64 k) :
    Calls Try.prog 9 #[.int .i64 k] w fun e w' => e = .returned (.bool true) ∧ Below w.heap.size w w' := by
  clear ik
  have hs0 : ((inB k 1 16) != (inB k 1 16)) = false := by simp
  have bel : Below w.heap.size w w := Below.refl _ _
  go_enter Try.func9, Try.ntmps9
  go_wp2_with fail
  refine (sTrackerNew_t k _ ).mono ?_
  rintro e w1 ⟨A2, n2, c2, B2, m2, d2, rfl, ow, hbb⟩
  have n2l : n2 ≤ 1048576 := by have := ow.1.len; have := tnR_len k; omega
  have m2l : m2 ≤ 1048576 := by have := ow.2.1.len; have := tnR_len k; omega
  have szw1 := hbb.size
  replace bel := bel.trans (hbb.mono bel.size)
  clear hbb
  go_wp2_with fail
  refine abs_call ?_
  intro W2 hW
  replace bel := (Below.alloc bel (by first | exact bel.size | (have hbs := bel.size; simp <;> omega)) (.cells #[.slice A2 n2 c2, .slice B2 m2 d2, .int .i64 0] 75))
  rw [← hW] at bel
  replace ow := (ow).alloc (.cells #[.slice A2 n2 c2, .slice B2 m2 d2, .int .i64 0] 75)
  rw [← hW] at ow
  have pw : Box W2 (w1.heap.size) 75 #[.slice A2 n2 c2, .slice B2 m2 d2, .int .i64 0] := by rw [hW]; exact (Box.newAt (by simp))
  have szW2 : w1.heap.size + 1 ≤ W2.heap.size := by rw [hW]; simp
  clear hW
  refine (iTrackerNew_t k _ ).mono ?_
  rintro e w3 ⟨A4, n4, c4, B4, m4, d4, rfl, og, hbb⟩
  have n4l : n4 ≤ 1048576 := by have := og.1.len; have := tnR_len k; omega
  have m4l : m4 ≤ 1048576 := by have := og.2.1.len; have := tnR_len k; omega
  have szw3 := hbb.size
  replace bel := bel.trans (hbb.mono bel.size)
  replace pw := pw.kept hbb
  replace ow := ow.below hbb
  clear hbb
  obtain ⟨pwc0, pwc1, pwc2⟩ := pw.c3
  have pw_lt := pw.lt
  go_wp2_with fail
  clear pwc0 pwc1 pwc2 pw_lt
  refine abs_call ?_
  intro W4 hW
  replace bel := (Below.alloc bel (by first | exact bel.size | (have hbs := bel.size; simp <;> omega)) (.cells #[.slice A4 n4 c4, .slice B4 m4 d4, .int .i64 0] 75))
  rw [← hW] at bel
  replace pw := (pw).alloc (.cells #[.slice A4 n4 c4, .slice B4 m4 d4, .int .i64 0] 75)
  rw [← hW] at pw
  replace ow := (ow).alloc (.cells #[.slice A4 n4 c4, .slice B4 m4 d4, .int .i64 0] 75)
  rw [← hW] at ow
  replace og := (og).alloc (.cells #[.slice A4 n4 c4, .slice B4 m4 d4, .int .i64 0] 75)
  rw [← hW] at og
  have pg : Box W4 (w3.heap.size) 75 #[.slice A4 n4 c4, .slice B4 m4 d4, .int .i64 0] := by rw [hW]; exact (Box.newAt (by simp))
  have szW4 : w3.heap.size + 1 ≤ W4.heap.size := by rw [hW]; simp
  clear hW
  refine (eqTracker_h A4 n4 c4 B4 m4 d4 A2 n2 c2 B2 m2 d2 (tnR k) (tnC k) 0 _ og.1.ints og.2.1.ints ow.1.ints ow.2.1.ints n4l m4l).mono ?_
  rintro e w5 ⟨rfl, hbb⟩
  have szw5 := hbb.size
  replace bel := bel.trans (hbb.mono bel.size)
  replace pw := pw.kept hbb
  replace pg := pg.kept hbb
  replace ow := ow.below hbb
  replace og := og.below hbb
  clear hbb
  obtain ⟨pgc0, pgc1, pgc2⟩ := pg.c3
  have pg_lt := pg.lt
  go_wp2_with fail
  refine (markTracker_h A4 n4 c4 B4 m4 d4 (W2.heap.size) (w3.heap.size) (tnR k) (tnC k) 0 1 _ og n4l m4l (by omega) (by omega)).mono ?_
  rintro e w6 ⟨rfl, om, C⟩
  clear og
  clear pgc0 pgc1 pgc2 pg_lt
  have szw6 := C.size
  replace bel := C.below bel (by omega)
  replace pw := pw.chg C (by omega)
  replace pg := pg.chg C (by omega)
  replace ow := ow.chg C (by omega)
  clear C
  obtain ⟨pgc0, pgc1, pgc2⟩ := pg.c3
  have pg_lt := pg.lt
  go_wp2_with fail
  refine (heldTracker_h A4 n4 c4 B4 m4 d4 0 1 _ om.1.ints om.2.1.ints n4l m4l (by omega) (by omega)).mono ?_
  rintro e w7 ⟨rfl, hbb⟩
  clear pgc0 pgc1 pgc2 pg_lt
  have szw7 := hbb.size
  replace bel := bel.trans (hbb.mono bel.size)
  replace pw := pw.kept hbb
  replace pg := pg.kept hbb
  replace ow := ow.below hbb
  replace om := om.below hbb
  clear hbb
  have t7 : decide (1 + (n4 : Int) + (m4 : Int) < 0) = false := by simp; omega
  have t8 : ((1 + (n4 : Int) + (m4 : Int)) != (1 + (n4 : Int) + (m4 : Int))) = false := by simp
  go_wp2_with fail
  refine (iTrackerNew_t k _ ).mono ?_
  rintro e w8 ⟨A6, n6, c6, B6, m6, d6, rfl, oh, hbb⟩
  have n6l : n6 ≤ 1048576 := by have := oh.1.len; have := tnR_len k; omega
  have m6l : m6 ≤ 1048576 := by have := oh.2.1.len; have := tnR_len k; omega
  have szw8 := hbb.size
  replace bel := bel.trans (hbb.mono bel.size)
  replace pw := pw.kept hbb
  replace pg := pg.kept hbb
  replace ow := ow.below hbb
  replace om := om.below hbb
  clear hbb
  obtain ⟨pwc0, pwc1, pwc2⟩ := pw.c3
  have pw_lt := pw.lt
  go_wp2_with fail
  clear pwc0 pwc1 pwc2 pw_lt
  refine abs_call ?_
  intro W9 hW
  replace bel := (Below.alloc bel (by first | exact bel.size | (have hbs := bel.size; simp <;> omega)) (.cells #[.slice A6 n6 c6, .slice B6 m6 d6, .int .i64 0] 75))
  rw [← hW] at bel
  replace pw := (pw).alloc (.cells #[.slice A6 n6 c6, .slice B6 m6 d6, .int .i64 0] 75)
  rw [← hW] at pw
  replace pg := (pg).alloc (.cells #[.slice A6 n6 c6, .slice B6 m6 d6, .int .i64 0] 75)
  rw [← hW] at pg
  replace ow := (ow).alloc (.cells #[.slice A6 n6 c6, .slice B6 m6 d6, .int .i64 0] 75)
  rw [← hW] at ow
  replace om := (om).alloc (.cells #[.slice A6 n6 c6, .slice B6 m6 d6, .int .i64 0] 75)
  rw [← hW] at om
  replace oh := (oh).alloc (.cells #[.slice A6 n6 c6, .slice B6 m6 d6, .int .i64 0] 75)
  rw [← hW] at oh
  have ph : Box W9 (w8.heap.size) 75 #[.slice A6 n6 c6, .slice B6 m6 d6, .int .i64 0] := by rw [hW]; exact (Box.newAt (by simp))
  have szW9 : w8.heap.size + 1 ≤ W9.heap.size := by rw [hW]; simp
  clear hW
  refine (eqTracker_h A6 n6 c6 B6 m6 d6 A2 n2 c2 B2 m2 d2 (tnR k) (tnC k) 0 _ oh.1.ints oh.2.1.ints ow.1.ints ow.2.1.ints n6l m6l).mono ?_
  rintro e w10 ⟨rfl, hbb⟩
  have szw10 := hbb.size
  replace bel := bel.trans (hbb.mono bel.size)
  replace pw := pw.kept hbb
  replace pg := pg.kept hbb
  replace ph := ph.kept hbb
  replace ow := ow.below hbb
  replace om := om.below hbb
  replace oh := oh.below hbb
  clear hbb
  obtain ⟨pgc0, pgc1, pgc2⟩ := pg.c3
  have pg_lt := pg.lt
  go_wp2_with fail
  refine (heldTracker_h A4 n4 c4 B4 m4 d4 0 1 _ om.1.ints om.2.1.ints n4l m4l (by omega) (by omega)).mono ?_
  rintro e w11 ⟨rfl, hbb⟩
  clear pgc0 pgc1 pgc2 pg_lt
  have szw11 := hbb.size
  replace bel := bel.trans (hbb.mono bel.size)
  replace pw := pw.kept hbb
  replace pg := pg.kept hbb
  replace ph := ph.kept hbb
  replace ow := ow.below hbb
  replace om := om.below hbb
  replace oh := oh.below hbb
  clear hbb
  go_wp2
  go_ret
  exact ⟨rfl, bel⟩
end Go.Proofs.Ytbcbgdomjefdhaa
