/-
  The walk of FnExactRefreshTick.
-/
import Derived.Test.YtkhbpfliobhmiaaRefTs
import Derived.Test.YtkhbpfliobhmiaaRefU
import Derived.Test.YtkhbpfliobhmiaaOpen
namespace Go.Proofs.Ytkhbpfliobhmiaa
open Go.RowKit
set_option linter.unusedSimpArgs false
set_option linter.unusedVariables false

set_option maxHeartbeats 4000000 in
theorem fnExactRefreshTick_walk (A : Option Addr) (n c : Nat) (zs : List Int) (s : Int) (t : Bool) (k : Int) (w : World) (hA : Ints w A n zs) (hn : n ≤ maxLen) (iA : ∀ z ∈ zs, I64 z) (is : I64 s) (ik : I64 k) :
    Calls Try.prog 8 #[.agg #[.slice A n c, .int .i64 s, .bool t], .int .i64 k] w fun e w' => e = .returned (.bool true) ∧ Below w.heap.size w w' := by
  clear iA is ik
  by_cases hsz : 1048576 < n
  · go_enter Try.func8, Try.ntmps8
    go_wp2_with fail
    refine (szRefresh_no A n c s t _ hn hsz).mono ?_
    rintro e w1 ⟨rfl, b1⟩
    go_wp2
    go_ret
    exact ⟨rfl, ((Below.refl _ _).alloc (Nat.le_refl _) _).trans (b1.mono (by simp))⟩
  · have t1 : decide ((1048576 - (n : Int)) < 0) = false := by simp; omega
    go_enter Try.func8, Try.ntmps8
    go_wp2_with fail
    refine abs_call ?_
    intro W hW
    have bel : Below w.heap.size w W := by rw [hW]; exact (Below.refl _ _).alloc (Nat.le_refl _) _
    have pa : Box W w.heap.size 30 #[.slice A n c, .int .i64 s, .bool t] := by rw [hW]; exact Box.new _ _ _
    have szW : w.heap.size < W.heap.size := by rw [hW]; simp
    clear hW
    refine (szRefresh_yes A n c s t _ (by omega)).mono ?_
    rintro e w1 ⟨rfl, hbb⟩
    have szw1 := hbb.size
    replace bel := bel.trans (hbb.mono bel.size)
    replace pa := pa.kept hbb
    clear hbb
    obtain ⟨pac0, pac1, pac2⟩ := pa.c3
    have pa_lt := pa.lt
    go_wp2_with fail
    refine (toRefresh_h A n c zs s t _ (hA.below bel) (by omega)).mono ?_
    rintro e w2 ⟨A1, n1, c1, rfl, o1, hbb⟩
    have n1l : n1 ≤ 1048576 := by have := o1.len; have := hA.1; omega
    clear pac0 pac1 pac2 pa_lt
    have szw2 := hbb.size
    replace bel := bel.trans (hbb.mono bel.size)
    replace pa := pa.kept hbb
    clear hbb
    go_wp2_with fail
    refine (sRefreshTick_c A1 n1 c1 zs s t k _ o1.ints n1l).mono ?_
    rintro e w3 ⟨A2, n2, c2, rfl, ow, hbb⟩
    have n2l : n2 ≤ 1048576 := by have := ow.len; have := tickZ_len zs s k; have := hA.1; omega
    have szw3 := hbb.size
    replace bel := bel.trans (hbb.mono bel.size)
    replace pa := pa.kept hbb
    replace o1 := o1.below hbb
    clear hbb
    clear o1
    obtain ⟨pac0, pac1, pac2⟩ := pa.c3
    have pa_lt := pa.lt
    go_wp2_with fail
    clear pac0 pac1 pac2 pa_lt
    refine abs_call ?_
    intro W4 hW
    replace bel := bel.alloc bel.size (.cells #[.slice A2 n2 c2, .int .i64 (tickS zs s t k), .bool t] 24)
    rw [← hW] at bel
    replace pa := pa.alloc (.cells #[.slice A2 n2 c2, .int .i64 (tickS zs s t k), .bool t] 24)
    rw [← hW] at pa
    replace ow := ow.alloc (.cells #[.slice A2 n2 c2, .int .i64 (tickS zs s t k), .bool t] 24)
    rw [← hW] at ow
    have pw : Box W4 w3.heap.size 24 #[.slice A2 n2 c2, .int .i64 (tickS zs s t k), .bool t] := by rw [hW]; exact Box.new _ _ _
    have szW4 : w3.heap.size < W4.heap.size := by rw [hW]; simp
    clear hW
    refine (toRefresh_h A n c zs s t _ (hA.below bel) (by omega)).mono ?_
    rintro e w5 ⟨A3, n3, c3, rfl, ox, hbb⟩
    have n3l : n3 ≤ 1048576 := by have := ox.len; have := hA.1; omega
    have szw5 := hbb.size
    replace bel := bel.trans (hbb.mono bel.size)
    replace pa := pa.kept hbb
    replace pw := pw.kept hbb
    replace ow := ow.below hbb
    clear hbb
    go_wp2_with fail
    refine abs_call ?_
    intro W6 hW
    replace bel := bel.alloc bel.size (.cells #[.slice A3 n3 c3, .int .i64 s, .bool t] 24)
    rw [← hW] at bel
    replace pa := pa.alloc (.cells #[.slice A3 n3 c3, .int .i64 s, .bool t] 24)
    rw [← hW] at pa
    replace pw := pw.alloc (.cells #[.slice A3 n3 c3, .int .i64 s, .bool t] 24)
    rw [← hW] at pw
    replace ow := ow.alloc (.cells #[.slice A3 n3 c3, .int .i64 s, .bool t] 24)
    rw [← hW] at ow
    replace ox := ox.alloc (.cells #[.slice A3 n3 c3, .int .i64 s, .bool t] 24)
    rw [← hW] at ox
    have px : Box W6 w5.heap.size 24 #[.slice A3 n3 c3, .int .i64 s, .bool t] := by rw [hW]; exact Box.new _ _ _
    have szW6 : w5.heap.size < W6.heap.size := by rw [hW]; simp
    clear hW
    refine (iRefreshTick_c A3 n3 c3 zs s t k _ ox.ints n3l).mono ?_
    rintro e w7 ⟨A4, n4, c4, rfl, og, hbb⟩
    have n4l : n4 ≤ 1048576 := by have := og.len; have := tickZ_len zs s k; have := hA.1; omega
    have szw7 := hbb.size
    replace bel := bel.trans (hbb.mono bel.size)
    replace pa := pa.kept hbb
    replace pw := pw.kept hbb
    replace px := px.kept hbb
    replace ow := ow.below hbb
    replace ox := ox.below hbb
    clear hbb
    obtain ⟨pwc0, pwc1, pwc2⟩ := pw.c3
    have pw_lt := pw.lt
    go_wp2_with fail
    clear pwc0 pwc1 pwc2 pw_lt
    refine abs_call ?_
    intro W8 hW
    replace bel := bel.alloc bel.size (.cells #[.slice A4 n4 c4, .int .i64 (tickS zs s t k), .bool t] 24)
    rw [← hW] at bel
    replace pa := pa.alloc (.cells #[.slice A4 n4 c4, .int .i64 (tickS zs s t k), .bool t] 24)
    rw [← hW] at pa
    replace pw := pw.alloc (.cells #[.slice A4 n4 c4, .int .i64 (tickS zs s t k), .bool t] 24)
    rw [← hW] at pw
    replace px := px.alloc (.cells #[.slice A4 n4 c4, .int .i64 (tickS zs s t k), .bool t] 24)
    rw [← hW] at px
    replace ow := ow.alloc (.cells #[.slice A4 n4 c4, .int .i64 (tickS zs s t k), .bool t] 24)
    rw [← hW] at ow
    replace ox := ox.alloc (.cells #[.slice A4 n4 c4, .int .i64 (tickS zs s t k), .bool t] 24)
    rw [← hW] at ox
    replace og := og.alloc (.cells #[.slice A4 n4 c4, .int .i64 (tickS zs s t k), .bool t] 24)
    rw [← hW] at og
    have pg : Box W8 w7.heap.size 24 #[.slice A4 n4 c4, .int .i64 (tickS zs s t k), .bool t] := by rw [hW]; exact Box.new _ _ _
    have szW8 : w7.heap.size < W8.heap.size := by rw [hW]; simp
    clear hW
    refine (eqRefresh_h A4 n4 c4 A2 n2 c2 (tickZ zs s k) (tickS zs s t k) t _ og.ints ow.ints n4l).mono ?_
    rintro e w9 ⟨rfl, hbb⟩
    have szw9 := hbb.size
    replace bel := bel.trans (hbb.mono bel.size)
    replace pa := pa.kept hbb
    replace pw := pw.kept hbb
    replace px := px.kept hbb
    replace pg := pg.kept hbb
    replace ow := ow.below hbb
    replace ox := ox.below hbb
    replace og := og.below hbb
    clear hbb
    obtain ⟨pac0, pac1, pac2⟩ := pa.c3
    have pa_lt := pa.lt
    obtain ⟨pxc0, pxc1, pxc2⟩ := px.c3
    have px_lt := px.lt
    have hx0 := hA.below bel
    go_wp2_with fail
    go_region_held3 (fun W' => W'.cell? ⟨w.heap.size, 0, none⟩ = some (.slice A n c) ∧ W'.cell? ⟨w.heap.size, 1, none⟩ = some (.int .i64 s) ∧ W'.cell? ⟨w.heap.size, 2, none⟩ = some (.bool t) ∧ W'.cell? ⟨w5.heap.size, 0, none⟩ = some (.slice A3 n3 c3) ∧ W'.cell? ⟨w5.heap.size, 1, none⟩ = some (.int .i64 s) ∧ W'.cell? ⟨w5.heap.size, 2, none⟩ = some (.bool t))
      (first | exact ⟨pac0, pac1, pac2, pxc0, pxc1, pxc2⟩ | exact ⟨p7c0, p7c1, p7c2, q7c0, q7c1, q7c2⟩ | exact ⟨p8c0, p8c1, p8c2, q8c0, q8c1, q8c2⟩)
      (first | (go_at_call 20; refine (toRefresh_h A n c zs s t _ (by exact hx0) (by omega)).mono ?_; rintro e w10 ⟨A7, n7, c7, rfl, o7, b7'⟩; have b7 : Below w9.heap.size w9 w10 := ⟨b7'.os, b7'.tape, b7'.output, b7'.size, b7'.block⟩; have o67 := ox.below b7; have p7 := pa.kept b7; have q7 := px.kept b7; obtain ⟨p7c0, p7c1, p7c2⟩ := p7.c3; obtain ⟨q7c0, q7c1, q7c2⟩ := q7.c3)
             | (go_at_call 15; refine (eqRefresh_h A3 n3 c3 A7 n7 c7 zs s t _ o67.ints o7.ints n3l).mono ?_; rintro e w11 ⟨rfl, b8'⟩; have b8 : Below w10.heap.size w10 w11 := ⟨b8'.os, b8'.tape, b8'.output, b8'.size, b8'.block⟩; have p8 := p7.kept b8; have q8 := q7.kept b8; obtain ⟨p8c0, p8c1, p8c2⟩ := p8.c3; obtain ⟨q8c0, q8c1, q8c2⟩ := q8.c3))
    clear o67 o7 p7 q7 p8 q8 p7c0 p7c1 p7c2 q7c0 q7c1 q7c2 p8c0 p8c1 p8c2 q8c0 q8c1 q8c2 b7' b8' hx0
    clear pac0 pac1 pac2 pa_lt pxc0 pxc1 pxc2 px_lt
    have szw10 := b7.size
    replace bel := bel.trans (b7.mono bel.size)
    replace pa := pa.kept b7
    replace pw := pw.kept b7
    replace px := px.kept b7
    replace pg := pg.kept b7
    replace ow := ow.below b7
    replace ox := ox.below b7
    replace og := og.below b7
    clear b7
    have szw11 := b8.size
    replace bel := bel.trans (b8.mono bel.size)
    replace pa := pa.kept b8
    replace pw := pw.kept b8
    replace px := px.kept b8
    replace pg := pg.kept b8
    replace ow := ow.below b8
    replace ox := ox.below b8
    replace og := og.below b8
    clear b8
    obtain ⟨pxc0, pxc1, pxc2⟩ := px.c3
    have px_lt := px.lt
    go_wp2_with fail
    refine (markRefresh_h A3 n3 c3 W4.heap.size w5.heap.size zs s t 1 _ ox n3l (by omega) (by omega)).mono ?_
    rintro e w12 ⟨rfl, oy, C⟩
    clear ox oy
    clear pxc0 pxc1 pxc2 px_lt
    have szw12 := C.size
    replace bel := C.below bel (by omega)
    replace pa := pa.chg C (by omega)
    replace pw := pw.chg C (by omega)
    replace px := px.chg C (by omega)
    replace pg := pg.chg C (by omega)
    replace ow := ow.chg C (by omega)
    replace og := og.chg C (by omega)
    clear C
    have t2 : decide (1 + (n3 : Int) < 0) = false := by simp; omega
    obtain ⟨pgc0, pgc1, pgc2⟩ := pg.c3
    have pg_lt := pg.lt
    obtain ⟨pwc0, pwc1, pwc2⟩ := pw.c3
    have pw_lt := pw.lt
    go_wp2_with fail
    refine (eqRefresh_h A4 n4 c4 A2 n2 c2 (tickZ zs s k) (tickS zs s t k) t _ og.ints ow.ints n4l).mono ?_
    rintro e w13 ⟨rfl, hbb⟩
    clear pgc0 pgc1 pgc2 pg_lt pwc0 pwc1 pwc2 pw_lt
    have szw13 := hbb.size
    replace bel := bel.trans (hbb.mono bel.size)
    replace pa := pa.kept hbb
    replace pw := pw.kept hbb
    replace px := px.kept hbb
    replace pg := pg.kept hbb
    replace ow := ow.below hbb
    replace og := og.below hbb
    clear hbb
    obtain ⟨pgc0, pgc1, pgc2⟩ := pg.c3
    have pg_lt := pg.lt
    go_wp2_with fail
    refine (markRefresh_h A4 n4 c4 W6.heap.size w7.heap.size (tickZ zs s k) (tickS zs s t k) t 1 _ og n4l (by omega) (by omega)).mono ?_
    rintro e w14 ⟨rfl, om, C⟩
    clear og
    clear pgc0 pgc1 pgc2 pg_lt
    have szw14 := C.size
    replace bel := C.below bel (by omega)
    replace pa := pa.chg C (by omega)
    replace pw := pw.chg C (by omega)
    replace px := px.chg C (by omega)
    replace pg := pg.chg C (by omega)
    replace ow := ow.chg C (by omega)
    clear C
    obtain ⟨pgc0, pgc1, pgc2⟩ := pg.c3
    have pg_lt := pg.lt
    go_wp2_with fail
    refine (heldRefresh_h A4 n4 c4 (tickS zs s t k) t 1 _ om.ints n4l (by omega) (by omega)).mono ?_
    rintro e w15 ⟨rfl, hbb⟩
    clear pgc0 pgc1 pgc2 pg_lt
    have szw15 := hbb.size
    replace bel := bel.trans (hbb.mono bel.size)
    replace pa := pa.kept hbb
    replace pw := pw.kept hbb
    replace px := px.kept hbb
    replace pg := pg.kept hbb
    replace ow := ow.below hbb
    replace om := om.below hbb
    clear hbb
    have t3 : decide (1 + (n4 : Int) < 0) = false := by simp; omega
    have t4 : ((1 + (n4 : Int)) != (1 + (n4 : Int))) = false := by simp
    obtain ⟨pac0, pac1, pac2⟩ := pa.c3
    have pa_lt := pa.lt
    go_wp2_with fail
    refine (toRefresh_h A n c zs s t _ (hA.below bel) (by omega)).mono ?_
    rintro e w16 ⟨A5, n5, c5, rfl, o5, hbb⟩
    have n5l : n5 ≤ 1048576 := by have := o5.len; have := hA.1; omega
    clear pac0 pac1 pac2 pa_lt
    have szw16 := hbb.size
    replace bel := bel.trans (hbb.mono bel.size)
    replace pa := pa.kept hbb
    replace pw := pw.kept hbb
    replace px := px.kept hbb
    replace pg := pg.kept hbb
    replace ow := ow.below hbb
    replace om := om.below hbb
    clear hbb
    go_wp2_with fail
    refine (iRefreshTick_c A5 n5 c5 zs s t k _ o5.ints n5l).mono ?_
    rintro e w17 ⟨A6, n6, c6, rfl, oh, hbb⟩
    have n6l : n6 ≤ 1048576 := by have := oh.len; have := tickZ_len zs s k; have := hA.1; omega
    have szw17 := hbb.size
    replace bel := bel.trans (hbb.mono bel.size)
    replace pa := pa.kept hbb
    replace pw := pw.kept hbb
    replace px := px.kept hbb
    replace pg := pg.kept hbb
    replace ow := ow.below hbb
    replace om := om.below hbb
    replace o5 := o5.below hbb
    clear hbb
    clear o5
    obtain ⟨pwc0, pwc1, pwc2⟩ := pw.c3
    have pw_lt := pw.lt
    go_wp2_with fail
    clear pwc0 pwc1 pwc2 pw_lt
    refine abs_call ?_
    intro W18 hW
    replace bel := bel.alloc bel.size (.cells #[.slice A6 n6 c6, .int .i64 (tickS zs s t k), .bool t] 24)
    rw [← hW] at bel
    replace pa := pa.alloc (.cells #[.slice A6 n6 c6, .int .i64 (tickS zs s t k), .bool t] 24)
    rw [← hW] at pa
    replace pw := pw.alloc (.cells #[.slice A6 n6 c6, .int .i64 (tickS zs s t k), .bool t] 24)
    rw [← hW] at pw
    replace px := px.alloc (.cells #[.slice A6 n6 c6, .int .i64 (tickS zs s t k), .bool t] 24)
    rw [← hW] at px
    replace pg := pg.alloc (.cells #[.slice A6 n6 c6, .int .i64 (tickS zs s t k), .bool t] 24)
    rw [← hW] at pg
    replace ow := ow.alloc (.cells #[.slice A6 n6 c6, .int .i64 (tickS zs s t k), .bool t] 24)
    rw [← hW] at ow
    replace om := om.alloc (.cells #[.slice A6 n6 c6, .int .i64 (tickS zs s t k), .bool t] 24)
    rw [← hW] at om
    replace oh := oh.alloc (.cells #[.slice A6 n6 c6, .int .i64 (tickS zs s t k), .bool t] 24)
    rw [← hW] at oh
    have ph : Box W18 w17.heap.size 24 #[.slice A6 n6 c6, .int .i64 (tickS zs s t k), .bool t] := by rw [hW]; exact Box.new _ _ _
    have szW18 : w17.heap.size < W18.heap.size := by rw [hW]; simp
    clear hW
    refine (eqRefresh_h A6 n6 c6 A2 n2 c2 (tickZ zs s k) (tickS zs s t k) t _ oh.ints ow.ints n6l).mono ?_
    rintro e w19 ⟨rfl, hbb⟩
    have szw19 := hbb.size
    replace bel := bel.trans (hbb.mono bel.size)
    replace pa := pa.kept hbb
    replace pw := pw.kept hbb
    replace px := px.kept hbb
    replace pg := pg.kept hbb
    replace ph := ph.kept hbb
    replace ow := ow.below hbb
    replace om := om.below hbb
    replace oh := oh.below hbb
    clear hbb
    obtain ⟨pgc0, pgc1, pgc2⟩ := pg.c3
    have pg_lt := pg.lt
    go_wp2_with fail
    refine (heldRefresh_h A4 n4 c4 (tickS zs s t k) t 1 _ om.ints n4l (by omega) (by omega)).mono ?_
    rintro e w20 ⟨rfl, hbb⟩
    clear pgc0 pgc1 pgc2 pg_lt
    have szw20 := hbb.size
    replace bel := bel.trans (hbb.mono bel.size)
    replace pa := pa.kept hbb
    replace pw := pw.kept hbb
    replace px := px.kept hbb
    replace pg := pg.kept hbb
    replace ph := ph.kept hbb
    replace ow := ow.below hbb
    replace om := om.below hbb
    replace oh := oh.below hbb
    clear hbb
    go_wp2
    go_ret
    exact ⟨rfl, bel⟩
end Go.Proofs.Ytkhbpfliobhmiaa
