/-
  The walk of FnExactStoredRow.
-/
import Derived.Test.YtachkiodmaoemaaSpW
import Derived.Test.YtachkiodmaoemaaOpen
import Derived.Deep.DeepCutAuto
namespace Go.Proofs.Ytachkiodmaoemaa
open Go.RowKit
set_option linter.unusedSimpArgs false
set_option linter.unusedVariables false

set_option maxHeartbeats 8000000 in
theorem fnExactStoredRow_walk (gg : Int) (gb : Int) (gr : Int) (gc : Int) (A : Option Addr) (n c : Nat) (zs : List Int) (sp : Int) (bank : Int) (row : Int) (w : World) (igg : I64 gg) (igb : I64 gb) (igr : I64 gr) (igc : I64 gc) (hA : Ints w A n zs) (hn : n ≤ maxLen) (iA : ∀ z ∈ zs, I64 z) (isp : I64 sp) (ibank : I64 bank) (irow : I64 row) :
    Calls Try.prog 6 #[.agg #[.int .i64 gg, .int .i64 gb, .int .i64 gr, .int .i64 gc], .agg #[.int .i64 sp, .slice A n c], .int .i64 bank, .int .i64 row] w fun e w' => e = .returned (.bool true) ∧ Below w.heap.size w w' := by
  clear igg igb igr igc iA isp ibank irow
  by_cases hz0 : (1048576) < (n : Int)
  · skip
    have bel : Below w.heap.size w w := Below.refl _ _
    go_enter Try.func6, Try.ntmps6
    go_wp2_with fail
    refine abs_call ?_
    intro W1 hW
    replace bel := (Below.alloc (Below.alloc bel (by first | exact bel.size | (have hbs := bel.size; simp <;> omega)) (.cells #[.int .i64 gg, .int .i64 gb, .int .i64 gr, .int .i64 gc] 23)) (by first | exact bel.size | (have hbs := bel.size; simp <;> omega)) (.cells #[.int .i64 sp, .slice A n c] 34))
    rw [← hW] at bel
    have pGeometry : Box W1 (w.heap.size) 23 #[.int .i64 gg, .int .i64 gb, .int .i64 gr, .int .i64 gc] := by rw [hW]; exact ((Box.newAt (by simp))).alloc _
    have pSpare : Box W1 (w.heap.size + 1) 34 #[.int .i64 sp, .slice A n c] := by rw [hW]; exact (Box.newAt (by simp))
    have szW1 : w.heap.size + 1 + 1 ≤ W1.heap.size := by rw [hW]; simp
    clear hW
    refine (szSpare_n A n c zs sp (1048576) _ (by omega) (by omega) hn (by omega)).mono ?_
    rintro e w2 ⟨rfl, hbb⟩
    have szw2 := hbb.size
    replace bel := bel.trans (hbb.mono bel.size)
    replace pGeometry := pGeometry.kept hbb
    replace pSpare := pSpare.kept hbb
    clear hbb
    go_wp2
    go_ret
    exact ⟨rfl, bel⟩
  · skip
    have t0 : decide ((1048576 - (n : Int)) < 0) = false := by simp; omega
    have hs0 : ((spStored gg gb gr gc sp zs bank row) != (spStored gg gb gr gc sp zs bank row)) = false := by simp
    have bel : Below w.heap.size w w := Below.refl _ _
    go_enter Try.func6, Try.ntmps6
    go_wp2_with fail
    refine abs_call ?_
    intro W3 hW
    replace bel := (Below.alloc (Below.alloc bel (by first | exact bel.size | (have hbs := bel.size; simp <;> omega)) (.cells #[.int .i64 gg, .int .i64 gb, .int .i64 gr, .int .i64 gc] 23)) (by first | exact bel.size | (have hbs := bel.size; simp <;> omega)) (.cells #[.int .i64 sp, .slice A n c] 34))
    rw [← hW] at bel
    have pGeometry : Box W3 (w.heap.size) 23 #[.int .i64 gg, .int .i64 gb, .int .i64 gr, .int .i64 gc] := by rw [hW]; exact ((Box.newAt (by simp))).alloc _
    have pSpare : Box W3 (w.heap.size + 1) 34 #[.int .i64 sp, .slice A n c] := by rw [hW]; exact (Box.newAt (by simp))
    have szW3 : w.heap.size + 1 + 1 ≤ W3.heap.size := by rw [hW]; simp
    clear hW
    refine (szSpare_y A n c zs sp (1048576) _ (by omega) (by omega)).mono ?_
    rintro e w4 ⟨rfl, hbb⟩
    have szw4 := hbb.size
    replace bel := bel.trans (hbb.mono bel.size)
    replace pGeometry := pGeometry.kept hbb
    replace pSpare := pSpare.kept hbb
    clear hbb
    go_wp2_with fail
    obtain ⟨pGeometryc0, pGeometryc1, pGeometryc2, pGeometryc3⟩ := pGeometry.c4
    have pGeometry_lt := pGeometry.lt
    obtain ⟨pSparec0, pSparec1⟩ := pSpare.c2
    have pSpare_lt := pSpare.lt
    have rd_Spare0 := hA.below bel
    go_region_held3 (fun W' => W'.cell? ⟨w.heap.size, 0, none⟩ = some (.int .i64 gg) ∧ W'.cell? ⟨w.heap.size, 1, none⟩ = some (.int .i64 gb) ∧ W'.cell? ⟨w.heap.size, 2, none⟩ = some (.int .i64 gr) ∧ W'.cell? ⟨w.heap.size, 3, none⟩ = some (.int .i64 gc) ∧ W'.cell? ⟨w.heap.size + 1, 0, none⟩ = some (.int .i64 sp) ∧ W'.cell? ⟨w.heap.size + 1, 1, none⟩ = some (.slice A n c))
      (first | exact ⟨pGeometryc0, pGeometryc1, pGeometryc2, pGeometryc3, pSparec0, pSparec1⟩ | exact ⟨pGeometry_q1c0, pGeometry_q1c1, pGeometry_q1c2, pGeometry_q1c3, pSpare_q1c0, pSpare_q1c1⟩ | exact ⟨pGeometry_q2c0, pGeometry_q2c1, pGeometry_q2c2, pGeometry_q2c3, pSpare_q2c0, pSpare_q2c1⟩ | exact ⟨pGeometry_q3c0, pGeometry_q3c1, pGeometry_q3c2, pGeometry_q3c3, pSpare_q3c0, pSpare_q3c1⟩)
      (first | (go_at_call 13; refine (toGeometry_h  gg gb gr gc _ ).mono ?_; rintro e w5 ⟨rfl, hb1'⟩; have hb1 : Below w4.heap.size w4 w5 := ⟨hb1'.os, hb1'.tape, hb1'.output, hb1'.size, hb1'.block⟩; have rd_Spare0_1 := rd_Spare0.below hb1; have pGeometry_q1 := pGeometry.kept hb1; obtain ⟨pGeometry_q1c0, pGeometry_q1c1, pGeometry_q1c2, pGeometry_q1c3⟩ := pGeometry_q1.c4; have pSpare_q1 := pSpare.kept hb1; obtain ⟨pSpare_q1c0, pSpare_q1c1⟩ := pSpare_q1.c2)
                 | (go_at_call 20; refine (toSpare_h A n c zs sp _ (by exact rd_Spare0_1) (by omega)).mono ?_; rintro e w6 ⟨A1, n1, c1, rfl, oaSpare, hb2'⟩; have hb2 : Below w5.heap.size w5 w6 := ⟨hb2'.os, hb2'.tape, hb2'.output, hb2'.size, hb2'.block⟩; have n1l : n1 ≤ 1048576 := (by have := oaSpare.len; have := hA.1; omega); have n1c : n1 ≤ c1 ∧ c1 ≤ maxLen := OwnI.cap oaSpare.1; have rd_Spare0_2 := rd_Spare0_1.below hb2; have pGeometry_q2 := pGeometry_q1.kept hb2; obtain ⟨pGeometry_q2c0, pGeometry_q2c1, pGeometry_q2c2, pGeometry_q2c3⟩ := pGeometry_q2.c4; have pSpare_q2 := pSpare_q1.kept hb2; obtain ⟨pSpare_q2c0, pSpare_q2c1⟩ := pSpare_q2.c2)
                 | (go_at_call 25; refine (sStoredRow_x gg gb gr gc A1 n1 c1 zs sp bank row _ oaSpare.ints n1l n1c).mono ?_; rintro e w7 ⟨rfl, hb3'⟩; have hb3 : Below w6.heap.size w6 w7 := ⟨hb3'.os, hb3'.tape, hb3'.output, hb3'.size, hb3'.block⟩; have pGeometry_q3 := pGeometry_q2.kept hb3; obtain ⟨pGeometry_q3c0, pGeometry_q3c1, pGeometry_q3c2, pGeometry_q3c3⟩ := pGeometry_q3.c4; have pSpare_q3 := pSpare_q2.kept hb3; obtain ⟨pSpare_q3c0, pSpare_q3c1⟩ := pSpare_q3.c2))
    clear rd_Spare0_1 pGeometry_q1 pGeometry_q1c0 pGeometry_q1c1 pGeometry_q1c2 pGeometry_q1c3 pSpare_q1 pSpare_q1c0 pSpare_q1c1 rd_Spare0_2 pGeometry_q2 pGeometry_q2c0 pGeometry_q2c1 pGeometry_q2c2 pGeometry_q2c3 pSpare_q2 pSpare_q2c0 pSpare_q2c1 pGeometry_q3 pGeometry_q3c0 pGeometry_q3c1 pGeometry_q3c2 pGeometry_q3c3 pSpare_q3 pSpare_q3c0 pSpare_q3c1 hb1' hb2' hb3' rd_Spare0
    clear pGeometryc0 pGeometryc1 pGeometryc2 pGeometryc3 pGeometry_lt pSparec0 pSparec1 pSpare_lt
    have szw5 := hb1.size
    replace bel := bel.trans (hb1.mono bel.size)
    replace pGeometry := pGeometry.kept hb1
    replace pSpare := pSpare.kept hb1
    clear hb1
    have szw6 := hb2.size
    replace bel := bel.trans (hb2.mono bel.size)
    replace pGeometry := pGeometry.kept hb2
    replace pSpare := pSpare.kept hb2
    clear hb2
    have szw7 := hb3.size
    replace bel := bel.trans (hb3.mono bel.size)
    replace pGeometry := pGeometry.kept hb3
    replace pSpare := pSpare.kept hb3
    replace oaSpare := oaSpare.below hb3
    clear hb3
    clear oaSpare
    obtain ⟨pSparec0, pSparec1⟩ := pSpare.c2
    have pSpare_lt := pSpare.lt
    go_wp2_with fail
    refine (toSpare_h A n c zs sp _ (hA.below bel) (by omega)).mono ?_
    rintro e w8 ⟨A3, n3, c3, rfl, oxSpare, hbb⟩
    have n3l : n3 ≤ 1048576 := by have := oxSpare.len; have := hA.1; omega
    have n3c : n3 ≤ c3 ∧ c3 ≤ maxLen := OwnI.cap oxSpare.1
    clear pSparec0 pSparec1 pSpare_lt
    have szw8 := hbb.size
    replace bel := bel.trans (hbb.mono bel.size)
    replace pGeometry := pGeometry.kept hbb
    replace pSpare := pSpare.kept hbb
    clear hbb
    go_wp2_with fail
    refine abs_code ?_
    intro W9 hW
    replace bel := (Below.alloc bel (by first | exact bel.size | (have hbs := bel.size; simp <;> omega)) (.cells #[.int .i64 sp, .slice A3 n3 c3] 26))
    rw [← hW] at bel
    replace pGeometry := (pGeometry).alloc (.cells #[.int .i64 sp, .slice A3 n3 c3] 26)
    rw [← hW] at pGeometry
    replace pSpare := (pSpare).alloc (.cells #[.int .i64 sp, .slice A3 n3 c3] 26)
    rw [← hW] at pSpare
    replace oxSpare := (oxSpare).alloc (.cells #[.int .i64 sp, .slice A3 n3 c3] 26)
    rw [← hW] at oxSpare
    have xSpare : Box W9 (w8.heap.size) 26 #[.int .i64 sp, .slice A3 n3 c3] := by rw [hW]; exact (Box.newAt (by simp))
    have szW9 : w8.heap.size + 1 ≤ W9.heap.size := by rw [hW]; simp
    clear hW
    obtain ⟨pGeometryc0, pGeometryc1, pGeometryc2, pGeometryc3⟩ := pGeometry.c4
    have pGeometry_lt := pGeometry.lt
    obtain ⟨xSparec0, xSparec1⟩ := xSpare.c2
    have xSpare_lt := xSpare.lt
    have rd_Spare0 := hA.below bel
    go_region_held3 (fun W' => W'.cell? ⟨w.heap.size, 0, none⟩ = some (.int .i64 gg) ∧ W'.cell? ⟨w.heap.size, 1, none⟩ = some (.int .i64 gb) ∧ W'.cell? ⟨w.heap.size, 2, none⟩ = some (.int .i64 gr) ∧ W'.cell? ⟨w.heap.size, 3, none⟩ = some (.int .i64 gc) ∧ W'.cell? ⟨w8.heap.size, 0, none⟩ = some (.int .i64 sp) ∧ W'.cell? ⟨w8.heap.size, 1, none⟩ = some (.slice A3 n3 c3))
      (first | exact ⟨pGeometryc0, pGeometryc1, pGeometryc2, pGeometryc3, xSparec0, xSparec1⟩ | exact ⟨pGeometry_q1c0, pGeometry_q1c1, pGeometry_q1c2, pGeometry_q1c3, xSpare_q1c0, xSpare_q1c1⟩ | exact ⟨pGeometry_q2c0, pGeometry_q2c1, pGeometry_q2c2, pGeometry_q2c3, xSpare_q2c0, xSpare_q2c1⟩)
      (first | (go_at_call 13; refine (toGeometry_h  gg gb gr gc _ ).mono ?_; rintro e w10 ⟨rfl, hb1'⟩; have hb1 : Below W9.heap.size W9 w10 := ⟨hb1'.os, hb1'.tape, hb1'.output, hb1'.size, hb1'.block⟩; have oxSpare_1 := oxSpare.below hb1; have rd_Spare0_1 := rd_Spare0.below hb1; have pGeometry_q1 := pGeometry.kept hb1; obtain ⟨pGeometry_q1c0, pGeometry_q1c1, pGeometry_q1c2, pGeometry_q1c3⟩ := pGeometry_q1.c4; have xSpare_q1 := xSpare.kept hb1; obtain ⟨xSpare_q1c0, xSpare_q1c1⟩ := xSpare_q1.c2)
                 | (go_at_call 26; refine (iStoredRow_x gg gb gr gc A3 n3 c3 zs sp bank row _ oxSpare_1.ints n3l n3c).mono ?_; rintro e w11 ⟨rfl, hb2'⟩; have hb2 : Below w10.heap.size w10 w11 := ⟨hb2'.os, hb2'.tape, hb2'.output, hb2'.size, hb2'.block⟩; have pGeometry_q2 := pGeometry_q1.kept hb2; obtain ⟨pGeometry_q2c0, pGeometry_q2c1, pGeometry_q2c2, pGeometry_q2c3⟩ := pGeometry_q2.c4; have xSpare_q2 := xSpare_q1.kept hb2; obtain ⟨xSpare_q2c0, xSpare_q2c1⟩ := xSpare_q2.c2))
    clear oxSpare_1 rd_Spare0_1 pGeometry_q1 pGeometry_q1c0 pGeometry_q1c1 pGeometry_q1c2 pGeometry_q1c3 xSpare_q1 xSpare_q1c0 xSpare_q1c1 pGeometry_q2 pGeometry_q2c0 pGeometry_q2c1 pGeometry_q2c2 pGeometry_q2c3 xSpare_q2 xSpare_q2c0 xSpare_q2c1 hb1' hb2' rd_Spare0
    clear pGeometryc0 pGeometryc1 pGeometryc2 pGeometryc3 pGeometry_lt xSparec0 xSparec1 xSpare_lt
    have szw10 := hb1.size
    replace bel := bel.trans (hb1.mono bel.size)
    replace pGeometry := pGeometry.kept hb1
    replace pSpare := pSpare.kept hb1
    replace xSpare := xSpare.kept hb1
    replace oxSpare := oxSpare.below hb1
    clear hb1
    have szw11 := hb2.size
    replace bel := bel.trans (hb2.mono bel.size)
    replace pGeometry := pGeometry.kept hb2
    replace pSpare := pSpare.kept hb2
    replace xSpare := xSpare.kept hb2
    replace oxSpare := oxSpare.below hb2
    clear hb2
    go_wp2_with fail
    obtain ⟨xSparec0, xSparec1⟩ := xSpare.c2
    have xSpare_lt := xSpare.lt
    obtain ⟨pSparec0, pSparec1⟩ := pSpare.c2
    have pSpare_lt := pSpare.lt
    have rd_Spare0 := hA.below bel
    go_region_held3 (fun W' => W'.cell? ⟨w8.heap.size, 0, none⟩ = some (.int .i64 sp) ∧ W'.cell? ⟨w8.heap.size, 1, none⟩ = some (.slice A3 n3 c3) ∧ W'.cell? ⟨w.heap.size + 1, 0, none⟩ = some (.int .i64 sp) ∧ W'.cell? ⟨w.heap.size + 1, 1, none⟩ = some (.slice A n c))
      (first | exact ⟨xSparec0, xSparec1, pSparec0, pSparec1⟩ | exact ⟨xSpare_q1c0, xSpare_q1c1, pSpare_q1c0, pSpare_q1c1⟩ | exact ⟨xSpare_q2c0, xSpare_q2c1, pSpare_q2c0, pSpare_q2c1⟩)
      (first | (go_at_call 20; refine (toSpare_h A n c zs sp _ (by exact rd_Spare0) (by omega)).mono ?_; rintro e w12 ⟨A7, n7, c7, rfl, oeSpare, hb1'⟩; have hb1 : Below w11.heap.size w11 w12 := ⟨hb1'.os, hb1'.tape, hb1'.output, hb1'.size, hb1'.block⟩; have n7l : n7 ≤ 1048576 := (by have := oeSpare.len; have := hA.1; omega); have n7c : n7 ≤ c7 ∧ c7 ≤ maxLen := OwnI.cap oeSpare.1; have oxSpare_1 := oxSpare.below hb1; have rd_Spare0_1 := rd_Spare0.below hb1; have xSpare_q1 := xSpare.kept hb1; obtain ⟨xSpare_q1c0, xSpare_q1c1⟩ := xSpare_q1.c2; have pSpare_q1 := pSpare.kept hb1; obtain ⟨pSpare_q1c0, pSpare_q1c1⟩ := pSpare_q1.c2)
                 | (go_at_call 15; refine (eqSpare_h A3 n3 c3 A7 n7 c7 zs sp _ oxSpare_1.ints oeSpare.ints n3l).mono ?_; rintro e w13 ⟨rfl, hb2'⟩; have hb2 : Below w12.heap.size w12 w13 := ⟨hb2'.os, hb2'.tape, hb2'.output, hb2'.size, hb2'.block⟩; have xSpare_q2 := xSpare_q1.kept hb2; obtain ⟨xSpare_q2c0, xSpare_q2c1⟩ := xSpare_q2.c2; have pSpare_q2 := pSpare_q1.kept hb2; obtain ⟨pSpare_q2c0, pSpare_q2c1⟩ := pSpare_q2.c2))
    clear oxSpare_1 rd_Spare0_1 xSpare_q1 xSpare_q1c0 xSpare_q1c1 pSpare_q1 pSpare_q1c0 pSpare_q1c1 xSpare_q2 xSpare_q2c0 xSpare_q2c1 pSpare_q2 pSpare_q2c0 pSpare_q2c1 hb1' hb2' rd_Spare0
    clear xSparec0 xSparec1 xSpare_lt pSparec0 pSparec1 pSpare_lt
    have szw12 := hb1.size
    replace bel := bel.trans (hb1.mono bel.size)
    replace pGeometry := pGeometry.kept hb1
    replace pSpare := pSpare.kept hb1
    replace xSpare := xSpare.kept hb1
    replace oxSpare := oxSpare.below hb1
    clear hb1
    have szw13 := hb2.size
    replace bel := bel.trans (hb2.mono bel.size)
    replace pGeometry := pGeometry.kept hb2
    replace pSpare := pSpare.kept hb2
    replace xSpare := xSpare.kept hb2
    replace oxSpare := oxSpare.below hb2
    replace oeSpare := oeSpare.below hb2
    clear hb2
    clear oeSpare
    go_wp2
    go_ret
    exact ⟨rfl, bel⟩
end Go.Proofs.Ytachkiodmaoemaa
