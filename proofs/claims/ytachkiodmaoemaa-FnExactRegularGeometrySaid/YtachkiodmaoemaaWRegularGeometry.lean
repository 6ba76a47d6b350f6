/-
  The walk of FnExactRegularGeometry.
-/
import Derived.Test.YtachkiodmaoemaaSpW
import Derived.Test.YtachkiodmaoemaaOpen
import Derived.Test.YtachkiodmaoemaaLater
import Derived.Deep.DeepCutAuto
namespace Go.Proofs.Ytachkiodmaoemaa
open Go.RowKit
set_option linter.unusedSimpArgs false
set_option linter.unusedVariables false

set_option maxHeartbeats 8000000 in
theorem fnExactRegularGeometry_walk (gg : Int) (gb : Int) (gr : Int) (gc : Int) (A : Option Addr) (n c : Nat) (zs : List Int) (sp : Int) (w : World) (igg : I64 gg) (igb : I64 gb) (igr : I64 gr) (igc : I64 gc) (hA : Ints w A n zs) (hn : n ≤ maxLen) (iA : ∀ z ∈ zs, I64 z) (isp : I64 sp) :
    Calls Try.prog 5 #[.agg #[.int .i64 gg, .int .i64 gb, .int .i64 gr, .int .i64 gc], .agg #[.int .i64 sp, .slice A n c]] w fun e w' => e = .returned (.bool true) ∧ Below w.heap.size w w' := by
  clear igg igb igr igc iA isp
  by_cases hz0 : (1048576) < (n : Int)
  · skip
    have bel : Below w.heap.size w w := Below.refl _ _
    go_enter Try.func5, Try.ntmps5
    go_wp2_with fail
    refine abs_call ?_
    intro W1 hW
    replace bel := (Below.alloc (Below.alloc bel (by first | exact bel.size | (have hbs := bel.size; simp <;> omega)) (.cells #[.int .i64 gg, .int .i64 gb, .int .i64 gr, .int .i64 gc] 23)) (by first | exact bel.size | (have hbs := bel.size; simp <;> omega)) (.cells #[.int .i64 sp, .slice A n c] 34))
    rw [← hW] at bel
    have pGeometry : Box W1 (w.heap.size) 23 #[.int .i64 gg, .int .i64 gb, .int .i64 gr, .int .i64 gc] := by rw [hW]; exact ((Box.newAt (by simp))).alloc _
    have pSpare : Box W1 (w.heap.size + 1) 34 #[.int .i64 sp, .slice A n c] := by rw [hW]; exact (Box.newAt (by simp))
    have szW1 : w.heap.size + 1 + 1 ≤ W1.heap.size := by rw [hW]; simp
    clear hW
    refine (szSpare_n A n c zs sp (1048576) _ (by omega) (by omega) hn (by omega)).mono ?_
    rintro e w2 ⟨rfl, hbb⟩
    have szw2 := hbb.size
    replace bel := bel.trans (hbb.mono bel.size)
    replace pGeometry := pGeometry.kept hbb
    replace pSpare := pSpare.kept hbb
    clear hbb
    go_wp2
    go_ret
    exact ⟨rfl, bel⟩
  · skip
    have t0 : decide ((1048576 - (n : Int)) < 0) = false := by simp; omega
    have bel : Below w.heap.size w w := Below.refl _ _
    go_enter Try.func5, Try.ntmps5
    go_wp2_with fail
    refine abs_call ?_
    intro W3 hW
    replace bel := (Below.alloc (Below.alloc bel (by first | exact bel.size | (have hbs := bel.size; simp <;> omega)) (.cells #[.int .i64 gg, .int .i64 gb, .int .i64 gr, .int .i64 gc] 23)) (by first | exact bel.size | (have hbs := bel.size; simp <;> omega)) (.cells #[.int .i64 sp, .slice A n c] 34))
    rw [← hW] at bel
    have pGeometry : Box W3 (w.heap.size) 23 #[.int .i64 gg, .int .i64 gb, .int .i64 gr, .int .i64 gc] := by rw [hW]; exact ((Box.newAt (by simp))).alloc _
    have pSpare : Box W3 (w.heap.size + 1) 34 #[.int .i64 sp, .slice A n c] := by rw [hW]; exact (Box.newAt (by simp))
    have szW3 : w.heap.size + 1 + 1 ≤ W3.heap.size := by rw [hW]; simp
    clear hW
    refine (szSpare_y A n c zs sp (1048576) _ (by omega) (by omega)).mono ?_
    rintro e w4 ⟨rfl, hbb⟩
    have szw4 := hbb.size
    replace bel := bel.trans (hbb.mono bel.size)
    replace pGeometry := pGeometry.kept hbb
    replace pSpare := pSpare.kept hbb
    clear hbb
    go_upto_region 5 with fail
    obtain ⟨pGeometryc0, pGeometryc1, pGeometryc2, pGeometryc3⟩ := pGeometry.c4
    have pGeometry_lt := pGeometry.lt
    obtain ⟨pSparec0, pSparec1⟩ := pSpare.c2
    have pSpare_lt := pSpare.lt
    have rd_Spare0 := hA.below bel
    go_cut [6] (fun s6 wx => ∃ (g2 : Nat), s6 = .pointer (some ⟨g2, 0, none⟩) ∧ w4.heap.size ≤ g2 ∧ Box wx g2 29 #[.int .i64 (rgG gg gb gr gc sp zs), .int .i64 (rgB gg gb gr gc sp zs), .int .i64 (rgR gg gb gr gc sp zs), .int .i64 (rgC gg gb gr gc sp zs)] ∧ Below w4.heap.size w4 wx)
    case first =>
      have hS : ∀ Y : World, Below w4.heap.size w4 Y → (Y.cell? ⟨w.heap.size, 0, none⟩ = some (.int .i64 gg) ∧ Y.cell? ⟨w.heap.size, 1, none⟩ = some (.int .i64 gb) ∧ Y.cell? ⟨w.heap.size, 2, none⟩ = some (.int .i64 gr) ∧ Y.cell? ⟨w.heap.size, 3, none⟩ = some (.int .i64 gc) ∧ Y.cell? ⟨w.heap.size + 1, 0, none⟩ = some (.int .i64 sp) ∧ Y.cell? ⟨w.heap.size + 1, 1, none⟩ = some (.slice A n c)) := fun Y hY => ⟨(hY.cell (p := ⟨w.heap.size, 0, none⟩) pGeometry_lt).trans pGeometryc0, (hY.cell (p := ⟨w.heap.size, 1, none⟩) pGeometry_lt).trans pGeometryc1, (hY.cell (p := ⟨w.heap.size, 2, none⟩) pGeometry_lt).trans pGeometryc2, (hY.cell (p := ⟨w.heap.size, 3, none⟩) pGeometry_lt).trans pGeometryc3, (hY.cell (p := ⟨w.heap.size + 1, 0, none⟩) pSpare_lt).trans pSparec0, (hY.cell (p := ⟨w.heap.size + 1, 1, none⟩) pSpare_lt).trans pSparec1⟩
      go_region_held3 (fun W' => W'.cell? ⟨w.heap.size, 0, none⟩ = some (.int .i64 gg) ∧ W'.cell? ⟨w.heap.size, 1, none⟩ = some (.int .i64 gb) ∧ W'.cell? ⟨w.heap.size, 2, none⟩ = some (.int .i64 gr) ∧ W'.cell? ⟨w.heap.size, 3, none⟩ = some (.int .i64 gc) ∧ W'.cell? ⟨w.heap.size + 1, 0, none⟩ = some (.int .i64 sp) ∧ W'.cell? ⟨w.heap.size + 1, 1, none⟩ = some (.slice A n c))
        (first | (with_reducible exact hS _ (Below.refl _ _)) | (with_reducible exact hS _ (hbt1)) | (with_reducible exact hS _ (hbt2)) | (with_reducible exact hS _ (hbt3)) | (with_reducible exact hS _ (lat_d (Below.refl _ _))) | (with_reducible exact hS _ (lat_d (hbt1))) | (with_reducible exact hS _ (lat_d (hbt2))) | (with_reducible exact hS _ (lat_d (hbt3))) | (with_reducible exact hS _ (lat_a (Below.refl _ _))) | (with_reducible exact hS _ (lat_a (hbt1))) | (with_reducible exact hS _ (lat_a (hbt2))) | (with_reducible exact hS _ (lat_a (hbt3))) | (with_reducible exact hS _ (lat_ad (Below.refl _ _))) | (with_reducible exact hS _ (lat_ad (hbt1))) | (with_reducible exact hS _ (lat_ad (hbt2))) | (with_reducible exact hS _ (lat_ad (hbt3))) | (with_reducible exact hS _ (lat_s4 (hbt3) (Nat.le_refl _))) | (with_reducible exact hS _ (lat_s4 (hbt3) (hbt1.size))) | (with_reducible exact hS _ (lat_s4 (hbt3) (hbt2.size))) | (with_reducible exact hS _ (lat_s4 (lat_a (hbt3)) (Nat.le_refl _))) | (with_reducible exact hS _ (lat_s4 (lat_a (hbt3)) (hbt1.size))) | (with_reducible exact hS _ (lat_s4 (lat_a (hbt3)) (hbt2.size))) | (with_reducible exact hS _ (lat_s4 (lat_a (hbt3)) (hbt3.size))) | fail)
        (first | (go_at_call 13; refine (toGeometry_h  gg gb gr gc _ ).mono ?_; rintro e w5 ⟨rfl, hb1'⟩; have hb1 : Below w4.heap.size w4 w5 := (by first | exact ⟨hb1'.os, hb1'.tape, hb1'.output, hb1'.size, hb1'.block⟩ | exact below_after_alloc (.cells #[.int .i64 0, .int .i64 0, .int .i64 0, .int .i64 0] 29) ⟨hb1'.os, hb1'.tape, hb1'.output, hb1'.size, hb1'.block⟩); (first | (replace bx := bx.kept hb1) | (have bx : Box w5 w4.heap.size 29 #[.int .i64 0, .int .i64 0, .int .i64 0, .int .i64 0] := box_after_alloc ⟨hb1'.os, hb1'.tape, hb1'.output, hb1'.size, hb1'.block⟩) | skip); have hbt1 := hb1; have hzz1 := hb1.size; (try (obtain ⟨bx1_0, bx1_1, bx1_2, bx1_3⟩ := bx.c4; have bxf := bx.frozen; have bxl := bx.lt)); have rd_Spare0_1 := rd_Spare0.below hb1; have pGeometry_q1 := pGeometry.kept hb1; obtain ⟨pGeometry_q1c0, pGeometry_q1c1, pGeometry_q1c2, pGeometry_q1c3⟩ := pGeometry_q1.c4; have pSpare_q1 := pSpare.kept hb1; obtain ⟨pSpare_q1c0, pSpare_q1c1⟩ := pSpare_q1.c2)
                     | (go_at_call 20; refine (toSpare_h A n c zs sp _ (by first | exact rd_Spare0_1 | exact rd_Spare0_1.alloc _) (by omega)).mono ?_; rintro e w6 ⟨A1, n1, c1, rfl, oaSpare, hb2'⟩; have hb2 : Below w5.heap.size w5 w6 := (by first | exact ⟨hb2'.os, hb2'.tape, hb2'.output, hb2'.size, hb2'.block⟩ | exact below_after_alloc (.cells #[.int .i64 0, .int .i64 0, .int .i64 0, .int .i64 0] 29) ⟨hb2'.os, hb2'.tape, hb2'.output, hb2'.size, hb2'.block⟩); (first | (replace bx := bx.kept hb2) | (have bx : Box w6 w5.heap.size 29 #[.int .i64 0, .int .i64 0, .int .i64 0, .int .i64 0] := box_after_alloc ⟨hb2'.os, hb2'.tape, hb2'.output, hb2'.size, hb2'.block⟩) | skip); have hbt2 := hbt1.trans (hb2.mono hbt1.size); have hzz2 := hb2.size; (try (obtain ⟨bx2_0, bx2_1, bx2_2, bx2_3⟩ := bx.c4; have bxf := bx.frozen; have bxl := bx.lt)); have n1l : n1 ≤ 1048576 := (by have := oaSpare.len; have := hA.1; omega); have n1c : n1 ≤ c1 ∧ c1 ≤ maxLen := OwnI.cap oaSpare.1; have rd_Spare0_2 := rd_Spare0_1.below hb2; have pGeometry_q2 := pGeometry_q1.kept hb2; obtain ⟨pGeometry_q2c0, pGeometry_q2c1, pGeometry_q2c2, pGeometry_q2c3⟩ := pGeometry_q2.c4; have pSpare_q2 := pSpare_q1.kept hb2; obtain ⟨pSpare_q2c0, pSpare_q2c1⟩ := pSpare_q2.c2)
                     | (go_at_call 22; refine (sRegularGeometry_x gg gb gr gc A1 n1 c1 zs sp _ (by first | exact oaSpare.ints | exact (oaSpare.alloc _).ints) n1l n1c).mono ?_; rintro e w7 ⟨rfl, hb3'⟩; have hb3 : Below w6.heap.size w6 w7 := (by first | exact ⟨hb3'.os, hb3'.tape, hb3'.output, hb3'.size, hb3'.block⟩ | exact below_after_alloc (.cells #[.int .i64 0, .int .i64 0, .int .i64 0, .int .i64 0] 29) ⟨hb3'.os, hb3'.tape, hb3'.output, hb3'.size, hb3'.block⟩); (first | (replace bx := bx.kept hb3) | (have bx : Box w7 w6.heap.size 29 #[.int .i64 0, .int .i64 0, .int .i64 0, .int .i64 0] := box_after_alloc ⟨hb3'.os, hb3'.tape, hb3'.output, hb3'.size, hb3'.block⟩) | skip); have hbt3 := hbt2.trans (hb3.mono hbt2.size); have hzz3 := hb3.size; (try (obtain ⟨bx3_0, bx3_1, bx3_2, bx3_3⟩ := bx.c4; have bxf := bx.frozen; have bxl := bx.lt)); have pGeometry_q3 := pGeometry_q2.kept hb3; obtain ⟨pGeometry_q3c0, pGeometry_q3c1, pGeometry_q3c2, pGeometry_q3c3⟩ := pGeometry_q3.c4; have pSpare_q3 := pSpare_q2.kept hb3; obtain ⟨pSpare_q3c0, pSpare_q3c1⟩ := pSpare_q3.c2))
      all_goals
        go_wp2_with fail
        go_meet
        first
        | (with_reducible exact ⟨_, rfl, hbt3.size, Box.new _ _ _, lat_a hbt3⟩)
        | (with_reducible exact ⟨_, rfl, Nat.le_refl _, box_s4 bx, lat_s4 hbt3 (Nat.le_refl _)⟩)
        | (with_reducible exact ⟨_, rfl, hbt1.size, box_s4 bx, lat_s4 hbt3 (hbt1.size)⟩)
        | (with_reducible exact ⟨_, rfl, hbt2.size, box_s4 bx, lat_s4 hbt3 (hbt2.size)⟩)
    case rest =>
      skip
      obtain ⟨g2, rfl, hg2, pwF, hbb⟩ := hcut
      clear rd_Spare0
      clear pGeometryc0 pGeometryc1 pGeometryc2 pGeometryc3 pGeometry_lt pSparec0 pSparec1 pSpare_lt
      have szwc := hbb.size
      replace bel := bel.trans (hbb.mono bel.size)
      replace pGeometry := pGeometry.kept hbb
      replace pSpare := pSpare.kept hbb
      clear hbb
      obtain ⟨wc2, hwc⟩ : ∃ v : World, wc = v := ⟨_, rfl⟩
      subst hwc
      obtain ⟨pSparec0, pSparec1⟩ := pSpare.c2
      have pSpare_lt := pSpare.lt
      go_wp2_with fail
      refine (toSpare_h A n c zs sp _ (hA.below bel) (by omega)).mono ?_
      rintro e w8 ⟨A3, n3, c3, rfl, oxSpare, hbb⟩
      have n3l : n3 ≤ 1048576 := by have := oxSpare.len; have := hA.1; omega
      have n3c : n3 ≤ c3 ∧ c3 ≤ maxLen := OwnI.cap oxSpare.1
      clear pSparec0 pSparec1 pSpare_lt
      have szw8 := hbb.size
      replace bel := bel.trans (hbb.mono bel.size)
      replace pGeometry := pGeometry.kept hbb
      replace pSpare := pSpare.kept hbb
      replace pwF := pwF.kept hbb
      clear hbb
      go_upto_region 7 with fail
      refine abs_code ?_
      intro W9 hW
      replace bel := (Below.alloc bel (by first | exact bel.size | (have hbs := bel.size; simp <;> omega)) (.cells #[.int .i64 sp, .slice A3 n3 c3] 26))
      rw [← hW] at bel
      replace pGeometry := (pGeometry).alloc (.cells #[.int .i64 sp, .slice A3 n3 c3] 26)
      rw [← hW] at pGeometry
      replace pSpare := (pSpare).alloc (.cells #[.int .i64 sp, .slice A3 n3 c3] 26)
      rw [← hW] at pSpare
      replace pwF := (pwF).alloc (.cells #[.int .i64 sp, .slice A3 n3 c3] 26)
      rw [← hW] at pwF
      replace oxSpare := (oxSpare).alloc (.cells #[.int .i64 sp, .slice A3 n3 c3] 26)
      rw [← hW] at oxSpare
      have xSpare : Box W9 (w8.heap.size) 26 #[.int .i64 sp, .slice A3 n3 c3] := by rw [hW]; exact (Box.newAt (by simp))
      have szW9 : w8.heap.size + 1 ≤ W9.heap.size := by rw [hW]; simp
      clear hW
      obtain ⟨pGeometryc0, pGeometryc1, pGeometryc2, pGeometryc3⟩ := pGeometry.c4
      have pGeometry_lt := pGeometry.lt
      obtain ⟨xSparec0, xSparec1⟩ := xSpare.c2
      have xSpare_lt := xSpare.lt
      have rd_Spare0 := hA.below bel
      go_cut [8] (fun s8 wx => ∃ (g4 : Nat), s8 = .pointer (some ⟨g4, 0, none⟩) ∧ W9.heap.size ≤ g4 ∧ Box wx g4 29 #[.int .i64 (rgG gg gb gr gc sp zs), .int .i64 (rgB gg gb gr gc sp zs), .int .i64 (rgR gg gb gr gc sp zs), .int .i64 (rgC gg gb gr gc sp zs)] ∧ Below W9.heap.size W9 wx)
      case first =>
        have hS : ∀ Y : World, Below W9.heap.size W9 Y → (Y.cell? ⟨w.heap.size, 0, none⟩ = some (.int .i64 gg) ∧ Y.cell? ⟨w.heap.size, 1, none⟩ = some (.int .i64 gb) ∧ Y.cell? ⟨w.heap.size, 2, none⟩ = some (.int .i64 gr) ∧ Y.cell? ⟨w.heap.size, 3, none⟩ = some (.int .i64 gc) ∧ Y.cell? ⟨w8.heap.size, 0, none⟩ = some (.int .i64 sp) ∧ Y.cell? ⟨w8.heap.size, 1, none⟩ = some (.slice A3 n3 c3)) := fun Y hY => ⟨(hY.cell (p := ⟨w.heap.size, 0, none⟩) pGeometry_lt).trans pGeometryc0, (hY.cell (p := ⟨w.heap.size, 1, none⟩) pGeometry_lt).trans pGeometryc1, (hY.cell (p := ⟨w.heap.size, 2, none⟩) pGeometry_lt).trans pGeometryc2, (hY.cell (p := ⟨w.heap.size, 3, none⟩) pGeometry_lt).trans pGeometryc3, (hY.cell (p := ⟨w8.heap.size, 0, none⟩) xSpare_lt).trans xSparec0, (hY.cell (p := ⟨w8.heap.size, 1, none⟩) xSpare_lt).trans xSparec1⟩
        go_region_held3 (fun W' => W'.cell? ⟨w.heap.size, 0, none⟩ = some (.int .i64 gg) ∧ W'.cell? ⟨w.heap.size, 1, none⟩ = some (.int .i64 gb) ∧ W'.cell? ⟨w.heap.size, 2, none⟩ = some (.int .i64 gr) ∧ W'.cell? ⟨w.heap.size, 3, none⟩ = some (.int .i64 gc) ∧ W'.cell? ⟨w8.heap.size, 0, none⟩ = some (.int .i64 sp) ∧ W'.cell? ⟨w8.heap.size, 1, none⟩ = some (.slice A3 n3 c3))
          (first | (with_reducible exact hS _ (Below.refl _ _)) | (with_reducible exact hS _ (hbt1)) | (with_reducible exact hS _ (hbt2)) | (with_reducible exact hS _ (lat_d (Below.refl _ _))) | (with_reducible exact hS _ (lat_d (hbt1))) | (with_reducible exact hS _ (lat_d (hbt2))) | (with_reducible exact hS _ (lat_a (Below.refl _ _))) | (with_reducible exact hS _ (lat_a (hbt1))) | (with_reducible exact hS _ (lat_a (hbt2))) | (with_reducible exact hS _ (lat_ad (Below.refl _ _))) | (with_reducible exact hS _ (lat_ad (hbt1))) | (with_reducible exact hS _ (lat_ad (hbt2))) | (with_reducible exact hS _ (lat_s4 (hbt2) (Nat.le_refl _))) | (with_reducible exact hS _ (lat_s4 (hbt2) (hbt1.size))) | (with_reducible exact hS _ (lat_s4 (lat_a (hbt2)) (Nat.le_refl _))) | (with_reducible exact hS _ (lat_s4 (lat_a (hbt2)) (hbt1.size))) | (with_reducible exact hS _ (lat_s4 (lat_a (hbt2)) (hbt2.size))) | fail)
          (first | (go_at_call 13; refine (toGeometry_h  gg gb gr gc _ ).mono ?_; rintro e w10 ⟨rfl, hb1'⟩; have hb1 : Below W9.heap.size W9 w10 := (by first | exact ⟨hb1'.os, hb1'.tape, hb1'.output, hb1'.size, hb1'.block⟩ | exact below_after_alloc (.cells #[.int .i64 0, .int .i64 0, .int .i64 0, .int .i64 0] 29) ⟨hb1'.os, hb1'.tape, hb1'.output, hb1'.size, hb1'.block⟩); (first | (replace bx := bx.kept hb1) | (have bx : Box w10 W9.heap.size 29 #[.int .i64 0, .int .i64 0, .int .i64 0, .int .i64 0] := box_after_alloc ⟨hb1'.os, hb1'.tape, hb1'.output, hb1'.size, hb1'.block⟩) | skip); have hbt1 := hb1; have hzz1 := hb1.size; (try (obtain ⟨bx1_0, bx1_1, bx1_2, bx1_3⟩ := bx.c4; have bxf := bx.frozen; have bxl := bx.lt)); have oxSpare_1 := oxSpare.below hb1; have rd_Spare0_1 := rd_Spare0.below hb1; have pGeometry_q1 := pGeometry.kept hb1; obtain ⟨pGeometry_q1c0, pGeometry_q1c1, pGeometry_q1c2, pGeometry_q1c3⟩ := pGeometry_q1.c4; have xSpare_q1 := xSpare.kept hb1; obtain ⟨xSpare_q1c0, xSpare_q1c1⟩ := xSpare_q1.c2)
                         | (go_at_call 23; refine (iRegularGeometry_x gg gb gr gc A3 n3 c3 zs sp _ (by first | exact oxSpare_1.ints | exact (oxSpare_1.alloc _).ints) n3l n3c).mono ?_; rintro e w11 ⟨rfl, hb2'⟩; have hb2 : Below w10.heap.size w10 w11 := (by first | exact ⟨hb2'.os, hb2'.tape, hb2'.output, hb2'.size, hb2'.block⟩ | exact below_after_alloc (.cells #[.int .i64 0, .int .i64 0, .int .i64 0, .int .i64 0] 29) ⟨hb2'.os, hb2'.tape, hb2'.output, hb2'.size, hb2'.block⟩); (first | (replace bx := bx.kept hb2) | (have bx : Box w11 w10.heap.size 29 #[.int .i64 0, .int .i64 0, .int .i64 0, .int .i64 0] := box_after_alloc ⟨hb2'.os, hb2'.tape, hb2'.output, hb2'.size, hb2'.block⟩) | skip); have hbt2 := hbt1.trans (hb2.mono hbt1.size); have hzz2 := hb2.size; (try (obtain ⟨bx2_0, bx2_1, bx2_2, bx2_3⟩ := bx.c4; have bxf := bx.frozen; have bxl := bx.lt)); have pGeometry_q2 := pGeometry_q1.kept hb2; obtain ⟨pGeometry_q2c0, pGeometry_q2c1, pGeometry_q2c2, pGeometry_q2c3⟩ := pGeometry_q2.c4; have xSpare_q2 := xSpare_q1.kept hb2; obtain ⟨xSpare_q2c0, xSpare_q2c1⟩ := xSpare_q2.c2))
        all_goals
          go_wp2_with fail
          go_meet
          first
          | (with_reducible exact ⟨_, rfl, hbt2.size, Box.new _ _ _, lat_a hbt2⟩)
          | (with_reducible exact ⟨_, rfl, Nat.le_refl _, box_s4 bx, lat_s4 hbt2 (Nat.le_refl _)⟩)
          | (with_reducible exact ⟨_, rfl, hbt1.size, box_s4 bx, lat_s4 hbt2 (hbt1.size)⟩)
      case rest =>
        skip
        obtain ⟨g4, rfl, hg4, pgF, hbb⟩ := hcut
        clear rd_Spare0
        clear pGeometryc0 pGeometryc1 pGeometryc2 pGeometryc3 pGeometry_lt xSparec0 xSparec1 xSpare_lt
        have szwc := hbb.size
        replace bel := bel.trans (hbb.mono bel.size)
        replace pGeometry := pGeometry.kept hbb
        replace pSpare := pSpare.kept hbb
        replace pwF := pwF.kept hbb
        replace xSpare := xSpare.kept hbb
        replace oxSpare := oxSpare.below hbb
        clear hbb
        obtain ⟨wc4, hwc⟩ : ∃ v : World, wc = v := ⟨_, rfl⟩
        subst hwc
        obtain ⟨pgFc0, pgFc1, pgFc2, pgFc3⟩ := pgF.c4
        have pgF_lt := pgF.lt
        obtain ⟨pwFc0, pwFc1, pwFc2, pwFc3⟩ := pwF.c4
        have pwF_lt := pwF.lt
        go_wp2_with fail
        refine (eqGeometry_h (rgG gg gb gr gc sp zs) (rgB gg gb gr gc sp zs) (rgR gg gb gr gc sp zs) (rgC gg gb gr gc sp zs) _).mono ?_
        rintro e w12 ⟨rfl, hbb⟩
        clear pgFc0 pgFc1 pgFc2 pgFc3 pgF_lt pwFc0 pwFc1 pwFc2 pwFc3 pwF_lt
        have szw12 := hbb.size
        replace bel := bel.trans (hbb.mono bel.size)
        replace pGeometry := pGeometry.kept hbb
        replace pSpare := pSpare.kept hbb
        replace pwF := pwF.kept hbb
        replace xSpare := xSpare.kept hbb
        replace pgF := pgF.kept hbb
        replace oxSpare := oxSpare.below hbb
        clear hbb
        go_wp2_with fail
        obtain ⟨xSparec0, xSparec1⟩ := xSpare.c2
        have xSpare_lt := xSpare.lt
        obtain ⟨pSparec0, pSparec1⟩ := pSpare.c2
        have pSpare_lt := pSpare.lt
        have rd_Spare0 := hA.below bel
        go_region_held3 (fun W' => W'.cell? ⟨w8.heap.size, 0, none⟩ = some (.int .i64 sp) ∧ W'.cell? ⟨w8.heap.size, 1, none⟩ = some (.slice A3 n3 c3) ∧ W'.cell? ⟨w.heap.size + 1, 0, none⟩ = some (.int .i64 sp) ∧ W'.cell? ⟨w.heap.size + 1, 1, none⟩ = some (.slice A n c))
          (first | exact ⟨xSparec0, xSparec1, pSparec0, pSparec1⟩ | exact ⟨xSpare_q1c0, xSpare_q1c1, pSpare_q1c0, pSpare_q1c1⟩ | exact ⟨xSpare_q2c0, xSpare_q2c1, pSpare_q2c0, pSpare_q2c1⟩)
          (first | (go_at_call 20; refine (toSpare_h A n c zs sp _ (by exact rd_Spare0) (by omega)).mono ?_; rintro e w13 ⟨A7, n7, c7, rfl, oeSpare, hb1'⟩; have hb1 : Below w12.heap.size w12 w13 := ⟨hb1'.os, hb1'.tape, hb1'.output, hb1'.size, hb1'.block⟩; have n7l : n7 ≤ 1048576 := (by have := oeSpare.len; have := hA.1; omega); have n7c : n7 ≤ c7 ∧ c7 ≤ maxLen := OwnI.cap oeSpare.1; have oxSpare_1 := oxSpare.below hb1; have rd_Spare0_1 := rd_Spare0.below hb1; have xSpare_q1 := xSpare.kept hb1; obtain ⟨xSpare_q1c0, xSpare_q1c1⟩ := xSpare_q1.c2; have pSpare_q1 := pSpare.kept hb1; obtain ⟨pSpare_q1c0, pSpare_q1c1⟩ := pSpare_q1.c2)
                         | (go_at_call 15; refine (eqSpare_h A3 n3 c3 A7 n7 c7 zs sp _ oxSpare_1.ints oeSpare.ints n3l).mono ?_; rintro e w14 ⟨rfl, hb2'⟩; have hb2 : Below w13.heap.size w13 w14 := ⟨hb2'.os, hb2'.tape, hb2'.output, hb2'.size, hb2'.block⟩; have xSpare_q2 := xSpare_q1.kept hb2; obtain ⟨xSpare_q2c0, xSpare_q2c1⟩ := xSpare_q2.c2; have pSpare_q2 := pSpare_q1.kept hb2; obtain ⟨pSpare_q2c0, pSpare_q2c1⟩ := pSpare_q2.c2))
        clear oxSpare_1 rd_Spare0_1 xSpare_q1 xSpare_q1c0 xSpare_q1c1 pSpare_q1 pSpare_q1c0 pSpare_q1c1 xSpare_q2 xSpare_q2c0 xSpare_q2c1 pSpare_q2 pSpare_q2c0 pSpare_q2c1 hb1' hb2' rd_Spare0
        clear xSparec0 xSparec1 xSpare_lt pSparec0 pSparec1 pSpare_lt
        have szw13 := hb1.size
        replace bel := bel.trans (hb1.mono bel.size)
        replace pGeometry := pGeometry.kept hb1
        replace pSpare := pSpare.kept hb1
        replace pwF := pwF.kept hb1
        replace xSpare := xSpare.kept hb1
        replace pgF := pgF.kept hb1
        replace oxSpare := oxSpare.below hb1
        clear hb1
        have szw14 := hb2.size
        replace bel := bel.trans (hb2.mono bel.size)
        replace pGeometry := pGeometry.kept hb2
        replace pSpare := pSpare.kept hb2
        replace pwF := pwF.kept hb2
        replace xSpare := xSpare.kept hb2
        replace pgF := pgF.kept hb2
        replace oxSpare := oxSpare.below hb2
        replace oeSpare := oeSpare.below hb2
        clear hb2
        clear oeSpare
        go_wp2
        go_ret
        exact ⟨rfl, bel⟩
end Go.Proofs.Ytachkiodmaoemaa
