/-
  The walk of FnExactSenseRow.
-/
import Derived.Test.YtbapamfomfbmmaaSenH
import Derived.Test.YtbapamfomfbmmaaGeo
import Derived.Test.YtbapamfomfbmmaaOpen
import Derived.Test.YtbapamfomfbmmaaLater
import Derived.Deep.DeepCutAuto
namespace Go.Proofs.Ytbapamfomfbmmaa
open Go.RowKit
set_option linter.unusedSimpArgs false
set_option linter.unusedVariables false

set_option maxRecDepth 100000 in
set_option maxHeartbeats 16000000 in
theorem fnExactSenseRow_walk (gg : Int) (gb : Int) (gr : Int) (gc : Int) (la : Int) (lh : Int) (A : Option Addr) (n c : Nat) (vs : List CV) (B : Option Addr) (m d : Nat) (ag : List Int) (D : Option Addr) (p q : Nat) (ht : List Int) (bank : Int) (row : Int) (w : World) (igg : I64 gg) (igb : I64 gb) (igr : I64 gr) (igc : I64 gc) (ila : I64 la) (ilh : I64 lh) (hA : Cs w A n vs) (hvs : ∀ v ∈ vs, v.1.length ≤ maxLen) (hn : n ≤ maxLen) (hB : Ints w B m ag) (hm : m ≤ maxLen) (iB : ∀ z ∈ ag, I64 z) (hD : Ints w D p ht) (hp : p ≤ maxLen) (iD : ∀ z ∈ ht, I64 z) (ibank : I64 bank) (irow : I64 row) :
    Calls Try.prog 10 #[.agg #[.int .i64 gg, .int .i64 gb, .int .i64 gr, .int .i64 gc], .agg #[.int .i64 la, .int .i64 lh], .agg #[.slice A n c, .slice B m d, .slice D p q], .int .i64 bank, .int .i64 row] w fun e w' => e = .returned (.bool true) ∧ Below w.heap.size w w' := by
  clear igg igb igr igc ila ilh iB iD ibank irow
  by_cases hz0 : (1048576) < (csz vs + m + p : Int)
  · skip
    have bel : Below w.heap.size w w := Below.refl _ _
    go_enter Try.func10, Try.ntmps10
    go_wp2_with fail
    refine abs_call ?_
    intro W1 hW
    replace bel := (Below.alloc (Below.alloc (Below.alloc bel (by first | exact bel.size | (have hbs := bel.size; simp <;> omega)) (.cells #[.int .i64 gg, .int .i64 gb, .int .i64 gr, .int .i64 gc] 78)) (by first | exact bel.size | (have hbs := bel.size; simp <;> omega)) (.cells #[.int .i64 la, .int .i64 lh] 80)) (by first | exact bel.size | (have hbs := bel.size; simp <;> omega)) (.cells #[.slice A n c, .slice B m d, .slice D p q] 83))
    rw [← hW] at bel
    have pGeometry : Box W1 (w.heap.size) 78 #[.int .i64 gg, .int .i64 gb, .int .i64 gr, .int .i64 gc] := by rw [hW]; exact (((Box.newAt (by simp))).alloc _).alloc _
    have pLimits : Box W1 (w.heap.size + 1) 80 #[.int .i64 la, .int .i64 lh] := by rw [hW]; exact ((Box.newAt (by simp))).alloc _
    have pArray : Box W1 (w.heap.size + 1 + 1) 83 #[.slice A n c, .slice B m d, .slice D p q] := by rw [hW]; exact (Box.newAt (by simp))
    have szW1 : w.heap.size + 1 + 1 + 1 ≤ W1.heap.size := by rw [hW]; simp
    clear hW
    refine (szArray_n A n c B m d D p q vs ag ht (1048576) _ (hA.below bel) hvs (by omega) (by omega) hn hm hp (by omega)).mono ?_
    rintro e w2 ⟨rfl, hbb⟩
    have szw2 := hbb.size
    replace bel := bel.trans (hbb.mono bel.size)
    replace pGeometry := pGeometry.kept hbb
    replace pLimits := pLimits.kept hbb
    replace pArray := pArray.kept hbb
    clear hbb
    go_wp2
    go_ret
    exact ⟨rfl, bel⟩
  · skip
    have t0 : decide ((1048576 - (csz vs : Int) - (m : Int) - (p : Int)) < 0) = false := by simp; omega
    have bel : Below w.heap.size w w := Below.refl _ _
    go_enter Try.func10, Try.ntmps10
    go_wp2_with fail
    refine abs_call ?_
    intro W3 hW
    replace bel := (Below.alloc (Below.alloc (Below.alloc bel (by first | exact bel.size | (have hbs := bel.size; simp <;> omega)) (.cells #[.int .i64 gg, .int .i64 gb, .int .i64 gr, .int .i64 gc] 78)) (by first | exact bel.size | (have hbs := bel.size; simp <;> omega)) (.cells #[.int .i64 la, .int .i64 lh] 80)) (by first | exact bel.size | (have hbs := bel.size; simp <;> omega)) (.cells #[.slice A n c, .slice B m d, .slice D p q] 83))
    rw [← hW] at bel
    have pGeometry : Box W3 (w.heap.size) 78 #[.int .i64 gg, .int .i64 gb, .int .i64 gr, .int .i64 gc] := by rw [hW]; exact (((Box.newAt (by simp))).alloc _).alloc _
    have pLimits : Box W3 (w.heap.size + 1) 80 #[.int .i64 la, .int .i64 lh] := by rw [hW]; exact ((Box.newAt (by simp))).alloc _
    have pArray : Box W3 (w.heap.size + 1 + 1) 83 #[.slice A n c, .slice B m d, .slice D p q] := by rw [hW]; exact (Box.newAt (by simp))
    have szW3 : w.heap.size + 1 + 1 + 1 ≤ W3.heap.size := by rw [hW]; simp
    clear hW
    refine (szArray_y A n c B m d D p q vs ag ht (1048576) _ (hA.below bel) (by omega) (by omega)).mono ?_
    rintro e w4 ⟨rfl, hbb⟩
    have szw4 := hbb.size
    replace bel := bel.trans (hbb.mono bel.size)
    replace pGeometry := pGeometry.kept hbb
    replace pLimits := pLimits.kept hbb
    replace pArray := pArray.kept hbb
    clear hbb
    go_upto_region 5 with fail
    obtain ⟨pGeometryc0, pGeometryc1, pGeometryc2, pGeometryc3⟩ := pGeometry.c4
    have pGeometry_lt := pGeometry.lt
    obtain ⟨pLimitsc0, pLimitsc1⟩ := pLimits.c2
    have pLimits_lt := pLimits.lt
    obtain ⟨pArrayc0, pArrayc1, pArrayc2⟩ := pArray.c3
    have pArray_lt := pArray.lt
    have rd_Array0 := hA.below bel
    have rd_Array1 := hB.below bel
    have rd_Array2 := hD.below bel
    go_cut [12] (fun s12 wx => ∃ (g2 : Nat) (A2 : Option Addr) (n2 c2 : Nat) (B2 : Option Addr) (m2 d2 : Nat) (D2 : Option Addr) (p2 q2 : Nat), s12 = .pointer (some ⟨g2, 0, none⟩) ∧ w4.heap.size ≤ g2 ∧ Box wx g2 87 #[.slice A2 n2 c2, .slice B2 m2 d2, .slice D2 p2 q2] ∧ (∃ lo hi : Nat, OwnA wx lo hi A2 n2 c2 (srV gg gb gr gc la lh vs ag ht bank row) B2 m2 d2 (srA gg gb gr gc vs ag ht bank row) D2 p2 q2 (srH gg gb gr gc vs ag ht bank row) ∧ w4.heap.size ≤ lo ∧ hi ≤ wx.heap.size ∧ (g2 < lo ∨ hi ≤ g2)) ∧ Below w4.heap.size w4 wx)
    case first =>
      have hS : ∀ Y : World, Below w4.heap.size w4 Y → (Y.cell? ⟨w.heap.size, 0, none⟩ = some (.int .i64 gg) ∧ Y.cell? ⟨w.heap.size, 1, none⟩ = some (.int .i64 gb) ∧ Y.cell? ⟨w.heap.size, 2, none⟩ = some (.int .i64 gr) ∧ Y.cell? ⟨w.heap.size, 3, none⟩ = some (.int .i64 gc) ∧ Y.cell? ⟨w.heap.size + 1, 0, none⟩ = some (.int .i64 la) ∧ Y.cell? ⟨w.heap.size + 1, 1, none⟩ = some (.int .i64 lh) ∧ Y.cell? ⟨w.heap.size + 1 + 1, 0, none⟩ = some (.slice A n c) ∧ Y.cell? ⟨w.heap.size + 1 + 1, 1, none⟩ = some (.slice B m d) ∧ Y.cell? ⟨w.heap.size + 1 + 1, 2, none⟩ = some (.slice D p q)) := fun Y hY => ⟨(hY.cell (p := ⟨w.heap.size, 0, none⟩) pGeometry_lt).trans pGeometryc0, (hY.cell (p := ⟨w.heap.size, 1, none⟩) pGeometry_lt).trans pGeometryc1, (hY.cell (p := ⟨w.heap.size, 2, none⟩) pGeometry_lt).trans pGeometryc2, (hY.cell (p := ⟨w.heap.size, 3, none⟩) pGeometry_lt).trans pGeometryc3, (hY.cell (p := ⟨w.heap.size + 1, 0, none⟩) pLimits_lt).trans pLimitsc0, (hY.cell (p := ⟨w.heap.size + 1, 1, none⟩) pLimits_lt).trans pLimitsc1, (hY.cell (p := ⟨w.heap.size + 1 + 1, 0, none⟩) pArray_lt).trans pArrayc0, (hY.cell (p := ⟨w.heap.size + 1 + 1, 1, none⟩) pArray_lt).trans pArrayc1, (hY.cell (p := ⟨w.heap.size + 1 + 1, 2, none⟩) pArray_lt).trans pArrayc2⟩
      go_region_held3 (fun W' => W'.cell? ⟨w.heap.size, 0, none⟩ = some (.int .i64 gg) ∧ W'.cell? ⟨w.heap.size, 1, none⟩ = some (.int .i64 gb) ∧ W'.cell? ⟨w.heap.size, 2, none⟩ = some (.int .i64 gr) ∧ W'.cell? ⟨w.heap.size, 3, none⟩ = some (.int .i64 gc) ∧ W'.cell? ⟨w.heap.size + 1, 0, none⟩ = some (.int .i64 la) ∧ W'.cell? ⟨w.heap.size + 1, 1, none⟩ = some (.int .i64 lh) ∧ W'.cell? ⟨w.heap.size + 1 + 1, 0, none⟩ = some (.slice A n c) ∧ W'.cell? ⟨w.heap.size + 1 + 1, 1, none⟩ = some (.slice B m d) ∧ W'.cell? ⟨w.heap.size + 1 + 1, 2, none⟩ = some (.slice D p q))
        (first | (with_reducible exact hS _ (Below.refl _ _)) | (with_reducible exact hS _ (hbt1)) | (with_reducible exact hS _ (hbt2)) | (with_reducible exact hS _ (hbt3)) | (with_reducible exact hS _ (hbt4)) | (with_reducible exact hS _ (lat_d (Below.refl _ _))) | (with_reducible exact hS _ (lat_d (hbt1))) | (with_reducible exact hS _ (lat_d (hbt2))) | (with_reducible exact hS _ (lat_d (hbt3))) | (with_reducible exact hS _ (lat_d (hbt4))) | (with_reducible exact hS _ (lat_a (Below.refl _ _))) | (with_reducible exact hS _ (lat_a (hbt1))) | (with_reducible exact hS _ (lat_a (hbt2))) | (with_reducible exact hS _ (lat_a (hbt3))) | (with_reducible exact hS _ (lat_a (hbt4))) | (with_reducible exact hS _ (lat_ad (Below.refl _ _))) | (with_reducible exact hS _ (lat_ad (hbt1))) | (with_reducible exact hS _ (lat_ad (hbt2))) | (with_reducible exact hS _ (lat_ad (hbt3))) | (with_reducible exact hS _ (lat_ad (hbt4))) | (with_reducible exact hS _ (lat_s3 (hbt4) (Nat.le_refl _))) | (with_reducible exact hS _ (lat_s3 (hbt4) (hbt1.size))) | (with_reducible exact hS _ (lat_s3 (hbt4) (hbt2.size))) | (with_reducible exact hS _ (lat_s3 (hbt4) (hbt3.size))) | (with_reducible exact hS _ (lat_s3 (lat_a (hbt4)) (Nat.le_refl _))) | (with_reducible exact hS _ (lat_s3 (lat_a (hbt4)) (hbt1.size))) | (with_reducible exact hS _ (lat_s3 (lat_a (hbt4)) (hbt2.size))) | (with_reducible exact hS _ (lat_s3 (lat_a (hbt4)) (hbt3.size))) | (with_reducible exact hS _ (lat_s3 (lat_a (hbt4)) (hbt4.size))) | fail)
        (first | (go_at_call 52; refine (toGeometry_h  gg gb gr gc _ ).mono ?_; rintro e w5 ⟨rfl, hb1'⟩; have hb1 : Below w4.heap.size w4 w5 := (by first | exact ⟨hb1'.os, hb1'.tape, hb1'.output, hb1'.size, hb1'.block⟩ | exact below_after_alloc (.cells #[.slice none 0 0, .slice none 0 0, .slice none 0 0] 87) ⟨hb1'.os, hb1'.tape, hb1'.output, hb1'.size, hb1'.block⟩); (first | (replace bx := bx.kept hb1) | (have bx : Box w5 w4.heap.size 87 #[.slice none 0 0, .slice none 0 0, .slice none 0 0] := box_after_alloc ⟨hb1'.os, hb1'.tape, hb1'.output, hb1'.size, hb1'.block⟩) | skip); have hbt1 := hb1; have hzz1 := hb1.size; (try (obtain ⟨bx1_0, bx1_1, bx1_2⟩ := bx.c3; have bxf := bx.frozen; have bxl1 := bx.lt)); have rd_Array0_1 := rd_Array0.below hb1; have rd_Array1_1 := rd_Array1.below hb1; have rd_Array2_1 := rd_Array2.below hb1; have pGeometry_q1 := pGeometry.kept hb1; obtain ⟨pGeometry_q1c0, pGeometry_q1c1, pGeometry_q1c2, pGeometry_q1c3⟩ := pGeometry_q1.c4; have pLimits_q1 := pLimits.kept hb1; obtain ⟨pLimits_q1c0, pLimits_q1c1⟩ := pLimits_q1.c2; have pArray_q1 := pArray.kept hb1; obtain ⟨pArray_q1c0, pArray_q1c1, pArray_q1c2⟩ := pArray_q1.c3)
                     | (go_at_call 53; refine (toLimits_h  la lh _ ).mono ?_; rintro e w6 ⟨rfl, hb2'⟩; have hb2 : Below w5.heap.size w5 w6 := (by first | exact ⟨hb2'.os, hb2'.tape, hb2'.output, hb2'.size, hb2'.block⟩ | exact below_after_alloc (.cells #[.slice none 0 0, .slice none 0 0, .slice none 0 0] 87) ⟨hb2'.os, hb2'.tape, hb2'.output, hb2'.size, hb2'.block⟩); (first | (replace bx := bx.kept hb2) | (have bx : Box w6 w5.heap.size 87 #[.slice none 0 0, .slice none 0 0, .slice none 0 0] := box_after_alloc ⟨hb2'.os, hb2'.tape, hb2'.output, hb2'.size, hb2'.block⟩) | skip); have hbt2 := hbt1.trans (hb2.mono hbt1.size); have hzz2 := hb2.size; (try (obtain ⟨bx2_0, bx2_1, bx2_2⟩ := bx.c3; have bxf := bx.frozen; have bxl2 := bx.lt)); have rd_Array0_2 := rd_Array0_1.below hb2; have rd_Array1_2 := rd_Array1_1.below hb2; have rd_Array2_2 := rd_Array2_1.below hb2; have pGeometry_q2 := pGeometry_q1.kept hb2; obtain ⟨pGeometry_q2c0, pGeometry_q2c1, pGeometry_q2c2, pGeometry_q2c3⟩ := pGeometry_q2.c4; have pLimits_q2 := pLimits_q1.kept hb2; obtain ⟨pLimits_q2c0, pLimits_q2c1⟩ := pLimits_q2.c2; have pArray_q2 := pArray_q1.kept hb2; obtain ⟨pArray_q2c0, pArray_q2c1, pArray_q2c2⟩ := pArray_q2.c3)
                     | (go_at_call 54; refine (toArray_h A n c B m d D p q vs ag ht _ (by first | exact rd_Array0_2 | exact rd_Array0_2.alloc _) (by first | exact rd_Array1_2 | exact rd_Array1_2.alloc _) (by first | exact rd_Array2_2 | exact rd_Array2_2.alloc _) (by omega)).mono ?_; rintro e w7 ⟨A1, n1, c1, B1, m1, d1, D1, p1, q1, rfl, oaArray, hb3'⟩; have hb3 : Below w6.heap.size w6 w7 := (by first | exact ⟨hb3'.os, hb3'.tape, hb3'.output, hb3'.size, hb3'.block⟩ | exact below_after_alloc (.cells #[.slice none 0 0, .slice none 0 0, .slice none 0 0] 87) ⟨hb3'.os, hb3'.tape, hb3'.output, hb3'.size, hb3'.block⟩); (first | (replace bx := bx.kept hb3) | (have bx : Box w7 w6.heap.size 87 #[.slice none 0 0, .slice none 0 0, .slice none 0 0] := box_after_alloc ⟨hb3'.os, hb3'.tape, hb3'.output, hb3'.size, hb3'.block⟩) | skip); have hbt3 := hbt2.trans (hb3.mono hbt2.size); have hzz3 := hb3.size; (try (obtain ⟨bx3_0, bx3_1, bx3_2⟩ := bx.c3; have bxf := bx.frozen; have bxl3 := bx.lt)); have v1l : csz vs ≤ 1048576 := (by omega); have m1l : m1 ≤ 1048576 := (by have := oaArray.ia.1; have := hB.1; omega); have p1l : p1 ≤ 1048576 := (by have := oaArray.ih.1; have := hD.1; omega); have rd_Array0_3 := rd_Array0_2.below hb3; have rd_Array1_3 := rd_Array1_2.below hb3; have rd_Array2_3 := rd_Array2_2.below hb3; have pGeometry_q3 := pGeometry_q2.kept hb3; obtain ⟨pGeometry_q3c0, pGeometry_q3c1, pGeometry_q3c2, pGeometry_q3c3⟩ := pGeometry_q3.c4; have pLimits_q3 := pLimits_q2.kept hb3; obtain ⟨pLimits_q3c0, pLimits_q3c1⟩ := pLimits_q3.c2; have pArray_q3 := pArray_q2.kept hb3; obtain ⟨pArray_q3c0, pArray_q3c1, pArray_q3c2⟩ := pArray_q3.c3)
                     | (go_at_call 51; refine (sSenseRow_c gg gb gr gc la lh A1 n1 c1 B1 m1 d1 D1 p1 q1 vs ag ht bank row _ (by first | exact oaArray.cs | exact (oaArray.alloc _).cs) (by first | exact oaArray.ia | exact (oaArray.alloc _).ia) (by first | exact oaArray.ih | exact (oaArray.alloc _).ih) v1l m1l p1l).mono ?_; rintro e w8 ⟨A2, n2, c2, B2, m2, d2, D2, p2, q2, rfl, ow, hb4'⟩; have hb4 : Below w7.heap.size w7 w8 := (by first | exact ⟨hb4'.os, hb4'.tape, hb4'.output, hb4'.size, hb4'.block⟩ | exact below_after_alloc (.cells #[.slice none 0 0, .slice none 0 0, .slice none 0 0] 87) ⟨hb4'.os, hb4'.tape, hb4'.output, hb4'.size, hb4'.block⟩); (first | (replace bx := bx.kept hb4) | (have bx : Box w8 w7.heap.size 87 #[.slice none 0 0, .slice none 0 0, .slice none 0 0] := box_after_alloc ⟨hb4'.os, hb4'.tape, hb4'.output, hb4'.size, hb4'.block⟩) | skip); have hbt4 := hbt3.trans (hb4.mono hbt3.size); have hzz4 := hb4.size; (try (obtain ⟨bx4_0, bx4_1, bx4_2⟩ := bx.c3; have bxf := bx.frozen; have bxl4 := bx.lt)); have pGeometry_q4 := pGeometry_q3.kept hb4; obtain ⟨pGeometry_q4c0, pGeometry_q4c1, pGeometry_q4c2, pGeometry_q4c3⟩ := pGeometry_q4.c4; have pLimits_q4 := pLimits_q3.kept hb4; obtain ⟨pLimits_q4c0, pLimits_q4c1⟩ := pLimits_q4.c2; have pArray_q4 := pArray_q3.kept hb4; obtain ⟨pArray_q4c0, pArray_q4c1, pArray_q4c2⟩ := pArray_q4.c3))
      all_goals
        go_wp2_with fail
        go_meet
        first
        | exact ⟨_, A2, n2, c2, B2, m2, d2, D2, p2, q2, rfl, hbt4.size, Box.new _ _ _, ⟨_, _, ow.alloc _, hbt3.size, (by simp), .inr (Nat.le_refl _)⟩, lat_a hbt4⟩
        | exact ⟨_, A2, n2, c2, B2, m2, d2, D2, p2, q2, rfl, Nat.le_refl _, box_s3 bx, ⟨_, _, (((ow.setCell _ _ (.inl bxl3)).setCell _ _ (.inl bxl3)).setCell _ _ (.inl bxl3)), hbt3.size, (by simp [World.setCell]), .inl bxl3⟩, lat_s3 hbt4 (Nat.le_refl _)⟩
        | exact ⟨_, A2, n2, c2, B2, m2, d2, D2, p2, q2, rfl, hbt1.size, box_s3 bx, ⟨_, _, (((ow.setCell _ _ (.inl bxl3)).setCell _ _ (.inl bxl3)).setCell _ _ (.inl bxl3)), hbt3.size, (by simp [World.setCell]), .inl bxl3⟩, lat_s3 hbt4 (hbt1.size)⟩
        | exact ⟨_, A2, n2, c2, B2, m2, d2, D2, p2, q2, rfl, hbt2.size, box_s3 bx, ⟨_, _, (((ow.setCell _ _ (.inl bxl3)).setCell _ _ (.inl bxl3)).setCell _ _ (.inl bxl3)), hbt3.size, (by simp [World.setCell]), .inl bxl3⟩, lat_s3 hbt4 (hbt2.size)⟩
        | exact ⟨_, A2, n2, c2, B2, m2, d2, D2, p2, q2, rfl, hbt3.size, box_s3 bx, ⟨_, _, (((ow.setCell _ _ (.inl (by simp))).setCell _ _ (.inl (by simp))).setCell _ _ (.inl (by simp))), Nat.le_trans (hbt3.size) (by simp), (by simp [World.setCell]), .inl (by simp)⟩, lat_s3 hbt4 (hbt3.size)⟩
    case rest =>
      skip
      obtain ⟨g2, A2, n2, c2, B2, m2, d2, D2, p2, q2, rfl, hg2, pw, ⟨lo2, hi2, ow, hlo2, hhi2, hgl2⟩, hbb⟩ := hcut
      clear rd_Array0 rd_Array1 rd_Array2
      have v2l : csz (srV gg gb gr gc la lh vs ag ht bank row) ≤ 1048576 := by have := sr_lens gg gb gr gc la lh vs ag ht bank row; omega
      have m2l : m2 ≤ 1048576 := by have := ow.ia.1; have := sr_lens gg gb gr gc la lh vs ag ht bank row; have := hB.1; omega
      have p2l : p2 ≤ 1048576 := by have := ow.ih.1; have := sr_lens gg gb gr gc la lh vs ag ht bank row; have := hD.1; omega
      clear pGeometryc0 pGeometryc1 pGeometryc2 pGeometryc3 pGeometry_lt pLimitsc0 pLimitsc1 pLimits_lt pArrayc0 pArrayc1 pArrayc2 pArray_lt
      have szwc := hbb.size
      replace bel := bel.trans (hbb.mono bel.size)
      replace pGeometry := pGeometry.kept hbb
      replace pLimits := pLimits.kept hbb
      replace pArray := pArray.kept hbb
      clear hbb
      obtain ⟨wc2, hwc⟩ : ∃ v : World, v = wc := ⟨_, rfl⟩
      subst hwc
      have hgs2 := pw.lt
      obtain ⟨pArrayc0, pArrayc1, pArrayc2⟩ := pArray.c3
      have pArray_lt := pArray.lt
      go_wp2_with fail
      refine (toArray_h A n c B m d D p q vs ag ht _ (hA.below bel) (hB.below bel) (hD.below bel) (by omega)).mono ?_
      rintro e w9 ⟨A3, n3, c3, B3, m3, d3, D3, p3, q3, rfl, oxArray, hbb⟩
      have v3l : csz vs ≤ 1048576 := by omega
      have m3l : m3 ≤ 1048576 := by have := oxArray.ia.1; have := hB.1; omega
      have p3l : p3 ≤ 1048576 := by have := oxArray.ih.1; have := hD.1; omega
      clear pArrayc0 pArrayc1 pArrayc2 pArray_lt
      have szw9 := hbb.size
      replace bel := bel.trans (hbb.mono bel.size)
      replace pGeometry := pGeometry.kept hbb
      replace pLimits := pLimits.kept hbb
      replace pArray := pArray.kept hbb
      replace pw := pw.kept hbb
      replace ow := ow.below hbb
      clear hbb
      go_upto_region 7 with fail
      refine abs_code ?_
      intro W10 hW
      replace bel := (Below.alloc bel (by first | exact bel.size | (have hbs := bel.size; simp <;> omega)) (.cells #[.slice A3 n3 c3, .slice B3 m3 d3, .slice D3 p3 q3] 87))
      rw [← hW] at bel
      replace pGeometry := (pGeometry).alloc (.cells #[.slice A3 n3 c3, .slice B3 m3 d3, .slice D3 p3 q3] 87)
      rw [← hW] at pGeometry
      replace pLimits := (pLimits).alloc (.cells #[.slice A3 n3 c3, .slice B3 m3 d3, .slice D3 p3 q3] 87)
      rw [← hW] at pLimits
      replace pArray := (pArray).alloc (.cells #[.slice A3 n3 c3, .slice B3 m3 d3, .slice D3 p3 q3] 87)
      rw [← hW] at pArray
      replace pw := (pw).alloc (.cells #[.slice A3 n3 c3, .slice B3 m3 d3, .slice D3 p3 q3] 87)
      rw [← hW] at pw
      replace ow := (ow).alloc (.cells #[.slice A3 n3 c3, .slice B3 m3 d3, .slice D3 p3 q3] 87)
      rw [← hW] at ow
      replace oxArray := (oxArray).alloc (.cells #[.slice A3 n3 c3, .slice B3 m3 d3, .slice D3 p3 q3] 87)
      rw [← hW] at oxArray
      have xArray : Box W10 (w9.heap.size) 87 #[.slice A3 n3 c3, .slice B3 m3 d3, .slice D3 p3 q3] := by rw [hW]; exact (Box.newAt (by simp))
      have szW10 : w9.heap.size + 1 ≤ W10.heap.size := by rw [hW]; simp
      clear hW
      obtain ⟨pGeometryc0, pGeometryc1, pGeometryc2, pGeometryc3⟩ := pGeometry.c4
      have pGeometry_lt := pGeometry.lt
      obtain ⟨pLimitsc0, pLimitsc1⟩ := pLimits.c2
      have pLimits_lt := pLimits.lt
      obtain ⟨xArrayc0, xArrayc1, xArrayc2⟩ := xArray.c3
      have xArray_lt := xArray.lt
      have rd_Array0 := hA.below bel
      have rd_Array1 := hB.below bel
      have rd_Array2 := hD.below bel
      go_cut [14] (fun s14 wx => ∃ (g4 : Nat) (A4 : Option Addr) (n4 c4 : Nat) (B4 : Option Addr) (m4 d4 : Nat) (D4 : Option Addr) (p4 q4 : Nat), s14 = .pointer (some ⟨g4, 0, none⟩) ∧ W10.heap.size ≤ g4 ∧ Box wx g4 87 #[.slice A4 n4 c4, .slice B4 m4 d4, .slice D4 p4 q4] ∧ (∃ lo hi : Nat, OwnA wx lo hi A4 n4 c4 (srV gg gb gr gc la lh vs ag ht bank row) B4 m4 d4 (srA gg gb gr gc vs ag ht bank row) D4 p4 q4 (srH gg gb gr gc vs ag ht bank row) ∧ W10.heap.size ≤ lo ∧ hi ≤ wx.heap.size ∧ (g4 < lo ∨ hi ≤ g4)) ∧ Below W10.heap.size W10 wx)
      case first =>
        have hS : ∀ Y : World, Below W10.heap.size W10 Y → (Y.cell? ⟨w.heap.size, 0, none⟩ = some (.int .i64 gg) ∧ Y.cell? ⟨w.heap.size, 1, none⟩ = some (.int .i64 gb) ∧ Y.cell? ⟨w.heap.size, 2, none⟩ = some (.int .i64 gr) ∧ Y.cell? ⟨w.heap.size, 3, none⟩ = some (.int .i64 gc) ∧ Y.cell? ⟨w.heap.size + 1, 0, none⟩ = some (.int .i64 la) ∧ Y.cell? ⟨w.heap.size + 1, 1, none⟩ = some (.int .i64 lh) ∧ Y.cell? ⟨w9.heap.size, 0, none⟩ = some (.slice A3 n3 c3) ∧ Y.cell? ⟨w9.heap.size, 1, none⟩ = some (.slice B3 m3 d3) ∧ Y.cell? ⟨w9.heap.size, 2, none⟩ = some (.slice D3 p3 q3)) := fun Y hY => ⟨(hY.cell (p := ⟨w.heap.size, 0, none⟩) pGeometry_lt).trans pGeometryc0, (hY.cell (p := ⟨w.heap.size, 1, none⟩) pGeometry_lt).trans pGeometryc1, (hY.cell (p := ⟨w.heap.size, 2, none⟩) pGeometry_lt).trans pGeometryc2, (hY.cell (p := ⟨w.heap.size, 3, none⟩) pGeometry_lt).trans pGeometryc3, (hY.cell (p := ⟨w.heap.size + 1, 0, none⟩) pLimits_lt).trans pLimitsc0, (hY.cell (p := ⟨w.heap.size + 1, 1, none⟩) pLimits_lt).trans pLimitsc1, (hY.cell (p := ⟨w9.heap.size, 0, none⟩) xArray_lt).trans xArrayc0, (hY.cell (p := ⟨w9.heap.size, 1, none⟩) xArray_lt).trans xArrayc1, (hY.cell (p := ⟨w9.heap.size, 2, none⟩) xArray_lt).trans xArrayc2⟩
        go_region_held3 (fun W' => W'.cell? ⟨w.heap.size, 0, none⟩ = some (.int .i64 gg) ∧ W'.cell? ⟨w.heap.size, 1, none⟩ = some (.int .i64 gb) ∧ W'.cell? ⟨w.heap.size, 2, none⟩ = some (.int .i64 gr) ∧ W'.cell? ⟨w.heap.size, 3, none⟩ = some (.int .i64 gc) ∧ W'.cell? ⟨w.heap.size + 1, 0, none⟩ = some (.int .i64 la) ∧ W'.cell? ⟨w.heap.size + 1, 1, none⟩ = some (.int .i64 lh) ∧ W'.cell? ⟨w9.heap.size, 0, none⟩ = some (.slice A3 n3 c3) ∧ W'.cell? ⟨w9.heap.size, 1, none⟩ = some (.slice B3 m3 d3) ∧ W'.cell? ⟨w9.heap.size, 2, none⟩ = some (.slice D3 p3 q3))
          (first | (with_reducible exact hS _ (Below.refl _ _)) | (with_reducible exact hS _ (hbt1)) | (with_reducible exact hS _ (hbt2)) | (with_reducible exact hS _ (hbt3)) | (with_reducible exact hS _ (lat_d (Below.refl _ _))) | (with_reducible exact hS _ (lat_d (hbt1))) | (with_reducible exact hS _ (lat_d (hbt2))) | (with_reducible exact hS _ (lat_d (hbt3))) | (with_reducible exact hS _ (lat_a (Below.refl _ _))) | (with_reducible exact hS _ (lat_a (hbt1))) | (with_reducible exact hS _ (lat_a (hbt2))) | (with_reducible exact hS _ (lat_a (hbt3))) | (with_reducible exact hS _ (lat_ad (Below.refl _ _))) | (with_reducible exact hS _ (lat_ad (hbt1))) | (with_reducible exact hS _ (lat_ad (hbt2))) | (with_reducible exact hS _ (lat_ad (hbt3))) | (with_reducible exact hS _ (lat_s3 (hbt3) (Nat.le_refl _))) | (with_reducible exact hS _ (lat_s3 (hbt3) (hbt1.size))) | (with_reducible exact hS _ (lat_s3 (hbt3) (hbt2.size))) | (with_reducible exact hS _ (lat_s3 (lat_a (hbt3)) (Nat.le_refl _))) | (with_reducible exact hS _ (lat_s3 (lat_a (hbt3)) (hbt1.size))) | (with_reducible exact hS _ (lat_s3 (lat_a (hbt3)) (hbt2.size))) | (with_reducible exact hS _ (lat_s3 (lat_a (hbt3)) (hbt3.size))) | fail)
          (first | (go_at_call 52; refine (toGeometry_h  gg gb gr gc _ ).mono ?_; rintro e w11 ⟨rfl, hb1'⟩; have hb1 : Below W10.heap.size W10 w11 := (by first | exact ⟨hb1'.os, hb1'.tape, hb1'.output, hb1'.size, hb1'.block⟩ | exact below_after_alloc (.cells #[.slice none 0 0, .slice none 0 0, .slice none 0 0] 87) ⟨hb1'.os, hb1'.tape, hb1'.output, hb1'.size, hb1'.block⟩); (first | (replace bx := bx.kept hb1) | (have bx : Box w11 W10.heap.size 87 #[.slice none 0 0, .slice none 0 0, .slice none 0 0] := box_after_alloc ⟨hb1'.os, hb1'.tape, hb1'.output, hb1'.size, hb1'.block⟩) | skip); have hbt1 := hb1; have hzz1 := hb1.size; (try (obtain ⟨bx1_0, bx1_1, bx1_2⟩ := bx.c3; have bxf := bx.frozen; have bxl1 := bx.lt)); have ow_1 := ow.below hb1; have oxArray_1 := oxArray.below hb1; have rd_Array0_1 := rd_Array0.below hb1; have rd_Array1_1 := rd_Array1.below hb1; have rd_Array2_1 := rd_Array2.below hb1; have pGeometry_q1 := pGeometry.kept hb1; obtain ⟨pGeometry_q1c0, pGeometry_q1c1, pGeometry_q1c2, pGeometry_q1c3⟩ := pGeometry_q1.c4; have pLimits_q1 := pLimits.kept hb1; obtain ⟨pLimits_q1c0, pLimits_q1c1⟩ := pLimits_q1.c2; have xArray_q1 := xArray.kept hb1; obtain ⟨xArray_q1c0, xArray_q1c1, xArray_q1c2⟩ := xArray_q1.c3)
                         | (go_at_call 53; refine (toLimits_h  la lh _ ).mono ?_; rintro e w12 ⟨rfl, hb2'⟩; have hb2 : Below w11.heap.size w11 w12 := (by first | exact ⟨hb2'.os, hb2'.tape, hb2'.output, hb2'.size, hb2'.block⟩ | exact below_after_alloc (.cells #[.slice none 0 0, .slice none 0 0, .slice none 0 0] 87) ⟨hb2'.os, hb2'.tape, hb2'.output, hb2'.size, hb2'.block⟩); (first | (replace bx := bx.kept hb2) | (have bx : Box w12 w11.heap.size 87 #[.slice none 0 0, .slice none 0 0, .slice none 0 0] := box_after_alloc ⟨hb2'.os, hb2'.tape, hb2'.output, hb2'.size, hb2'.block⟩) | skip); have hbt2 := hbt1.trans (hb2.mono hbt1.size); have hzz2 := hb2.size; (try (obtain ⟨bx2_0, bx2_1, bx2_2⟩ := bx.c3; have bxf := bx.frozen; have bxl2 := bx.lt)); have ow_2 := ow_1.below hb2; have oxArray_2 := oxArray_1.below hb2; have rd_Array0_2 := rd_Array0_1.below hb2; have rd_Array1_2 := rd_Array1_1.below hb2; have rd_Array2_2 := rd_Array2_1.below hb2; have pGeometry_q2 := pGeometry_q1.kept hb2; obtain ⟨pGeometry_q2c0, pGeometry_q2c1, pGeometry_q2c2, pGeometry_q2c3⟩ := pGeometry_q2.c4; have pLimits_q2 := pLimits_q1.kept hb2; obtain ⟨pLimits_q2c0, pLimits_q2c1⟩ := pLimits_q2.c2; have xArray_q2 := xArray_q1.kept hb2; obtain ⟨xArray_q2c0, xArray_q2c1, xArray_q2c2⟩ := xArray_q2.c3)
                         | (go_at_call 55; refine (iSenseRow_c gg gb gr gc la lh A3 n3 c3 B3 m3 d3 D3 p3 q3 vs ag ht bank row _ (by first | exact oxArray_2.cs | exact (oxArray_2.alloc _).cs) (by first | exact oxArray_2.ia | exact (oxArray_2.alloc _).ia) (by first | exact oxArray_2.ih | exact (oxArray_2.alloc _).ih) v3l m3l p3l).mono ?_; rintro e w13 ⟨A4, n4, c4, B4, m4, d4, D4, p4, q4, rfl, og, hb3'⟩; have hb3 : Below w12.heap.size w12 w13 := (by first | exact ⟨hb3'.os, hb3'.tape, hb3'.output, hb3'.size, hb3'.block⟩ | exact below_after_alloc (.cells #[.slice none 0 0, .slice none 0 0, .slice none 0 0] 87) ⟨hb3'.os, hb3'.tape, hb3'.output, hb3'.size, hb3'.block⟩); (first | (replace bx := bx.kept hb3) | (have bx : Box w13 w12.heap.size 87 #[.slice none 0 0, .slice none 0 0, .slice none 0 0] := box_after_alloc ⟨hb3'.os, hb3'.tape, hb3'.output, hb3'.size, hb3'.block⟩) | skip); have hbt3 := hbt2.trans (hb3.mono hbt2.size); have hzz3 := hb3.size; (try (obtain ⟨bx3_0, bx3_1, bx3_2⟩ := bx.c3; have bxf := bx.frozen; have bxl3 := bx.lt)); have pGeometry_q3 := pGeometry_q2.kept hb3; obtain ⟨pGeometry_q3c0, pGeometry_q3c1, pGeometry_q3c2, pGeometry_q3c3⟩ := pGeometry_q3.c4; have pLimits_q3 := pLimits_q2.kept hb3; obtain ⟨pLimits_q3c0, pLimits_q3c1⟩ := pLimits_q3.c2; have xArray_q3 := xArray_q2.kept hb3; obtain ⟨xArray_q3c0, xArray_q3c1, xArray_q3c2⟩ := xArray_q3.c3))
        all_goals
          go_wp2_with fail
          go_meet
          first
          | exact ⟨_, A4, n4, c4, B4, m4, d4, D4, p4, q4, rfl, hbt3.size, Box.new _ _ _, ⟨_, _, og.alloc _, hbt2.size, (by simp), .inr (Nat.le_refl _)⟩, lat_a hbt3⟩
          | exact ⟨_, A4, n4, c4, B4, m4, d4, D4, p4, q4, rfl, Nat.le_refl _, box_s3 bx, ⟨_, _, (((og.setCell _ _ (.inl bxl2)).setCell _ _ (.inl bxl2)).setCell _ _ (.inl bxl2)), hbt2.size, (by simp [World.setCell]), .inl bxl2⟩, lat_s3 hbt3 (Nat.le_refl _)⟩
          | exact ⟨_, A4, n4, c4, B4, m4, d4, D4, p4, q4, rfl, hbt1.size, box_s3 bx, ⟨_, _, (((og.setCell _ _ (.inl bxl2)).setCell _ _ (.inl bxl2)).setCell _ _ (.inl bxl2)), hbt2.size, (by simp [World.setCell]), .inl bxl2⟩, lat_s3 hbt3 (hbt1.size)⟩
          | exact ⟨_, A4, n4, c4, B4, m4, d4, D4, p4, q4, rfl, hbt2.size, box_s3 bx, ⟨_, _, (((og.setCell _ _ (.inl (by simp))).setCell _ _ (.inl (by simp))).setCell _ _ (.inl (by simp))), Nat.le_trans (hbt2.size) (by simp), (by simp [World.setCell]), .inl (by simp)⟩, lat_s3 hbt3 (hbt2.size)⟩
      case rest =>
        skip
        obtain ⟨g4, A4, n4, c4, B4, m4, d4, D4, p4, q4, rfl, hg4, pg, ⟨lo4, hi4, og, hlo4, hhi4, hgl4⟩, hbb⟩ := hcut
        clear rd_Array0 rd_Array1 rd_Array2
        have v4l : csz (srV gg gb gr gc la lh vs ag ht bank row) ≤ 1048576 := by have := sr_lens gg gb gr gc la lh vs ag ht bank row; omega
        have m4l : m4 ≤ 1048576 := by have := og.ia.1; have := sr_lens gg gb gr gc la lh vs ag ht bank row; have := hB.1; omega
        have p4l : p4 ≤ 1048576 := by have := og.ih.1; have := sr_lens gg gb gr gc la lh vs ag ht bank row; have := hD.1; omega
        clear pGeometryc0 pGeometryc1 pGeometryc2 pGeometryc3 pGeometry_lt pLimitsc0 pLimitsc1 pLimits_lt xArrayc0 xArrayc1 xArrayc2 xArray_lt
        have szwc := hbb.size
        replace bel := bel.trans (hbb.mono bel.size)
        replace pGeometry := pGeometry.kept hbb
        replace pLimits := pLimits.kept hbb
        replace pArray := pArray.kept hbb
        replace pw := pw.kept hbb
        replace xArray := xArray.kept hbb
        replace ow := ow.below hbb
        replace oxArray := oxArray.below hbb
        clear hbb
        obtain ⟨wc4, hwc⟩ : ∃ v : World, v = wc := ⟨_, rfl⟩
        subst hwc
        have hgs4 := pg.lt
        obtain ⟨pgc0, pgc1, pgc2⟩ := pg.c3
        have pg_lt := pg.lt
        obtain ⟨pwc0, pwc1, pwc2⟩ := pw.c3
        have pw_lt := pw.lt
        go_wp2_with fail
        refine (eqArray_h A4 n4 c4 B4 m4 d4 D4 p4 q4 A2 n2 c2 B2 m2 d2 D2 p2 q2 (srV gg gb gr gc la lh vs ag ht bank row) (srA gg gb gr gc vs ag ht bank row) (srH gg gb gr gc vs ag ht bank row) _ og.cs og.ia og.ih ow.cs ow.ia ow.ih v4l m4l p4l).mono ?_
        rintro e w14 ⟨rfl, hbb⟩
        clear pgc0 pgc1 pgc2 pg_lt pwc0 pwc1 pwc2 pw_lt
        have szw14 := hbb.size
        replace bel := bel.trans (hbb.mono bel.size)
        replace pGeometry := pGeometry.kept hbb
        replace pLimits := pLimits.kept hbb
        replace pArray := pArray.kept hbb
        replace pw := pw.kept hbb
        replace xArray := xArray.kept hbb
        replace pg := pg.kept hbb
        replace ow := ow.below hbb
        replace oxArray := oxArray.below hbb
        replace og := og.below hbb
        clear hbb
        go_wp2_with fail
        obtain ⟨xArrayc0, xArrayc1, xArrayc2⟩ := xArray.c3
        have xArray_lt := xArray.lt
        obtain ⟨pArrayc0, pArrayc1, pArrayc2⟩ := pArray.c3
        have pArray_lt := pArray.lt
        have rd_Array0 := hA.below bel
        have rd_Array1 := hB.below bel
        have rd_Array2 := hD.below bel
        go_region_held3 (fun W' => W'.cell? ⟨w9.heap.size, 0, none⟩ = some (.slice A3 n3 c3) ∧ W'.cell? ⟨w9.heap.size, 1, none⟩ = some (.slice B3 m3 d3) ∧ W'.cell? ⟨w9.heap.size, 2, none⟩ = some (.slice D3 p3 q3) ∧ W'.cell? ⟨w.heap.size + 1 + 1, 0, none⟩ = some (.slice A n c) ∧ W'.cell? ⟨w.heap.size + 1 + 1, 1, none⟩ = some (.slice B m d) ∧ W'.cell? ⟨w.heap.size + 1 + 1, 2, none⟩ = some (.slice D p q))
          (first | exact ⟨xArrayc0, xArrayc1, xArrayc2, pArrayc0, pArrayc1, pArrayc2⟩ | exact ⟨xArray_q1c0, xArray_q1c1, xArray_q1c2, pArray_q1c0, pArray_q1c1, pArray_q1c2⟩ | exact ⟨xArray_q2c0, xArray_q2c1, xArray_q2c2, pArray_q2c0, pArray_q2c1, pArray_q2c2⟩)
          (first | (go_at_call 54; refine (toArray_h A n c B m d D p q vs ag ht _ (by exact rd_Array0) (by exact rd_Array1) (by exact rd_Array2) (by omega)).mono ?_; rintro e w15 ⟨A7, n7, c7, B7, m7, d7, D7, p7, q7, rfl, oeArray, hb1'⟩; have hb1 : Below w14.heap.size w14 w15 := ⟨hb1'.os, hb1'.tape, hb1'.output, hb1'.size, hb1'.block⟩; have v7l : csz vs ≤ 1048576 := (by omega); have m7l : m7 ≤ 1048576 := (by have := oeArray.ia.1; have := hB.1; omega); have p7l : p7 ≤ 1048576 := (by have := oeArray.ih.1; have := hD.1; omega); have ow_1 := ow.below hb1; have oxArray_1 := oxArray.below hb1; have og_1 := og.below hb1; have rd_Array0_1 := rd_Array0.below hb1; have rd_Array1_1 := rd_Array1.below hb1; have rd_Array2_1 := rd_Array2.below hb1; have xArray_q1 := xArray.kept hb1; obtain ⟨xArray_q1c0, xArray_q1c1, xArray_q1c2⟩ := xArray_q1.c3; have pArray_q1 := pArray.kept hb1; obtain ⟨pArray_q1c0, pArray_q1c1, pArray_q1c2⟩ := pArray_q1.c3)
                         | (go_at_call 56; refine (eqArray_h A3 n3 c3 B3 m3 d3 D3 p3 q3 A7 n7 c7 B7 m7 d7 D7 p7 q7 vs ag ht _ oxArray_1.cs oxArray_1.ia oxArray_1.ih oeArray.cs oeArray.ia oeArray.ih v3l m3l p3l).mono ?_; rintro e w16 ⟨rfl, hb2'⟩; have hb2 : Below w15.heap.size w15 w16 := ⟨hb2'.os, hb2'.tape, hb2'.output, hb2'.size, hb2'.block⟩; have xArray_q2 := xArray_q1.kept hb2; obtain ⟨xArray_q2c0, xArray_q2c1, xArray_q2c2⟩ := xArray_q2.c3; have pArray_q2 := pArray_q1.kept hb2; obtain ⟨pArray_q2c0, pArray_q2c1, pArray_q2c2⟩ := pArray_q2.c3))
        clear ow_1 oxArray_1 og_1 rd_Array0_1 rd_Array1_1 rd_Array2_1 xArray_q1 xArray_q1c0 xArray_q1c1 xArray_q1c2 pArray_q1 pArray_q1c0 pArray_q1c1 pArray_q1c2 xArray_q2 xArray_q2c0 xArray_q2c1 xArray_q2c2 pArray_q2 pArray_q2c0 pArray_q2c1 pArray_q2c2 hb1' hb2' rd_Array0 rd_Array1 rd_Array2
        clear xArrayc0 xArrayc1 xArrayc2 xArray_lt pArrayc0 pArrayc1 pArrayc2 pArray_lt
        have szw15 := hb1.size
        replace bel := bel.trans (hb1.mono bel.size)
        replace pGeometry := pGeometry.kept hb1
        replace pLimits := pLimits.kept hb1
        replace pArray := pArray.kept hb1
        replace pw := pw.kept hb1
        replace xArray := xArray.kept hb1
        replace pg := pg.kept hb1
        replace ow := ow.below hb1
        replace oxArray := oxArray.below hb1
        replace og := og.below hb1
        clear hb1
        have szw16 := hb2.size
        replace bel := bel.trans (hb2.mono bel.size)
        replace pGeometry := pGeometry.kept hb2
        replace pLimits := pLimits.kept hb2
        replace pArray := pArray.kept hb2
        replace pw := pw.kept hb2
        replace xArray := xArray.kept hb2
        replace pg := pg.kept hb2
        replace ow := ow.below hb2
        replace oxArray := oxArray.below hb2
        replace og := og.below hb2
        replace oeArray := oeArray.below hb2
        clear hb2
        clear oeArray
        obtain ⟨xArrayc0, xArrayc1, xArrayc2⟩ := xArray.c3
        have xArray_lt := xArray.lt
        go_wp2_with fail
        refine (markArray_h A3 n3 c3 B3 m3 d3 D3 p3 q3 (wc2.heap.size) (w9.heap.size) vs ag ht (1) _ oxArray v3l m3l p3l (by omega) (by omega)).mono ?_
        rintro e w17 ⟨rfl, oy, C⟩
        clear oxArray oy
        clear xArrayc0 xArrayc1 xArrayc2 xArray_lt
        have szw17 := C.size
        replace bel := C.below bel (by omega)
        replace pGeometry := pGeometry.chg C (by omega)
        replace pLimits := pLimits.chg C (by omega)
        replace pArray := pArray.chg C (by omega)
        replace pw := pw.chg C (by omega)
        replace xArray := xArray.chg C (by omega)
        replace pg := pg.chg C (by omega)
        replace ow := ow.chg C (by omega)
        replace og := og.chg C (by omega)
        clear C
        have t9 : decide (1 + (csz vs : Int) + (m3 : Int) + (p3 : Int) < 0) = false := by simp; omega
        obtain ⟨pgc0, pgc1, pgc2⟩ := pg.c3
        have pg_lt := pg.lt
        obtain ⟨pwc0, pwc1, pwc2⟩ := pw.c3
        have pw_lt := pw.lt
        go_wp2_with fail
        refine (eqArray_h A4 n4 c4 B4 m4 d4 D4 p4 q4 A2 n2 c2 B2 m2 d2 D2 p2 q2 (srV gg gb gr gc la lh vs ag ht bank row) (srA gg gb gr gc vs ag ht bank row) (srH gg gb gr gc vs ag ht bank row) _ og.cs og.ia og.ih ow.cs ow.ia ow.ih v4l m4l p4l).mono ?_
        rintro e w18 ⟨rfl, hbb⟩
        clear pgc0 pgc1 pgc2 pg_lt pwc0 pwc1 pwc2 pw_lt
        have szw18 := hbb.size
        replace bel := bel.trans (hbb.mono bel.size)
        replace pGeometry := pGeometry.kept hbb
        replace pLimits := pLimits.kept hbb
        replace pArray := pArray.kept hbb
        replace pw := pw.kept hbb
        replace xArray := xArray.kept hbb
        replace pg := pg.kept hbb
        replace ow := ow.below hbb
        replace og := og.below hbb
        clear hbb
        obtain ⟨pgc0, pgc1, pgc2⟩ := pg.c3
        have pg_lt := pg.lt
        go_wp2_with fail
        refine (markArray_h A4 n4 c4 B4 m4 d4 D4 p4 q4 (lo4) (hi4) (srV gg gb gr gc la lh vs ag ht bank row) (srA gg gb gr gc vs ag ht bank row) (srH gg gb gr gc vs ag ht bank row) 1 _ og v4l m4l p4l (by omega) (by omega)).mono ?_
        rintro e w19 ⟨rfl, om, C⟩
        clear og
        clear pgc0 pgc1 pgc2 pg_lt
        have szw19 := C.size
        replace bel := C.below bel (by omega)
        replace pGeometry := pGeometry.chg C (by omega)
        replace pLimits := pLimits.chg C (by omega)
        replace pArray := pArray.chg C (by omega)
        replace pw := pw.chg C (by omega)
        replace xArray := xArray.chg C (by omega)
        replace pg := pg.chg C (by omega)
        replace ow := ow.chg C (by omega)
        clear C
        obtain ⟨pgc0, pgc1, pgc2⟩ := pg.c3
        have pg_lt := pg.lt
        go_wp2_with fail
        refine (heldArray_h A4 n4 c4 B4 m4 d4 D4 p4 q4 (srV gg gb gr gc la lh vs ag ht bank row) 1 _ om.cs om.ia om.ih v4l m4l p4l (by omega) (by omega)).mono ?_
        rintro e w20 ⟨rfl, hbb⟩
        clear pgc0 pgc1 pgc2 pg_lt
        have szw20 := hbb.size
        replace bel := bel.trans (hbb.mono bel.size)
        replace pGeometry := pGeometry.kept hbb
        replace pLimits := pLimits.kept hbb
        replace pArray := pArray.kept hbb
        replace pw := pw.kept hbb
        replace xArray := xArray.kept hbb
        replace pg := pg.kept hbb
        replace ow := ow.below hbb
        replace om := om.below hbb
        clear hbb
        have t7 : decide (1 + (csz (srV gg gb gr gc la lh vs ag ht bank row) : Int) + (m4 : Int) + (p4 : Int) < 0) = false := by simp; omega
        have t8 : ((1 + (csz (srV gg gb gr gc la lh vs ag ht bank row) : Int) + (m4 : Int) + (p4 : Int)) != (1 + (csz (srV gg gb gr gc la lh vs ag ht bank row) : Int) + (m4 : Int) + (p4 : Int))) = false := by simp
        go_upto_region 24 with fail
        obtain ⟨pGeometryc0, pGeometryc1, pGeometryc2, pGeometryc3⟩ := pGeometry.c4
        have pGeometry_lt := pGeometry.lt
        obtain ⟨pLimitsc0, pLimitsc1⟩ := pLimits.c2
        have pLimits_lt := pLimits.lt
        obtain ⟨pArrayc0, pArrayc1, pArrayc2⟩ := pArray.c3
        have pArray_lt := pArray.lt
        have rd_Array0 := hA.below bel
        have rd_Array1 := hB.below bel
        have rd_Array2 := hD.below bel
        go_cut [18] (fun s18 wx => ∃ (g6 : Nat) (A6 : Option Addr) (n6 c6 : Nat) (B6 : Option Addr) (m6 d6 : Nat) (D6 : Option Addr) (p6 q6 : Nat), s18 = .pointer (some ⟨g6, 0, none⟩) ∧ w20.heap.size ≤ g6 ∧ Box wx g6 87 #[.slice A6 n6 c6, .slice B6 m6 d6, .slice D6 p6 q6] ∧ (∃ lo hi : Nat, OwnA wx lo hi A6 n6 c6 (srV gg gb gr gc la lh vs ag ht bank row) B6 m6 d6 (srA gg gb gr gc vs ag ht bank row) D6 p6 q6 (srH gg gb gr gc vs ag ht bank row) ∧ w20.heap.size ≤ lo ∧ hi ≤ wx.heap.size ∧ (g6 < lo ∨ hi ≤ g6)) ∧ Below w20.heap.size w20 wx)
        case first =>
          have hS : ∀ Y : World, Below w20.heap.size w20 Y → (Y.cell? ⟨w.heap.size, 0, none⟩ = some (.int .i64 gg) ∧ Y.cell? ⟨w.heap.size, 1, none⟩ = some (.int .i64 gb) ∧ Y.cell? ⟨w.heap.size, 2, none⟩ = some (.int .i64 gr) ∧ Y.cell? ⟨w.heap.size, 3, none⟩ = some (.int .i64 gc) ∧ Y.cell? ⟨w.heap.size + 1, 0, none⟩ = some (.int .i64 la) ∧ Y.cell? ⟨w.heap.size + 1, 1, none⟩ = some (.int .i64 lh) ∧ Y.cell? ⟨w.heap.size + 1 + 1, 0, none⟩ = some (.slice A n c) ∧ Y.cell? ⟨w.heap.size + 1 + 1, 1, none⟩ = some (.slice B m d) ∧ Y.cell? ⟨w.heap.size + 1 + 1, 2, none⟩ = some (.slice D p q)) := fun Y hY => ⟨(hY.cell (p := ⟨w.heap.size, 0, none⟩) pGeometry_lt).trans pGeometryc0, (hY.cell (p := ⟨w.heap.size, 1, none⟩) pGeometry_lt).trans pGeometryc1, (hY.cell (p := ⟨w.heap.size, 2, none⟩) pGeometry_lt).trans pGeometryc2, (hY.cell (p := ⟨w.heap.size, 3, none⟩) pGeometry_lt).trans pGeometryc3, (hY.cell (p := ⟨w.heap.size + 1, 0, none⟩) pLimits_lt).trans pLimitsc0, (hY.cell (p := ⟨w.heap.size + 1, 1, none⟩) pLimits_lt).trans pLimitsc1, (hY.cell (p := ⟨w.heap.size + 1 + 1, 0, none⟩) pArray_lt).trans pArrayc0, (hY.cell (p := ⟨w.heap.size + 1 + 1, 1, none⟩) pArray_lt).trans pArrayc1, (hY.cell (p := ⟨w.heap.size + 1 + 1, 2, none⟩) pArray_lt).trans pArrayc2⟩
          go_region_held3 (fun W' => W'.cell? ⟨w.heap.size, 0, none⟩ = some (.int .i64 gg) ∧ W'.cell? ⟨w.heap.size, 1, none⟩ = some (.int .i64 gb) ∧ W'.cell? ⟨w.heap.size, 2, none⟩ = some (.int .i64 gr) ∧ W'.cell? ⟨w.heap.size, 3, none⟩ = some (.int .i64 gc) ∧ W'.cell? ⟨w.heap.size + 1, 0, none⟩ = some (.int .i64 la) ∧ W'.cell? ⟨w.heap.size + 1, 1, none⟩ = some (.int .i64 lh) ∧ W'.cell? ⟨w.heap.size + 1 + 1, 0, none⟩ = some (.slice A n c) ∧ W'.cell? ⟨w.heap.size + 1 + 1, 1, none⟩ = some (.slice B m d) ∧ W'.cell? ⟨w.heap.size + 1 + 1, 2, none⟩ = some (.slice D p q))
            (first | (with_reducible exact hS _ (Below.refl _ _)) | (with_reducible exact hS _ (hbt1)) | (with_reducible exact hS _ (hbt2)) | (with_reducible exact hS _ (hbt3)) | (with_reducible exact hS _ (hbt4)) | (with_reducible exact hS _ (lat_d (Below.refl _ _))) | (with_reducible exact hS _ (lat_d (hbt1))) | (with_reducible exact hS _ (lat_d (hbt2))) | (with_reducible exact hS _ (lat_d (hbt3))) | (with_reducible exact hS _ (lat_d (hbt4))) | (with_reducible exact hS _ (lat_a (Below.refl _ _))) | (with_reducible exact hS _ (lat_a (hbt1))) | (with_reducible exact hS _ (lat_a (hbt2))) | (with_reducible exact hS _ (lat_a (hbt3))) | (with_reducible exact hS _ (lat_a (hbt4))) | (with_reducible exact hS _ (lat_ad (Below.refl _ _))) | (with_reducible exact hS _ (lat_ad (hbt1))) | (with_reducible exact hS _ (lat_ad (hbt2))) | (with_reducible exact hS _ (lat_ad (hbt3))) | (with_reducible exact hS _ (lat_ad (hbt4))) | (with_reducible exact hS _ (lat_s3 (hbt4) (Nat.le_refl _))) | (with_reducible exact hS _ (lat_s3 (hbt4) (hbt1.size))) | (with_reducible exact hS _ (lat_s3 (hbt4) (hbt2.size))) | (with_reducible exact hS _ (lat_s3 (hbt4) (hbt3.size))) | (with_reducible exact hS _ (lat_s3 (lat_a (hbt4)) (Nat.le_refl _))) | (with_reducible exact hS _ (lat_s3 (lat_a (hbt4)) (hbt1.size))) | (with_reducible exact hS _ (lat_s3 (lat_a (hbt4)) (hbt2.size))) | (with_reducible exact hS _ (lat_s3 (lat_a (hbt4)) (hbt3.size))) | (with_reducible exact hS _ (lat_s3 (lat_a (hbt4)) (hbt4.size))) | fail)
            (first | (go_at_call 52; refine (toGeometry_h  gg gb gr gc _ ).mono ?_; rintro e w21 ⟨rfl, hb1'⟩; have hb1 : Below w20.heap.size w20 w21 := (by first | exact ⟨hb1'.os, hb1'.tape, hb1'.output, hb1'.size, hb1'.block⟩ | exact below_after_alloc (.cells #[.slice none 0 0, .slice none 0 0, .slice none 0 0] 87) ⟨hb1'.os, hb1'.tape, hb1'.output, hb1'.size, hb1'.block⟩); (first | (replace bx := bx.kept hb1) | (have bx : Box w21 w20.heap.size 87 #[.slice none 0 0, .slice none 0 0, .slice none 0 0] := box_after_alloc ⟨hb1'.os, hb1'.tape, hb1'.output, hb1'.size, hb1'.block⟩) | skip); have hbt1 := hb1; have hzz1 := hb1.size; (try (obtain ⟨bx1_0, bx1_1, bx1_2⟩ := bx.c3; have bxf := bx.frozen; have bxl1 := bx.lt)); have ow_1 := ow.below hb1; have om_1 := om.below hb1; have rd_Array0_1 := rd_Array0.below hb1; have rd_Array1_1 := rd_Array1.below hb1; have rd_Array2_1 := rd_Array2.below hb1; have pGeometry_q1 := pGeometry.kept hb1; obtain ⟨pGeometry_q1c0, pGeometry_q1c1, pGeometry_q1c2, pGeometry_q1c3⟩ := pGeometry_q1.c4; have pLimits_q1 := pLimits.kept hb1; obtain ⟨pLimits_q1c0, pLimits_q1c1⟩ := pLimits_q1.c2; have pArray_q1 := pArray.kept hb1; obtain ⟨pArray_q1c0, pArray_q1c1, pArray_q1c2⟩ := pArray_q1.c3)
                             | (go_at_call 53; refine (toLimits_h  la lh _ ).mono ?_; rintro e w22 ⟨rfl, hb2'⟩; have hb2 : Below w21.heap.size w21 w22 := (by first | exact ⟨hb2'.os, hb2'.tape, hb2'.output, hb2'.size, hb2'.block⟩ | exact below_after_alloc (.cells #[.slice none 0 0, .slice none 0 0, .slice none 0 0] 87) ⟨hb2'.os, hb2'.tape, hb2'.output, hb2'.size, hb2'.block⟩); (first | (replace bx := bx.kept hb2) | (have bx : Box w22 w21.heap.size 87 #[.slice none 0 0, .slice none 0 0, .slice none 0 0] := box_after_alloc ⟨hb2'.os, hb2'.tape, hb2'.output, hb2'.size, hb2'.block⟩) | skip); have hbt2 := hbt1.trans (hb2.mono hbt1.size); have hzz2 := hb2.size; (try (obtain ⟨bx2_0, bx2_1, bx2_2⟩ := bx.c3; have bxf := bx.frozen; have bxl2 := bx.lt)); have ow_2 := ow_1.below hb2; have om_2 := om_1.below hb2; have rd_Array0_2 := rd_Array0_1.below hb2; have rd_Array1_2 := rd_Array1_1.below hb2; have rd_Array2_2 := rd_Array2_1.below hb2; have pGeometry_q2 := pGeometry_q1.kept hb2; obtain ⟨pGeometry_q2c0, pGeometry_q2c1, pGeometry_q2c2, pGeometry_q2c3⟩ := pGeometry_q2.c4; have pLimits_q2 := pLimits_q1.kept hb2; obtain ⟨pLimits_q2c0, pLimits_q2c1⟩ := pLimits_q2.c2; have pArray_q2 := pArray_q1.kept hb2; obtain ⟨pArray_q2c0, pArray_q2c1, pArray_q2c2⟩ := pArray_q2.c3)
                             | (go_at_call 54; refine (toArray_h A n c B m d D p q vs ag ht _ (by first | exact rd_Array0_2 | exact rd_Array0_2.alloc _) (by first | exact rd_Array1_2 | exact rd_Array1_2.alloc _) (by first | exact rd_Array2_2 | exact rd_Array2_2.alloc _) (by omega)).mono ?_; rintro e w23 ⟨A5, n5, c5, B5, m5, d5, D5, p5, q5, rfl, ocArray, hb3'⟩; have hb3 : Below w22.heap.size w22 w23 := (by first | exact ⟨hb3'.os, hb3'.tape, hb3'.output, hb3'.size, hb3'.block⟩ | exact below_after_alloc (.cells #[.slice none 0 0, .slice none 0 0, .slice none 0 0] 87) ⟨hb3'.os, hb3'.tape, hb3'.output, hb3'.size, hb3'.block⟩); (first | (replace bx := bx.kept hb3) | (have bx : Box w23 w22.heap.size 87 #[.slice none 0 0, .slice none 0 0, .slice none 0 0] := box_after_alloc ⟨hb3'.os, hb3'.tape, hb3'.output, hb3'.size, hb3'.block⟩) | skip); have hbt3 := hbt2.trans (hb3.mono hbt2.size); have hzz3 := hb3.size; (try (obtain ⟨bx3_0, bx3_1, bx3_2⟩ := bx.c3; have bxf := bx.frozen; have bxl3 := bx.lt)); have v5l : csz vs ≤ 1048576 := (by omega); have m5l : m5 ≤ 1048576 := (by have := ocArray.ia.1; have := hB.1; omega); have p5l : p5 ≤ 1048576 := (by have := ocArray.ih.1; have := hD.1; omega); have ow_3 := ow_2.below hb3; have om_3 := om_2.below hb3; have rd_Array0_3 := rd_Array0_2.below hb3; have rd_Array1_3 := rd_Array1_2.below hb3; have rd_Array2_3 := rd_Array2_2.below hb3; have pGeometry_q3 := pGeometry_q2.kept hb3; obtain ⟨pGeometry_q3c0, pGeometry_q3c1, pGeometry_q3c2, pGeometry_q3c3⟩ := pGeometry_q3.c4; have pLimits_q3 := pLimits_q2.kept hb3; obtain ⟨pLimits_q3c0, pLimits_q3c1⟩ := pLimits_q3.c2; have pArray_q3 := pArray_q2.kept hb3; obtain ⟨pArray_q3c0, pArray_q3c1, pArray_q3c2⟩ := pArray_q3.c3)
                             | (go_at_call 55; refine (iSenseRow_c gg gb gr gc la lh A5 n5 c5 B5 m5 d5 D5 p5 q5 vs ag ht bank row _ (by first | exact ocArray.cs | exact (ocArray.alloc _).cs) (by first | exact ocArray.ia | exact (ocArray.alloc _).ia) (by first | exact ocArray.ih | exact (ocArray.alloc _).ih) v5l m5l p5l).mono ?_; rintro e w24 ⟨A6, n6, c6, B6, m6, d6, D6, p6, q6, rfl, oh, hb4'⟩; have hb4 : Below w23.heap.size w23 w24 := (by first | exact ⟨hb4'.os, hb4'.tape, hb4'.output, hb4'.size, hb4'.block⟩ | exact below_after_alloc (.cells #[.slice none 0 0, .slice none 0 0, .slice none 0 0] 87) ⟨hb4'.os, hb4'.tape, hb4'.output, hb4'.size, hb4'.block⟩); (first | (replace bx := bx.kept hb4) | (have bx : Box w24 w23.heap.size 87 #[.slice none 0 0, .slice none 0 0, .slice none 0 0] := box_after_alloc ⟨hb4'.os, hb4'.tape, hb4'.output, hb4'.size, hb4'.block⟩) | skip); have hbt4 := hbt3.trans (hb4.mono hbt3.size); have hzz4 := hb4.size; (try (obtain ⟨bx4_0, bx4_1, bx4_2⟩ := bx.c3; have bxf := bx.frozen; have bxl4 := bx.lt)); have pGeometry_q4 := pGeometry_q3.kept hb4; obtain ⟨pGeometry_q4c0, pGeometry_q4c1, pGeometry_q4c2, pGeometry_q4c3⟩ := pGeometry_q4.c4; have pLimits_q4 := pLimits_q3.kept hb4; obtain ⟨pLimits_q4c0, pLimits_q4c1⟩ := pLimits_q4.c2; have pArray_q4 := pArray_q3.kept hb4; obtain ⟨pArray_q4c0, pArray_q4c1, pArray_q4c2⟩ := pArray_q4.c3))
          all_goals
            go_wp2_with fail
            go_meet
            first
            | exact ⟨_, A6, n6, c6, B6, m6, d6, D6, p6, q6, rfl, hbt4.size, Box.new _ _ _, ⟨_, _, oh.alloc _, hbt3.size, (by simp), .inr (Nat.le_refl _)⟩, lat_a hbt4⟩
            | exact ⟨_, A6, n6, c6, B6, m6, d6, D6, p6, q6, rfl, Nat.le_refl _, box_s3 bx, ⟨_, _, (((oh.setCell _ _ (.inl bxl3)).setCell _ _ (.inl bxl3)).setCell _ _ (.inl bxl3)), hbt3.size, (by simp [World.setCell]), .inl bxl3⟩, lat_s3 hbt4 (Nat.le_refl _)⟩
            | exact ⟨_, A6, n6, c6, B6, m6, d6, D6, p6, q6, rfl, hbt1.size, box_s3 bx, ⟨_, _, (((oh.setCell _ _ (.inl bxl3)).setCell _ _ (.inl bxl3)).setCell _ _ (.inl bxl3)), hbt3.size, (by simp [World.setCell]), .inl bxl3⟩, lat_s3 hbt4 (hbt1.size)⟩
            | exact ⟨_, A6, n6, c6, B6, m6, d6, D6, p6, q6, rfl, hbt2.size, box_s3 bx, ⟨_, _, (((oh.setCell _ _ (.inl bxl3)).setCell _ _ (.inl bxl3)).setCell _ _ (.inl bxl3)), hbt3.size, (by simp [World.setCell]), .inl bxl3⟩, lat_s3 hbt4 (hbt2.size)⟩
            | exact ⟨_, A6, n6, c6, B6, m6, d6, D6, p6, q6, rfl, hbt3.size, box_s3 bx, ⟨_, _, (((oh.setCell _ _ (.inl (by simp))).setCell _ _ (.inl (by simp))).setCell _ _ (.inl (by simp))), Nat.le_trans (hbt3.size) (by simp), (by simp [World.setCell]), .inl (by simp)⟩, lat_s3 hbt4 (hbt3.size)⟩
        case rest =>
          skip
          obtain ⟨g6, A6, n6, c6, B6, m6, d6, D6, p6, q6, rfl, hg6, ph, ⟨lo6, hi6, oh, hlo6, hhi6, hgl6⟩, hbb⟩ := hcut
          clear rd_Array0 rd_Array1 rd_Array2
          have v6l : csz (srV gg gb gr gc la lh vs ag ht bank row) ≤ 1048576 := by have := sr_lens gg gb gr gc la lh vs ag ht bank row; omega
          have m6l : m6 ≤ 1048576 := by have := oh.ia.1; have := sr_lens gg gb gr gc la lh vs ag ht bank row; have := hB.1; omega
          have p6l : p6 ≤ 1048576 := by have := oh.ih.1; have := sr_lens gg gb gr gc la lh vs ag ht bank row; have := hD.1; omega
          clear pGeometryc0 pGeometryc1 pGeometryc2 pGeometryc3 pGeometry_lt pLimitsc0 pLimitsc1 pLimits_lt pArrayc0 pArrayc1 pArrayc2 pArray_lt
          have szwc := hbb.size
          replace bel := bel.trans (hbb.mono bel.size)
          replace pGeometry := pGeometry.kept hbb
          replace pLimits := pLimits.kept hbb
          replace pArray := pArray.kept hbb
          replace pw := pw.kept hbb
          replace xArray := xArray.kept hbb
          replace pg := pg.kept hbb
          replace ow := ow.below hbb
          replace om := om.below hbb
          clear hbb
          obtain ⟨wc6, hwc⟩ : ∃ v : World, v = wc := ⟨_, rfl⟩
          subst hwc
          have hgs6 := ph.lt
          obtain ⟨phc0, phc1, phc2⟩ := ph.c3
          have ph_lt := ph.lt
          obtain ⟨pwc0, pwc1, pwc2⟩ := pw.c3
          have pw_lt := pw.lt
          go_wp2_with fail
          refine (eqArray_h A6 n6 c6 B6 m6 d6 D6 p6 q6 A2 n2 c2 B2 m2 d2 D2 p2 q2 (srV gg gb gr gc la lh vs ag ht bank row) (srA gg gb gr gc vs ag ht bank row) (srH gg gb gr gc vs ag ht bank row) _ oh.cs oh.ia oh.ih ow.cs ow.ia ow.ih v6l m6l p6l).mono ?_
          rintro e w25 ⟨rfl, hbb⟩
          clear phc0 phc1 phc2 ph_lt pwc0 pwc1 pwc2 pw_lt
          have szw25 := hbb.size
          replace bel := bel.trans (hbb.mono bel.size)
          replace pGeometry := pGeometry.kept hbb
          replace pLimits := pLimits.kept hbb
          replace pArray := pArray.kept hbb
          replace pw := pw.kept hbb
          replace xArray := xArray.kept hbb
          replace pg := pg.kept hbb
          replace ph := ph.kept hbb
          replace ow := ow.below hbb
          replace om := om.below hbb
          replace oh := oh.below hbb
          clear hbb
          obtain ⟨pgc0, pgc1, pgc2⟩ := pg.c3
          have pg_lt := pg.lt
          go_wp2_with fail
          refine (heldArray_h A4 n4 c4 B4 m4 d4 D4 p4 q4 (srV gg gb gr gc la lh vs ag ht bank row) 1 _ om.cs om.ia om.ih v4l m4l p4l (by omega) (by omega)).mono ?_
          rintro e w26 ⟨rfl, hbb⟩
          clear pgc0 pgc1 pgc2 pg_lt
          have szw26 := hbb.size
          replace bel := bel.trans (hbb.mono bel.size)
          replace pGeometry := pGeometry.kept hbb
          replace pLimits := pLimits.kept hbb
          replace pArray := pArray.kept hbb
          replace pw := pw.kept hbb
          replace xArray := xArray.kept hbb
          replace pg := pg.kept hbb
          replace ph := ph.kept hbb
          replace ow := ow.below hbb
          replace om := om.below hbb
          replace oh := oh.below hbb
          clear hbb
          go_wp2
          go_ret
          exact ⟨rfl, bel⟩
end Go.Proofs.Ytbapamfomfbmmaa
