/-
  The walk of FnExactRetireRow.
-/
import Derived.Test.YtachkiodmaoemaaSpV
import Derived.Test.YtachkiodmaoemaaOpen
import Derived.Test.YtachkiodmaoemaaLater
import Derived.Deep.DeepCutAuto
namespace Go.Proofs.Ytachkiodmaoemaa
open Go.RowKit
set_option linter.unusedSimpArgs false
set_option linter.unusedVariables false

set_option maxRecDepth 100000 in
set_option maxHeartbeats 8000000 in
theorem fnExactRetireRow_walk (gg : Int) (gb : Int) (gr : Int) (gc : Int) (A : Option Addr) (n c : Nat) (zs : List Int) (sp : Int) (bank : Int) (row : Int) (w : World) (igg : I64 gg) (igb : I64 gb) (igr : I64 gr) (igc : I64 gc) (hA : Ints w A n zs) (hn : n ≤ maxLen) (iA : ∀ z ∈ zs, I64 z) (isp : I64 sp) (ibank : I64 bank) (irow : I64 row) :
    Calls Try.prog 9 #[.agg #[.int .i64 gg, .int .i64 gb, .int .i64 gr, .int .i64 gc], .agg #[.int .i64 sp, .slice A n c], .int .i64 bank, .int .i64 row] w fun e w' => e = .returned (.bool true) ∧ Below w.heap.size w w' := by
  clear igg igb igr igc iA isp ibank irow
  by_cases hz0 : (1048576) < (n : Int)
  · skip
    have bel : Below w.heap.size w w := Below.refl _ _
    go_enter Try.func9, Try.ntmps9
    go_wp2_with fail
    refine abs_call ?_
    intro W1 hW
    replace bel := (Below.alloc (Below.alloc bel (by first | exact bel.size | (have hbs := bel.size; simp <;> omega)) (.cells #[.int .i64 gg, .int .i64 gb, .int .i64 gr, .int .i64 gc] 23)) (by first | exact bel.size | (have hbs := bel.size; simp <;> omega)) (.cells #[.int .i64 sp, .slice A n c] 34))
    rw [← hW] at bel
    have pGeometry : Box W1 (w.heap.size) 23 #[.int .i64 gg, .int .i64 gb, .int .i64 gr, .int .i64 gc] := by rw [hW]; exact ((Box.newAt (by simp))).alloc _
    have pSpare : Box W1 (w.heap.size + 1) 34 #[.int .i64 sp, .slice A n c] := by rw [hW]; exact (Box.newAt (by simp))
    have szW1 : w.heap.size + 1 + 1 ≤ W1.heap.size := by rw [hW]; simp
    clear hW
    refine (szSpare_n A n c zs sp (1048576) _ (by omega) (by omega) hn (by omega)).mono ?_
    rintro e w2 ⟨rfl, hbb⟩
    have szw2 := hbb.size
    replace bel := bel.trans (hbb.mono bel.size)
    replace pGeometry := pGeometry.kept hbb
    replace pSpare := pSpare.kept hbb
    clear hbb
    go_wp2
    go_ret
    exact ⟨rfl, bel⟩
  · skip
    have t0 : decide ((1048576 - (n : Int)) < 0) = false := by simp; omega
    have hs0 : ((retOk gg gb gr gc sp zs bank row) != (retOk gg gb gr gc sp zs bank row)) = false := by simp
    have bel : Below w.heap.size w w := Below.refl _ _
    go_enter Try.func9, Try.ntmps9
    go_wp2_with fail
    refine abs_call ?_
    intro W3 hW
    replace bel := (Below.alloc (Below.alloc bel (by first | exact bel.size | (have hbs := bel.size; simp <;> omega)) (.cells #[.int .i64 gg, .int .i64 gb, .int .i64 gr, .int .i64 gc] 23)) (by first | exact bel.size | (have hbs := bel.size; simp <;> omega)) (.cells #[.int .i64 sp, .slice A n c] 34))
    rw [← hW] at bel
    have pGeometry : Box W3 (w.heap.size) 23 #[.int .i64 gg, .int .i64 gb, .int .i64 gr, .int .i64 gc] := by rw [hW]; exact ((Box.newAt (by simp))).alloc _
    have pSpare : Box W3 (w.heap.size + 1) 34 #[.int .i64 sp, .slice A n c] := by rw [hW]; exact (Box.newAt (by simp))
    have szW3 : w.heap.size + 1 + 1 ≤ W3.heap.size := by rw [hW]; simp
    clear hW
    refine (szSpare_y A n c zs sp (1048576) _ (by omega) (by omega)).mono ?_
    rintro e w4 ⟨rfl, hbb⟩
    have szw4 := hbb.size
    replace bel := bel.trans (hbb.mono bel.size)
    replace pGeometry := pGeometry.kept hbb
    replace pSpare := pSpare.kept hbb
    clear hbb
    go_upto_region 5 with fail
    obtain ⟨pGeometryc0, pGeometryc1, pGeometryc2, pGeometryc3⟩ := pGeometry.c4
    have pGeometry_lt := pGeometry.lt
    obtain ⟨pSparec0, pSparec1⟩ := pSpare.c2
    have pSpare_lt := pSpare.lt
    have rd_Spare0 := hA.below bel
    go_cut [10, 11] (fun s10 s11 wx => ∃ (g2 : Nat) (A2 : Option Addr) (n2 c2 : Nat), s10 = .pointer (some ⟨g2, 0, none⟩) ∧ s11 = .bool (retOk gg gb gr gc sp zs bank row) ∧ w4.heap.size ≤ g2 ∧ Box wx g2 26 #[.int .i64 sp, .slice A2 n2 c2] ∧ (∃ lo hi : Nat, OwnH wx lo hi A2 n2 c2 (retMap gg gb gr gc sp zs bank row) ∧ w4.heap.size ≤ lo ∧ hi ≤ wx.heap.size ∧ (g2 < lo ∨ hi ≤ g2)) ∧ Below w4.heap.size w4 wx)
    case first =>
      have hS : ∀ Y : World, Below w4.heap.size w4 Y → (Y.cell? ⟨w.heap.size, 0, none⟩ = some (.int .i64 gg) ∧ Y.cell? ⟨w.heap.size, 1, none⟩ = some (.int .i64 gb) ∧ Y.cell? ⟨w.heap.size, 2, none⟩ = some (.int .i64 gr) ∧ Y.cell? ⟨w.heap.size, 3, none⟩ = some (.int .i64 gc) ∧ Y.cell? ⟨w.heap.size + 1, 0, none⟩ = some (.int .i64 sp) ∧ Y.cell? ⟨w.heap.size + 1, 1, none⟩ = some (.slice A n c)) := fun Y hY => ⟨(hY.cell (p := ⟨w.heap.size, 0, none⟩) pGeometry_lt).trans pGeometryc0, (hY.cell (p := ⟨w.heap.size, 1, none⟩) pGeometry_lt).trans pGeometryc1, (hY.cell (p := ⟨w.heap.size, 2, none⟩) pGeometry_lt).trans pGeometryc2, (hY.cell (p := ⟨w.heap.size, 3, none⟩) pGeometry_lt).trans pGeometryc3, (hY.cell (p := ⟨w.heap.size + 1, 0, none⟩) pSpare_lt).trans pSparec0, (hY.cell (p := ⟨w.heap.size + 1, 1, none⟩) pSpare_lt).trans pSparec1⟩
      go_region_held3 (fun W' => W'.cell? ⟨w.heap.size, 0, none⟩ = some (.int .i64 gg) ∧ W'.cell? ⟨w.heap.size, 1, none⟩ = some (.int .i64 gb) ∧ W'.cell? ⟨w.heap.size, 2, none⟩ = some (.int .i64 gr) ∧ W'.cell? ⟨w.heap.size, 3, none⟩ = some (.int .i64 gc) ∧ W'.cell? ⟨w.heap.size + 1, 0, none⟩ = some (.int .i64 sp) ∧ W'.cell? ⟨w.heap.size + 1, 1, none⟩ = some (.slice A n c))
        (first | (with_reducible exact hS _ (Below.refl _ _)) | (with_reducible exact hS _ (hbt1)) | (with_reducible exact hS _ (hbt2)) | (with_reducible exact hS _ (hbt3)) | (with_reducible exact hS _ (lat_d (Below.refl _ _))) | (with_reducible exact hS _ (lat_d (hbt1))) | (with_reducible exact hS _ (lat_d (hbt2))) | (with_reducible exact hS _ (lat_d (hbt3))) | (with_reducible exact hS _ (lat_a (Below.refl _ _))) | (with_reducible exact hS _ (lat_a (hbt1))) | (with_reducible exact hS _ (lat_a (hbt2))) | (with_reducible exact hS _ (lat_a (hbt3))) | (with_reducible exact hS _ (lat_ad (Below.refl _ _))) | (with_reducible exact hS _ (lat_ad (hbt1))) | (with_reducible exact hS _ (lat_ad (hbt2))) | (with_reducible exact hS _ (lat_ad (hbt3))) | (with_reducible exact hS _ (lat_s2 (hbt3) (Nat.le_refl _))) | (with_reducible exact hS _ (lat_s2 (hbt3) (hbt1.size))) | (with_reducible exact hS _ (lat_s2 (hbt3) (hbt2.size))) | (with_reducible exact hS _ (lat_s2 (lat_a (hbt3)) (Nat.le_refl _))) | (with_reducible exact hS _ (lat_s2 (lat_a (hbt3)) (hbt1.size))) | (with_reducible exact hS _ (lat_s2 (lat_a (hbt3)) (hbt2.size))) | (with_reducible exact hS _ (lat_s2 (lat_a (hbt3)) (hbt3.size))) | fail)
        (first | (go_at_call 13; refine (toGeometry_h  gg gb gr gc _ ).mono ?_; rintro e w5 ⟨rfl, hb1'⟩; have hb1 : Below w4.heap.size w4 w5 := (by first | exact ⟨hb1'.os, hb1'.tape, hb1'.output, hb1'.size, hb1'.block⟩ | exact below_after_alloc (.cells #[.int .i64 0, .slice none 0 0] 26) ⟨hb1'.os, hb1'.tape, hb1'.output, hb1'.size, hb1'.block⟩); (first | (replace bx := bx.kept hb1) | (have bx : Box w5 w4.heap.size 26 #[.int .i64 0, .slice none 0 0] := box_after_alloc ⟨hb1'.os, hb1'.tape, hb1'.output, hb1'.size, hb1'.block⟩) | skip); have hbt1 := hb1; have hzz1 := hb1.size; (try (obtain ⟨bx1_0, bx1_1⟩ := bx.c2; have bxf := bx.frozen; have bxl1 := bx.lt)); have rd_Spare0_1 := rd_Spare0.below hb1; have pGeometry_q1 := pGeometry.kept hb1; obtain ⟨pGeometry_q1c0, pGeometry_q1c1, pGeometry_q1c2, pGeometry_q1c3⟩ := pGeometry_q1.c4; have pSpare_q1 := pSpare.kept hb1; obtain ⟨pSpare_q1c0, pSpare_q1c1⟩ := pSpare_q1.c2)
                     | (go_at_call 20; refine (toSpare_h A n c zs sp _ (by first | exact rd_Spare0_1 | exact rd_Spare0_1.alloc _) (by omega)).mono ?_; rintro e w6 ⟨A1, n1, c1, rfl, oaSpare, hb2'⟩; have hb2 : Below w5.heap.size w5 w6 := (by first | exact ⟨hb2'.os, hb2'.tape, hb2'.output, hb2'.size, hb2'.block⟩ | exact below_after_alloc (.cells #[.int .i64 0, .slice none 0 0] 26) ⟨hb2'.os, hb2'.tape, hb2'.output, hb2'.size, hb2'.block⟩); (first | (replace bx := bx.kept hb2) | (have bx : Box w6 w5.heap.size 26 #[.int .i64 0, .slice none 0 0] := box_after_alloc ⟨hb2'.os, hb2'.tape, hb2'.output, hb2'.size, hb2'.block⟩) | skip); have hbt2 := hbt1.trans (hb2.mono hbt1.size); have hzz2 := hb2.size; (try (obtain ⟨bx2_0, bx2_1⟩ := bx.c2; have bxf := bx.frozen; have bxl2 := bx.lt)); have n1l : n1 ≤ 1048576 := (by have := oaSpare.len; have := hA.1; omega); have n1c : n1 ≤ c1 ∧ c1 ≤ maxLen := OwnI.cap oaSpare.1; have rd_Spare0_2 := rd_Spare0_1.below hb2; have pGeometry_q2 := pGeometry_q1.kept hb2; obtain ⟨pGeometry_q2c0, pGeometry_q2c1, pGeometry_q2c2, pGeometry_q2c3⟩ := pGeometry_q2.c4; have pSpare_q2 := pSpare_q1.kept hb2; obtain ⟨pSpare_q2c0, pSpare_q2c1⟩ := pSpare_q2.c2)
                     | (go_at_call 31; refine (sRetireRow_x gg gb gr gc A1 n1 c1 zs sp bank row _ (by first | exact oaSpare.ints | exact (oaSpare.alloc _).ints) n1l n1c).mono ?_; rintro e w7 ⟨A2, n2, c2, rfl, ow, hb3'⟩; have hb3 : Below w6.heap.size w6 w7 := (by first | exact ⟨hb3'.os, hb3'.tape, hb3'.output, hb3'.size, hb3'.block⟩ | exact below_after_alloc (.cells #[.int .i64 0, .slice none 0 0] 26) ⟨hb3'.os, hb3'.tape, hb3'.output, hb3'.size, hb3'.block⟩); (first | (replace bx := bx.kept hb3) | (have bx : Box w7 w6.heap.size 26 #[.int .i64 0, .slice none 0 0] := box_after_alloc ⟨hb3'.os, hb3'.tape, hb3'.output, hb3'.size, hb3'.block⟩) | skip); have hbt3 := hbt2.trans (hb3.mono hbt2.size); have hzz3 := hb3.size; (try (obtain ⟨bx3_0, bx3_1⟩ := bx.c2; have bxf := bx.frozen; have bxl3 := bx.lt)); have pGeometry_q3 := pGeometry_q2.kept hb3; obtain ⟨pGeometry_q3c0, pGeometry_q3c1, pGeometry_q3c2, pGeometry_q3c3⟩ := pGeometry_q3.c4; have pSpare_q3 := pSpare_q2.kept hb3; obtain ⟨pSpare_q3c0, pSpare_q3c1⟩ := pSpare_q3.c2))
      all_goals
        go_wp2_with fail
        go_meet
        first
        | exact ⟨_, A2, n2, c2, rfl, rfl, hbt3.size, Box.new _ _ _, ⟨_, _, ow.alloc _, hbt2.size, (by simp), .inr (Nat.le_refl _)⟩, lat_a hbt3⟩
        | exact ⟨_, A2, n2, c2, rfl, rfl, Nat.le_refl _, box_s2 bx, ⟨_, _, ((ow.setCell _ _ (.inl bxl2)).setCell _ _ (.inl bxl2)), hbt2.size, (by simp [World.setCell]), .inl bxl2⟩, lat_s2 hbt3 (Nat.le_refl _)⟩
        | exact ⟨_, A2, n2, c2, rfl, rfl, hbt1.size, box_s2 bx, ⟨_, _, ((ow.setCell _ _ (.inl bxl2)).setCell _ _ (.inl bxl2)), hbt2.size, (by simp [World.setCell]), .inl bxl2⟩, lat_s2 hbt3 (hbt1.size)⟩
        | exact ⟨_, A2, n2, c2, rfl, rfl, hbt2.size, box_s2 bx, ⟨_, _, ((ow.setCell _ _ (.inl (by simp))).setCell _ _ (.inl (by simp))), Nat.le_trans (hbt2.size) (by simp), (by simp [World.setCell]), .inl (by simp)⟩, lat_s2 hbt3 (hbt2.size)⟩
    case rest =>
      skip
      obtain ⟨g2, A2, n2, c2, rfl, rfl, hg2, pw, ⟨lo2, hi2, ow, hlo2, hhi2, hgl2⟩, hbb⟩ := hcut
      clear rd_Spare0
      have n2l : n2 ≤ 1048576 := by have := ow.len; have := retMap_len gg gb gr gc sp zs bank row; have := hA.1; omega
      clear pGeometryc0 pGeometryc1 pGeometryc2 pGeometryc3 pGeometry_lt pSparec0 pSparec1 pSpare_lt
      have szwc := hbb.size
      replace bel := bel.trans (hbb.mono bel.size)
      replace pGeometry := pGeometry.kept hbb
      replace pSpare := pSpare.kept hbb
      clear hbb
      obtain ⟨wc2, hwc⟩ : ∃ v : World, v = wc := ⟨_, rfl⟩
      subst hwc
      have hgs2 := pw.lt
      obtain ⟨pSparec0, pSparec1⟩ := pSpare.c2
      have pSpare_lt := pSpare.lt
      go_wp2_with fail
      refine (toSpare_h A n c zs sp _ (hA.below bel) (by omega)).mono ?_
      rintro e w8 ⟨A3, n3, c3, rfl, oxSpare, hbb⟩
      have n3l : n3 ≤ 1048576 := by have := oxSpare.len; have := hA.1; omega
      have n3c : n3 ≤ c3 ∧ c3 ≤ maxLen := OwnI.cap oxSpare.1
      clear pSparec0 pSparec1 pSpare_lt
      have szw8 := hbb.size
      replace bel := bel.trans (hbb.mono bel.size)
      replace pGeometry := pGeometry.kept hbb
      replace pSpare := pSpare.kept hbb
      replace pw := pw.kept hbb
      replace ow := ow.below hbb
      clear hbb
      go_upto_region 7 with fail
      refine abs_code ?_
      intro W9 hW
      replace bel := (Below.alloc bel (by first | exact bel.size | (have hbs := bel.size; simp <;> omega)) (.cells #[.int .i64 sp, .slice A3 n3 c3] 26))
      rw [← hW] at bel
      replace pGeometry := (pGeometry).alloc (.cells #[.int .i64 sp, .slice A3 n3 c3] 26)
      rw [← hW] at pGeometry
      replace pSpare := (pSpare).alloc (.cells #[.int .i64 sp, .slice A3 n3 c3] 26)
      rw [← hW] at pSpare
      replace pw := (pw).alloc (.cells #[.int .i64 sp, .slice A3 n3 c3] 26)
      rw [← hW] at pw
      replace ow := (ow).alloc (.cells #[.int .i64 sp, .slice A3 n3 c3] 26)
      rw [← hW] at ow
      replace oxSpare := (oxSpare).alloc (.cells #[.int .i64 sp, .slice A3 n3 c3] 26)
      rw [← hW] at oxSpare
      have xSpare : Box W9 (w8.heap.size) 26 #[.int .i64 sp, .slice A3 n3 c3] := by rw [hW]; exact (Box.newAt (by simp))
      have szW9 : w8.heap.size + 1 ≤ W9.heap.size := by rw [hW]; simp
      clear hW
      obtain ⟨pGeometryc0, pGeometryc1, pGeometryc2, pGeometryc3⟩ := pGeometry.c4
      have pGeometry_lt := pGeometry.lt
      obtain ⟨xSparec0, xSparec1⟩ := xSpare.c2
      have xSpare_lt := xSpare.lt
      have rd_Spare0 := hA.below bel
      go_cut [13, 14] (fun s13 s14 wx => ∃ (g4 : Nat) (A4 : Option Addr) (n4 c4 : Nat), s13 = .pointer (some ⟨g4, 0, none⟩) ∧ s14 = .bool (retOk gg gb gr gc sp zs bank row) ∧ W9.heap.size ≤ g4 ∧ Box wx g4 26 #[.int .i64 sp, .slice A4 n4 c4] ∧ (∃ lo hi : Nat, OwnH wx lo hi A4 n4 c4 (retMap gg gb gr gc sp zs bank row) ∧ W9.heap.size ≤ lo ∧ hi ≤ wx.heap.size ∧ (g4 < lo ∨ hi ≤ g4)) ∧ Below W9.heap.size W9 wx)
      case first =>
        have hS : ∀ Y : World, Below W9.heap.size W9 Y → (Y.cell? ⟨w.heap.size, 0, none⟩ = some (.int .i64 gg) ∧ Y.cell? ⟨w.heap.size, 1, none⟩ = some (.int .i64 gb) ∧ Y.cell? ⟨w.heap.size, 2, none⟩ = some (.int .i64 gr) ∧ Y.cell? ⟨w.heap.size, 3, none⟩ = some (.int .i64 gc) ∧ Y.cell? ⟨w8.heap.size, 0, none⟩ = some (.int .i64 sp) ∧ Y.cell? ⟨w8.heap.size, 1, none⟩ = some (.slice A3 n3 c3)) := fun Y hY => ⟨(hY.cell (p := ⟨w.heap.size, 0, none⟩) pGeometry_lt).trans pGeometryc0, (hY.cell (p := ⟨w.heap.size, 1, none⟩) pGeometry_lt).trans pGeometryc1, (hY.cell (p := ⟨w.heap.size, 2, none⟩) pGeometry_lt).trans pGeometryc2, (hY.cell (p := ⟨w.heap.size, 3, none⟩) pGeometry_lt).trans pGeometryc3, (hY.cell (p := ⟨w8.heap.size, 0, none⟩) xSpare_lt).trans xSparec0, (hY.cell (p := ⟨w8.heap.size, 1, none⟩) xSpare_lt).trans xSparec1⟩
        go_region_held3 (fun W' => W'.cell? ⟨w.heap.size, 0, none⟩ = some (.int .i64 gg) ∧ W'.cell? ⟨w.heap.size, 1, none⟩ = some (.int .i64 gb) ∧ W'.cell? ⟨w.heap.size, 2, none⟩ = some (.int .i64 gr) ∧ W'.cell? ⟨w.heap.size, 3, none⟩ = some (.int .i64 gc) ∧ W'.cell? ⟨w8.heap.size, 0, none⟩ = some (.int .i64 sp) ∧ W'.cell? ⟨w8.heap.size, 1, none⟩ = some (.slice A3 n3 c3))
          (first | (with_reducible exact hS _ (Below.refl _ _)) | (with_reducible exact hS _ (hbt1)) | (with_reducible exact hS _ (hbt2)) | (with_reducible exact hS _ (lat_d (Below.refl _ _))) | (with_reducible exact hS _ (lat_d (hbt1))) | (with_reducible exact hS _ (lat_d (hbt2))) | (with_reducible exact hS _ (lat_a (Below.refl _ _))) | (with_reducible exact hS _ (lat_a (hbt1))) | (with_reducible exact hS _ (lat_a (hbt2))) | (with_reducible exact hS _ (lat_ad (Below.refl _ _))) | (with_reducible exact hS _ (lat_ad (hbt1))) | (with_reducible exact hS _ (lat_ad (hbt2))) | (with_reducible exact hS _ (lat_s2 (hbt2) (Nat.le_refl _))) | (with_reducible exact hS _ (lat_s2 (hbt2) (hbt1.size))) | (with_reducible exact hS _ (lat_s2 (lat_a (hbt2)) (Nat.le_refl _))) | (with_reducible exact hS _ (lat_s2 (lat_a (hbt2)) (hbt1.size))) | (with_reducible exact hS _ (lat_s2 (lat_a (hbt2)) (hbt2.size))) | fail)
          (first | (go_at_call 13; refine (toGeometry_h  gg gb gr gc _ ).mono ?_; rintro e w10 ⟨rfl, hb1'⟩; have hb1 : Below W9.heap.size W9 w10 := (by first | exact ⟨hb1'.os, hb1'.tape, hb1'.output, hb1'.size, hb1'.block⟩ | exact below_after_alloc (.cells #[.int .i64 0, .slice none 0 0] 26) ⟨hb1'.os, hb1'.tape, hb1'.output, hb1'.size, hb1'.block⟩); (first | (replace bx := bx.kept hb1) | (have bx : Box w10 W9.heap.size 26 #[.int .i64 0, .slice none 0 0] := box_after_alloc ⟨hb1'.os, hb1'.tape, hb1'.output, hb1'.size, hb1'.block⟩) | skip); have hbt1 := hb1; have hzz1 := hb1.size; (try (obtain ⟨bx1_0, bx1_1⟩ := bx.c2; have bxf := bx.frozen; have bxl1 := bx.lt)); have ow_1 := ow.below hb1; have oxSpare_1 := oxSpare.below hb1; have rd_Spare0_1 := rd_Spare0.below hb1; have pGeometry_q1 := pGeometry.kept hb1; obtain ⟨pGeometry_q1c0, pGeometry_q1c1, pGeometry_q1c2, pGeometry_q1c3⟩ := pGeometry_q1.c4; have xSpare_q1 := xSpare.kept hb1; obtain ⟨xSpare_q1c0, xSpare_q1c1⟩ := xSpare_q1.c2)
                         | (go_at_call 32; refine (iRetireRow_x gg gb gr gc A3 n3 c3 zs sp bank row _ (by first | exact oxSpare_1.ints | exact (oxSpare_1.alloc _).ints) n3l n3c).mono ?_; rintro e w11 ⟨A4, n4, c4, rfl, og, hb2'⟩; have hb2 : Below w10.heap.size w10 w11 := (by first | exact ⟨hb2'.os, hb2'.tape, hb2'.output, hb2'.size, hb2'.block⟩ | exact below_after_alloc (.cells #[.int .i64 0, .slice none 0 0] 26) ⟨hb2'.os, hb2'.tape, hb2'.output, hb2'.size, hb2'.block⟩); (first | (replace bx := bx.kept hb2) | (have bx : Box w11 w10.heap.size 26 #[.int .i64 0, .slice none 0 0] := box_after_alloc ⟨hb2'.os, hb2'.tape, hb2'.output, hb2'.size, hb2'.block⟩) | skip); have hbt2 := hbt1.trans (hb2.mono hbt1.size); have hzz2 := hb2.size; (try (obtain ⟨bx2_0, bx2_1⟩ := bx.c2; have bxf := bx.frozen; have bxl2 := bx.lt)); have pGeometry_q2 := pGeometry_q1.kept hb2; obtain ⟨pGeometry_q2c0, pGeometry_q2c1, pGeometry_q2c2, pGeometry_q2c3⟩ := pGeometry_q2.c4; have xSpare_q2 := xSpare_q1.kept hb2; obtain ⟨xSpare_q2c0, xSpare_q2c1⟩ := xSpare_q2.c2))
        all_goals
          go_wp2_with fail
          go_meet
          first
          | exact ⟨_, A4, n4, c4, rfl, rfl, hbt2.size, Box.new _ _ _, ⟨_, _, og.alloc _, hbt1.size, (by simp), .inr (Nat.le_refl _)⟩, lat_a hbt2⟩
          | exact ⟨_, A4, n4, c4, rfl, rfl, Nat.le_refl _, box_s2 bx, ⟨_, _, ((og.setCell _ _ (.inl bxl1)).setCell _ _ (.inl bxl1)), hbt1.size, (by simp [World.setCell]), .inl bxl1⟩, lat_s2 hbt2 (Nat.le_refl _)⟩
          | exact ⟨_, A4, n4, c4, rfl, rfl, hbt1.size, box_s2 bx, ⟨_, _, ((og.setCell _ _ (.inl (by simp))).setCell _ _ (.inl (by simp))), Nat.le_trans (hbt1.size) (by simp), (by simp [World.setCell]), .inl (by simp)⟩, lat_s2 hbt2 (hbt1.size)⟩
      case rest =>
        skip
        obtain ⟨g4, A4, n4, c4, rfl, rfl, hg4, pg, ⟨lo4, hi4, og, hlo4, hhi4, hgl4⟩, hbb⟩ := hcut
        clear rd_Spare0
        have n4l : n4 ≤ 1048576 := by have := og.len; have := retMap_len gg gb gr gc sp zs bank row; have := hA.1; omega
        clear pGeometryc0 pGeometryc1 pGeometryc2 pGeometryc3 pGeometry_lt xSparec0 xSparec1 xSpare_lt
        have szwc := hbb.size
        replace bel := bel.trans (hbb.mono bel.size)
        replace pGeometry := pGeometry.kept hbb
        replace pSpare := pSpare.kept hbb
        replace pw := pw.kept hbb
        replace xSpare := xSpare.kept hbb
        replace ow := ow.below hbb
        replace oxSpare := oxSpare.below hbb
        clear hbb
        obtain ⟨wc4, hwc⟩ : ∃ v : World, v = wc := ⟨_, rfl⟩
        subst hwc
        have hgs4 := pg.lt
        obtain ⟨pgc0, pgc1⟩ := pg.c2
        have pg_lt := pg.lt
        obtain ⟨pwc0, pwc1⟩ := pw.c2
        have pw_lt := pw.lt
        go_wp2_with fail
        refine (eqSpare_h A4 n4 c4 A2 n2 c2 (retMap gg gb gr gc sp zs bank row) sp _ og.ints ow.ints n4l).mono ?_
        rintro e w12 ⟨rfl, hbb⟩
        clear pgc0 pgc1 pg_lt pwc0 pwc1 pw_lt
        have szw12 := hbb.size
        replace bel := bel.trans (hbb.mono bel.size)
        replace pGeometry := pGeometry.kept hbb
        replace pSpare := pSpare.kept hbb
        replace pw := pw.kept hbb
        replace xSpare := xSpare.kept hbb
        replace pg := pg.kept hbb
        replace ow := ow.below hbb
        replace oxSpare := oxSpare.below hbb
        replace og := og.below hbb
        clear hbb
        go_wp2_with fail
        obtain ⟨xSparec0, xSparec1⟩ := xSpare.c2
        have xSpare_lt := xSpare.lt
        obtain ⟨pSparec0, pSparec1⟩ := pSpare.c2
        have pSpare_lt := pSpare.lt
        have rd_Spare0 := hA.below bel
        go_region_held3 (fun W' => W'.cell? ⟨w8.heap.size, 0, none⟩ = some (.int .i64 sp) ∧ W'.cell? ⟨w8.heap.size, 1, none⟩ = some (.slice A3 n3 c3) ∧ W'.cell? ⟨w.heap.size + 1, 0, none⟩ = some (.int .i64 sp) ∧ W'.cell? ⟨w.heap.size + 1, 1, none⟩ = some (.slice A n c))
          (first | exact ⟨xSparec0, xSparec1, pSparec0, pSparec1⟩ | exact ⟨xSpare_q1c0, xSpare_q1c1, pSpare_q1c0, pSpare_q1c1⟩ | exact ⟨xSpare_q2c0, xSpare_q2c1, pSpare_q2c0, pSpare_q2c1⟩)
          (first | (go_at_call 20; refine (toSpare_h A n c zs sp _ (by exact rd_Spare0) (by omega)).mono ?_; rintro e w13 ⟨A7, n7, c7, rfl, oeSpare, hb1'⟩; have hb1 : Below w12.heap.size w12 w13 := ⟨hb1'.os, hb1'.tape, hb1'.output, hb1'.size, hb1'.block⟩; have n7l : n7 ≤ 1048576 := (by have := oeSpare.len; have := hA.1; omega); have n7c : n7 ≤ c7 ∧ c7 ≤ maxLen := OwnI.cap oeSpare.1; have ow_1 := ow.below hb1; have oxSpare_1 := oxSpare.below hb1; have og_1 := og.below hb1; have rd_Spare0_1 := rd_Spare0.below hb1; have xSpare_q1 := xSpare.kept hb1; obtain ⟨xSpare_q1c0, xSpare_q1c1⟩ := xSpare_q1.c2; have pSpare_q1 := pSpare.kept hb1; obtain ⟨pSpare_q1c0, pSpare_q1c1⟩ := pSpare_q1.c2)
                         | (go_at_call 15; refine (eqSpare_h A3 n3 c3 A7 n7 c7 zs sp _ oxSpare_1.ints oeSpare.ints n3l).mono ?_; rintro e w14 ⟨rfl, hb2'⟩; have hb2 : Below w13.heap.size w13 w14 := ⟨hb2'.os, hb2'.tape, hb2'.output, hb2'.size, hb2'.block⟩; have xSpare_q2 := xSpare_q1.kept hb2; obtain ⟨xSpare_q2c0, xSpare_q2c1⟩ := xSpare_q2.c2; have pSpare_q2 := pSpare_q1.kept hb2; obtain ⟨pSpare_q2c0, pSpare_q2c1⟩ := pSpare_q2.c2))
        clear ow_1 oxSpare_1 og_1 rd_Spare0_1 xSpare_q1 xSpare_q1c0 xSpare_q1c1 pSpare_q1 pSpare_q1c0 pSpare_q1c1 xSpare_q2 xSpare_q2c0 xSpare_q2c1 pSpare_q2 pSpare_q2c0 pSpare_q2c1 hb1' hb2' rd_Spare0
        clear xSparec0 xSparec1 xSpare_lt pSparec0 pSparec1 pSpare_lt
        have szw13 := hb1.size
        replace bel := bel.trans (hb1.mono bel.size)
        replace pGeometry := pGeometry.kept hb1
        replace pSpare := pSpare.kept hb1
        replace pw := pw.kept hb1
        replace xSpare := xSpare.kept hb1
        replace pg := pg.kept hb1
        replace ow := ow.below hb1
        replace oxSpare := oxSpare.below hb1
        replace og := og.below hb1
        clear hb1
        have szw14 := hb2.size
        replace bel := bel.trans (hb2.mono bel.size)
        replace pGeometry := pGeometry.kept hb2
        replace pSpare := pSpare.kept hb2
        replace pw := pw.kept hb2
        replace xSpare := xSpare.kept hb2
        replace pg := pg.kept hb2
        replace ow := ow.below hb2
        replace oxSpare := oxSpare.below hb2
        replace og := og.below hb2
        replace oeSpare := oeSpare.below hb2
        clear hb2
        clear oeSpare
        obtain ⟨xSparec0, xSparec1⟩ := xSpare.c2
        have xSpare_lt := xSpare.lt
        go_wp2_with fail
        refine (markSpare_h A3 n3 c3 (wc2.heap.size) (w8.heap.size) zs sp (1) _ oxSpare n3l (by omega) (by omega)).mono ?_
        rintro e w15 ⟨rfl, oy, C⟩
        clear oxSpare oy
        clear xSparec0 xSparec1 xSpare_lt
        have szw15 := C.size
        replace bel := C.below bel (by omega)
        replace pGeometry := pGeometry.chg C (by omega)
        replace pSpare := pSpare.chg C (by omega)
        replace pw := pw.chg C (by omega)
        replace xSpare := xSpare.chg C (by omega)
        replace pg := pg.chg C (by omega)
        replace ow := ow.chg C (by omega)
        replace og := og.chg C (by omega)
        clear C
        have t9 : decide (1 + (n3 : Int) < 0) = false := by simp; omega
        obtain ⟨pgc0, pgc1⟩ := pg.c2
        have pg_lt := pg.lt
        obtain ⟨pwc0, pwc1⟩ := pw.c2
        have pw_lt := pw.lt
        go_wp2_with fail
        refine (eqSpare_h A4 n4 c4 A2 n2 c2 (retMap gg gb gr gc sp zs bank row) sp _ og.ints ow.ints n4l).mono ?_
        rintro e w16 ⟨rfl, hbb⟩
        clear pgc0 pgc1 pg_lt pwc0 pwc1 pw_lt
        have szw16 := hbb.size
        replace bel := bel.trans (hbb.mono bel.size)
        replace pGeometry := pGeometry.kept hbb
        replace pSpare := pSpare.kept hbb
        replace pw := pw.kept hbb
        replace xSpare := xSpare.kept hbb
        replace pg := pg.kept hbb
        replace ow := ow.below hbb
        replace og := og.below hbb
        clear hbb
        obtain ⟨pgc0, pgc1⟩ := pg.c2
        have pg_lt := pg.lt
        go_wp2_with fail
        refine (markSpare_h A4 n4 c4 (lo4) (hi4) (retMap gg gb gr gc sp zs bank row) sp 1 _ og n4l (by omega) (by omega)).mono ?_
        rintro e w17 ⟨rfl, om, C⟩
        clear og
        clear pgc0 pgc1 pg_lt
        have szw17 := C.size
        replace bel := C.below bel (by omega)
        replace pGeometry := pGeometry.chg C (by omega)
        replace pSpare := pSpare.chg C (by omega)
        replace pw := pw.chg C (by omega)
        replace xSpare := xSpare.chg C (by omega)
        replace pg := pg.chg C (by omega)
        replace ow := ow.chg C (by omega)
        clear C
        obtain ⟨pgc0, pgc1⟩ := pg.c2
        have pg_lt := pg.lt
        go_wp2_with fail
        refine (heldSpare_h A4 n4 c4 sp 1 _ om.ints n4l (by omega) (by omega)).mono ?_
        rintro e w18 ⟨rfl, hbb⟩
        clear pgc0 pgc1 pg_lt
        have szw18 := hbb.size
        replace bel := bel.trans (hbb.mono bel.size)
        replace pGeometry := pGeometry.kept hbb
        replace pSpare := pSpare.kept hbb
        replace pw := pw.kept hbb
        replace xSpare := xSpare.kept hbb
        replace pg := pg.kept hbb
        replace ow := ow.below hbb
        replace om := om.below hbb
        clear hbb
        have t7 : decide (1 + (n4 : Int) < 0) = false := by simp; omega
        have t8 : ((1 + (n4 : Int)) != (1 + (n4 : Int))) = false := by simp
        go_upto_region 24 with fail
        obtain ⟨pGeometryc0, pGeometryc1, pGeometryc2, pGeometryc3⟩ := pGeometry.c4
        have pGeometry_lt := pGeometry.lt
        obtain ⟨pSparec0, pSparec1⟩ := pSpare.c2
        have pSpare_lt := pSpare.lt
        have rd_Spare0 := hA.below bel
        go_cut [18, 19] (fun s18 s19 wx => ∃ (g6 : Nat) (A6 : Option Addr) (n6 c6 : Nat), s18 = .pointer (some ⟨g6, 0, none⟩) ∧ s19 = .bool (retOk gg gb gr gc sp zs bank row) ∧ w18.heap.size ≤ g6 ∧ Box wx g6 26 #[.int .i64 sp, .slice A6 n6 c6] ∧ (∃ lo hi : Nat, OwnH wx lo hi A6 n6 c6 (retMap gg gb gr gc sp zs bank row) ∧ w18.heap.size ≤ lo ∧ hi ≤ wx.heap.size ∧ (g6 < lo ∨ hi ≤ g6)) ∧ Below w18.heap.size w18 wx)
        case first =>
          have hS : ∀ Y : World, Below w18.heap.size w18 Y → (Y.cell? ⟨w.heap.size, 0, none⟩ = some (.int .i64 gg) ∧ Y.cell? ⟨w.heap.size, 1, none⟩ = some (.int .i64 gb) ∧ Y.cell? ⟨w.heap.size, 2, none⟩ = some (.int .i64 gr) ∧ Y.cell? ⟨w.heap.size, 3, none⟩ = some (.int .i64 gc) ∧ Y.cell? ⟨w.heap.size + 1, 0, none⟩ = some (.int .i64 sp) ∧ Y.cell? ⟨w.heap.size + 1, 1, none⟩ = some (.slice A n c)) := fun Y hY => ⟨(hY.cell (p := ⟨w.heap.size, 0, none⟩) pGeometry_lt).trans pGeometryc0, (hY.cell (p := ⟨w.heap.size, 1, none⟩) pGeometry_lt).trans pGeometryc1, (hY.cell (p := ⟨w.heap.size, 2, none⟩) pGeometry_lt).trans pGeometryc2, (hY.cell (p := ⟨w.heap.size, 3, none⟩) pGeometry_lt).trans pGeometryc3, (hY.cell (p := ⟨w.heap.size + 1, 0, none⟩) pSpare_lt).trans pSparec0, (hY.cell (p := ⟨w.heap.size + 1, 1, none⟩) pSpare_lt).trans pSparec1⟩
          go_region_held3 (fun W' => W'.cell? ⟨w.heap.size, 0, none⟩ = some (.int .i64 gg) ∧ W'.cell? ⟨w.heap.size, 1, none⟩ = some (.int .i64 gb) ∧ W'.cell? ⟨w.heap.size, 2, none⟩ = some (.int .i64 gr) ∧ W'.cell? ⟨w.heap.size, 3, none⟩ = some (.int .i64 gc) ∧ W'.cell? ⟨w.heap.size + 1, 0, none⟩ = some (.int .i64 sp) ∧ W'.cell? ⟨w.heap.size + 1, 1, none⟩ = some (.slice A n c))
            (first | (with_reducible exact hS _ (Below.refl _ _)) | (with_reducible exact hS _ (hbt1)) | (with_reducible exact hS _ (hbt2)) | (with_reducible exact hS _ (hbt3)) | (with_reducible exact hS _ (lat_d (Below.refl _ _))) | (with_reducible exact hS _ (lat_d (hbt1))) | (with_reducible exact hS _ (lat_d (hbt2))) | (with_reducible exact hS _ (lat_d (hbt3))) | (with_reducible exact hS _ (lat_a (Below.refl _ _))) | (with_reducible exact hS _ (lat_a (hbt1))) | (with_reducible exact hS _ (lat_a (hbt2))) | (with_reducible exact hS _ (lat_a (hbt3))) | (with_reducible exact hS _ (lat_ad (Below.refl _ _))) | (with_reducible exact hS _ (lat_ad (hbt1))) | (with_reducible exact hS _ (lat_ad (hbt2))) | (with_reducible exact hS _ (lat_ad (hbt3))) | (with_reducible exact hS _ (lat_s2 (hbt3) (Nat.le_refl _))) | (with_reducible exact hS _ (lat_s2 (hbt3) (hbt1.size))) | (with_reducible exact hS _ (lat_s2 (hbt3) (hbt2.size))) | (with_reducible exact hS _ (lat_s2 (lat_a (hbt3)) (Nat.le_refl _))) | (with_reducible exact hS _ (lat_s2 (lat_a (hbt3)) (hbt1.size))) | (with_reducible exact hS _ (lat_s2 (lat_a (hbt3)) (hbt2.size))) | (with_reducible exact hS _ (lat_s2 (lat_a (hbt3)) (hbt3.size))) | fail)
            (first | (go_at_call 13; refine (toGeometry_h  gg gb gr gc _ ).mono ?_; rintro e w19 ⟨rfl, hb1'⟩; have hb1 : Below w18.heap.size w18 w19 := (by first | exact ⟨hb1'.os, hb1'.tape, hb1'.output, hb1'.size, hb1'.block⟩ | exact below_after_alloc (.cells #[.int .i64 0, .slice none 0 0] 26) ⟨hb1'.os, hb1'.tape, hb1'.output, hb1'.size, hb1'.block⟩); (first | (replace bx := bx.kept hb1) | (have bx : Box w19 w18.heap.size 26 #[.int .i64 0, .slice none 0 0] := box_after_alloc ⟨hb1'.os, hb1'.tape, hb1'.output, hb1'.size, hb1'.block⟩) | skip); have hbt1 := hb1; have hzz1 := hb1.size; (try (obtain ⟨bx1_0, bx1_1⟩ := bx.c2; have bxf := bx.frozen; have bxl1 := bx.lt)); have ow_1 := ow.below hb1; have om_1 := om.below hb1; have rd_Spare0_1 := rd_Spare0.below hb1; have pGeometry_q1 := pGeometry.kept hb1; obtain ⟨pGeometry_q1c0, pGeometry_q1c1, pGeometry_q1c2, pGeometry_q1c3⟩ := pGeometry_q1.c4; have pSpare_q1 := pSpare.kept hb1; obtain ⟨pSpare_q1c0, pSpare_q1c1⟩ := pSpare_q1.c2)
                             | (go_at_call 20; refine (toSpare_h A n c zs sp _ (by first | exact rd_Spare0_1 | exact rd_Spare0_1.alloc _) (by omega)).mono ?_; rintro e w20 ⟨A5, n5, c5, rfl, ocSpare, hb2'⟩; have hb2 : Below w19.heap.size w19 w20 := (by first | exact ⟨hb2'.os, hb2'.tape, hb2'.output, hb2'.size, hb2'.block⟩ | exact below_after_alloc (.cells #[.int .i64 0, .slice none 0 0] 26) ⟨hb2'.os, hb2'.tape, hb2'.output, hb2'.size, hb2'.block⟩); (first | (replace bx := bx.kept hb2) | (have bx : Box w20 w19.heap.size 26 #[.int .i64 0, .slice none 0 0] := box_after_alloc ⟨hb2'.os, hb2'.tape, hb2'.output, hb2'.size, hb2'.block⟩) | skip); have hbt2 := hbt1.trans (hb2.mono hbt1.size); have hzz2 := hb2.size; (try (obtain ⟨bx2_0, bx2_1⟩ := bx.c2; have bxf := bx.frozen; have bxl2 := bx.lt)); have n5l : n5 ≤ 1048576 := (by have := ocSpare.len; have := hA.1; omega); have n5c : n5 ≤ c5 ∧ c5 ≤ maxLen := OwnI.cap ocSpare.1; have ow_2 := ow_1.below hb2; have om_2 := om_1.below hb2; have rd_Spare0_2 := rd_Spare0_1.below hb2; have pGeometry_q2 := pGeometry_q1.kept hb2; obtain ⟨pGeometry_q2c0, pGeometry_q2c1, pGeometry_q2c2, pGeometry_q2c3⟩ := pGeometry_q2.c4; have pSpare_q2 := pSpare_q1.kept hb2; obtain ⟨pSpare_q2c0, pSpare_q2c1⟩ := pSpare_q2.c2)
                             | (go_at_call 32; refine (iRetireRow_x gg gb gr gc A5 n5 c5 zs sp bank row _ (by first | exact ocSpare.ints | exact (ocSpare.alloc _).ints) n5l n5c).mono ?_; rintro e w21 ⟨A6, n6, c6, rfl, oh, hb3'⟩; have hb3 : Below w20.heap.size w20 w21 := (by first | exact ⟨hb3'.os, hb3'.tape, hb3'.output, hb3'.size, hb3'.block⟩ | exact below_after_alloc (.cells #[.int .i64 0, .slice none 0 0] 26) ⟨hb3'.os, hb3'.tape, hb3'.output, hb3'.size, hb3'.block⟩); (first | (replace bx := bx.kept hb3) | (have bx : Box w21 w20.heap.size 26 #[.int .i64 0, .slice none 0 0] := box_after_alloc ⟨hb3'.os, hb3'.tape, hb3'.output, hb3'.size, hb3'.block⟩) | skip); have hbt3 := hbt2.trans (hb3.mono hbt2.size); have hzz3 := hb3.size; (try (obtain ⟨bx3_0, bx3_1⟩ := bx.c2; have bxf := bx.frozen; have bxl3 := bx.lt)); have pGeometry_q3 := pGeometry_q2.kept hb3; obtain ⟨pGeometry_q3c0, pGeometry_q3c1, pGeometry_q3c2, pGeometry_q3c3⟩ := pGeometry_q3.c4; have pSpare_q3 := pSpare_q2.kept hb3; obtain ⟨pSpare_q3c0, pSpare_q3c1⟩ := pSpare_q3.c2))
          all_goals
            go_wp2_with fail
            go_meet
            first
            | exact ⟨_, A6, n6, c6, rfl, rfl, hbt3.size, Box.new _ _ _, ⟨_, _, oh.alloc _, hbt2.size, (by simp), .inr (Nat.le_refl _)⟩, lat_a hbt3⟩
            | exact ⟨_, A6, n6, c6, rfl, rfl, Nat.le_refl _, box_s2 bx, ⟨_, _, ((oh.setCell _ _ (.inl bxl2)).setCell _ _ (.inl bxl2)), hbt2.size, (by simp [World.setCell]), .inl bxl2⟩, lat_s2 hbt3 (Nat.le_refl _)⟩
            | exact ⟨_, A6, n6, c6, rfl, rfl, hbt1.size, box_s2 bx, ⟨_, _, ((oh.setCell _ _ (.inl bxl2)).setCell _ _ (.inl bxl2)), hbt2.size, (by simp [World.setCell]), .inl bxl2⟩, lat_s2 hbt3 (hbt1.size)⟩
            | exact ⟨_, A6, n6, c6, rfl, rfl, hbt2.size, box_s2 bx, ⟨_, _, ((oh.setCell _ _ (.inl (by simp))).setCell _ _ (.inl (by simp))), Nat.le_trans (hbt2.size) (by simp), (by simp [World.setCell]), .inl (by simp)⟩, lat_s2 hbt3 (hbt2.size)⟩
        case rest =>
          skip
          obtain ⟨g6, A6, n6, c6, rfl, rfl, hg6, ph, ⟨lo6, hi6, oh, hlo6, hhi6, hgl6⟩, hbb⟩ := hcut
          clear rd_Spare0
          have n6l : n6 ≤ 1048576 := by have := oh.len; have := retMap_len gg gb gr gc sp zs bank row; have := hA.1; omega
          clear pGeometryc0 pGeometryc1 pGeometryc2 pGeometryc3 pGeometry_lt pSparec0 pSparec1 pSpare_lt
          have szwc := hbb.size
          replace bel := bel.trans (hbb.mono bel.size)
          replace pGeometry := pGeometry.kept hbb
          replace pSpare := pSpare.kept hbb
          replace pw := pw.kept hbb
          replace xSpare := xSpare.kept hbb
          replace pg := pg.kept hbb
          replace ow := ow.below hbb
          replace om := om.below hbb
          clear hbb
          obtain ⟨wc6, hwc⟩ : ∃ v : World, v = wc := ⟨_, rfl⟩
          subst hwc
          have hgs6 := ph.lt
          obtain ⟨phc0, phc1⟩ := ph.c2
          have ph_lt := ph.lt
          obtain ⟨pwc0, pwc1⟩ := pw.c2
          have pw_lt := pw.lt
          go_wp2_with fail
          refine (eqSpare_h A6 n6 c6 A2 n2 c2 (retMap gg gb gr gc sp zs bank row) sp _ oh.ints ow.ints n6l).mono ?_
          rintro e w22 ⟨rfl, hbb⟩
          clear phc0 phc1 ph_lt pwc0 pwc1 pw_lt
          have szw22 := hbb.size
          replace bel := bel.trans (hbb.mono bel.size)
          replace pGeometry := pGeometry.kept hbb
          replace pSpare := pSpare.kept hbb
          replace pw := pw.kept hbb
          replace xSpare := xSpare.kept hbb
          replace pg := pg.kept hbb
          replace ph := ph.kept hbb
          replace ow := ow.below hbb
          replace om := om.below hbb
          replace oh := oh.below hbb
          clear hbb
          obtain ⟨pgc0, pgc1⟩ := pg.c2
          have pg_lt := pg.lt
          go_wp2_with fail
          refine (heldSpare_h A4 n4 c4 sp 1 _ om.ints n4l (by omega) (by omega)).mono ?_
          rintro e w23 ⟨rfl, hbb⟩
          clear pgc0 pgc1 pg_lt
          have szw23 := hbb.size
          replace bel := bel.trans (hbb.mono bel.size)
          replace pGeometry := pGeometry.kept hbb
          replace pSpare := pSpare.kept hbb
          replace pw := pw.kept hbb
          replace xSpare := xSpare.kept hbb
          replace pg := pg.kept hbb
          replace ph := ph.kept hbb
          replace ow := ow.below hbb
          replace om := om.below hbb
          replace oh := oh.below hbb
          clear hbb
          go_wp2
          go_ret
          exact ⟨rfl, bel⟩
end Go.Proofs.Ytachkiodmaoemaa
