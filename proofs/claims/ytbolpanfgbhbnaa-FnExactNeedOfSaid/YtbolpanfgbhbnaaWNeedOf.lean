/-
  The walk of FnExactNeedOf.
-/
import Derived.Test.YtbolpanfgbhbnaaPagA
import Derived.Test.YtbolpanfgbhbnaaCmd
import Derived.Test.YtbolpanfgbhbnaaOpen
import Derived.Test.YtbolpanfgbhbnaaLater
import Derived.Deep.DeepCutAuto
namespace Go.Proofs.Ytbolpanfgbhbnaa
open Go.RowKit
set_option linter.unusedSimpArgs false
set_option linter.unusedVariables false

set_option maxHeartbeats 8000000 in
theorem fnExactNeedOf_walk (A : Option Addr) (n c : Nat) (ks : List Bnk) (pw : Int) (bank : Int) (row : Int) (col : Int) (wr : Bool) (w : World) (hA : Bnks w A n ks) (hn : n ≤ maxLen) (ipw : I64 pw) (ibank : I64 bank) (irow : I64 row) (icol : I64 col)  :
    Calls Try.prog 6 #[.agg #[.slice A n c, .int .i64 pw], .agg #[.int .i64 bank, .int .i64 row, .int .i64 col], .bool wr] w fun e w' => e = .returned (.bool true) ∧ Below w.heap.size w w' := by
  clear ipw ibank irow icol
  by_cases hz0 : (1048576) < (n : Int)
  · skip
    have bel : Below w.heap.size w w := Below.refl _ _
    go_enter Try.func6, Try.ntmps6
    go_wp2_with fail
    refine abs_call ?_
    intro W1 hW
    replace bel := (Below.alloc (Below.alloc bel (by first | exact bel.size | (have hbs := bel.size; simp <;> omega)) (.cells #[.slice A n c, .int .i64 pw] 44)) (by first | exact bel.size | (have hbs := bel.size; simp <;> omega)) (.cells #[.int .i64 bank, .int .i64 row, .int .i64 col] 46))
    rw [← hW] at bel
    have pRank : Box W1 (w.heap.size) 44 #[.slice A n c, .int .i64 pw] := by rw [hW]; exact ((Box.newAt (by simp))).alloc _
    have pAddr : Box W1 (w.heap.size + 1) 46 #[.int .i64 bank, .int .i64 row, .int .i64 col] := by rw [hW]; exact (Box.newAt (by simp))
    have szW1 : w.heap.size + 1 + 1 ≤ W1.heap.size := by rw [hW]; simp
    clear hW
    refine (szRank_n A n c ks pw (1048576) _ (by omega) (by omega) hn (by omega)).mono ?_
    rintro e w2 ⟨rfl, hbb⟩
    have szw2 := hbb.size
    replace bel := bel.trans (hbb.mono bel.size)
    replace pRank := pRank.kept hbb
    replace pAddr := pAddr.kept hbb
    clear hbb
    go_wp2
    go_ret
    exact ⟨rfl, bel⟩
  · skip
    have t0 : decide ((1048576 - (n : Int)) < 0) = false := by simp; omega
    have bel : Below w.heap.size w w := Below.refl _ _
    go_enter Try.func6, Try.ntmps6
    go_wp2_with fail
    refine abs_call ?_
    intro W3 hW
    replace bel := (Below.alloc (Below.alloc bel (by first | exact bel.size | (have hbs := bel.size; simp <;> omega)) (.cells #[.slice A n c, .int .i64 pw] 44)) (by first | exact bel.size | (have hbs := bel.size; simp <;> omega)) (.cells #[.int .i64 bank, .int .i64 row, .int .i64 col] 46))
    rw [← hW] at bel
    have pRank : Box W3 (w.heap.size) 44 #[.slice A n c, .int .i64 pw] := by rw [hW]; exact ((Box.newAt (by simp))).alloc _
    have pAddr : Box W3 (w.heap.size + 1) 46 #[.int .i64 bank, .int .i64 row, .int .i64 col] := by rw [hW]; exact (Box.newAt (by simp))
    have szW3 : w.heap.size + 1 + 1 ≤ W3.heap.size := by rw [hW]; simp
    clear hW
    refine (szRank_y A n c ks pw (1048576) _ (by omega) (by omega)).mono ?_
    rintro e w4 ⟨rfl, hbb⟩
    have szw4 := hbb.size
    replace bel := bel.trans (hbb.mono bel.size)
    replace pRank := pRank.kept hbb
    replace pAddr := pAddr.kept hbb
    clear hbb
    go_upto_region 5 with fail
    obtain ⟨pRankc0, pRankc1⟩ := pRank.c2
    have pRank_lt := pRank.lt
    obtain ⟨pAddrc0, pAddrc1, pAddrc2⟩ := pAddr.c3
    have pAddr_lt := pAddr.lt
    have rd_Rank0 := hA.below bel
    go_cut [8] (fun s8 wx => ∃ (g2 : Nat), s8 = .pointer (some ⟨g2, 0, none⟩) ∧ w4.heap.size ≤ g2 ∧ Box wx g2 49 #[.int .i64 (needK ks bank row wr), .int .i64 bank, .int .i64 (needR ks bank row), .int .i64 (needC ks bank row col)] ∧ Below w4.heap.size w4 wx)
    case first =>
      have hS : ∀ Y : World, Below w4.heap.size w4 Y → (Y.cell? ⟨w.heap.size, 0, none⟩ = some (.slice A n c) ∧ Y.cell? ⟨w.heap.size, 1, none⟩ = some (.int .i64 pw) ∧ Y.cell? ⟨w.heap.size + 1, 0, none⟩ = some (.int .i64 bank) ∧ Y.cell? ⟨w.heap.size + 1, 1, none⟩ = some (.int .i64 row) ∧ Y.cell? ⟨w.heap.size + 1, 2, none⟩ = some (.int .i64 col)) := fun Y hY => ⟨(hY.cell (p := ⟨w.heap.size, 0, none⟩) pRank_lt).trans pRankc0, (hY.cell (p := ⟨w.heap.size, 1, none⟩) pRank_lt).trans pRankc1, (hY.cell (p := ⟨w.heap.size + 1, 0, none⟩) pAddr_lt).trans pAddrc0, (hY.cell (p := ⟨w.heap.size + 1, 1, none⟩) pAddr_lt).trans pAddrc1, (hY.cell (p := ⟨w.heap.size + 1, 2, none⟩) pAddr_lt).trans pAddrc2⟩
      go_region_held3 (fun W' => W'.cell? ⟨w.heap.size, 0, none⟩ = some (.slice A n c) ∧ W'.cell? ⟨w.heap.size, 1, none⟩ = some (.int .i64 pw) ∧ W'.cell? ⟨w.heap.size + 1, 0, none⟩ = some (.int .i64 bank) ∧ W'.cell? ⟨w.heap.size + 1, 1, none⟩ = some (.int .i64 row) ∧ W'.cell? ⟨w.heap.size + 1, 2, none⟩ = some (.int .i64 col))
        (first | (with_reducible exact hS _ (Below.refl _ _)) | (with_reducible exact hS _ (hbt1)) | (with_reducible exact hS _ (hbt2)) | (with_reducible exact hS _ (hbt3)) | (with_reducible exact hS _ (lat_d (Below.refl _ _))) | (with_reducible exact hS _ (lat_d (hbt1))) | (with_reducible exact hS _ (lat_d (hbt2))) | (with_reducible exact hS _ (lat_d (hbt3))) | (with_reducible exact hS _ (lat_a (Below.refl _ _))) | (with_reducible exact hS _ (lat_a (hbt1))) | (with_reducible exact hS _ (lat_a (hbt2))) | (with_reducible exact hS _ (lat_a (hbt3))) | (with_reducible exact hS _ (lat_ad (Below.refl _ _))) | (with_reducible exact hS _ (lat_ad (hbt1))) | (with_reducible exact hS _ (lat_ad (hbt2))) | (with_reducible exact hS _ (lat_ad (hbt3))) | (with_reducible exact hS _ (lat_s4 (hbt3) (Nat.le_refl _))) | (with_reducible exact hS _ (lat_s4 (hbt3) (hbt1.size))) | (with_reducible exact hS _ (lat_s4 (hbt3) (hbt2.size))) | (with_reducible exact hS _ (lat_s4 (lat_a (hbt3)) (Nat.le_refl _))) | (with_reducible exact hS _ (lat_s4 (lat_a (hbt3)) (hbt1.size))) | (with_reducible exact hS _ (lat_s4 (lat_a (hbt3)) (hbt2.size))) | (with_reducible exact hS _ (lat_s4 (lat_a (hbt3)) (hbt3.size))) | fail)
        (first | (go_at_call 29; refine (toRank_h A n c ks pw _ (by first | exact rd_Rank0 | exact rd_Rank0.alloc _) (by omega)).mono ?_; rintro e w5 ⟨A1, n1, c1, rfl, oaRank, hb1'⟩; have hb1 : Below w4.heap.size w4 w5 := (by first | exact ⟨hb1'.os, hb1'.tape, hb1'.output, hb1'.size, hb1'.block⟩ | exact below_after_alloc (.cells #[.int .i64 0, .int .i64 0, .int .i64 0, .int .i64 0] 49) ⟨hb1'.os, hb1'.tape, hb1'.output, hb1'.size, hb1'.block⟩); (first | (replace bx := bx.kept hb1) | (have bx : Box w5 w4.heap.size 49 #[.int .i64 0, .int .i64 0, .int .i64 0, .int .i64 0] := box_after_alloc ⟨hb1'.os, hb1'.tape, hb1'.output, hb1'.size, hb1'.block⟩) | skip); have hbt1 := hb1; have hzz1 := hb1.size; (try (obtain ⟨bx1_0, bx1_1, bx1_2, bx1_3⟩ := bx.c4; have bxf := bx.frozen; have bxl := bx.lt)); have n1l : n1 ≤ 1048576 := (by have := oaRank.len; have := hA.len; omega); have rd_Rank0_1 := rd_Rank0.below hb1; have pRank_q1 := pRank.kept hb1; obtain ⟨pRank_q1c0, pRank_q1c1⟩ := pRank_q1.c2; have pAddr_q1 := pAddr.kept hb1; obtain ⟨pAddr_q1c0, pAddr_q1c1, pAddr_q1c2⟩ := pAddr_q1.c3)
                     | (go_at_call 30; refine (toAddr_h  bank row col _ ).mono ?_; rintro e w6 ⟨rfl, hb2'⟩; have hb2 : Below w5.heap.size w5 w6 := (by first | exact ⟨hb2'.os, hb2'.tape, hb2'.output, hb2'.size, hb2'.block⟩ | exact below_after_alloc (.cells #[.int .i64 0, .int .i64 0, .int .i64 0, .int .i64 0] 49) ⟨hb2'.os, hb2'.tape, hb2'.output, hb2'.size, hb2'.block⟩); (first | (replace bx := bx.kept hb2) | (have bx : Box w6 w5.heap.size 49 #[.int .i64 0, .int .i64 0, .int .i64 0, .int .i64 0] := box_after_alloc ⟨hb2'.os, hb2'.tape, hb2'.output, hb2'.size, hb2'.block⟩) | skip); have hbt2 := hbt1.trans (hb2.mono hbt1.size); have hzz2 := hb2.size; (try (obtain ⟨bx2_0, bx2_1, bx2_2, bx2_3⟩ := bx.c4; have bxf := bx.frozen; have bxl := bx.lt)); have oaRank_2 := oaRank.below hb2; have rd_Rank0_2 := rd_Rank0_1.below hb2; have pRank_q2 := pRank_q1.kept hb2; obtain ⟨pRank_q2c0, pRank_q2c1⟩ := pRank_q2.c2; have pAddr_q2 := pAddr_q1.kept hb2; obtain ⟨pAddr_q2c0, pAddr_q2c1, pAddr_q2c2⟩ := pAddr_q2.c3)
                     | (go_at_call 28; refine (sNeedOf_c A1 n1 c1 ks pw bank row col wr _ (by first | exact oaRank_2.recs | exact (oaRank_2.alloc _).recs) n1l).mono ?_; rintro e w7 ⟨rfl, hb3'⟩; have hb3 : Below w6.heap.size w6 w7 := (by first | exact ⟨hb3'.os, hb3'.tape, hb3'.output, hb3'.size, hb3'.block⟩ | exact below_after_alloc (.cells #[.int .i64 0, .int .i64 0, .int .i64 0, .int .i64 0] 49) ⟨hb3'.os, hb3'.tape, hb3'.output, hb3'.size, hb3'.block⟩); (first | (replace bx := bx.kept hb3) | (have bx : Box w7 w6.heap.size 49 #[.int .i64 0, .int .i64 0, .int .i64 0, .int .i64 0] := box_after_alloc ⟨hb3'.os, hb3'.tape, hb3'.output, hb3'.size, hb3'.block⟩) | skip); have hbt3 := hbt2.trans (hb3.mono hbt2.size); have hzz3 := hb3.size; (try (obtain ⟨bx3_0, bx3_1, bx3_2, bx3_3⟩ := bx.c4; have bxf := bx.frozen; have bxl := bx.lt)); have pRank_q3 := pRank_q2.kept hb3; obtain ⟨pRank_q3c0, pRank_q3c1⟩ := pRank_q3.c2; have pAddr_q3 := pAddr_q2.kept hb3; obtain ⟨pAddr_q3c0, pAddr_q3c1, pAddr_q3c2⟩ := pAddr_q3.c3))
      all_goals
        go_wp2_with fail
        go_meet
        first
        | (with_reducible exact ⟨_, rfl, hbt3.size, Box.new _ _ _, lat_a hbt3⟩)
        | (with_reducible exact ⟨_, rfl, Nat.le_refl _, box_s4 bx, lat_s4 hbt3 (Nat.le_refl _)⟩)
        | (with_reducible exact ⟨_, rfl, hbt1.size, box_s4 bx, lat_s4 hbt3 (hbt1.size)⟩)
        | (with_reducible exact ⟨_, rfl, hbt2.size, box_s4 bx, lat_s4 hbt3 (hbt2.size)⟩)
    case rest =>
      skip
      obtain ⟨g2, rfl, hg2, pwF, hbb⟩ := hcut
      clear rd_Rank0
      clear pRankc0 pRankc1 pRank_lt pAddrc0 pAddrc1 pAddrc2 pAddr_lt
      have szwc := hbb.size
      replace bel := bel.trans (hbb.mono bel.size)
      replace pRank := pRank.kept hbb
      replace pAddr := pAddr.kept hbb
      clear hbb
      obtain ⟨wc2, hwc⟩ : ∃ v : World, wc = v := ⟨_, rfl⟩
      subst hwc
      obtain ⟨pRankc0, pRankc1⟩ := pRank.c2
      have pRank_lt := pRank.lt
      go_wp2_with fail
      refine (toRank_h A n c ks pw _ (hA.below bel) (by omega)).mono ?_
      rintro e w8 ⟨A3, n3, c3, rfl, oxRank, hbb⟩
      have n3l : n3 ≤ 1048576 := by have := oxRank.len; have := hA.len; omega
      clear pRankc0 pRankc1 pRank_lt
      have szw8 := hbb.size
      replace bel := bel.trans (hbb.mono bel.size)
      replace pRank := pRank.kept hbb
      replace pAddr := pAddr.kept hbb
      replace pwF := pwF.kept hbb
      clear hbb
      go_upto_region 7 with fail
      refine abs_code ?_
      intro W9 hW
      replace bel := (Below.alloc bel (by first | exact bel.size | (have hbs := bel.size; simp <;> omega)) (.cells #[.slice A3 n3 c3, .int .i64 pw] 53))
      rw [← hW] at bel
      replace pRank := (pRank).alloc (.cells #[.slice A3 n3 c3, .int .i64 pw] 53)
      rw [← hW] at pRank
      replace pAddr := (pAddr).alloc (.cells #[.slice A3 n3 c3, .int .i64 pw] 53)
      rw [← hW] at pAddr
      replace pwF := (pwF).alloc (.cells #[.slice A3 n3 c3, .int .i64 pw] 53)
      rw [← hW] at pwF
      replace oxRank := (oxRank).alloc (.cells #[.slice A3 n3 c3, .int .i64 pw] 53)
      rw [← hW] at oxRank
      have xRank : Box W9 (w8.heap.size) 53 #[.slice A3 n3 c3, .int .i64 pw] := by rw [hW]; exact (Box.newAt (by simp))
      have szW9 : w8.heap.size + 1 ≤ W9.heap.size := by rw [hW]; simp
      clear hW
      obtain ⟨xRankc0, xRankc1⟩ := xRank.c2
      have xRank_lt := xRank.lt
      obtain ⟨pAddrc0, pAddrc1, pAddrc2⟩ := pAddr.c3
      have pAddr_lt := pAddr.lt
      have rd_Rank0 := hA.below bel
      go_cut [10] (fun s10 wx => ∃ (g4 : Nat), s10 = .pointer (some ⟨g4, 0, none⟩) ∧ W9.heap.size ≤ g4 ∧ Box wx g4 49 #[.int .i64 (needK ks bank row wr), .int .i64 bank, .int .i64 (needR ks bank row), .int .i64 (needC ks bank row col)] ∧ Below W9.heap.size W9 wx)
      case first =>
        have hS : ∀ Y : World, Below W9.heap.size W9 Y → (Y.cell? ⟨w8.heap.size, 0, none⟩ = some (.slice A3 n3 c3) ∧ Y.cell? ⟨w8.heap.size, 1, none⟩ = some (.int .i64 pw) ∧ Y.cell? ⟨w.heap.size + 1, 0, none⟩ = some (.int .i64 bank) ∧ Y.cell? ⟨w.heap.size + 1, 1, none⟩ = some (.int .i64 row) ∧ Y.cell? ⟨w.heap.size + 1, 2, none⟩ = some (.int .i64 col)) := fun Y hY => ⟨(hY.cell (p := ⟨w8.heap.size, 0, none⟩) xRank_lt).trans xRankc0, (hY.cell (p := ⟨w8.heap.size, 1, none⟩) xRank_lt).trans xRankc1, (hY.cell (p := ⟨w.heap.size + 1, 0, none⟩) pAddr_lt).trans pAddrc0, (hY.cell (p := ⟨w.heap.size + 1, 1, none⟩) pAddr_lt).trans pAddrc1, (hY.cell (p := ⟨w.heap.size + 1, 2, none⟩) pAddr_lt).trans pAddrc2⟩
        go_region_held3 (fun W' => W'.cell? ⟨w8.heap.size, 0, none⟩ = some (.slice A3 n3 c3) ∧ W'.cell? ⟨w8.heap.size, 1, none⟩ = some (.int .i64 pw) ∧ W'.cell? ⟨w.heap.size + 1, 0, none⟩ = some (.int .i64 bank) ∧ W'.cell? ⟨w.heap.size + 1, 1, none⟩ = some (.int .i64 row) ∧ W'.cell? ⟨w.heap.size + 1, 2, none⟩ = some (.int .i64 col))
          (first | (with_reducible exact hS _ (Below.refl _ _)) | (with_reducible exact hS _ (hbt1)) | (with_reducible exact hS _ (hbt2)) | (with_reducible exact hS _ (lat_d (Below.refl _ _))) | (with_reducible exact hS _ (lat_d (hbt1))) | (with_reducible exact hS _ (lat_d (hbt2))) | (with_reducible exact hS _ (lat_a (Below.refl _ _))) | (with_reducible exact hS _ (lat_a (hbt1))) | (with_reducible exact hS _ (lat_a (hbt2))) | (with_reducible exact hS _ (lat_ad (Below.refl _ _))) | (with_reducible exact hS _ (lat_ad (hbt1))) | (with_reducible exact hS _ (lat_ad (hbt2))) | (with_reducible exact hS _ (lat_s4 (hbt2) (Nat.le_refl _))) | (with_reducible exact hS _ (lat_s4 (hbt2) (hbt1.size))) | (with_reducible exact hS _ (lat_s4 (lat_a (hbt2)) (Nat.le_refl _))) | (with_reducible exact hS _ (lat_s4 (lat_a (hbt2)) (hbt1.size))) | (with_reducible exact hS _ (lat_s4 (lat_a (hbt2)) (hbt2.size))) | fail)
          (first | (go_at_call 30; refine (toAddr_h  bank row col _ ).mono ?_; rintro e w10 ⟨rfl, hb1'⟩; have hb1 : Below W9.heap.size W9 w10 := (by first | exact ⟨hb1'.os, hb1'.tape, hb1'.output, hb1'.size, hb1'.block⟩ | exact below_after_alloc (.cells #[.int .i64 0, .int .i64 0, .int .i64 0, .int .i64 0] 49) ⟨hb1'.os, hb1'.tape, hb1'.output, hb1'.size, hb1'.block⟩); (first | (replace bx := bx.kept hb1) | (have bx : Box w10 W9.heap.size 49 #[.int .i64 0, .int .i64 0, .int .i64 0, .int .i64 0] := box_after_alloc ⟨hb1'.os, hb1'.tape, hb1'.output, hb1'.size, hb1'.block⟩) | skip); have hbt1 := hb1; have hzz1 := hb1.size; (try (obtain ⟨bx1_0, bx1_1, bx1_2, bx1_3⟩ := bx.c4; have bxf := bx.frozen; have bxl := bx.lt)); have oxRank_1 := oxRank.below hb1; have rd_Rank0_1 := rd_Rank0.below hb1; have xRank_q1 := xRank.kept hb1; obtain ⟨xRank_q1c0, xRank_q1c1⟩ := xRank_q1.c2; have pAddr_q1 := pAddr.kept hb1; obtain ⟨pAddr_q1c0, pAddr_q1c1, pAddr_q1c2⟩ := pAddr_q1.c3)
                         | (go_at_call 31; refine (iNeedOf_c A3 n3 c3 ks pw bank row col wr _ (by first | exact oxRank_1.recs | exact (oxRank_1.alloc _).recs) n3l).mono ?_; rintro e w11 ⟨rfl, hb2'⟩; have hb2 : Below w10.heap.size w10 w11 := (by first | exact ⟨hb2'.os, hb2'.tape, hb2'.output, hb2'.size, hb2'.block⟩ | exact below_after_alloc (.cells #[.int .i64 0, .int .i64 0, .int .i64 0, .int .i64 0] 49) ⟨hb2'.os, hb2'.tape, hb2'.output, hb2'.size, hb2'.block⟩); (first | (replace bx := bx.kept hb2) | (have bx : Box w11 w10.heap.size 49 #[.int .i64 0, .int .i64 0, .int .i64 0, .int .i64 0] := box_after_alloc ⟨hb2'.os, hb2'.tape, hb2'.output, hb2'.size, hb2'.block⟩) | skip); have hbt2 := hbt1.trans (hb2.mono hbt1.size); have hzz2 := hb2.size; (try (obtain ⟨bx2_0, bx2_1, bx2_2, bx2_3⟩ := bx.c4; have bxf := bx.frozen; have bxl := bx.lt)); have xRank_q2 := xRank_q1.kept hb2; obtain ⟨xRank_q2c0, xRank_q2c1⟩ := xRank_q2.c2; have pAddr_q2 := pAddr_q1.kept hb2; obtain ⟨pAddr_q2c0, pAddr_q2c1, pAddr_q2c2⟩ := pAddr_q2.c3))
        all_goals
          go_wp2_with fail
          go_meet
          first
          | (with_reducible exact ⟨_, rfl, hbt2.size, Box.new _ _ _, lat_a hbt2⟩)
          | (with_reducible exact ⟨_, rfl, Nat.le_refl _, box_s4 bx, lat_s4 hbt2 (Nat.le_refl _)⟩)
          | (with_reducible exact ⟨_, rfl, hbt1.size, box_s4 bx, lat_s4 hbt2 (hbt1.size)⟩)
      case rest =>
        skip
        obtain ⟨g4, rfl, hg4, pgF, hbb⟩ := hcut
        clear rd_Rank0
        clear xRankc0 xRankc1 xRank_lt pAddrc0 pAddrc1 pAddrc2 pAddr_lt
        have szwc := hbb.size
        replace bel := bel.trans (hbb.mono bel.size)
        replace pRank := pRank.kept hbb
        replace pAddr := pAddr.kept hbb
        replace pwF := pwF.kept hbb
        replace xRank := xRank.kept hbb
        replace oxRank := oxRank.below hbb
        clear hbb
        obtain ⟨wc4, hwc⟩ : ∃ v : World, wc = v := ⟨_, rfl⟩
        subst hwc
        obtain ⟨pgFc0, pgFc1, pgFc2, pgFc3⟩ := pgF.c4
        have pgF_lt := pgF.lt
        obtain ⟨pwFc0, pwFc1, pwFc2, pwFc3⟩ := pwF.c4
        have pwF_lt := pwF.lt
        go_wp2_with fail
        refine (eqCommand_h (needK ks bank row wr) bank (needR ks bank row) (needC ks bank row col) _).mono ?_
        rintro e w12 ⟨rfl, hbb⟩
        clear pgFc0 pgFc1 pgFc2 pgFc3 pgF_lt pwFc0 pwFc1 pwFc2 pwFc3 pwF_lt
        have szw12 := hbb.size
        replace bel := bel.trans (hbb.mono bel.size)
        replace pRank := pRank.kept hbb
        replace pAddr := pAddr.kept hbb
        replace pwF := pwF.kept hbb
        replace xRank := xRank.kept hbb
        replace pgF := pgF.kept hbb
        replace oxRank := oxRank.below hbb
        clear hbb
        go_wp2_with fail
        obtain ⟨xRankc0, xRankc1⟩ := xRank.c2
        have xRank_lt := xRank.lt
        obtain ⟨pRankc0, pRankc1⟩ := pRank.c2
        have pRank_lt := pRank.lt
        have rd_Rank0 := hA.below bel
        go_region_held3 (fun W' => W'.cell? ⟨w8.heap.size, 0, none⟩ = some (.slice A3 n3 c3) ∧ W'.cell? ⟨w8.heap.size, 1, none⟩ = some (.int .i64 pw) ∧ W'.cell? ⟨w.heap.size, 0, none⟩ = some (.slice A n c) ∧ W'.cell? ⟨w.heap.size, 1, none⟩ = some (.int .i64 pw))
          (first | exact ⟨xRankc0, xRankc1, pRankc0, pRankc1⟩ | exact ⟨xRank_q1c0, xRank_q1c1, pRank_q1c0, pRank_q1c1⟩ | exact ⟨xRank_q2c0, xRank_q2c1, pRank_q2c0, pRank_q2c1⟩)
          (first | (go_at_call 29; refine (toRank_h A n c ks pw _ (by exact rd_Rank0) (by omega)).mono ?_; rintro e w13 ⟨A7, n7, c7, rfl, oeRank, hb1'⟩; have hb1 : Below w12.heap.size w12 w13 := ⟨hb1'.os, hb1'.tape, hb1'.output, hb1'.size, hb1'.block⟩; have n7l : n7 ≤ 1048576 := (by have := oeRank.len; have := hA.len; omega); have oxRank_1 := oxRank.below hb1; have rd_Rank0_1 := rd_Rank0.below hb1; have xRank_q1 := xRank.kept hb1; obtain ⟨xRank_q1c0, xRank_q1c1⟩ := xRank_q1.c2; have pRank_q1 := pRank.kept hb1; obtain ⟨pRank_q1c0, pRank_q1c1⟩ := pRank_q1.c2)
                         | (go_at_call 33; refine (eqRank_h A3 n3 c3 A7 n7 c7 ks pw _ oxRank_1.recs oeRank.recs n3l).mono ?_; rintro e w14 ⟨rfl, hb2'⟩; have hb2 : Below w13.heap.size w13 w14 := ⟨hb2'.os, hb2'.tape, hb2'.output, hb2'.size, hb2'.block⟩; have xRank_q2 := xRank_q1.kept hb2; obtain ⟨xRank_q2c0, xRank_q2c1⟩ := xRank_q2.c2; have pRank_q2 := pRank_q1.kept hb2; obtain ⟨pRank_q2c0, pRank_q2c1⟩ := pRank_q2.c2))
        clear oxRank_1 rd_Rank0_1 xRank_q1 xRank_q1c0 xRank_q1c1 pRank_q1 pRank_q1c0 pRank_q1c1 xRank_q2 xRank_q2c0 xRank_q2c1 pRank_q2 pRank_q2c0 pRank_q2c1 hb1' hb2' rd_Rank0
        clear xRankc0 xRankc1 xRank_lt pRankc0 pRankc1 pRank_lt
        have szw13 := hb1.size
        replace bel := bel.trans (hb1.mono bel.size)
        replace pRank := pRank.kept hb1
        replace pAddr := pAddr.kept hb1
        replace pwF := pwF.kept hb1
        replace xRank := xRank.kept hb1
        replace pgF := pgF.kept hb1
        replace oxRank := oxRank.below hb1
        clear hb1
        have szw14 := hb2.size
        replace bel := bel.trans (hb2.mono bel.size)
        replace pRank := pRank.kept hb2
        replace pAddr := pAddr.kept hb2
        replace pwF := pwF.kept hb2
        replace xRank := xRank.kept hb2
        replace pgF := pgF.kept hb2
        replace oxRank := oxRank.below hb2
        replace oeRank := oeRank.below hb2
        clear hb2
        clear oeRank
        go_wp2
        go_ret
        exact ⟨rfl, bel⟩
end Go.Proofs.Ytbolpanfgbhbnaa
