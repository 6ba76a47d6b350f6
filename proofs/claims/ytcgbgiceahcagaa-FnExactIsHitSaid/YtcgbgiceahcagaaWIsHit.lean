/-
  The walk of FnExactIsHit.
-/
import Derived.Test.YtcgbgiceahcagaaPagA
import Derived.Test.YtcgbgiceahcagaaOpen
import Derived.Deep.DeepCutAuto
namespace Go.Proofs.Ytcgbgiceahcagaa
open Go.RowKit
set_option linter.unusedSimpArgs false
set_option linter.unusedVariables false

set_option maxHeartbeats 8000000 in
theorem fnExactIsHit_walk (A : Option Addr) (n c : Nat) (ks : List Bnk) (pw : Int) (bank : Int) (row : Int) (col : Int) (w : World) (hA : Bnks w A n ks) (hn : n ≤ maxLen) (ipw : I64 pw) (ibank : I64 bank) (irow : I64 row) (icol : I64 col) :
    Calls Try.prog 3 #[.agg #[.slice A n c, .int .i64 pw], .agg #[.int .i64 bank, .int .i64 row, .int .i64 col]] w fun e w' => e = .returned (.bool true) ∧ Below w.heap.size w w' := by
  clear ipw ibank irow icol
  by_cases hz0 : (1048576) < (n : Int)
  · skip
    have bel : Below w.heap.size w w := Below.refl _ _
    go_enter Try.func3, Try.ntmps3
    go_wp2_with fail
    refine abs_call ?_
    intro W1 hW
    replace bel := (Below.alloc (Below.alloc bel (by first | exact bel.size | (have hbs := bel.size; simp <;> omega)) (.cells #[.slice A n c, .int .i64 pw] 24)) (by first | exact bel.size | (have hbs := bel.size; simp <;> omega)) (.cells #[.int .i64 bank, .int .i64 row, .int .i64 col] 26))
    rw [← hW] at bel
    have pRank : Box W1 (w.heap.size) 24 #[.slice A n c, .int .i64 pw] := by rw [hW]; exact ((Box.newAt (by simp))).alloc _
    have pAddr : Box W1 (w.heap.size + 1) 26 #[.int .i64 bank, .int .i64 row, .int .i64 col] := by rw [hW]; exact (Box.newAt (by simp))
    have szW1 : w.heap.size + 1 + 1 ≤ W1.heap.size := by rw [hW]; simp
    clear hW
    refine (szRank_n A n c ks pw (1048576) _ (by omega) (by omega) hn (by omega)).mono ?_
    rintro e w2 ⟨rfl, hbb⟩
    have szw2 := hbb.size
    replace bel := bel.trans (hbb.mono bel.size)
    replace pRank := pRank.kept hbb
    replace pAddr := pAddr.kept hbb
    clear hbb
    go_wp2
    go_ret
    exact ⟨rfl, bel⟩
  · skip
    have t0 : decide ((1048576 - (n : Int)) < 0) = false := by simp; omega
    have hs0 : ((hitB ks bank row) != (hitB ks bank row)) = false := by simp
    have bel : Below w.heap.size w w := Below.refl _ _
    go_enter Try.func3, Try.ntmps3
    go_wp2_with fail
    refine abs_call ?_
    intro W3 hW
    replace bel := (Below.alloc (Below.alloc bel (by first | exact bel.size | (have hbs := bel.size; simp <;> omega)) (.cells #[.slice A n c, .int .i64 pw] 24)) (by first | exact bel.size | (have hbs := bel.size; simp <;> omega)) (.cells #[.int .i64 bank, .int .i64 row, .int .i64 col] 26))
    rw [← hW] at bel
    have pRank : Box W3 (w.heap.size) 24 #[.slice A n c, .int .i64 pw] := by rw [hW]; exact ((Box.newAt (by simp))).alloc _
    have pAddr : Box W3 (w.heap.size + 1) 26 #[.int .i64 bank, .int .i64 row, .int .i64 col] := by rw [hW]; exact (Box.newAt (by simp))
    have szW3 : w.heap.size + 1 + 1 ≤ W3.heap.size := by rw [hW]; simp
    clear hW
    refine (szRank_y A n c ks pw (1048576) _ (by omega) (by omega)).mono ?_
    rintro e w4 ⟨rfl, hbb⟩
    have szw4 := hbb.size
    replace bel := bel.trans (hbb.mono bel.size)
    replace pRank := pRank.kept hbb
    replace pAddr := pAddr.kept hbb
    clear hbb
    go_wp2_with fail
    obtain ⟨pRankc0, pRankc1⟩ := pRank.c2
    have pRank_lt := pRank.lt
    obtain ⟨pAddrc0, pAddrc1, pAddrc2⟩ := pAddr.c3
    have pAddr_lt := pAddr.lt
    have rd_Rank0 := hA.below bel
    go_region_held3 (fun W' => W'.cell? ⟨w.heap.size, 0, none⟩ = some (.slice A n c) ∧ W'.cell? ⟨w.heap.size, 1, none⟩ = some (.int .i64 pw) ∧ W'.cell? ⟨w.heap.size + 1, 0, none⟩ = some (.int .i64 bank) ∧ W'.cell? ⟨w.heap.size + 1, 1, none⟩ = some (.int .i64 row) ∧ W'.cell? ⟨w.heap.size + 1, 2, none⟩ = some (.int .i64 col))
      (first | exact ⟨pRankc0, pRankc1, pAddrc0, pAddrc1, pAddrc2⟩ | exact ⟨pRank_q1c0, pRank_q1c1, pAddr_q1c0, pAddr_q1c1, pAddr_q1c2⟩ | exact ⟨pRank_q2c0, pRank_q2c1, pAddr_q2c0, pAddr_q2c1, pAddr_q2c2⟩ | exact ⟨pRank_q3c0, pRank_q3c1, pAddr_q3c0, pAddr_q3c1, pAddr_q3c2⟩)
      (first | (go_at_call 10; refine (toRank_h A n c ks pw _ (by exact rd_Rank0) (by omega)).mono ?_; rintro e w5 ⟨A1, n1, c1, rfl, oaRank, hb1'⟩; have hb1 : Below w4.heap.size w4 w5 := ⟨hb1'.os, hb1'.tape, hb1'.output, hb1'.size, hb1'.block⟩; have n1l : n1 ≤ 1048576 := (by have := oaRank.len; have := hA.len; omega); have rd_Rank0_1 := rd_Rank0.below hb1; have pRank_q1 := pRank.kept hb1; obtain ⟨pRank_q1c0, pRank_q1c1⟩ := pRank_q1.c2; have pAddr_q1 := pAddr.kept hb1; obtain ⟨pAddr_q1c0, pAddr_q1c1, pAddr_q1c2⟩ := pAddr_q1.c3)
                 | (go_at_call 11; refine (toAddr_h  bank row col _ ).mono ?_; rintro e w6 ⟨rfl, hb2'⟩; have hb2 : Below w5.heap.size w5 w6 := ⟨hb2'.os, hb2'.tape, hb2'.output, hb2'.size, hb2'.block⟩; have oaRank_2 := oaRank.below hb2; have rd_Rank0_2 := rd_Rank0_1.below hb2; have pRank_q2 := pRank_q1.kept hb2; obtain ⟨pRank_q2c0, pRank_q2c1⟩ := pRank_q2.c2; have pAddr_q2 := pAddr_q1.kept hb2; obtain ⟨pAddr_q2c0, pAddr_q2c1, pAddr_q2c2⟩ := pAddr_q2.c3)
                 | (go_at_call 9; refine (sIsHit_c A1 n1 c1 ks pw bank row col _ oaRank_2.recs n1l).mono ?_; rintro e w7 ⟨rfl, hb3'⟩; have hb3 : Below w6.heap.size w6 w7 := ⟨hb3'.os, hb3'.tape, hb3'.output, hb3'.size, hb3'.block⟩; have pRank_q3 := pRank_q2.kept hb3; obtain ⟨pRank_q3c0, pRank_q3c1⟩ := pRank_q3.c2; have pAddr_q3 := pAddr_q2.kept hb3; obtain ⟨pAddr_q3c0, pAddr_q3c1, pAddr_q3c2⟩ := pAddr_q3.c3))
    clear rd_Rank0_1 pRank_q1 pRank_q1c0 pRank_q1c1 pAddr_q1 pAddr_q1c0 pAddr_q1c1 pAddr_q1c2 oaRank_2 rd_Rank0_2 pRank_q2 pRank_q2c0 pRank_q2c1 pAddr_q2 pAddr_q2c0 pAddr_q2c1 pAddr_q2c2 pRank_q3 pRank_q3c0 pRank_q3c1 pAddr_q3 pAddr_q3c0 pAddr_q3c1 pAddr_q3c2 hb1' hb2' hb3' rd_Rank0
    clear pRankc0 pRankc1 pRank_lt pAddrc0 pAddrc1 pAddrc2 pAddr_lt
    have szw5 := hb1.size
    replace bel := bel.trans (hb1.mono bel.size)
    replace pRank := pRank.kept hb1
    replace pAddr := pAddr.kept hb1
    clear hb1
    have szw6 := hb2.size
    replace bel := bel.trans (hb2.mono bel.size)
    replace pRank := pRank.kept hb2
    replace pAddr := pAddr.kept hb2
    replace oaRank := oaRank.below hb2
    clear hb2
    have szw7 := hb3.size
    replace bel := bel.trans (hb3.mono bel.size)
    replace pRank := pRank.kept hb3
    replace pAddr := pAddr.kept hb3
    replace oaRank := oaRank.below hb3
    clear hb3
    clear oaRank
    obtain ⟨pRankc0, pRankc1⟩ := pRank.c2
    have pRank_lt := pRank.lt
    go_wp2_with fail
    refine (toRank_h A n c ks pw _ (hA.below bel) (by omega)).mono ?_
    rintro e w8 ⟨A3, n3, c3, rfl, oxRank, hbb⟩
    have n3l : n3 ≤ 1048576 := by have := oxRank.len; have := hA.len; omega
    clear pRankc0 pRankc1 pRank_lt
    have szw8 := hbb.size
    replace bel := bel.trans (hbb.mono bel.size)
    replace pRank := pRank.kept hbb
    replace pAddr := pAddr.kept hbb
    clear hbb
    go_wp2_with fail
    refine abs_code ?_
    intro W9 hW
    replace bel := (Below.alloc bel (by first | exact bel.size | (have hbs := bel.size; simp <;> omega)) (.cells #[.slice A3 n3 c3, .int .i64 pw] 31))
    rw [← hW] at bel
    replace pRank := (pRank).alloc (.cells #[.slice A3 n3 c3, .int .i64 pw] 31)
    rw [← hW] at pRank
    replace pAddr := (pAddr).alloc (.cells #[.slice A3 n3 c3, .int .i64 pw] 31)
    rw [← hW] at pAddr
    replace oxRank := (oxRank).alloc (.cells #[.slice A3 n3 c3, .int .i64 pw] 31)
    rw [← hW] at oxRank
    have xRank : Box W9 (w8.heap.size) 31 #[.slice A3 n3 c3, .int .i64 pw] := by rw [hW]; exact (Box.newAt (by simp))
    have szW9 : w8.heap.size + 1 ≤ W9.heap.size := by rw [hW]; simp
    clear hW
    obtain ⟨xRankc0, xRankc1⟩ := xRank.c2
    have xRank_lt := xRank.lt
    obtain ⟨pAddrc0, pAddrc1, pAddrc2⟩ := pAddr.c3
    have pAddr_lt := pAddr.lt
    have rd_Rank0 := hA.below bel
    go_region_held3 (fun W' => W'.cell? ⟨w8.heap.size, 0, none⟩ = some (.slice A3 n3 c3) ∧ W'.cell? ⟨w8.heap.size, 1, none⟩ = some (.int .i64 pw) ∧ W'.cell? ⟨w.heap.size + 1, 0, none⟩ = some (.int .i64 bank) ∧ W'.cell? ⟨w.heap.size + 1, 1, none⟩ = some (.int .i64 row) ∧ W'.cell? ⟨w.heap.size + 1, 2, none⟩ = some (.int .i64 col))
      (first | exact ⟨xRankc0, xRankc1, pAddrc0, pAddrc1, pAddrc2⟩ | exact ⟨xRank_q1c0, xRank_q1c1, pAddr_q1c0, pAddr_q1c1, pAddr_q1c2⟩ | exact ⟨xRank_q2c0, xRank_q2c1, pAddr_q2c0, pAddr_q2c1, pAddr_q2c2⟩)
      (first | (go_at_call 11; refine (toAddr_h  bank row col _ ).mono ?_; rintro e w10 ⟨rfl, hb1'⟩; have hb1 : Below W9.heap.size W9 w10 := ⟨hb1'.os, hb1'.tape, hb1'.output, hb1'.size, hb1'.block⟩; have oxRank_1 := oxRank.below hb1; have rd_Rank0_1 := rd_Rank0.below hb1; have xRank_q1 := xRank.kept hb1; obtain ⟨xRank_q1c0, xRank_q1c1⟩ := xRank_q1.c2; have pAddr_q1 := pAddr.kept hb1; obtain ⟨pAddr_q1c0, pAddr_q1c1, pAddr_q1c2⟩ := pAddr_q1.c3)
                 | (go_at_call 12; refine (iIsHit_c A3 n3 c3 ks pw bank row col _ oxRank_1.recs n3l).mono ?_; rintro e w11 ⟨rfl, hb2'⟩; have hb2 : Below w10.heap.size w10 w11 := ⟨hb2'.os, hb2'.tape, hb2'.output, hb2'.size, hb2'.block⟩; have xRank_q2 := xRank_q1.kept hb2; obtain ⟨xRank_q2c0, xRank_q2c1⟩ := xRank_q2.c2; have pAddr_q2 := pAddr_q1.kept hb2; obtain ⟨pAddr_q2c0, pAddr_q2c1, pAddr_q2c2⟩ := pAddr_q2.c3))
    clear oxRank_1 rd_Rank0_1 xRank_q1 xRank_q1c0 xRank_q1c1 pAddr_q1 pAddr_q1c0 pAddr_q1c1 pAddr_q1c2 xRank_q2 xRank_q2c0 xRank_q2c1 pAddr_q2 pAddr_q2c0 pAddr_q2c1 pAddr_q2c2 hb1' hb2' rd_Rank0
    clear xRankc0 xRankc1 xRank_lt pAddrc0 pAddrc1 pAddrc2 pAddr_lt
    have szw10 := hb1.size
    replace bel := bel.trans (hb1.mono bel.size)
    replace pRank := pRank.kept hb1
    replace pAddr := pAddr.kept hb1
    replace xRank := xRank.kept hb1
    replace oxRank := oxRank.below hb1
    clear hb1
    have szw11 := hb2.size
    replace bel := bel.trans (hb2.mono bel.size)
    replace pRank := pRank.kept hb2
    replace pAddr := pAddr.kept hb2
    replace xRank := xRank.kept hb2
    replace oxRank := oxRank.below hb2
    clear hb2
    go_wp2_with fail
    obtain ⟨xRankc0, xRankc1⟩ := xRank.c2
    have xRank_lt := xRank.lt
    obtain ⟨pRankc0, pRankc1⟩ := pRank.c2
    have pRank_lt := pRank.lt
    have rd_Rank0 := hA.below bel
    go_region_held3 (fun W' => W'.cell? ⟨w8.heap.size, 0, none⟩ = some (.slice A3 n3 c3) ∧ W'.cell? ⟨w8.heap.size, 1, none⟩ = some (.int .i64 pw) ∧ W'.cell? ⟨w.heap.size, 0, none⟩ = some (.slice A n c) ∧ W'.cell? ⟨w.heap.size, 1, none⟩ = some (.int .i64 pw))
      (first | exact ⟨xRankc0, xRankc1, pRankc0, pRankc1⟩ | exact ⟨xRank_q1c0, xRank_q1c1, pRank_q1c0, pRank_q1c1⟩ | exact ⟨xRank_q2c0, xRank_q2c1, pRank_q2c0, pRank_q2c1⟩)
      (first | (go_at_call 10; refine (toRank_h A n c ks pw _ (by exact rd_Rank0) (by omega)).mono ?_; rintro e w12 ⟨A7, n7, c7, rfl, oeRank, hb1'⟩; have hb1 : Below w11.heap.size w11 w12 := ⟨hb1'.os, hb1'.tape, hb1'.output, hb1'.size, hb1'.block⟩; have n7l : n7 ≤ 1048576 := (by have := oeRank.len; have := hA.len; omega); have oxRank_1 := oxRank.below hb1; have rd_Rank0_1 := rd_Rank0.below hb1; have xRank_q1 := xRank.kept hb1; obtain ⟨xRank_q1c0, xRank_q1c1⟩ := xRank_q1.c2; have pRank_q1 := pRank.kept hb1; obtain ⟨pRank_q1c0, pRank_q1c1⟩ := pRank_q1.c2)
                 | (go_at_call 13; refine (eqRank_h A3 n3 c3 A7 n7 c7 ks pw _ oxRank_1.recs oeRank.recs n3l).mono ?_; rintro e w13 ⟨rfl, hb2'⟩; have hb2 : Below w12.heap.size w12 w13 := ⟨hb2'.os, hb2'.tape, hb2'.output, hb2'.size, hb2'.block⟩; have xRank_q2 := xRank_q1.kept hb2; obtain ⟨xRank_q2c0, xRank_q2c1⟩ := xRank_q2.c2; have pRank_q2 := pRank_q1.kept hb2; obtain ⟨pRank_q2c0, pRank_q2c1⟩ := pRank_q2.c2))
    clear oxRank_1 rd_Rank0_1 xRank_q1 xRank_q1c0 xRank_q1c1 pRank_q1 pRank_q1c0 pRank_q1c1 xRank_q2 xRank_q2c0 xRank_q2c1 pRank_q2 pRank_q2c0 pRank_q2c1 hb1' hb2' rd_Rank0
    clear xRankc0 xRankc1 xRank_lt pRankc0 pRankc1 pRank_lt
    have szw12 := hb1.size
    replace bel := bel.trans (hb1.mono bel.size)
    replace pRank := pRank.kept hb1
    replace pAddr := pAddr.kept hb1
    replace xRank := xRank.kept hb1
    replace oxRank := oxRank.below hb1
    clear hb1
    have szw13 := hb2.size
    replace bel := bel.trans (hb2.mono bel.size)
    replace pRank := pRank.kept hb2
    replace pAddr := pAddr.kept hb2
    replace xRank := xRank.kept hb2
    replace oxRank := oxRank.below hb2
    replace oeRank := oeRank.below hb2
    clear hb2
    clear oeRank
    go_wp2
    go_ret
    exact ⟨rfl, bel⟩
end Go.Proofs.Ytcgbgiceahcagaa
