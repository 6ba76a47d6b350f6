/-
  The walk of FnExactCloseBank.
-/
import Derived.Test.YtcgbgiceahcagaaPagB
import Derived.Test.YtcgbgiceahcagaaOpen
import Derived.Deep.DeepCutAuto
namespace Go.Proofs.Ytcgbgiceahcagaa
open Go.RowKit
set_option linter.unusedSimpArgs false
set_option linter.unusedVariables false

set_option maxHeartbeats 8000000 in
theorem fnExactCloseBank_walk (A : Option Addr) (n c : Nat) (ks : List Bnk) (pw : Int) (page : Int) (B : Option Addr) (m d : Nat) (ws : List Adr) (w : World) (hA : Bnks w A n ks) (hn : n ≤ maxLen) (ipw : I64 pw) (ipage : I64 page) (gB : Adrs w B m ws) (gn : m ≤ maxLen) :
    Calls Try.prog 5 #[.agg #[.slice A n c, .int .i64 pw], .int .i64 page, .slice B m d] w fun e w' => e = .returned (.bool true) ∧ Below w.heap.size w w' := by
  clear ipw ipage
  by_cases hz0 : (1048576) < (n : Int)
  · skip
    have bel : Below w.heap.size w w := Below.refl _ _
    go_enter Try.func5, Try.ntmps5
    go_wp2_with fail
    refine abs_call ?_
    intro W1 hW
    replace bel := (Below.alloc bel (by first | exact bel.size | (have hbs := bel.size; simp <;> omega)) (.cells #[.slice A n c, .int .i64 pw] 24))
    rw [← hW] at bel
    have pRank : Box W1 (w.heap.size) 24 #[.slice A n c, .int .i64 pw] := by rw [hW]; exact (Box.newAt (by simp))
    have szW1 : w.heap.size + 1 ≤ W1.heap.size := by rw [hW]; simp
    clear hW
    refine (szRank_n A n c ks pw (1048576) _ (by omega) (by omega) hn (by omega)).mono ?_
    rintro e w2 ⟨rfl, hbb⟩
    have szw2 := hbb.size
    replace bel := bel.trans (hbb.mono bel.size)
    replace pRank := pRank.kept hbb
    clear hbb
    go_wp2
    go_ret
    exact ⟨rfl, bel⟩
  · skip
    by_cases hz1 : (1048576 - (n : Int)) < (m : Int)
    · skip
      have t0 : decide ((1048576 - (n : Int)) < 0) = false := by simp; omega
      have bel : Below w.heap.size w w := Below.refl _ _
      go_enter Try.func5, Try.ntmps5
      go_wp2_with fail
      refine abs_call ?_
      intro W3 hW
      replace bel := (Below.alloc bel (by first | exact bel.size | (have hbs := bel.size; simp <;> omega)) (.cells #[.slice A n c, .int .i64 pw] 24))
      rw [← hW] at bel
      have pRank : Box W3 (w.heap.size) 24 #[.slice A n c, .int .i64 pw] := by rw [hW]; exact (Box.newAt (by simp))
      have szW3 : w.heap.size + 1 ≤ W3.heap.size := by rw [hW]; simp
      clear hW
      refine (szRank_y A n c ks pw (1048576) _ (by omega) (by omega)).mono ?_
      rintro e w4 ⟨rfl, hbb⟩
      have szw4 := hbb.size
      replace bel := bel.trans (hbb.mono bel.size)
      replace pRank := pRank.kept hbb
      clear hbb
      go_wp2_with fail
      refine (szAddrS_n B m d (1048576 - (n : Int)) _ (by omega) (by omega) gn (by omega)).mono ?_
      rintro e w5 ⟨rfl, hbb⟩
      have szw5 := hbb.size
      replace bel := bel.trans (hbb.mono bel.size)
      replace pRank := pRank.kept hbb
      clear hbb
      go_wp2
      go_ret
      exact ⟨rfl, bel⟩
    · skip
      have t0 : decide ((1048576 - (n : Int)) < 0) = false := by simp; omega
      have t1 : decide ((1048576 - (n : Int) - (m : Int)) < 0) = false := by simp; omega
      have hs0 : ((closeB ks page ws) != (closeB ks page ws)) = false := by simp
      have bel : Below w.heap.size w w := Below.refl _ _
      go_enter Try.func5, Try.ntmps5
      go_wp2_with fail
      refine abs_call ?_
      intro W6 hW
      replace bel := (Below.alloc bel (by first | exact bel.size | (have hbs := bel.size; simp <;> omega)) (.cells #[.slice A n c, .int .i64 pw] 24))
      rw [← hW] at bel
      have pRank : Box W6 (w.heap.size) 24 #[.slice A n c, .int .i64 pw] := by rw [hW]; exact (Box.newAt (by simp))
      have szW6 : w.heap.size + 1 ≤ W6.heap.size := by rw [hW]; simp
      clear hW
      refine (szRank_y A n c ks pw (1048576) _ (by omega) (by omega)).mono ?_
      rintro e w7 ⟨rfl, hbb⟩
      have szw7 := hbb.size
      replace bel := bel.trans (hbb.mono bel.size)
      replace pRank := pRank.kept hbb
      clear hbb
      go_wp2_with fail
      refine (szAddrS_y B m d (1048576 - (n : Int)) _ (by omega) (by omega)).mono ?_
      rintro e w8 ⟨rfl, hbb⟩
      have szw8 := hbb.size
      replace bel := bel.trans (hbb.mono bel.size)
      replace pRank := pRank.kept hbb
      clear hbb
      obtain ⟨pRankc0, pRankc1⟩ := pRank.c2
      have pRank_lt := pRank.lt
      go_wp2_with fail
      refine (toRank_h A n c ks pw _ (hA.below bel) (by omega)).mono ?_
      rintro e w9 ⟨A1, n1, c1, rfl, oaRank, hbb⟩
      have n1l : n1 ≤ 1048576 := by have := oaRank.len; have := hA.len; omega
      clear pRankc0 pRankc1 pRank_lt
      have szw9 := hbb.size
      replace bel := bel.trans (hbb.mono bel.size)
      replace pRank := pRank.kept hbb
      clear hbb
      go_wp2_with fail
      refine (toAddrS_h B m d ws _ (gB.below bel) (by omega)).mono ?_
      rintro e w10 ⟨B1, m1, d1, rfl, oaAddrS, hbb⟩
      have m1l : m1 ≤ 1048576 := by have := oaAddrS.len; have := gB.len; omega
      have szw10 := hbb.size
      replace bel := bel.trans (hbb.mono bel.size)
      replace pRank := pRank.kept hbb
      replace oaRank := oaRank.below hbb
      clear hbb
      go_wp2_with fail
      refine (sCloseBank_c A1 n1 c1 ks pw page B1 m1 d1 ws _ oaRank.recs n1l oaAddrS.recs m1l).mono ?_
      rintro e w11 ⟨rfl, hbb⟩
      have szw11 := hbb.size
      replace bel := bel.trans (hbb.mono bel.size)
      replace pRank := pRank.kept hbb
      replace oaRank := oaRank.below hbb
      replace oaAddrS := oaAddrS.below hbb
      clear hbb
      clear oaRank oaAddrS
      obtain ⟨pRankc0, pRankc1⟩ := pRank.c2
      have pRank_lt := pRank.lt
      go_wp2_with fail
      refine (toRank_h A n c ks pw _ (hA.below bel) (by omega)).mono ?_
      rintro e w12 ⟨A3, n3, c3, rfl, oxRank, hbb⟩
      have n3l : n3 ≤ 1048576 := by have := oxRank.len; have := hA.len; omega
      clear pRankc0 pRankc1 pRank_lt
      have szw12 := hbb.size
      replace bel := bel.trans (hbb.mono bel.size)
      replace pRank := pRank.kept hbb
      clear hbb
      go_wp2_with fail
      refine abs_call ?_
      intro W13 hW
      replace bel := (Below.alloc bel (by first | exact bel.size | (have hbs := bel.size; simp <;> omega)) (.cells #[.slice A3 n3 c3, .int .i64 pw] 31))
      rw [← hW] at bel
      replace pRank := (pRank).alloc (.cells #[.slice A3 n3 c3, .int .i64 pw] 31)
      rw [← hW] at pRank
      replace oxRank := (oxRank).alloc (.cells #[.slice A3 n3 c3, .int .i64 pw] 31)
      rw [← hW] at oxRank
      have xRank : Box W13 (w12.heap.size) 31 #[.slice A3 n3 c3, .int .i64 pw] := by rw [hW]; exact (Box.newAt (by simp))
      have szW13 : w12.heap.size + 1 ≤ W13.heap.size := by rw [hW]; simp
      clear hW
      refine (toAddrS_h B m d ws _ (gB.below bel) (by omega)).mono ?_
      rintro e w14 ⟨B3, m3, d3, rfl, oxAddrS, hbb⟩
      have m3l : m3 ≤ 1048576 := by have := oxAddrS.len; have := gB.len; omega
      have szw14 := hbb.size
      replace bel := bel.trans (hbb.mono bel.size)
      replace pRank := pRank.kept hbb
      replace xRank := xRank.kept hbb
      replace oxRank := oxRank.below hbb
      clear hbb
      obtain ⟨xRankc0, xRankc1⟩ := xRank.c2
      have xRank_lt := xRank.lt
      go_wp2_with fail
      refine (iCloseBank_c A3 n3 c3 ks pw page B3 m3 d3 ws _ oxRank.recs n3l oxAddrS.recs m3l).mono ?_
      rintro e w15 ⟨rfl, hbb⟩
      clear xRankc0 xRankc1 xRank_lt
      have szw15 := hbb.size
      replace bel := bel.trans (hbb.mono bel.size)
      replace pRank := pRank.kept hbb
      replace xRank := xRank.kept hbb
      replace oxRank := oxRank.below hbb
      replace oxAddrS := oxAddrS.below hbb
      clear hbb
      go_wp2_with fail
      obtain ⟨xRankc0, xRankc1⟩ := xRank.c2
      have xRank_lt := xRank.lt
      obtain ⟨pRankc0, pRankc1⟩ := pRank.c2
      have pRank_lt := pRank.lt
      have rd_Rank0 := hA.below bel
      have rd_AddrS0 := gB.below bel
      go_region_held3 (fun W' => W'.cell? ⟨w12.heap.size, 0, none⟩ = some (.slice A3 n3 c3) ∧ W'.cell? ⟨w12.heap.size, 1, none⟩ = some (.int .i64 pw) ∧ W'.cell? ⟨w.heap.size, 0, none⟩ = some (.slice A n c) ∧ W'.cell? ⟨w.heap.size, 1, none⟩ = some (.int .i64 pw))
        (first | exact ⟨xRankc0, xRankc1, pRankc0, pRankc1⟩ | exact ⟨xRank_q1c0, xRank_q1c1, pRank_q1c0, pRank_q1c1⟩ | exact ⟨xRank_q2c0, xRank_q2c1, pRank_q2c0, pRank_q2c1⟩)
        (first | (go_at_call 10; refine (toRank_h A n c ks pw _ (by exact rd_Rank0) (by omega)).mono ?_; rintro e w16 ⟨A7, n7, c7, rfl, oeRank, hb1'⟩; have hb1 : Below w15.heap.size w15 w16 := ⟨hb1'.os, hb1'.tape, hb1'.output, hb1'.size, hb1'.block⟩; have n7l : n7 ≤ 1048576 := (by have := oeRank.len; have := hA.len; omega); have oxRank_1 := oxRank.below hb1; have oxAddrS_1 := oxAddrS.below hb1; have rd_Rank0_1 := rd_Rank0.below hb1; have rd_AddrS0_1 := rd_AddrS0.below hb1; have xRank_q1 := xRank.kept hb1; obtain ⟨xRank_q1c0, xRank_q1c1⟩ := xRank_q1.c2; have pRank_q1 := pRank.kept hb1; obtain ⟨pRank_q1c0, pRank_q1c1⟩ := pRank_q1.c2)
                     | (go_at_call 13; refine (eqRank_h A3 n3 c3 A7 n7 c7 ks pw _ oxRank_1.recs oeRank.recs n3l).mono ?_; rintro e w17 ⟨rfl, hb2'⟩; have hb2 : Below w16.heap.size w16 w17 := ⟨hb2'.os, hb2'.tape, hb2'.output, hb2'.size, hb2'.block⟩; have xRank_q2 := xRank_q1.kept hb2; obtain ⟨xRank_q2c0, xRank_q2c1⟩ := xRank_q2.c2; have pRank_q2 := pRank_q1.kept hb2; obtain ⟨pRank_q2c0, pRank_q2c1⟩ := pRank_q2.c2))
      clear oxRank_1 oxAddrS_1 rd_Rank0_1 rd_AddrS0_1 xRank_q1 xRank_q1c0 xRank_q1c1 pRank_q1 pRank_q1c0 pRank_q1c1 xRank_q2 xRank_q2c0 xRank_q2c1 pRank_q2 pRank_q2c0 pRank_q2c1 hb1' hb2' rd_Rank0 rd_AddrS0
      clear xRankc0 xRankc1 xRank_lt pRankc0 pRankc1 pRank_lt
      have szw16 := hb1.size
      replace bel := bel.trans (hb1.mono bel.size)
      replace pRank := pRank.kept hb1
      replace xRank := xRank.kept hb1
      replace oxRank := oxRank.below hb1
      replace oxAddrS := oxAddrS.below hb1
      clear hb1
      have szw17 := hb2.size
      replace bel := bel.trans (hb2.mono bel.size)
      replace pRank := pRank.kept hb2
      replace xRank := xRank.kept hb2
      replace oxRank := oxRank.below hb2
      replace oxAddrS := oxAddrS.below hb2
      replace oeRank := oeRank.below hb2
      clear hb2
      clear oeRank
      go_wp2_with fail
      refine (toAddrS_h B m d ws _ (gB.below bel) (by omega)).mono ?_
      rintro e w18 ⟨B7, m7, d7, rfl, oeAddrS, hbb⟩
      have m7l : m7 ≤ 1048576 := by have := oeAddrS.len; have := gB.len; omega
      have szw18 := hbb.size
      replace bel := bel.trans (hbb.mono bel.size)
      replace pRank := pRank.kept hbb
      replace xRank := xRank.kept hbb
      replace oxRank := oxRank.below hbb
      replace oxAddrS := oxAddrS.below hbb
      clear hbb
      go_wp2_with fail
      refine (eqAddrS_h B3 m3 d3 B7 m7 d7 ws _ oxAddrS.recs oeAddrS.recs m3l).mono ?_
      rintro e w19 ⟨rfl, hbb⟩
      have szw19 := hbb.size
      replace bel := bel.trans (hbb.mono bel.size)
      replace pRank := pRank.kept hbb
      replace xRank := xRank.kept hbb
      replace oxRank := oxRank.below hbb
      replace oxAddrS := oxAddrS.below hbb
      replace oeAddrS := oeAddrS.below hbb
      clear hbb
      clear oeAddrS
      go_wp2
      go_ret
      exact ⟨rfl, bel⟩
end Go.Proofs.Ytcgbgiceahcagaa
