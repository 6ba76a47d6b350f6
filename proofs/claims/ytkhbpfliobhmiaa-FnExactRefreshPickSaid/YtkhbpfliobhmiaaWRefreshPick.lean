/-
  The walk of FnExactRefreshPick.
-/
import Derived.Test.YtkhbpfliobhmiaaRefKs
import Derived.Test.YtkhbpfliobhmiaaRefU
import Derived.Test.YtkhbpfliobhmiaaOpen
namespace Go.Proofs.Ytkhbpfliobhmiaa
open Go.RowKit
set_option linter.unusedSimpArgs false
set_option linter.unusedVariables false

set_option maxHeartbeats 8000000 in
theorem fnExactRefreshPick_walk (A : Option Addr) (n c : Nat) (zs : List Int) (s : Int) (t : Bool) (B : Option Addr) (m d : Nat) (bs : List Bool) (w : World) (hA : Ints w A n zs) (hn : n ≤ maxLen) (iA : ∀ z ∈ zs, I64 z) (is : I64 s) (hB : Bools w B m bs) (hm : m ≤ maxLen) :
    Calls Try.prog 7 #[.agg #[.slice A n c, .int .i64 s, .bool t], .slice B m d] w fun e w' => e = .returned (.bool true) ∧ Below w.heap.size w w' := by
  clear iA is
  by_cases hsz0 : 1048576 < m
  · go_enter Try.func7, Try.ntmps7
    go_wp2
    go_ret
    exact ⟨rfl, ((Below.refl _ _).alloc (Nat.le_refl _) _)⟩
  · skip
    by_cases hz0 : (1048576) < (n : Int)
    · skip
      have bel : Below w.heap.size w w := Below.refl _ _
      go_enter Try.func7, Try.ntmps7
      go_wp2_with fail
      refine abs_call ?_
      intro W1 hW
      replace bel := bel.alloc bel.size (.cells #[.slice A n c, .int .i64 s, .bool t] 30)
      rw [← hW] at bel
      have pRefresh : Box W1 w.heap.size 30 #[.slice A n c, .int .i64 s, .bool t] := by rw [hW]; exact Box.new _ _ _
      have szW1 : w.heap.size < W1.heap.size := by rw [hW]; simp
      clear hW
      refine (szRefresh_n A n c zs s t (1048576) _ (by omega) (by omega) hn (by omega)).mono ?_
      rintro e w2 ⟨rfl, hbb⟩
      have szw2 := hbb.size
      replace bel := bel.trans (hbb.mono bel.size)
      replace pRefresh := pRefresh.kept hbb
      clear hbb
      go_wp2
      go_ret
      exact ⟨rfl, bel⟩
    · skip
      have t0 : decide ((1048576 - (n : Int)) < 0) = false := by simp; omega
      have hs0 : ((pick zs s bs) != (pick zs s bs)) = false := by simp
      have bel : Below w.heap.size w w := Below.refl _ _
      go_enter Try.func7, Try.ntmps7
      go_wp2_with fail
      refine abs_call ?_
      intro W3 hW
      replace bel := bel.alloc bel.size (.cells #[.slice A n c, .int .i64 s, .bool t] 30)
      rw [← hW] at bel
      have pRefresh : Box W3 w.heap.size 30 #[.slice A n c, .int .i64 s, .bool t] := by rw [hW]; exact Box.new _ _ _
      have szW3 : w.heap.size < W3.heap.size := by rw [hW]; simp
      clear hW
      refine (szRefresh_y A n c zs s t (1048576) _ (by omega) (by omega)).mono ?_
      rintro e w4 ⟨rfl, hbb⟩
      have szw4 := hbb.size
      replace bel := bel.trans (hbb.mono bel.size)
      replace pRefresh := pRefresh.kept hbb
      clear hbb
      obtain ⟨pRefreshc0, pRefreshc1, pRefreshc2⟩ := pRefresh.c3
      have pRefresh_lt := pRefresh.lt
      go_wp2_with fail
      refine (toRefresh_h A n c zs s t _ (hA.below bel) (by omega)).mono ?_
      rintro e w5 ⟨A1, n1, c1, rfl, oaRefresh, hbb⟩
      have n1l : n1 ≤ 1048576 := by have := oaRefresh.len; have := hA.1; omega
      clear pRefreshc0 pRefreshc1 pRefreshc2 pRefresh_lt
      have szw5 := hbb.size
      replace bel := bel.trans (hbb.mono bel.size)
      replace pRefresh := pRefresh.kept hbb
      clear hbb
      go_wp2_with fail
      refine (toBoolS_h B m d bs _ (hB.below bel) (by omega)).mono ?_
      rintro e w6 ⟨B1, m1, d1, rfl, oaBoolS, hbb⟩
      have m1l : m1 ≤ 1048576 := by have := oaBoolS.len; have := hB.len; omega
      have szw6 := hbb.size
      replace bel := bel.trans (hbb.mono bel.size)
      replace pRefresh := pRefresh.kept hbb
      replace oaRefresh := oaRefresh.below hbb
      clear hbb
      go_wp2_with fail
      refine (sRefreshPick_c A1 n1 c1 zs s t B1 m1 d1 bs _ oaRefresh.ints n1l oaBoolS.bools m1l).mono ?_
      rintro e w7 ⟨rfl, hbb⟩
      have szw7 := hbb.size
      replace bel := bel.trans (hbb.mono bel.size)
      replace pRefresh := pRefresh.kept hbb
      replace oaRefresh := oaRefresh.below hbb
      replace oaBoolS := oaBoolS.below hbb
      clear hbb
      clear oaRefresh oaBoolS
      obtain ⟨pRefreshc0, pRefreshc1, pRefreshc2⟩ := pRefresh.c3
      have pRefresh_lt := pRefresh.lt
      go_wp2_with fail
      refine (toRefresh_h A n c zs s t _ (hA.below bel) (by omega)).mono ?_
      rintro e w8 ⟨A3, n3, c3, rfl, oxRefresh, hbb⟩
      have n3l : n3 ≤ 1048576 := by have := oxRefresh.len; have := hA.1; omega
      clear pRefreshc0 pRefreshc1 pRefreshc2 pRefresh_lt
      have szw8 := hbb.size
      replace bel := bel.trans (hbb.mono bel.size)
      replace pRefresh := pRefresh.kept hbb
      clear hbb
      go_wp2_with fail
      refine abs_call ?_
      intro W9 hW
      replace bel := bel.alloc bel.size (.cells #[.slice A3 n3 c3, .int .i64 s, .bool t] 24)
      rw [← hW] at bel
      replace pRefresh := pRefresh.alloc (.cells #[.slice A3 n3 c3, .int .i64 s, .bool t] 24)
      rw [← hW] at pRefresh
      replace oxRefresh := oxRefresh.alloc (.cells #[.slice A3 n3 c3, .int .i64 s, .bool t] 24)
      rw [← hW] at oxRefresh
      have xRefresh : Box W9 w8.heap.size 24 #[.slice A3 n3 c3, .int .i64 s, .bool t] := by rw [hW]; exact Box.new _ _ _
      have szW9 : w8.heap.size < W9.heap.size := by rw [hW]; simp
      clear hW
      refine (toBoolS_h B m d bs _ (hB.below bel) (by omega)).mono ?_
      rintro e w10 ⟨B3, m3, d3, rfl, oxBoolS, hbb⟩
      have m3l : m3 ≤ 1048576 := by have := oxBoolS.len; have := hB.len; omega
      have szw10 := hbb.size
      replace bel := bel.trans (hbb.mono bel.size)
      replace pRefresh := pRefresh.kept hbb
      replace xRefresh := xRefresh.kept hbb
      replace oxRefresh := oxRefresh.below hbb
      clear hbb
      obtain ⟨xRefreshc0, xRefreshc1, xRefreshc2⟩ := xRefresh.c3
      have xRefresh_lt := xRefresh.lt
      go_wp2_with fail
      refine (iRefreshPick_c A3 n3 c3 zs s t B3 m3 d3 bs _ oxRefresh.ints n3l oxBoolS.bools m3l).mono ?_
      rintro e w11 ⟨rfl, hbb⟩
      clear xRefreshc0 xRefreshc1 xRefreshc2 xRefresh_lt
      have szw11 := hbb.size
      replace bel := bel.trans (hbb.mono bel.size)
      replace pRefresh := pRefresh.kept hbb
      replace xRefresh := xRefresh.kept hbb
      replace oxRefresh := oxRefresh.below hbb
      replace oxBoolS := oxBoolS.below hbb
      clear hbb
      go_wp2_with fail
      obtain ⟨xRefreshc0, xRefreshc1, xRefreshc2⟩ := xRefresh.c3
      have xRefresh_lt := xRefresh.lt
      obtain ⟨pRefreshc0, pRefreshc1, pRefreshc2⟩ := pRefresh.c3
      have pRefresh_lt := pRefresh.lt
      have rd_Refresh0 := hA.below bel
      have rd_BoolS0 := hB.below bel
      go_region_held3 (fun W' => W'.cell? ⟨w8.heap.size, 0, none⟩ = some (.slice A3 n3 c3) ∧ W'.cell? ⟨w8.heap.size, 1, none⟩ = some (.int .i64 s) ∧ W'.cell? ⟨w8.heap.size, 2, none⟩ = some (.bool t) ∧ W'.cell? ⟨w.heap.size, 0, none⟩ = some (.slice A n c) ∧ W'.cell? ⟨w.heap.size, 1, none⟩ = some (.int .i64 s) ∧ W'.cell? ⟨w.heap.size, 2, none⟩ = some (.bool t))
        (first | exact ⟨xRefreshc0, xRefreshc1, xRefreshc2, pRefreshc0, pRefreshc1, pRefreshc2⟩ | exact ⟨xRefresh_q1c0, xRefresh_q1c1, xRefresh_q1c2, pRefresh_q1c0, pRefresh_q1c1, pRefresh_q1c2⟩ | exact ⟨xRefresh_q2c0, xRefresh_q2c1, xRefresh_q2c2, pRefresh_q2c0, pRefresh_q2c1, pRefresh_q2c2⟩)
        (first | (go_at_call 20; refine (toRefresh_h A n c zs s t _ (by exact rd_Refresh0) (by omega)).mono ?_; rintro e w12 ⟨A7, n7, c7, rfl, oeRefresh, hb1'⟩; have hb1 : Below w11.heap.size w11 w12 := ⟨hb1'.os, hb1'.tape, hb1'.output, hb1'.size, hb1'.block⟩; have n7l : n7 ≤ 1048576 := (by have := oeRefresh.len; have := hA.1; omega); have oxRefresh_1 := oxRefresh.below hb1; have oxBoolS_1 := oxBoolS.below hb1; have rd_Refresh0_1 := rd_Refresh0.below hb1; have rd_BoolS0_1 := rd_BoolS0.below hb1; have xRefresh_q1 := xRefresh.kept hb1; obtain ⟨xRefresh_q1c0, xRefresh_q1c1, xRefresh_q1c2⟩ := xRefresh_q1.c3; have pRefresh_q1 := pRefresh.kept hb1; obtain ⟨pRefresh_q1c0, pRefresh_q1c1, pRefresh_q1c2⟩ := pRefresh_q1.c3)
                     | (go_at_call 15; refine (eqRefresh_h A3 n3 c3 A7 n7 c7 zs s t _ oxRefresh_1.ints oeRefresh.ints n3l).mono ?_; rintro e w13 ⟨rfl, hb2'⟩; have hb2 : Below w12.heap.size w12 w13 := ⟨hb2'.os, hb2'.tape, hb2'.output, hb2'.size, hb2'.block⟩; have xRefresh_q2 := xRefresh_q1.kept hb2; obtain ⟨xRefresh_q2c0, xRefresh_q2c1, xRefresh_q2c2⟩ := xRefresh_q2.c3; have pRefresh_q2 := pRefresh_q1.kept hb2; obtain ⟨pRefresh_q2c0, pRefresh_q2c1, pRefresh_q2c2⟩ := pRefresh_q2.c3))
      clear oxRefresh_1 oxBoolS_1 rd_Refresh0_1 rd_BoolS0_1 xRefresh_q1 xRefresh_q1c0 xRefresh_q1c1 xRefresh_q1c2 pRefresh_q1 pRefresh_q1c0 pRefresh_q1c1 pRefresh_q1c2 xRefresh_q2 xRefresh_q2c0 xRefresh_q2c1 xRefresh_q2c2 pRefresh_q2 pRefresh_q2c0 pRefresh_q2c1 pRefresh_q2c2 hb1' hb2' rd_Refresh0 rd_BoolS0
      clear xRefreshc0 xRefreshc1 xRefreshc2 xRefresh_lt pRefreshc0 pRefreshc1 pRefreshc2 pRefresh_lt
      have szw12 := hb1.size
      replace bel := bel.trans (hb1.mono bel.size)
      replace pRefresh := pRefresh.kept hb1
      replace xRefresh := xRefresh.kept hb1
      replace oxRefresh := oxRefresh.below hb1
      replace oxBoolS := oxBoolS.below hb1
      clear hb1
      have szw13 := hb2.size
      replace bel := bel.trans (hb2.mono bel.size)
      replace pRefresh := pRefresh.kept hb2
      replace xRefresh := xRefresh.kept hb2
      replace oxRefresh := oxRefresh.below hb2
      replace oxBoolS := oxBoolS.below hb2
      replace oeRefresh := oeRefresh.below hb2
      clear hb2
      clear oeRefresh
      go_wp2_with fail
      refine (toBoolS_h B m d bs _ (hB.below bel) (by omega)).mono ?_
      rintro e w14 ⟨B7, m7, d7, rfl, oeBoolS, hbb⟩
      have m7l : m7 ≤ 1048576 := by have := oeBoolS.len; have := hB.len; omega
      have szw14 := hbb.size
      replace bel := bel.trans (hbb.mono bel.size)
      replace pRefresh := pRefresh.kept hbb
      replace xRefresh := xRefresh.kept hbb
      replace oxRefresh := oxRefresh.below hbb
      replace oxBoolS := oxBoolS.below hbb
      clear hbb
      go_wp2_with fail
      refine (eqBoolS_h B3 m3 d3 B7 m7 d7 bs _ oxBoolS.bools oeBoolS.bools m3l).mono ?_
      rintro e w15 ⟨rfl, hbb⟩
      have szw15 := hbb.size
      replace bel := bel.trans (hbb.mono bel.size)
      replace pRefresh := pRefresh.kept hbb
      replace xRefresh := xRefresh.kept hbb
      replace oxRefresh := oxRefresh.below hbb
      replace oxBoolS := oxBoolS.below hbb
      replace oeBoolS := oeBoolS.below hbb
      clear hbb
      clear oeBoolS
      go_wp2
      go_ret
      exact ⟨rfl, bel⟩
end Go.Proofs.Ytkhbpfliobhmiaa
