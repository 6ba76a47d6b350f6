/-
  The walk of FnRetired.
-/
import Derived.Test.YtbcbgdomjefdhaaGeoD
import Derived.Test.YtbcbgdomjefdhaaPlc
import Derived.Test.YtbcbgdomjefdhaaSpT
import Derived.Test.YtbcbgdomjefdhaaSpG
import Derived.Test.YtbcbgdomjefdhaaSpD
import Derived.Deep.DeepCutAuto
namespace Go.Proofs.Ytbcbgdomjefdhaa
open Go.RowKit
set_option linter.unusedSimpArgs false
set_option linter.unusedVariables false

set_option maxRecDepth 100000 in
set_option maxHeartbeats 8000000 in
theorem fnRetired_walk (A : Option Addr) (n c : Nat) (zs : List Int) (w : World) (hA : Bytes w A n zs) (hn : n ≤ maxLen) :
    Calls Try.prog 3 #[.slice A n c] w fun e w' => e = .returned (.bool true) ∧ Below w.heap.size w w' := by
  by_cases hb : 1048576 < n
  · have hd : decide (1048576 < n) = true := by simpa using hb
    go_enter Try.func3, Try.ntmps3
    go_wp2_with (go_at_call 15; refine (big_c A n c _ hn).mono ?_; rintro e w' ⟨rfl, rfl⟩)
    go_ret
    exact ⟨rfl, Below.refl _ _⟩
  · have hd : decide (1048576 < n) = false := by simpa using hb
    have bel : Below w.heap.size w w := Below.refl _ _
    go_enter Try.func3, Try.ntmps3
    go_wp2_with (first | (go_at_call 15; refine (big_c A n c _ hn).mono ?_; rintro e w' ⟨rfl, rfl⟩) | fail)
    refine (drawGeometry_c A n c zs _ hA hn).mono ?_
    rintro e w1 ⟨gg, gb, gr, gc, hG, rfl, b1⟩
    have szw1 := b1.size
    replace bel := bel.trans (b1.mono bel.size)
    clear b1
    have hG' := hG
    obtain ⟨⟨ga1, ga2⟩, ⟨gb1, gb2⟩, ⟨gr1, gr2⟩, gc1, gc2⟩ := hG'
    obtain ⟨N, hN⟩ := Int.eq_ofNat_of_zero_le (show 0 ≤ gr + 1 by omega)
    obtain rfl : gr = (N : Int) - 1 := by omega
    have hN3 : 3 ≤ N ∧ N ≤ 9 := by omega
    obtain ⟨hN3, hN9⟩ := hN3
    clear hN
    have HG := geo_plus hG
    obtain ⟨nb, enb, nb1, nb8⟩ := geo_banks HG
    replace HG := Lib.hid HG
    have HNB := Lib.hid enb
    clear hG enb
    have e3 : (N : Int) - 1 + 3 = (N : Int) + 2 := by omega
    go_wp2_with fail
    refine abs_call ?_
    intro W2 hW
    have szW2 : w1.heap.size + 1 ≤ W2.heap.size := by rw [hW]; simp [World.setCell]
    have szW2_ := bel.size
    replace bel : Below w.heap.size w W2 := by rw [hW]; exact (bel).alloc (by first | omega | (simp [World.setCell] <;> omega)) _
    have q : Box W2 w1.heap.size 25 #[.int .i64 gg, .int .i64 gb, .int .i64 ((N : Int) + 2), .int .i64 gc] := by rw [hW]; exact (Box.newAt (by simp [World.setCell]))
    clear hW
    refine (drawPlaces_c A n c zs _ (hA.below bel) hn).mono ?_
    rintro e w3 ⟨p, hp, A1, n1, c1, rfl, o1, b3⟩
    have szw3 := b3.size
    replace bel := bel.trans (b3.mono bel.size)
    replace q := q.kept b3
    clear b3
    have hn12 : n1 = 12 := by rw [← o1.len]; exact hp.1
    subst hn12
    obtain ⟨z0, hz0, z0a, z0b⟩ := hp.at_ (show 0 < 12 by omega)
    obtain ⟨z1, hz1, z1a, z1b⟩ := hp.at_ (show 1 < 12 by omega)
    obtain ⟨gp, x0, eg, -, -, -, gp1, gp2⟩ := o1.at_ (show 0 < 12 by omega)
    subst eg
    have HP0 := Lib.hid hz0
    have HP1 := Lib.hid hz1
    clear hp hz0 hz1
    obtain ⟨b, hb, eb1, eb2⟩ := rem_nat z0a (show 0 < nb by omega)
    obtain ⟨r, hr, er1, er2⟩ := rem_nat z1a (show 0 < N by omega)
    obtain ⟨r2, hr2, et1, et2⟩ := rem_nat (show 0 ≤ (r : Int) + 1 by omega) (show 0 < N by omega)
    have hne : r ≠ r2 := by
      intro e
      subst e
      by_cases h : r + 1 < N
      · rw [Int.emod_eq_of_lt (by omega) (by omega)] at et1; omega
      · have h2 : (r : Int) + 1 = (N : Int) := by omega
        rw [h2, Int.emod_self] at et1; omega
    obtain ⟨L0, L1, L2, k, M, HR⟩ := retL HG.out HNB.out nb8 (by omega) (by omega) hb hr hr2 hne
    replace HR := Lib.hid HR
    clear hne
    obtain ⟨q_0, q_1, q_2, q_3⟩ := q.c4
    have q_lt := q.lt
    go_wp2_with fail
    refine (iSpareNew_c gg gb ((N : Int) + 2) gc 2 _).mono ?_
    rintro e w4 ⟨A4, n4, c4, rfl, o4, b4⟩
    rw [HR.out.map0] at o4
    rw [HR.out.ok0, HR.out.sp0]
    have en4 : n4 = M := by rw [← o4.len]; exact HR.out.len0
    subst en4
    clear q_0 q_1 q_2 q_3 q_lt
    have szw4 := b4.size
    replace bel := bel.trans (b4.mono bel.size)
    replace q := q.kept b4
    replace o1 := o1.below b4
    clear b4
    have e2 : (N : Int) + 2 - 2 = (N : Int) := by omega
    obtain ⟨q_0, q_1, q_2, q_3⟩ := q.c4
    have q_lt := q.lt
    go_wp2_with fail
    refine abs_code ?_
    intro W5 hW
    clear q_0 q_1 q_2 q_3 q_lt
    have szW5 : w4.heap.size + 1 ≤ W5.heap.size := by rw [hW]; simp [World.setCell]
    have szW5_ := bel.size
    replace bel : Below w.heap.size w W5 := by rw [hW]; exact (bel).alloc (by first | omega | (simp [World.setCell] <;> omega)) _
    replace q : Box W5 w1.heap.size 25 #[.int .i64 gg, .int .i64 gb, .int .i64 ((N : Int) + 2), .int .i64 gc] := by rw [hW]; exact q.alloc _
    have s : Box W5 w4.heap.size 30 #[.int .i64 2, .slice A4 n4 c4] := by rw [hW]; exact (Box.newAt (by simp [World.setCell]))
    replace o1 : OwnH W5 W2.heap.size w3.heap.size (some ⟨gp, 0, none⟩) 12 c1 p := by rw [hW]; exact o1.alloc _
    replace o4 : OwnH W5 w3.heap.size w4.heap.size A4 n4 c4 L0 := by rw [hW]; exact o4.alloc _
    clear hW
    obtain ⟨q_0, q_1, q_2, q_3⟩ := q.c4
    have q_lt := q.lt
    obtain ⟨s_0, s_1⟩ := s.c2
    have s_lt := s.lt
    have cp0 := place_cell o1 (show 0 < 12 by omega) HP0.out
    have cp1 := place_cell o1 (show 1 < 12 by omega) HP1.out
    have l2 := later_cell q_lt q_2
    have l0 := later_cell q_lt q_0
    have l1 := later_cell q_lt q_1
    have l3 := later_cell q_lt q_3
    have gpl : gp < W5.heap.size := by omega
    have m0 := later_cell gpl cp0
    have cB : ∀ z : Later W5, Calls Try.prog 19 #[.agg #[.int .i64 gg, .int .i64 gb, .int .i64 ((N : Int) + 2), .int .i64 gc]] z.w fun e w' => e = .returned (.int .i64 (nb : Int)) ∧ Below z.w.heap.size z.w w' := fun z => by
      have h := sBankCount_c gg gb ((N : Int) + 2) gc z.w
      rw [HNB.out] at h
      exact h
    have nb0 : (nb : Int) ≠ 0 := by omega
    have nb00 : nb ≠ 0 := by omega
    refine wp_region_later (by kernel_rfl) (by kernel_rfl) ?_
    repeat (go_big_quiet_step ((go_at_call 19; exact later_call (cB _))))
    refine wpQuiet_nil ?_
    intro Z hw'
    obtain ⟨z, hw''⟩ := hw'
    have bZ := z.bel
    rw [← hw''] at bZ
    clear hw'' z l0 l1 l2 l3 m0 nb0 nb00 cB
    clear q_0 q_1 q_2 q_3 q_lt s_0 s_1 s_lt
    have szZ := bZ.size
    replace bel := bel.trans (bZ.mono bel.size)
    replace q := q.kept bZ
    replace s := s.kept bZ
    replace o1 := o1.below bZ
    replace o4 := o4.below bZ
    clear bZ
    clear cp0
    have cp1 := place_cell o1 (show 1 < 12 by omega) HP1.out
    obtain ⟨q_0, q_1, q_2, q_3⟩ := q.c4
    have q_lt := q.lt
    obtain ⟨s_0, s_1⟩ := s.c2
    have s_lt := s.lt
    have N0 : (N : Int) ≠ 0 := by omega
    have N00 : N ≠ 0 := by omega
    go_wp2_with fail
    go_quiet (fail)
    go_wp2_with fail
    refine abs_call ?_
    intro Z2 hW
    clear q_0 q_1 q_2 q_3 q_lt s_0 s_1 s_lt
    have szZ2 : Z.heap.size ≤ Z2.heap.size := by rw [hW]; simp [World.setCell]
    have szZ2_ := bel.size
    replace bel : Below w.heap.size w Z2 := by rw [hW]; exact (belowN (bel) _)
    replace q : Box Z2 w1.heap.size 25 #[.int .i64 gg, .int .i64 gb, .int .i64 ((N : Int) + 2), .int .i64 gc] := by rw [hW]; exact (q).drewN _
    replace s : Box Z2 w4.heap.size 30 #[.int .i64 2, .slice A4 n4 c4] := by rw [hW]; exact (s).drewN _
    replace o1 : OwnH Z2 W2.heap.size w3.heap.size (some ⟨gp, 0, none⟩) 12 c1 p := by rw [hW]; exact (o1).drewN _
    replace o4 : OwnH Z2 w3.heap.size w4.heap.size A4 n4 c4 L0 := by rw [hW]; exact (o4).drewN _
    clear hW
    refine (iRetireRow_c gg gb ((N : Int) + 2) gc 2 A4 n4 c4 L0 b r _ (by exact o4.ints) (by have := HR.out.hM; omega) o4.1.cap).mono ?_
    rintro e w6 ⟨A6, n6, c6, rfl, o6, b6⟩
    rw [HR.out.map1] at o6
    rw [HR.out.ok1]
    have en6 : n4 = n6 := by have := o6.len; have := HR.out.len1; omega
    subst en6
    have szw6 := b6.size
    replace bel := bel.trans (b6.mono bel.size)
    replace q := q.kept b6
    replace s := s.kept b6
    replace o1 := o1.below b6
    replace o4 := o4.below b6
    clear b6
    obtain ⟨q_0, q_1, q_2, q_3⟩ := q.c4
    have q_lt := q.lt
    obtain ⟨s_0, s_1⟩ := s.c2
    have s_lt := s.lt
    go_wp2_with fail
    refine abs_code ?_
    intro W7 hW
    clear q_0 q_1 q_2 q_3 q_lt s_0 s_1 s_lt
    have szW7 : w6.heap.size + 1 ≤ W7.heap.size := by rw [hW]; simp [World.setCell]
    have szW7_ := bel.size
    replace bel : Below w.heap.size w W7 := by rw [hW]; exact (bel).alloc (by first | omega | (simp [World.setCell] <;> omega)) _
    replace q : Box W7 w1.heap.size 25 #[.int .i64 gg, .int .i64 gb, .int .i64 ((N : Int) + 2), .int .i64 gc] := by rw [hW]; exact q.alloc _
    replace s : Box W7 w4.heap.size 30 #[.int .i64 2, .slice A4 n4 c4] := by rw [hW]; exact s.alloc _
    have x : Box W7 w6.heap.size 30 #[.int .i64 2, .slice A6 n4 c6] := by rw [hW]; exact (Box.newAt (by simp [World.setCell]))
    replace o1 : OwnH W7 W2.heap.size w3.heap.size (some ⟨gp, 0, none⟩) 12 c1 p := by rw [hW]; exact o1.alloc _
    replace o4 : OwnH W7 w3.heap.size w4.heap.size A4 n4 c4 L0 := by rw [hW]; exact o4.alloc _
    replace o6 : OwnH W7 Z2.heap.size w6.heap.size A6 n4 c6 L1 := by rw [hW]; exact o6.alloc _
    clear hW
    obtain ⟨q_0, q_1, q_2, q_3⟩ := q.c4
    have q_lt := q.lt
    obtain ⟨s_0, s_1⟩ := s.c2
    have s_lt := s.lt
    obtain ⟨x_0, x_1⟩ := x.c2
    have x_lt := x.lt
    have hS : ∀ Y : World, Below W7.heap.size W7 Y → (Y.cell? ⟨w1.heap.size, 0, none⟩ = some (.int .i64 gg) ∧ Y.cell? ⟨w1.heap.size, 1, none⟩ = some (.int .i64 gb) ∧ Y.cell? ⟨w1.heap.size, 2, none⟩ = some (.int .i64 ((N : Int) + 2)) ∧ Y.cell? ⟨w1.heap.size, 3, none⟩ = some (.int .i64 gc) ∧ Y.cell? ⟨w6.heap.size, 0, none⟩ = some (.int .i64 2) ∧ Y.cell? ⟨w6.heap.size, 1, none⟩ = some (.slice A6 n4 c6)) :=
      fun Y hY => ⟨(hY.cell (p := ⟨w1.heap.size, 0, none⟩) q_lt).trans q_0, (hY.cell (p := ⟨w1.heap.size, 1, none⟩) q_lt).trans q_1, (hY.cell (p := ⟨w1.heap.size, 2, none⟩) q_lt).trans q_2, (hY.cell (p := ⟨w1.heap.size, 3, none⟩) q_lt).trans q_3, (hY.cell (p := ⟨w6.heap.size, 0, none⟩) x_lt).trans x_0, (hY.cell (p := ⟨w6.heap.size, 1, none⟩) x_lt).trans x_1⟩
    have nM : n4 ≤ 1048576 := by have := HR.out.hM; omega
    have bel7 := bel
    clear bel
    have N1 : (0 : Int) < (N : Int) := by omega
    have e22 : ¬ ((N : Int) + 2 - 2 = 0) := by omega
    have e23 : IntKind.i64.wrap ((N : Int) + 2 - 2) = (N : Int) := by rw [e2]; exact IntWalk.i64_in _ (by omega)
    have e25 : IntKind.i64.wrap (N : Int) = (N : Int) := IntWalk.i64_in _ (by omega)
    have e26 : IntKind.i64.wrap (r2 : Int) = (r2 : Int) := IntWalk.i64_in _ (by omega)
    have e24 : IntKind.i64.wrap ((r : Int) + 1) = (r : Int) + 1 := IntWalk.i64_in _ (by omega)
    go_cut [11, 12] (fun s11 s12 wx => ∃ (u : Nat) (A8 : Option Addr) (n8 c8 lo hi : Nat), s11 = .pointer (some ⟨u, 0, none⟩) ∧ s12 = .bool true ∧ W7.heap.size ≤ u ∧ Box wx u 30 #[.int .i64 2, .slice A8 n8 c8] ∧ OwnH wx lo hi A8 n8 c8 L2 ∧ Below W7.heap.size W7 wx)
    case first =>
      go_region_held3 (fun W' => W'.cell? ⟨w1.heap.size, 0, none⟩ = some (.int .i64 gg) ∧ W'.cell? ⟨w1.heap.size, 1, none⟩ = some (.int .i64 gb) ∧ W'.cell? ⟨w1.heap.size, 2, none⟩ = some (.int .i64 ((N : Int) + 2)) ∧ W'.cell? ⟨w1.heap.size, 3, none⟩ = some (.int .i64 gc) ∧ W'.cell? ⟨w6.heap.size, 0, none⟩ = some (.int .i64 2) ∧ W'.cell? ⟨w6.heap.size, 1, none⟩ = some (.slice A6 n4 c6))
        (first | (with_reducible exact hS _ (Below.refl _ _)) | (with_reducible exact hS _ hbt1) | (with_reducible exact hS _ (lat_d (Below.refl _ _))) | (with_reducible exact hS _ (lat_a (Below.refl _ _))) | (with_reducible exact hS _ (lat_a hbt1)) | (with_reducible exact hS _ (lat_ad (Below.refl _ _))) | (with_reducible exact hS _ (lat_s2 hbt1 (Nat.le_refl _))) | (with_reducible exact hS _ (lat_s2 (lat_a hbt1) hbt1.size)) | fail)
        (first | (go_at_call 20; refine (iRetireRow_c gg gb ((N : Int) + 2) gc 2 A6 n4 c6 L1 b r2 _ (by first | exact o6.ints | exact (o6.alloc _).ints) nM o6.1.cap).mono ?_; rintro e w8 ⟨A8, n8, c8, rfl, o8, b8'⟩; rw [HR.out.ok2]; rw [HR.out.map2] at o8; have hbt1 : Below W7.heap.size W7 w8 := (by first | exact ⟨b8'.os, b8'.tape, b8'.output, b8'.size, b8'.block⟩ | exact below_after_alloc_d b8' | exact below_after_alloc (.cells #[.int .i64 0, .slice none 0 0] 30) ⟨b8'.os, b8'.tape, b8'.output, b8'.size, b8'.block⟩); (first | (have bx : Box w8 W7.heap.size 30 #[.int .i64 0, .slice none 0 0] := (by first | with_reducible exact box_after_alloc_d b8' | exact box_after_alloc ⟨b8'.os, b8'.tape, b8'.output, b8'.size, b8'.block⟩)) | skip); (try (obtain ⟨bx1_0, bx1_1⟩ := bx.c2; have bxf := bx.frozen; have bxl := bx.lt))) | fail)
      all_goals
        go_wp2_with fail
        go_meet
        first
        | (with_reducible exact ⟨_, A8, n8, c8, _, _, rfl, rfl, hbt1.size, Box.new _ _ _, o8.alloc _, lat_a hbt1⟩)
        | exact ⟨_, A8, n8, c8, _, _, rfl, rfl, Nat.le_refl _, box_s2 bx, (o8.setCell _ _ (.inl (by simp <;> omega))).setCell _ _ (.inl (by simp <;> omega)), lat_s2 hbt1 (Nat.le_refl _)⟩
    case rest =>
      obtain ⟨u, A8, n8, c8, lo8, hi8, rfl, rfl, hu, y, o8, bq⟩ := hcut
      obtain ⟨W9, hW9⟩ : ∃ v : World, wc = v := ⟨_, rfl⟩
      subst hW9
      have bel := bel7
      have en8 : n4 = n8 := by have := o8.len; have := HR.out.len2; have := HR.out.len0; have := o4.len; omega
      subst en8
      clear hS bel7 e22 e23 e24 e25 e26
      have szu : u < wc.heap.size := y.lt
      clear q_0 q_1 q_2 q_3 q_lt s_0 s_1 s_lt x_0 x_1 x_lt
      have szwc := bq.size
      replace bel := bel.trans (bq.mono bel.size)
      replace q := q.kept bq
      replace s := s.kept bq
      replace x := x.kept bq
      replace o1 := o1.below bq
      replace o4 := o4.below bq
      replace o6 := o6.below bq
      clear bq
      obtain ⟨q_0, q_1, q_2, q_3⟩ := q.c4
      have q_lt := q.lt
      obtain ⟨y_0, y_1⟩ := y.c2
      have y_lt := y.lt
      go_wp2_with fail
      refine (iRetireRow_c gg gb ((N : Int) + 2) gc 2 A8 n4 c8 L2 b r _ (by exact o8.ints) nM o8.1.cap).mono ?_
      rintro e w10 ⟨A10, n10, c10, rfl, o10, b10⟩
      rw [HR.out.ok3]
      clear o10
      clear q_0 q_1 q_2 q_3 q_lt y_0 y_1 y_lt
      have szw10 := b10.size
      replace bel := bel.trans (b10.mono bel.size)
      replace q := q.kept b10
      replace s := s.kept b10
      replace x := x.kept b10
      replace y := y.kept b10
      replace o1 := o1.below b10
      replace o4 := o4.below b10
      replace o6 := o6.below b10
      replace o8 := o8.below b10
      clear b10
      obtain ⟨q_0, q_1, q_2, q_3⟩ := q.c4
      have q_lt := q.lt
      obtain ⟨y_0, y_1⟩ := y.c2
      have y_lt := y.lt
      go_wp2_with fail
      refine abs_code ?_
      intro W11 hW
      clear q_0 q_1 q_2 q_3 q_lt y_0 y_1 y_lt
      have szW11 : w10.heap.size + 1 ≤ W11.heap.size := by rw [hW]; simp [World.setCell]
      have szW11_ := bel.size
      replace bel : Below w.heap.size w W11 := by rw [hW]; exact (bel).alloc (by first | omega | (simp [World.setCell] <;> omega)) _
      replace q : Box W11 w1.heap.size 25 #[.int .i64 gg, .int .i64 gb, .int .i64 ((N : Int) + 2), .int .i64 gc] := by rw [hW]; exact q.alloc _
      replace s : Box W11 w4.heap.size 30 #[.int .i64 2, .slice A4 n4 c4] := by rw [hW]; exact s.alloc _
      replace x : Box W11 w6.heap.size 30 #[.int .i64 2, .slice A6 n4 c6] := by rw [hW]; exact x.alloc _
      replace y : Box W11 u 30 #[.int .i64 2, .slice A8 n4 c8] := by rw [hW]; exact y.alloc _
      replace o1 : OwnH W11 W2.heap.size w3.heap.size (some ⟨gp, 0, none⟩) 12 c1 p := by rw [hW]; exact o1.alloc _
      replace o4 : OwnH W11 w3.heap.size w4.heap.size A4 n4 c4 L0 := by rw [hW]; exact o4.alloc _
      replace o6 : OwnH W11 Z2.heap.size w6.heap.size A6 n4 c6 L1 := by rw [hW]; exact o6.alloc _
      replace o8 : OwnH W11 lo8 hi8 A8 n4 c8 L2 := by rw [hW]; exact o8.alloc _
      clear hW
      obtain ⟨q_0, q_1, q_2, q_3⟩ := q.c4
      have q_lt := q.lt
      obtain ⟨s_0, s_1⟩ := s.c2
      have s_lt := s.lt
      obtain ⟨x_0, x_1⟩ := x.c2
      have x_lt := x.lt
      obtain ⟨y_0, y_1⟩ := y.c2
      have y_lt := y.lt
      have HL0 := Lib.hid o4.len
      have HL1 := Lib.hid o6.len
      have HK := Lib.hid HR.out.hk
      have HEq := Lib.hid HR.out.eqv
      have HNe := Lib.hid HR.out.nev
      go_loopw [15, 16] (fun v i wr => ∃ (j : Nat), j ≤ n4 ∧ i = .int .i64 j ∧ v = .int .i64 (if k < j then 1 else 0) ∧ ∃ q', wr = W11.drewN q') (fun _ i _ => n4 - (intOf i).toNat)
      case atStart => exact ⟨0, Nat.zero_le _, rfl, by simp, 0, rfl⟩
      case round =>
        obtain ⟨j, hj, rfl, rfl, q', rfl⟩ := hrel
        by_cases hlt : j < n4
        · have i0 : (0 : Int) ≤ (j : Int) := by omega
          have i1 : (j : Int) < (n4 : Int) := by omega
          obtain ⟨g4, x4, rfl, hx4, -, hz4, -, -⟩ := o4.at_ hlt
          obtain ⟨g6, x6, rfl, hx6, -, hz6, -, -⟩ := o6.at_ hlt
          by_cases hjk : j = k
          · subst hjk
            have ne : (x6 != x4) = true := by have := HNe.out x4 x6 hz4.out hz6.out; simp; exact fun e => this e.symm
            rw [if_neg (Nat.lt_irrefl _)]
            clear hz4 hz6
            go_wp2_with fail
            go_quiet (fail)
            go_wp2
            go_roundw
            case rel => exact ⟨j + 1, by omega, by go_num, by rw [if_pos (by omega)], _, rfl⟩
            case measure => simp [intOf]; omega
          · have ne : x4 = x6 := HEq.out j x4 x6 hjk hz4.out hz6.out
            subst ne
            have ne : (x4 != x4) = false := by simp
            have ec : (if k < j then (1 : Int) else 0) = if k < j + 1 then 1 else 0 := by
              by_cases h : k < j
              · rw [if_pos h, if_pos (by omega)]
              · rw [if_neg h, if_neg (by omega)]
            clear hz4 hz6
            generalize (if k < j then (1 : Int) else 0) = cc at ec ⊢
            go_wp2_with fail
            go_quiet (fail)
            go_wp2
            go_roundw
            case rel => exact ⟨j + 1, by omega, by go_num, by rw [ec], _, rfl⟩
            case measure => simp [intOf]; omega
        · obtain rfl : n4 = j := by omega
          rw [if_pos (show k < n4 by have := HK.out; have := HL0.out; have := HR.out.len0; omega)]
          clear HK HEq HNe hj hlt
          go_wp2_with fail
          refine abs_code ?_
          intro W12 hW
          clear q_0 q_1 q_2 q_3 q_lt s_0 s_1 s_lt x_0 x_1 x_lt y_0 y_1 y_lt
          have szW12 : W11.heap.size ≤ W12.heap.size := by rw [hW]; simp [World.setCell]
          have szW12_ := bel.size
          replace bel : Below w.heap.size w W12 := by rw [hW]; exact (belowN (bel) _)
          replace q : Box W12 w1.heap.size 25 #[.int .i64 gg, .int .i64 gb, .int .i64 ((N : Int) + 2), .int .i64 gc] := by rw [hW]; exact (q).drewN _
          replace s : Box W12 w4.heap.size 30 #[.int .i64 2, .slice A4 n4 c4] := by rw [hW]; exact (s).drewN _
          replace x : Box W12 w6.heap.size 30 #[.int .i64 2, .slice A6 n4 c6] := by rw [hW]; exact (x).drewN _
          replace y : Box W12 u 30 #[.int .i64 2, .slice A8 n4 c8] := by rw [hW]; exact (y).drewN _
          replace o1 : OwnH W12 W2.heap.size w3.heap.size (some ⟨gp, 0, none⟩) 12 c1 p := by rw [hW]; exact (o1).drewN _
          replace o4 : OwnH W12 w3.heap.size w4.heap.size A4 n4 c4 L0 := by rw [hW]; exact (o4).drewN _
          replace o6 : OwnH W12 Z2.heap.size w6.heap.size A6 n4 c6 L1 := by rw [hW]; exact (o6).drewN _
          replace o8 : OwnH W12 lo8 hi8 A8 n4 c8 L2 := by rw [hW]; exact (o8).drewN _
          clear hW
          obtain ⟨q_0, q_1, q_2, q_3⟩ := q.c4
          have q_lt := q.lt
          obtain ⟨s_0, s_1⟩ := s.c2
          have s_lt := s.lt
          obtain ⟨x_0, x_1⟩ := x.c2
          have x_lt := x.lt
          obtain ⟨y_0, y_1⟩ := y.c2
          have y_lt := y.lt
          have l2 := later_cell q_lt q_2
          have l0 := later_cell q_lt q_0
          have l1 := later_cell q_lt q_1
          have l3 := later_cell q_lt q_3
          have s0 := later_cell s_lt s_0
          have s1 := later_cell s_lt s_1
          have xx0 := later_cell x_lt x_0
          have xx1 := later_cell x_lt x_1
          have y0 := later_cell y_lt y_0
          have y1 := later_cell y_lt y_1
          have k1 : ∀ z : Later W12, Calls Try.prog 21 #[.agg #[.int .i64 gg, .int .i64 gb, .int .i64 ((N : Int) + 2), .int .i64 gc], .agg #[.int .i64 2, .slice A6 n4 c6], .int .i64 (b : Int), .int .i64 (r : Int)] z.w fun e w' => e = .returned (.int .i64 ((N : Int))) ∧ Below z.w.heap.size z.w w' := fun z => by
            have h := iStoredRow_c gg gb ((N : Int) + 2) gc 2 A6 n4 c6 L1 b r z.w (o6.ints.below z.bel) nM o6.1.cap
            rw [HR.out.st1] at h
            exact h
          have k2 : ∀ z : Later W12, Calls Try.prog 21 #[.agg #[.int .i64 gg, .int .i64 gb, .int .i64 ((N : Int) + 2), .int .i64 gc], .agg #[.int .i64 2, .slice A8 n4 c8], .int .i64 (b : Int), .int .i64 (r2 : Int)] z.w fun e w' => e = .returned (.int .i64 ((N : Int) + 1)) ∧ Below z.w.heap.size z.w w' := fun z => by
            have h := iStoredRow_c gg gb ((N : Int) + 2) gc 2 A8 n4 c8 L2 b r2 z.w (o8.ints.below z.bel) nM o8.1.cap
            rw [HR.out.st2] at h
            exact h
          have k3 : ∀ z : Later W12, Calls Try.prog 22 #[.agg #[.int .i64 gg, .int .i64 gb, .int .i64 ((N : Int) + 2), .int .i64 gc], .agg #[.int .i64 2, .slice A4 n4 c4], .int .i64 (b : Int)] z.w fun e w' => e = .returned (.int .i64 (2)) ∧ Below z.w.heap.size z.w w' := fun z => by
            have h := iSparesLeft_c gg gb ((N : Int) + 2) gc 2 A4 n4 c4 L0 b z.w (o4.ints.below z.bel) nM o4.1.cap
            rw [HR.out.lf0] at h
            exact h
          have k4 : ∀ z : Later W12, Calls Try.prog 22 #[.agg #[.int .i64 gg, .int .i64 gb, .int .i64 ((N : Int) + 2), .int .i64 gc], .agg #[.int .i64 2, .slice A8 n4 c8], .int .i64 (b : Int)] z.w fun e w' => e = .returned (.int .i64 (0)) ∧ Below z.w.heap.size z.w w' := fun z => by
            have h := iSparesLeft_c gg gb ((N : Int) + 2) gc 2 A8 n4 c8 L2 b z.w (o8.ints.below z.bel) nM o8.1.cap
            rw [HR.out.lf2] at h
            exact h
          have e27 : (N : Int) + 2 - 1 = (N : Int) + 1 := by omega
          refine wp_region_later (by kernel_rfl) (by kernel_rfl) ?_
          repeat (go_big_quiet_step ((first | (go_at_call 21; first | (with_reducible exact later_call (k1 _)) | (with_reducible exact later_call (k2 _))) | (go_at_call 22; first | (with_reducible exact later_call (k3 _)) | (with_reducible exact later_call (k4 _))))))
          refine wpQuiet_nil ?_
          intro Z hw'
          obtain ⟨z, hw''⟩ := hw'
          have bZ := z.bel
          rw [← hw''] at bZ
          go_wp2
          go_ret
          exact ⟨rfl, bel.trans (bZ.mono bel.size)⟩
end Go.Proofs.Ytbcbgdomjefdhaa
