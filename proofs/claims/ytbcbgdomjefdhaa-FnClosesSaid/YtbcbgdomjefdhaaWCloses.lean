/-
  The walk of FnCloses.
-/
import Derived.Test.YtbcbgdomjefdhaaRkN
namespace Go.Proofs.Ytbcbgdomjefdhaa
open Go.RowKit
set_option linter.unusedSimpArgs false
set_option linter.unusedVariables false

set_option maxRecDepth 100000 in
set_option maxHeartbeats 8000000 in
theorem fnCloses_walk (A : Option Addr) (n c : Nat) (zs : List Int) (w : World) (hA : Bytes w A n zs) (hn : n ≤ maxLen) :
    Calls Try.prog 5 #[.slice A n c] w fun e w' => e = .returned (.bool true) ∧ Below w.heap.size w w' := by
  by_cases hb : 1048576 < n
  · have hd : decide (1048576 < n) = true := by simpa using hb
    go_enter Try.func5, Try.ntmps5
    go_wp2_with (go_at_call 15; refine (big_c A n c _ hn).mono ?_; rintro e w' ⟨rfl, rfl⟩)
    go_ret
    exact ⟨rfl, Below.refl _ _⟩
  · have hd : decide (1048576 < n) = false := by simpa using hb
    have bel : Below w.heap.size w w := Below.refl _ _
    go_enter Try.func5, Try.ntmps5
    go_wp2_with (first | (go_at_call 15; refine (big_c A n c _ hn).mono ?_; rintro e w' ⟨rfl, rfl⟩) | fail)
    refine (drawGeometry_c A n c zs _ hA hn).mono ?_
    rintro e w1 ⟨gg, gb, gr, gc, hG, rfl, b1⟩
    have szw1 := b1.size
    replace bel := bel.trans (b1.mono bel.size)
    clear b1
    have hG' := hG
    obtain ⟨⟨ga1, ga2⟩, ⟨gb1, gb2⟩, ⟨gr1, gr2⟩, gc1, gc2⟩ := hG'
    obtain ⟨N, hN⟩ := Int.eq_ofNat_of_zero_le (show 0 ≤ gr by omega)
    obtain rfl : gr = (N : Int) := hN
    have HG := hG.ok
    have h4 := bankCnt_bd gg gb (N : Int) gc
    have h5 := bankCnt_pos HG
    obtain ⟨nb, enb⟩ := Int.eq_ofNat_of_zero_le (show 0 ≤ bankCnt gg gb (N : Int) gc by omega)
    have nb1 : 1 ≤ nb := by omega
    have nb8 : nb ≤ 8 := by omega
    replace HG := Lib.hid HG
    have HNB := Lib.hid enb
    clear hG enb h4 h5
    go_wp2_with fail
    refine abs_call ?_
    intro W2 hW
    have szW2 : w1.heap.size + 1 ≤ W2.heap.size := by rw [hW]; simp [World.setCell]
    have szW2_ := bel.size
    replace bel : Below w.heap.size w W2 := by rw [hW]; exact (bel).alloc (by first | omega | (simp [World.setCell] <;> omega)) _
    have q : Box W2 w1.heap.size 25 #[.int .i64 gg, .int .i64 gb, .int .i64 (N : Int), .int .i64 gc] := by rw [hW]; exact (Box.newAt (by simp [World.setCell]))
    clear hW
    refine (drawPlaces_c A n c zs _ (hA.below bel) hn).mono ?_
    rintro e w3 ⟨p, hp, A1, n1, c1, rfl, o1, b3⟩
    have szw3 := b3.size
    replace bel := bel.trans (b3.mono bel.size)
    replace q := q.kept b3
    clear b3
    have hn12 : n1 = 12 := by rw [← o1.len]; exact hp.1
    subst hn12
    obtain ⟨z0, hz0, z0a, z0b⟩ := hp.at_ (show 0 < 12 by omega)
    obtain ⟨z1, hz1, z1a, z1b⟩ := hp.at_ (show 1 < 12 by omega)
    obtain ⟨z2, hz2, z2a, z2b⟩ := hp.at_ (show 2 < 12 by omega)
    obtain ⟨gp, x0, eg, -, -, -, gp1, gp2⟩ := o1.at_ (show 0 < 12 by omega)
    subst eg
    have HP0 := Lib.hid hz0
    have HP1 := Lib.hid hz1
    have HP2 := Lib.hid hz2
    clear hp hz0 hz1 hz2
    obtain ⟨b, hb, eb1, eb2⟩ := rem_nat z0a (show 0 < nb by omega)
    obtain ⟨R, hR, er1, er2⟩ := rem_nat z1a (show 0 < N by omega)
    obtain ⟨Q, hQ, et1, et2⟩ := rem_nat z2a (show 0 < N by omega)
    have HC := Lib.hid (closes (R := (R : Int)) (Q := (Q : Int)) hb (by omega) (by omega))
    obtain ⟨q_0, q_1, q_2, q_3⟩ := q.c4
    have q_lt := q.lt
    go_wp2_with fail
    refine (sRankNew_c gg gb (N : Int) gc nb _ HNB.out (by omega)).mono ?_
    rintro e w4 ⟨A4, n4, c4, rfl, o4, b4⟩
    have en4 : n4 = nb := by have := o4.len; simp at this; omega
    subst en4
    clear q_0 q_1 q_2 q_3 q_lt
    have szw4 := b4.size
    replace bel := bel.trans (b4.mono bel.size)
    replace q := q.kept b4
    replace o1 := o1.below b4
    clear b4
    obtain ⟨q_0, q_1, q_2, q_3⟩ := q.c4
    have q_lt := q.lt
    go_wp2_with fail
    refine abs_code ?_
    intro W5 hW
    clear q_0 q_1 q_2 q_3 q_lt
    have szW5 : w4.heap.size + 1 ≤ W5.heap.size := by rw [hW]; simp [World.setCell]
    have szW5_ := bel.size
    replace bel : Below w.heap.size w W5 := by rw [hW]; exact (bel).alloc (by first | omega | (simp [World.setCell] <;> omega)) _
    replace q : Box W5 w1.heap.size 25 #[.int .i64 gg, .int .i64 gb, .int .i64 (N : Int), .int .i64 gc] := by rw [hW]; exact q.alloc _
    have s : Box W5 w4.heap.size 43 #[.slice A4 n4 c4, .int .i64 0] := by rw [hW]; exact (Box.newAt (by simp [World.setCell]))
    replace o1 : OwnH W5 W2.heap.size w3.heap.size (some ⟨gp, 0, none⟩) 12 c1 p := by rw [hW]; exact o1.alloc _
    replace o4 : OwnBnk W5 w3.heap.size w4.heap.size A4 n4 c4 (List.replicate n4 ⟨false, 0⟩) := by rw [hW]; exact o4.alloc _
    clear hW
    obtain ⟨q_0, q_1, q_2, q_3⟩ := q.c4
    have q_lt := q.lt
    obtain ⟨s_0, s_1⟩ := s.c2
    have s_lt := s.lt
    have cp0 := place_cell o1 (show 0 < 12 by omega) HP0.out
    have l2 := later_cell q_lt q_2
    have l0 := later_cell q_lt q_0
    have l1 := later_cell q_lt q_1
    have l3 := later_cell q_lt q_3
    have gpl : gp < W5.heap.size := by omega
    have m0 := later_cell gpl cp0
    have cB : ∀ z : Later W5, Calls Try.prog 19 #[.agg #[.int .i64 gg, .int .i64 gb, .int .i64 (N : Int), .int .i64 gc]] z.w fun e w' => e = .returned (.int .i64 (n4 : Int)) ∧ Below z.w.heap.size z.w w' := fun z => by
      have h := sBankCount_c gg gb (N : Int) gc z.w
      rw [HNB.out] at h
      exact h
    have nb0 : (n4 : Int) ≠ 0 := by omega
    have nb00 : n4 ≠ 0 := by omega
    refine wp_region_later (by kernel_rfl) (by kernel_rfl) ?_
    repeat (go_big_quiet_step ((go_at_call 19; exact later_call (cB _))))
    refine wpQuiet_nil ?_
    intro Z hw'
    obtain ⟨z, hw''⟩ := hw'
    have bZ := z.bel
    rw [← hw''] at bZ
    clear hw'' z l0 l1 l2 l3 m0 nb0 nb00 cB cp0
    clear q_0 q_1 q_2 q_3 q_lt s_0 s_1 s_lt
    have szZ := bZ.size
    replace bel := bel.trans (bZ.mono bel.size)
    replace q := q.kept bZ
    replace s := s.kept bZ
    replace o1 := o1.below bZ
    replace o4 := o4.below bZ
    clear bZ
    obtain ⟨gB, op0, rw0, rfl, gB1, gB2, hfB, hc0, hc1, -⟩ := o4.at_ hb
    have cp1 := place_cell o1 (show 1 < 12 by omega) HP1.out
    obtain ⟨q_0, q_1, q_2, q_3⟩ := q.c4
    have q_lt := q.lt
    obtain ⟨s_0, s_1⟩ := s.c2
    have s_lt := s.lt
    have N0 : (N : Int) ≠ 0 := by omega
    have N00 : N ≠ 0 := by omega
    have b00 : (0 : Int) ≤ (b : Int) := by omega
    have b01 : (b : Int) < (n4 : Int) := by omega
    have e25 : IntKind.i64.wrap (R : Int) = (R : Int) := IntWalk.i64_in _ (by omega)
    go_wp2_with fail
    go_region
    go_wp2_with fail
    refine abs_code ?_
    intro W7 hW
    have q7 : Box W7 w1.heap.size 25 #[.int .i64 gg, .int .i64 gb, .int .i64 (N : Int), .int .i64 gc] := by rw [hW]; exact Box.dr ((q.far (by dsimp only; omega) _).far (by dsimp only; omega) _)
    have s7 : Box W7 w4.heap.size 43 #[.slice (some ⟨gB, 0, none⟩) n4 c4, .int .i64 0] := by rw [hW]; exact Box.dr ((s.far (by dsimp only; omega) _).far (by dsimp only; omega) _)
    have o7 : OwnH W7 W2.heap.size w3.heap.size (some ⟨gp, 0, none⟩) 12 c1 p := by rw [hW]; exact OwnH.drr ((o1.setCell _ _ (by dsimp only; omega)).setCell _ _ (by dsimp only; omega))
    have k7 : OwnBnk W7 w3.heap.size w4.heap.size (some ⟨gB, 0, none⟩) n4 c4 (oneOpen n4 b (R : Int)) := by rw [hW]; exact OwnBnk.drr (o4.stored rfl hb ⟨true, (R : Int)⟩).1
    have bel7 : Below w.heap.size w W7 := by rw [hW]; exact bel_dd ((bel.setCell (by dsimp only; omega) _).setCell (by dsimp only; omega) _)
    have sz7 : Z.heap.size ≤ W7.heap.size := by rw [hW]; simp [World.setCell]
    clear hW
    clear q_0 q_1 q_2 q_3 q_lt s_0 s_1 s_lt
    clear q s o1 o4 bel hc0 hc1 hfB cp1
    have cp2 := place_cell o7 (show 2 < 12 by omega) HP2.out
    obtain ⟨q_0, q_1, q_2, q_3⟩ := q7.c4
    have q_lt := q7.lt
    obtain ⟨s_0, s_1⟩ := s7.c2
    have s_lt := s7.lt
    have e26 : IntKind.i64.wrap (Q : Int) = (Q : Int) := IntWalk.i64_in _ (by omega)
    go_wp2_with fail
    have gp7 : gp < W7.heap.size := by omega
    have hS : ∀ Y : World, Below W7.heap.size W7 Y → (Y.cell? ⟨w1.heap.size, 2, none⟩ = some (.int .i64 (N : Int)) ∧ Y.cell? ⟨gp, 2, none⟩ = some (.int .i64 z2)) := fun Y hY => ⟨(hY.cell (p := ⟨w1.heap.size, 2, none⟩) q_lt).trans q_2, (hY.cell (p := ⟨gp, 2, none⟩) gp7).trans cp2⟩
    go_cut [7] (fun s7 wx => ∃ (u : Nat), s7 = .pointer (some ⟨u, 0, none⟩) ∧ W7.heap.size ≤ u ∧ Box wx u 48 #[.int .i64 (b : Int), .int .i64 (Q : Int), .int .i64 0] ∧ Below W7.heap.size W7 wx)
    case first =>
      go_region_held3 (fun Y => Y.cell? ⟨w1.heap.size, 2, none⟩ = some (.int .i64 (N : Int)) ∧ Y.cell? ⟨gp, 2, none⟩ = some (.int .i64 z2))
        (first | (refine hS _ ?_; (repeat (first | (with_reducible exact Below.refl _ _) | (with_reducible refine lat_d ?_) | (with_reducible refine lat_a ?_) | (with_reducible refine lat_s3 ?_ (Nat.le_refl _)))); done) | fail) (fail)
      all_goals
        go_wp2_with fail
        go_meet
        exact ⟨_, rfl, Nat.le_refl _, Box.dr (Box.new _ _ _), lat_d (lat_a (Below.refl _ _))⟩
    case rest =>
      obtain ⟨u, rfl, hu, a8, bq⟩ := hcut
      obtain ⟨W9, hW9⟩ : ∃ v : World, wc = v := ⟨_, rfl⟩
      subst hW9
      have q8 := q7.kept bq
      have s8 := s7.kept bq
      have k8 := k7.below bq
      have o8 := o7.below bq
      have bel8 := bel7.trans (bq.mono bel7.size)
      have sz8 := bq.size
      clear hS q_0 q_1 q_2 q_3 q_lt s_0 s_1 s_lt cp2
      obtain ⟨s_0, s_1⟩ := s8.c2
      have s_lt := s8.lt
      obtain ⟨a_0, a_1, a_2⟩ := a8.c3
      have a_lt := a8.lt
      go_wp2_with fail
      refine abs_call ?_
      intro W10 hW
      have b10 : Below wc.heap.size wc W10 := by rw [hW]; exact (Below.refl _ _).alloc (Nat.le_refl _) _
      have i10 : Adrs W10 (some ⟨wc.heap.size, 0, none⟩) 1 [⟨(b : Int), (Q : Int), 0⟩] := by rw [hW]; exact adrs_one (Box.new _ _ _)
      clear hW
      refine (iCloseBank_c (some ⟨gB, 0, none⟩) n4 c4 (oneOpen n4 b (R : Int)) 0 1 (some ⟨wc.heap.size, 0, none⟩) 1 1 [⟨(b : Int), (Q : Int), 0⟩] _ ((k8.below b10).recs) (by omega) i10 (by omega)).mono ?_
      rintro e w11 ⟨rfl, b11⟩
      rw [HC.out.one]
      have b11' := b10.trans (b11.mono b10.size)
      have q11 := q8.kept b11'
      have s11 := s8.kept b11'
      have a11 := a8.kept b11'
      have k11 := k8.below b11'
      have o11 := o8.below b11'
      have bel11 := bel8.trans (b11'.mono bel8.size)
      have sz11 := b11'.size
      clear s_0 s_1 s_lt a_0 a_1 a_2 a_lt b10 i10 b11
      obtain ⟨q_0, q_1, q_2, q_3⟩ := q11.c4
      have q_lt := q11.lt
      obtain ⟨s_0, s_1⟩ := s11.c2
      have s_lt := s11.lt
      obtain ⟨a_0, a_1, a_2⟩ := a11.c3
      have a_lt := a11.lt
      have cp1 := place_cell o11 (show 1 < 12 by omega) HP1.out
      have gp11 : gp < w11.heap.size := by omega
      have hS : ∀ Y : World, Below w11.heap.size w11 Y → (Y.cell? ⟨w1.heap.size, 2, none⟩ = some (.int .i64 (N : Int)) ∧ Y.cell? ⟨gp, 1, none⟩ = some (.int .i64 z1) ∧ Y.cell? ⟨w4.heap.size, 0, none⟩ = some (.slice (some ⟨gB, 0, none⟩) n4 c4) ∧ Y.cell? ⟨w4.heap.size, 1, none⟩ = some (.int .i64 0) ∧ Y.cell? ⟨u, 0, none⟩ = some (.int .i64 (b : Int)) ∧ Y.cell? ⟨u, 1, none⟩ = some (.int .i64 (Q : Int)) ∧ Y.cell? ⟨u, 2, none⟩ = some (.int .i64 0)) := fun Y hY => ⟨(hY.cell (p := ⟨w1.heap.size, 2, none⟩) q_lt).trans q_2, (hY.cell (p := ⟨gp, 1, none⟩) gp11).trans cp1, (hY.cell (p := ⟨w4.heap.size, 0, none⟩) s_lt).trans s_0, (hY.cell (p := ⟨w4.heap.size, 1, none⟩) s_lt).trans s_1, (hY.cell (p := ⟨u, 0, none⟩) a_lt).trans a_0, (hY.cell (p := ⟨u, 1, none⟩) a_lt).trans a_1, (hY.cell (p := ⟨u, 2, none⟩) a_lt).trans a_2⟩
      have hK : ∀ Y : World, Below w11.heap.size w11 Y → Bnks Y (some ⟨gB, 0, none⟩) n4 (oneOpen n4 b (R : Int)) := fun Y hY => (k11.below hY).recs
      have cN : ∀ (B : Option Addr) (Y : World), Below w11.heap.size w11 Y → Calls Try.prog 29 #[.agg #[.slice (some ⟨gB, 0, none⟩) n4 c4, .int .i64 0], .int .i64 1, .slice B 0 0] Y fun e w' => e = .returned (.int .i64 (b : Int)) ∧ Below Y.heap.size Y w' := fun B Y hY => by
        have h := iCloseBank_c (some ⟨gB, 0, none⟩) n4 c4 (oneOpen n4 b (R : Int)) 0 1 B 0 0 [] Y (hK Y hY) (by omega) (Adrs.none _ _) (by omega)
        rw [HC.out.none] at h
        exact h
      have cO : ∀ (B : Option Addr) (Y : World), Below w11.heap.size w11 Y → Calls Try.prog 29 #[.agg #[.slice (some ⟨gB, 0, none⟩) n4 c4, .int .i64 0], .int .i64 0, .slice B 0 0] Y fun e w' => e = .returned (.int .i64 (-1)) ∧ Below Y.heap.size Y w' := fun B Y hY => by
        have h := iCloseBank_c (some ⟨gB, 0, none⟩) n4 c4 (oneOpen n4 b (R : Int)) 0 0 B 0 0 [] Y (hK Y hY) (by omega) (Adrs.none _ _) (by omega)
        rw [HC.out.off] at h
        exact h
      have cR : ∀ (Y : World), Below w11.heap.size w11 Y → Calls Try.prog 30 #[.agg #[.slice (some ⟨gB, 0, none⟩) n4 c4, .int .i64 0], .agg #[.int .i64 (b : Int), .int .i64 (R : Int), .int .i64 0]] Y fun e w' => e = .returned (.bool true) ∧ Below Y.heap.size Y w' := fun Y hY => by
        have h := iIsHit_c (some ⟨gB, 0, none⟩) n4 c4 (oneOpen n4 b (R : Int)) 0 (b : Int) (R : Int) 0 Y (hK Y hY) (by omega)
        rw [HC.out.hitR] at h
        exact h
      have cQ : ∀ (Y : World), Below w11.heap.size w11 Y → Calls Try.prog 30 #[.agg #[.slice (some ⟨gB, 0, none⟩) n4 c4, .int .i64 0], .agg #[.int .i64 (b : Int), .int .i64 (Q : Int), .int .i64 0]] Y fun e w' => e = .returned (.bool ((R : Int) == (Q : Int))) ∧ Below Y.heap.size Y w' := fun Y hY => by
        have h := iIsHit_c (some ⟨gB, 0, none⟩) n4 c4 (oneOpen n4 b (R : Int)) 0 (b : Int) (Q : Int) 0 Y (hK Y hY) (by omega)
        rw [HC.out.hitQ] at h
        exact h
      replace hS := Lib.hid hS
      have N0 : (N : Int) ≠ 0 := by omega
      have N00 : N ≠ 0 := by omega
      have ebb : ((b : Int) == (b : Int)) = true := by simp
      have emm : ((-1 : Int) == -1) = true := by rfl
      by_cases hQR : Q = R
      · subst hQR
        have ecl : (if (Q : Int) = (Q : Int) then (-1 : Int) else (b : Int)) = -1 := if_pos rfl
        rw [ecl]
        have eQ : ((Q : Int) == (Q : Int)) = true := by simp
        simp only [eQ] at cQ
        obtain ⟨mz, hmz⟩ : ∃ m : Int, m = -1 := ⟨_, rfl⟩
        have em1 : (mz == (b : Int)) = false := by rw [hmz]; simp <;> omega
        have em2 : (mz == -1) = true := by rw [hmz]; rfl
        rw [← hmz]
        clear hmz
        go_wp2_with fail
        go_region_held3 (fun Y => Y.cell? ⟨w1.heap.size, 2, none⟩ = some (.int .i64 (N : Int)) ∧ Y.cell? ⟨gp, 1, none⟩ = some (.int .i64 z1) ∧ Y.cell? ⟨w4.heap.size, 0, none⟩ = some (.slice (some ⟨gB, 0, none⟩) n4 c4) ∧ Y.cell? ⟨w4.heap.size, 1, none⟩ = some (.int .i64 0) ∧ Y.cell? ⟨u, 0, none⟩ = some (.int .i64 (b : Int)) ∧ Y.cell? ⟨u, 1, none⟩ = some (.int .i64 (Q : Int)) ∧ Y.cell? ⟨u, 2, none⟩ = some (.int .i64 0))
          (first | (refine hS.out _ ?_; (repeat (first | (with_reducible exact Below.refl _ _) | (with_reducible exact hbt4) | (with_reducible exact hbt3) | (with_reducible exact hbt2) | (with_reducible exact hbt1) | (with_reducible refine lat_d ?_) | (with_reducible refine lat_a ?_))); done) | fail)
          (first | (go_at_call 30; with_reducible refine (cQ _ (by (repeat (first | (with_reducible exact Below.refl _ _) | (with_reducible exact hbt4) | (with_reducible exact hbt3) | (with_reducible exact hbt2) | (with_reducible exact hbt1) | (with_reducible refine lat_d ?_) | (with_reducible refine lat_a ?_))))).mono ?_; rintro e wx1 ⟨rfl, bx1⟩; have hbt1 : Below w11.heap.size w11 wx1 := (by refine below_nxt ?_ bx1; (repeat (first | (with_reducible exact Below.refl _ _) | (with_reducible exact hbt4) | (with_reducible exact hbt3) | (with_reducible exact hbt2) | (with_reducible exact hbt1) | (with_reducible refine lat_d ?_) | (with_reducible refine lat_a ?_))))) | (go_at_call 29; with_reducible refine (cN _ _ (by (repeat (first | (with_reducible exact Below.refl _ _) | (with_reducible exact hbt4) | (with_reducible exact hbt3) | (with_reducible exact hbt2) | (with_reducible exact hbt1) | (with_reducible refine lat_d ?_) | (with_reducible refine lat_a ?_))))).mono ?_; rintro e wx2 ⟨rfl, bx2⟩; have hbt2 : Below w11.heap.size w11 wx2 := (by refine below_nxt ?_ bx2; (repeat (first | (with_reducible exact Below.refl _ _) | (with_reducible exact hbt4) | (with_reducible exact hbt3) | (with_reducible exact hbt2) | (with_reducible exact hbt1) | (with_reducible refine lat_d ?_) | (with_reducible refine lat_a ?_))))) | (go_at_call 29; with_reducible refine (cO _ _ (by (repeat (first | (with_reducible exact Below.refl _ _) | (with_reducible exact hbt4) | (with_reducible exact hbt3) | (with_reducible exact hbt2) | (with_reducible exact hbt1) | (with_reducible refine lat_d ?_) | (with_reducible refine lat_a ?_))))).mono ?_; rintro e wx3 ⟨rfl, bx3⟩; have hbt3 : Below w11.heap.size w11 wx3 := (by refine below_nxt ?_ bx3; (repeat (first | (with_reducible exact Below.refl _ _) | (with_reducible exact hbt4) | (with_reducible exact hbt3) | (with_reducible exact hbt2) | (with_reducible exact hbt1) | (with_reducible refine lat_d ?_) | (with_reducible refine lat_a ?_))))) | (go_at_call 30; with_reducible refine (cR _ (by (repeat (first | (with_reducible exact Below.refl _ _) | (with_reducible exact hbt4) | (with_reducible exact hbt3) | (with_reducible exact hbt2) | (with_reducible exact hbt1) | (with_reducible refine lat_d ?_) | (with_reducible refine lat_a ?_))))).mono ?_; rintro e wx4 ⟨rfl, bx4⟩; have hbt4 : Below w11.heap.size w11 wx4 := (by refine below_nxt ?_ bx4; (repeat (first | (with_reducible exact Below.refl _ _) | (with_reducible exact hbt4) | (with_reducible exact hbt3) | (with_reducible exact hbt2) | (with_reducible exact hbt1) | (with_reducible refine lat_d ?_) | (with_reducible refine lat_a ?_))))) | fail)
        all_goals
          go_wp2
          go_ret
          first
          | exact ⟨rfl, bel11.trans (hbt4.mono bel11.size)⟩
          | exact ⟨rfl, bel11.trans (hbt1.mono bel11.size)⟩
      · have ecl : (if (Q : Int) = (R : Int) then (-1 : Int) else (b : Int)) = b := if_neg (by omega)
        rw [ecl]
        have eQ : ((R : Int) == (Q : Int)) = false := by simp <;> omega
        simp only [eQ] at cQ
        go_wp2_with fail
        refine wp_region_noPanic ?_
        refine wp_region_held_drew (S := (fun Y => Y.cell? ⟨w1.heap.size, 2, none⟩ = some (.int .i64 (N : Int)) ∧ Y.cell? ⟨gp, 1, none⟩ = some (.int .i64 z1) ∧ Y.cell? ⟨w4.heap.size, 0, none⟩ = some (.slice (some ⟨gB, 0, none⟩) n4 c4) ∧ Y.cell? ⟨w4.heap.size, 1, none⟩ = some (.int .i64 0) ∧ Y.cell? ⟨u, 0, none⟩ = some (.int .i64 (b : Int)) ∧ Y.cell? ⟨u, 1, none⟩ = some (.int .i64 (Q : Int)) ∧ Y.cell? ⟨u, 2, none⟩ = some (.int .i64 0))) (by kernel_rfl) (by exact hS.out _ (lat_d (Below.refl _ _))) (fun hHeld => ?_)
        refine wpAnyH_take (i := 0) (oi := _) (v := ?_) rfl (by kernel_rfl) (by kernel_rfl) (by kernel_rfl) (fun _ _ _ h => h) (Or.inl ⟨by kernel_rfl, ?_⟩) (by assumption) ?_
        rotate_left 1
        focus (intro w hSw; (try dsimp only at hSw); go_simp; try with_reducible rfl)
        try simp only [Act.put, List.setIfInBounds_toArray, List.set_cons_zero, List.set_cons_succ]
        refine wpAnyH_take (i := 1) (oi := _) (v := ?_) rfl (by kernel_rfl) (by kernel_rfl) (by kernel_rfl) (fun _ _ _ h => h) (Or.inl ⟨by kernel_rfl, ?_⟩) (by assumption) ?_
        rotate_left 1
        focus (intro w hSw; (try dsimp only at hSw); go_simp; try with_reducible rfl)
        try simp only [Act.put, List.setIfInBounds_toArray, List.set_cons_zero, List.set_cons_succ]
        refine wpAnyH_take (i := 2) (oi := _) (v := ?_) rfl (by kernel_rfl) (by kernel_rfl) (by kernel_rfl) (fun _ _ _ h => h) (Or.inl ⟨by kernel_rfl, ?_⟩) (by assumption) ?_
        rotate_left 1
        focus (intro w hSw; (try dsimp only at hSw); go_simp; try with_reducible rfl)
        try simp only [Act.put, List.setIfInBounds_toArray, List.set_cons_zero, List.set_cons_succ]
        refine wpAnyH_take (i := 3) (oi := _) (v := ?_) rfl (by kernel_rfl) (by kernel_rfl) (by kernel_rfl) (fun _ _ _ h => h) (Or.inl ⟨by kernel_rfl, ?_⟩) (by assumption) ?_
        rotate_left 1
        focus (intro w hSw; (try dsimp only at hSw); go_simp; try with_reducible rfl)
        try simp only [Act.put, List.setIfInBounds_toArray, List.set_cons_zero, List.set_cons_succ]
        refine wpAnyH_take (i := 4) (oi := _) (v := ?_) rfl (by kernel_rfl) (by kernel_rfl) (by kernel_rfl) (fun _ _ _ h => h) (Or.inl ⟨by kernel_rfl, ?_⟩) (by assumption) ?_
        rotate_left 1
        focus (intro w hSw; (try dsimp only at hSw); go_simp; try with_reducible rfl)
        try simp only [Act.put, List.setIfInBounds_toArray, List.set_cons_zero, List.set_cons_succ]
        refine wpAnyH_ready (rs := [5]) (by kernel_rfl) (by simp) ?_
        refine AllReadyH.cons (o := _) rfl (fun K hK => ?_) ?_
        rotate_left 1
        focus (exact AllReadyH.nil)
        go_simp
        refine (cQ _ (by (repeat (first | (with_reducible exact Below.refl _ _) | (with_reducible exact hbt4) | (with_reducible exact hbt3) | (with_reducible exact hbt2) | (with_reducible exact hbt1) | (with_reducible refine lat_d ?_) | (with_reducible refine lat_a ?_))))).mono ?_
        rintro e wx1 ⟨rfl, bx1⟩
        have hbt1 : Below w11.heap.size w11 wx1 := (by refine below_nxt ?_ bx1; (repeat (first | (with_reducible exact Below.refl _ _) | (with_reducible exact hbt4) | (with_reducible exact hbt3) | (with_reducible exact hbt2) | (with_reducible exact hbt1) | (with_reducible refine lat_d ?_) | (with_reducible refine lat_a ?_))))
        go_wp2_with fail
        refine hK.out _ _ ?_ (fun hNew => ?_)
        focus ((try dsimp only); refine hS.out _ ?_; (repeat (first | (with_reducible exact Below.refl _ _) | (with_reducible exact hbt4) | (with_reducible exact hbt3) | (with_reducible exact hbt2) | (with_reducible exact hbt1) | (with_reducible refine lat_d ?_) | (with_reducible refine lat_a ?_))))
        clear hK K hHeld
        have hHeld := hNew
        clear hNew
        try simp only [Act.put, List.setIfInBounds_toArray, List.set_cons_zero, List.set_cons_succ]
        refine wpAnyH_take (i := 6) (oi := _) (v := ?_) rfl (by kernel_rfl) (by kernel_rfl) (by kernel_rfl) (fun _ _ _ h => h) (Or.inl ⟨by kernel_rfl, ?_⟩) (by assumption) ?_
        rotate_left 1
        focus (intro w hSw; (try dsimp only at hSw); go_simp; try with_reducible rfl)
        try simp only [Act.put, List.setIfInBounds_toArray, List.set_cons_zero, List.set_cons_succ]
        refine wpAnyH_take (i := 7) (oi := _) (v := ?_) rfl (by kernel_rfl) (by kernel_rfl) (by kernel_rfl) (fun _ _ _ h => h) (Or.inl ⟨by kernel_rfl, ?_⟩) (by assumption) ?_
        rotate_left 1
        focus (intro w hSw; (try dsimp only at hSw); go_simp; try with_reducible rfl)
        try simp only [Act.put, List.setIfInBounds_toArray, List.set_cons_zero, List.set_cons_succ]
        refine wpAnyH_take (i := 8) (oi := _) (v := ?_) rfl (by kernel_rfl) (by kernel_rfl) (by kernel_rfl) (fun _ _ _ h => h) (Or.inl ⟨by kernel_rfl, ?_⟩) (by assumption) ?_
        rotate_left 1
        focus (intro w hSw; (try dsimp only at hSw); go_simp; try with_reducible rfl)
        try simp only [Act.put, List.setIfInBounds_toArray, List.set_cons_zero, List.set_cons_succ]
        refine wpAnyH_take (i := 9) (oi := _) (v := ?_) rfl (by kernel_rfl) (by kernel_rfl) (by kernel_rfl) (fun _ _ _ h => h) (Or.inl ⟨by kernel_rfl, ?_⟩) (by assumption) ?_
        rotate_left 1
        focus (intro w hSw; (try dsimp only at hSw); go_simp; try with_reducible rfl)
        try simp only [Act.put, List.setIfInBounds_toArray, List.set_cons_zero, List.set_cons_succ]
        refine wpAnyH_take (i := 10) (oi := _) (v := ?_) rfl (by kernel_rfl) (by kernel_rfl) (by kernel_rfl) (fun _ _ _ h => h) (Or.inl ⟨by kernel_rfl, ?_⟩) (by assumption) ?_
        rotate_left 1
        focus (intro w hSw; (try dsimp only at hSw); go_simp; try with_reducible rfl)
        try simp only [Act.put, List.setIfInBounds_toArray, List.set_cons_zero, List.set_cons_succ]
        refine wpAnyH_take (i := 11) (oi := _) (v := ?_) rfl (by kernel_rfl) (by kernel_rfl) (by kernel_rfl) (fun _ _ _ h => h) (Or.inl ⟨by kernel_rfl, ?_⟩) (by assumption) ?_
        rotate_left 1
        focus (intro w hSw; (try dsimp only at hSw); go_simp; try with_reducible rfl)
        try simp only [Act.put, List.setIfInBounds_toArray, List.set_cons_zero, List.set_cons_succ]
        refine wpAnyH_take (i := 12) (oi := _) (v := ?_) rfl (by kernel_rfl) (by kernel_rfl) (by kernel_rfl) (fun _ _ _ h => h) (Or.inl ⟨by kernel_rfl, ?_⟩) (by assumption) ?_
        rotate_left 1
        focus (intro w hSw; (try dsimp only at hSw); go_simp; try with_reducible rfl)
        try simp only [Act.put, List.setIfInBounds_toArray, List.set_cons_zero, List.set_cons_succ]
        refine wpAnyH_take (i := 13) (oi := _) (v := undef) rfl (by kernel_rfl) (by kernel_rfl) (by kernel_rfl) (fun _ _ _ h => h) (Or.inr ⟨by kernel_rfl, rfl⟩) (by assumption) ?_
        try simp only [Act.put, List.setIfInBounds_toArray, List.set_cons_zero, List.set_cons_succ]
        refine wpAnyH_take (i := 14) (oi := _) (v := undef) rfl (by kernel_rfl) (by kernel_rfl) (by kernel_rfl) (fun _ _ _ h => h) (Or.inr ⟨by kernel_rfl, rfl⟩) (by assumption) ?_
        try simp only [Act.put, List.setIfInBounds_toArray, List.set_cons_zero, List.set_cons_succ]
        refine wpAnyH_take (i := 15) (oi := _) (v := ?_) rfl (by kernel_rfl) (by kernel_rfl) (by kernel_rfl) (fun _ _ _ h => h) (Or.inl ⟨by kernel_rfl, ?_⟩) (by assumption) ?_
        rotate_left 1
        focus (intro w hSw; (try dsimp only at hSw); go_simp; try with_reducible rfl)
        try simp only [Act.put, List.setIfInBounds_toArray, List.set_cons_zero, List.set_cons_succ]
        refine wpAnyH_take (i := 16) (oi := _) (v := ?_) rfl (by kernel_rfl) (by kernel_rfl) (by kernel_rfl) (fun _ _ _ h => h) (Or.inl ⟨by kernel_rfl, ?_⟩) (by assumption) ?_
        rotate_left 1
        focus (intro w hSw; (try dsimp only at hSw); go_simp; try with_reducible rfl)
        try simp only [Act.put, List.setIfInBounds_toArray, List.set_cons_zero, List.set_cons_succ]
        refine wpAnyH_take (i := 17) (oi := _) (v := ?_) rfl (by kernel_rfl) (by kernel_rfl) (by kernel_rfl) (fun _ _ _ h => h) (Or.inl ⟨by kernel_rfl, ?_⟩) (by assumption) ?_
        rotate_left 1
        focus (intro w hSw; (try dsimp only at hSw); go_simp; try with_reducible rfl)
        try simp only [Act.put, List.setIfInBounds_toArray, List.set_cons_zero, List.set_cons_succ]
        refine wpAnyH_take (i := 18) (oi := _) (v := ?_) rfl (by kernel_rfl) (by kernel_rfl) (by kernel_rfl) (fun _ _ _ h => h) (Or.inl ⟨by kernel_rfl, ?_⟩) (by assumption) ?_
        rotate_left 1
        focus (intro w hSw; (try dsimp only at hSw); go_simp; try with_reducible rfl)
        try simp only [Act.put, List.setIfInBounds_toArray, List.set_cons_zero, List.set_cons_succ]
        refine wpAnyH_take (i := 21) (oi := _) (v := ?_) rfl (by kernel_rfl) (by kernel_rfl) (by kernel_rfl) (fun _ _ _ h => h) (Or.inl ⟨by kernel_rfl, ?_⟩) (by assumption) ?_
        rotate_left 1
        focus (intro w hSw; (try dsimp only at hSw); go_simp; try with_reducible rfl)
        try simp only [Act.put, List.setIfInBounds_toArray, List.set_cons_zero, List.set_cons_succ]
        refine wpAnyH_ready (rs := [19]) (by kernel_rfl) (by simp) ?_
        refine AllReadyH.cons (o := _) rfl (fun K hK => ?_) ?_
        rotate_left 1
        focus (exact AllReadyH.nil)
        go_simp
        refine hK.out _ _ ?_ (fun hNew => ?_)
        focus ((try dsimp only); refine hS.out _ ?_; (repeat (first | (with_reducible exact Below.refl _ _) | (with_reducible exact hbt4) | (with_reducible exact hbt3) | (with_reducible exact hbt2) | (with_reducible exact hbt1) | (with_reducible refine lat_d ?_) | (with_reducible refine lat_a ?_))))
        clear hK K hHeld
        have hHeld := hNew
        clear hNew
        try simp only [Act.put, List.setIfInBounds_toArray, List.set_cons_zero, List.set_cons_succ]
        refine wpAnyH_ready (rs := [20]) (by kernel_rfl) (by simp) ?_
        refine AllReadyH.cons (o := _) rfl (fun K hK => ?_) ?_
        rotate_left 1
        focus (exact AllReadyH.nil)
        go_simp
        refine (cN _ _ (by (repeat (first | (with_reducible exact Below.refl _ _) | (with_reducible exact hbt4) | (with_reducible exact hbt3) | (with_reducible exact hbt2) | (with_reducible exact hbt1) | (with_reducible refine lat_d ?_) | (with_reducible refine lat_a ?_))))).mono ?_
        rintro e wx2 ⟨rfl, bx2⟩
        have hbt2 : Below w11.heap.size w11 wx2 := (by refine below_nxt ?_ bx2; (repeat (first | (with_reducible exact Below.refl _ _) | (with_reducible exact hbt4) | (with_reducible exact hbt3) | (with_reducible exact hbt2) | (with_reducible exact hbt1) | (with_reducible refine lat_d ?_) | (with_reducible refine lat_a ?_))))
        go_wp2_with fail
        refine hK.out _ _ ?_ (fun hNew => ?_)
        focus ((try dsimp only); refine hS.out _ ?_; (repeat (first | (with_reducible exact Below.refl _ _) | (with_reducible exact hbt4) | (with_reducible exact hbt3) | (with_reducible exact hbt2) | (with_reducible exact hbt1) | (with_reducible refine lat_d ?_) | (with_reducible refine lat_a ?_))))
        clear hK K hHeld
        have hHeld := hNew
        clear hNew
        try simp only [Act.put, List.setIfInBounds_toArray, List.set_cons_zero, List.set_cons_succ]
        refine wpAnyH_take (i := 22) (oi := _) (v := ?_) rfl (by kernel_rfl) (by kernel_rfl) (by kernel_rfl) (fun _ _ _ h => h) (Or.inl ⟨by kernel_rfl, ?_⟩) (by assumption) ?_
        rotate_left 1
        focus (intro w hSw; (try dsimp only at hSw); go_simp; try with_reducible rfl)
        try simp only [Act.put, List.setIfInBounds_toArray, List.set_cons_zero, List.set_cons_succ]
        refine wpAnyH_take (i := 23) (oi := _) (v := ?_) rfl (by kernel_rfl) (by kernel_rfl) (by kernel_rfl) (fun _ _ _ h => h) (Or.inl ⟨by kernel_rfl, ?_⟩) (by assumption) ?_
        rotate_left 1
        focus (intro w hSw; (try dsimp only at hSw); go_simp; try with_reducible rfl)
        try simp only [Act.put, List.setIfInBounds_toArray, List.set_cons_zero, List.set_cons_succ]
        refine wpAnyH_take (i := 24) (oi := _) (v := ?_) rfl (by kernel_rfl) (by kernel_rfl) (by kernel_rfl) (fun _ _ _ h => h) (Or.inl ⟨by kernel_rfl, ?_⟩) (by assumption) ?_
        rotate_left 1
        focus (intro w hSw; (try dsimp only at hSw); go_simp; try with_reducible rfl)
        try simp only [Act.put, List.setIfInBounds_toArray, List.set_cons_zero, List.set_cons_succ]
        refine wpAnyH_take (i := 25) (oi := _) (v := ?_) rfl (by kernel_rfl) (by kernel_rfl) (by kernel_rfl) (fun _ _ _ h => h) (Or.inl ⟨by kernel_rfl, ?_⟩) (by assumption) ?_
        rotate_left 1
        focus (intro w hSw; (try dsimp only at hSw); go_simp; try with_reducible rfl)
        try simp only [Act.put, List.setIfInBounds_toArray, List.set_cons_zero, List.set_cons_succ]
        refine wpAnyH_ready (rs := [26]) (by kernel_rfl) (by simp) ?_
        refine AllReadyH.cons (o := _) rfl (fun K hK => ?_) ?_
        rotate_left 1
        focus (exact AllReadyH.nil)
        go_simp
        refine hK.out _ _ ?_ (fun hNew => ?_)
        focus ((try dsimp only); refine hS.out _ ?_; (repeat (first | (with_reducible exact Below.refl _ _) | (with_reducible exact hbt4) | (with_reducible exact hbt3) | (with_reducible exact hbt2) | (with_reducible exact hbt1) | (with_reducible refine lat_d ?_) | (with_reducible refine lat_a ?_))))
        clear hK K hHeld
        have hHeld := hNew
        clear hNew
        try simp only [Act.put, List.setIfInBounds_toArray, List.set_cons_zero, List.set_cons_succ]
        refine wpAnyH_ready (rs := [27]) (by kernel_rfl) (by simp) ?_
        refine AllReadyH.cons (o := _) rfl (fun K hK => ?_) ?_
        rotate_left 1
        focus (exact AllReadyH.nil)
        go_simp
        refine (cO _ _ (by (repeat (first | (with_reducible exact Below.refl _ _) | (with_reducible exact hbt4) | (with_reducible exact hbt3) | (with_reducible exact hbt2) | (with_reducible exact hbt1) | (with_reducible refine lat_d ?_) | (with_reducible refine lat_a ?_))))).mono ?_
        rintro e wx3 ⟨rfl, bx3⟩
        have hbt3 : Below w11.heap.size w11 wx3 := (by refine below_nxt ?_ bx3; (repeat (first | (with_reducible exact Below.refl _ _) | (with_reducible exact hbt4) | (with_reducible exact hbt3) | (with_reducible exact hbt2) | (with_reducible exact hbt1) | (with_reducible refine lat_d ?_) | (with_reducible refine lat_a ?_))))
        go_wp2_with fail
        refine hK.out _ _ ?_ (fun hNew => ?_)
        focus ((try dsimp only); refine hS.out _ ?_; (repeat (first | (with_reducible exact Below.refl _ _) | (with_reducible exact hbt4) | (with_reducible exact hbt3) | (with_reducible exact hbt2) | (with_reducible exact hbt1) | (with_reducible refine lat_d ?_) | (with_reducible refine lat_a ?_))))
        clear hK K hHeld
        have hHeld := hNew
        clear hNew
        try simp only [Act.put, List.setIfInBounds_toArray, List.set_cons_zero, List.set_cons_succ]
        refine wpAnyH_take (i := 28) (oi := _) (v := ?_) rfl (by kernel_rfl) (by kernel_rfl) (by kernel_rfl) (fun _ _ _ h => h) (Or.inl ⟨by kernel_rfl, ?_⟩) (by assumption) ?_
        rotate_left 1
        focus (intro w hSw; (try dsimp only at hSw); go_simp; try with_reducible rfl)
        try simp only [Act.put, List.setIfInBounds_toArray, List.set_cons_zero, List.set_cons_succ]
        refine wpAnyH_take (i := 29) (oi := _) (v := ?_) rfl (by kernel_rfl) (by kernel_rfl) (by kernel_rfl) (fun _ _ _ h => h) (Or.inl ⟨by kernel_rfl, ?_⟩) (by assumption) ?_
        rotate_left 1
        focus (intro w hSw; (try dsimp only at hSw); go_simp; try with_reducible rfl)
        try simp only [Act.put, List.setIfInBounds_toArray, List.set_cons_zero, List.set_cons_succ]
        refine wpAnyH_take (i := 30) (oi := _) (v := ?_) rfl (by kernel_rfl) (by kernel_rfl) (by kernel_rfl) (fun _ _ _ h => h) (Or.inl ⟨by kernel_rfl, ?_⟩) (by assumption) ?_
        rotate_left 1
        focus (intro w hSw; (try dsimp only at hSw); go_simp; try with_reducible rfl)
        try simp only [Act.put, List.setIfInBounds_toArray, List.set_cons_zero, List.set_cons_succ]
        refine wpAnyH_take (i := 31) (oi := _) (v := ?_) rfl (by kernel_rfl) (by kernel_rfl) (by kernel_rfl) (fun _ _ _ h => h) (Or.inl ⟨by kernel_rfl, ?_⟩) (by assumption) ?_
        rotate_left 1
        focus (intro w hSw; (try dsimp only at hSw); go_simp; try with_reducible rfl)
        try simp only [Act.put, List.setIfInBounds_toArray, List.set_cons_zero, List.set_cons_succ]
        refine wpAnyH_take (i := 32) (oi := _) (v := ?_) rfl (by kernel_rfl) (by kernel_rfl) (by kernel_rfl) (fun _ _ _ h => h) (Or.inl ⟨by kernel_rfl, ?_⟩) (by assumption) ?_
        rotate_left 1
        focus (intro w hSw; (try dsimp only at hSw); go_simp; try with_reducible rfl)
        try simp only [Act.put, List.setIfInBounds_toArray, List.set_cons_zero, List.set_cons_succ]
        refine wpAnyH_take (i := 33) (oi := _) (v := ?_) rfl (by kernel_rfl) (by kernel_rfl) (by kernel_rfl) (fun _ _ _ h => h) (Or.inl ⟨by kernel_rfl, ?_⟩) (by assumption) ?_
        rotate_left 1
        focus (intro w hSw; (try dsimp only at hSw); go_simp; try with_reducible rfl)
        try simp only [Act.put, List.setIfInBounds_toArray, List.set_cons_zero, List.set_cons_succ]
        refine wpAnyH_take (i := 34) (oi := _) (v := ?_) rfl (by kernel_rfl) (by kernel_rfl) (by kernel_rfl) (fun _ _ _ h => h) (Or.inl ⟨by kernel_rfl, ?_⟩) (by assumption) ?_
        rotate_left 1
        focus (intro w hSw; (try dsimp only at hSw); go_simp; try with_reducible rfl)
        try simp only [Act.put, List.setIfInBounds_toArray, List.set_cons_zero, List.set_cons_succ]
        refine wpAnyH_take (i := 35) (oi := _) (v := ?_) rfl (by kernel_rfl) (by kernel_rfl) (by kernel_rfl) (fun _ _ _ h => h) (Or.inl ⟨by kernel_rfl, ?_⟩) (by assumption) ?_
        rotate_left 1
        focus (intro w hSw; (try dsimp only at hSw); go_simp; try with_reducible rfl)
        try simp only [Act.put, List.setIfInBounds_toArray, List.set_cons_zero, List.set_cons_succ]
        refine wpAnyH_take (i := 36) (oi := _) (v := ?_) rfl (by kernel_rfl) (by kernel_rfl) (by kernel_rfl) (fun _ _ _ h => h) (Or.inl ⟨by kernel_rfl, ?_⟩) (by assumption) ?_
        rotate_left 1
        focus (intro w hSw; (try dsimp only at hSw); go_simp; try with_reducible rfl)
        try simp only [Act.put, List.setIfInBounds_toArray, List.set_cons_zero, List.set_cons_succ]
        refine wpAnyH_take (i := 37) (oi := _) (v := ?_) rfl (by kernel_rfl) (by kernel_rfl) (by kernel_rfl) (fun _ _ _ h => h) (Or.inl ⟨by kernel_rfl, ?_⟩) (by assumption) ?_
        rotate_left 1
        focus (intro w hSw; (try dsimp only at hSw); go_simp; try with_reducible rfl)
        try simp only [Act.put, List.setIfInBounds_toArray, List.set_cons_zero, List.set_cons_succ]
        refine wpAnyH_take (i := 38) (oi := _) (v := ?_) rfl (by kernel_rfl) (by kernel_rfl) (by kernel_rfl) (fun _ _ _ h => h) (Or.inl ⟨by kernel_rfl, ?_⟩) (by assumption) ?_
        rotate_left 1
        focus (intro w hSw; (try dsimp only at hSw); go_simp; try with_reducible rfl)
        try simp only [Act.put, List.setIfInBounds_toArray, List.set_cons_zero, List.set_cons_succ]
        refine wpAnyH_take (i := 39) (oi := _) (v := ?_) rfl (by kernel_rfl) (by kernel_rfl) (by kernel_rfl) (fun _ _ _ h => h) (Or.inl ⟨by kernel_rfl, ?_⟩) (by assumption) ?_
        rotate_left 1
        focus (intro w hSw; (try dsimp only at hSw); go_simp; try with_reducible rfl)
        try simp only [Act.put, List.setIfInBounds_toArray, List.set_cons_zero, List.set_cons_succ]
        refine wpAnyH_ready (rs := [40]) (by kernel_rfl) (by simp) ?_
        refine AllReadyH.cons (o := _) rfl (fun K hK => ?_) ?_
        rotate_left 1
        focus (exact AllReadyH.nil)
        go_simp
        refine (cR _ (by (repeat (first | (with_reducible exact Below.refl _ _) | (with_reducible exact hbt4) | (with_reducible exact hbt3) | (with_reducible exact hbt2) | (with_reducible exact hbt1) | (with_reducible refine lat_d ?_) | (with_reducible refine lat_a ?_))))).mono ?_
        rintro e wx4 ⟨rfl, bx4⟩
        have hbt4 : Below w11.heap.size w11 wx4 := (by refine below_nxt ?_ bx4; (repeat (first | (with_reducible exact Below.refl _ _) | (with_reducible exact hbt4) | (with_reducible exact hbt3) | (with_reducible exact hbt2) | (with_reducible exact hbt1) | (with_reducible refine lat_d ?_) | (with_reducible refine lat_a ?_))))
        go_wp2_with fail
        refine hK.out _ _ ?_ (fun hNew => ?_)
        focus ((try dsimp only); refine hS.out _ ?_; (repeat (first | (with_reducible exact Below.refl _ _) | (with_reducible exact hbt4) | (with_reducible exact hbt3) | (with_reducible exact hbt2) | (with_reducible exact hbt1) | (with_reducible refine lat_d ?_) | (with_reducible refine lat_a ?_))))
        clear hK K hHeld
        have hHeld := hNew
        clear hNew
        try simp only [Act.put, List.setIfInBounds_toArray, List.set_cons_zero, List.set_cons_succ]
        refine wpAnyH_ready (rs := [41]) (by kernel_rfl) (by simp) ?_
        refine AllReadyH.cons (o := _) rfl (fun K hK => ?_) ?_
        rotate_left 1
        focus (exact AllReadyH.nil)
        go_simp
        refine hK.out _ _ ?_ (fun hNew => ?_)
        focus ((try dsimp only); refine hS.out _ ?_; (repeat (first | (with_reducible exact Below.refl _ _) | (with_reducible exact hbt4) | (with_reducible exact hbt3) | (with_reducible exact hbt2) | (with_reducible exact hbt1) | (with_reducible refine lat_d ?_) | (with_reducible refine lat_a ?_))))
        clear hK K hHeld
        have hHeld := hNew
        clear hNew
        try simp only [Act.put, List.setIfInBounds_toArray, List.set_cons_zero, List.set_cons_succ]
        refine wpAnyH_ready (rs := [42]) (by kernel_rfl) (by simp) ?_
        refine AllReadyH.cons (o := _) rfl (fun K hK => ?_) ?_
        rotate_left 1
        focus (exact AllReadyH.nil)
        go_simp
        refine hK.out _ _ ?_ (fun hNew => ?_)
        focus ((try dsimp only); refine hS.out _ ?_; (repeat (first | (with_reducible exact Below.refl _ _) | (with_reducible exact hbt4) | (with_reducible exact hbt3) | (with_reducible exact hbt2) | (with_reducible exact hbt1) | (with_reducible refine lat_d ?_) | (with_reducible refine lat_a ?_))))
        clear hK K hHeld
        have hHeld := hNew
        clear hNew
        try simp only [Act.put, List.setIfInBounds_toArray, List.set_cons_zero, List.set_cons_succ]
        refine wpAnyH_done (by kernel_rfl) ?_ _
        refine NoPanic.normal ?_
        go_wp2
        go_ret
        exact ⟨rfl, bel11.trans (hbt4.mono bel11.size)⟩
end Go.Proofs.Ytbcbgdomjefdhaa
