/-
  The walk of FnSpares.
-/
import Derived.Test.YtbapamfomfbmmaaSpQ2
import Derived.Test.YtbapamfomfbmmaaSpN
import Derived.Test.YtbapamfomfbmmaaSpD
import Derived.Test.YtbapamfomfbmmaaPlc
import Derived.Deep.DeepCutAuto
import Derived.Deep.RegionHeld3
namespace Go.Proofs.Ytbapamfomfbmmaa
open Go.RowKit
set_option linter.unusedSimpArgs false
set_option linter.unusedVariables false

set_option maxRecDepth 100000 in
set_option maxHeartbeats 8000000 in
theorem fnSpares_walk (A : Option Addr) (n c : Nat) (zs : List Int) (w : World) (hA : Bytes w A n zs) (hn : n ≤ maxLen) :
    Calls Try.prog 3 #[.slice A n c] w fun e w' => e = .returned (.bool true) ∧ Below w.heap.size w w' := by
  by_cases hb : 1048576 < n
  · have hd : decide (1048576 < n) = true := by simpa using hb
    go_enter Try.func3, Try.ntmps3
    go_wp2_with (go_at_call 14; refine (big_c A n c _ hn).mono ?_; rintro e w' ⟨rfl, rfl⟩)
    go_ret
    exact ⟨rfl, Below.refl _ _⟩
  · have hd : decide (1048576 < n) = false := by simpa using hb
    have bel : Below w.heap.size w w := Below.refl _ _
    go_enter Try.func3, Try.ntmps3
    go_wp2_with (first | (go_at_call 14; refine (big_c A n c _ hn).mono ?_; rintro e w' ⟨rfl, rfl⟩) | fail)
    refine (drawSpareOk_c A n c zs _ hA hn).mono ?_
    rintro e w1 ⟨gg, gb, gr, gc, s, A1, n1, c1, zs1, hn1, hc1, hm1, rfl, i1, b1⟩
    have szw1 := b1.size
    replace bel := bel.trans (b1.mono bel.size)
    clear b1
    go_wp2_with fail
    refine abs_call ?_
    intro W2 hW
    have szW2 : w1.heap.size + 1 + 1 ≤ W2.heap.size := by rw [hW]; simp [World.setCell]
    have szW2_ := bel.size
    replace bel : Below w.heap.size w W2 := by rw [hW]; exact ((bel).alloc (by first | omega | (simp [World.setCell] <;> omega)) _).alloc (by first | omega | (simp [World.setCell] <;> omega)) _
    have q : Box W2 w1.heap.size 25 #[.int .i64 gg, .int .i64 gb, .int .i64 gr, .int .i64 gc] := by rw [hW]; exact ((Box.newAt (by simp [World.setCell]))).alloc _
    have v : Box W2 (w1.heap.size + 1) 28 #[.int .i64 s, .slice A1 n1 c1] := by rw [hW]; exact (Box.newAt (by simp [World.setCell]))
    replace i1 : Ints W2 A1 n1 zs1 := by rw [hW]; exact (i1.alloc _).alloc _
    clear hW
    refine (sSpareOk_c gg gb gr gc s A1 n1 c1 zs1 _ i1 (by omega) ⟨hc1, hm1⟩).mono ?_
    rintro e w3 ⟨rfl, b3⟩
    have szw3 := b3.size
    replace bel := bel.trans (b3.mono bel.size)
    replace q := q.kept b3
    replace v := v.kept b3
    replace i1 := i1.below b3
    clear b3
    by_cases hok : spareOk gg gb gr gc s zs1 = true
    case neg =>
      have hok' : spareOk gg gb gr gc s zs1 = false := by simpa using hok
      have HS : Hid (spStored gg gb gr gc s zs1 0 0 = -1) := by unfold Hid spStored; rw [if_neg (by unfold inSp; rw [hok']; simp)]
      have HO := Lib.hid hok'
      rw [hok']
      clear hok hok'
      obtain ⟨q_0, q_1, q_2, q_3⟩ := q.c4
      have q_lt := q.lt
      obtain ⟨v_0, v_1⟩ := v.c2
      have v_lt := v.lt
      go_wp2_with fail
      refine (iSpareOk_c gg gb gr gc s A1 n1 c1 zs1 _ i1 (by omega) ⟨hc1, hm1⟩).mono ?_
      rintro e w4 ⟨rfl, b4⟩
      rw [HO.out]
      clear q_0 q_1 q_2 q_3 q_lt v_0 v_1 v_lt
      have szw4 := b4.size
      replace bel := bel.trans (b4.mono bel.size)
      replace q := q.kept b4
      replace v := v.kept b4
      replace i1 := i1.below b4
      clear b4
      obtain ⟨q_0, q_1, q_2, q_3⟩ := q.c4
      have q_lt := q.lt
      obtain ⟨v_0, v_1⟩ := v.c2
      have v_lt := v.lt
      go_wp2_with fail
      refine (iStoredRow_c gg gb gr gc s A1 n1 c1 zs1 0 0 _ i1 (by omega) ⟨hc1, hm1⟩).mono ?_
      rintro e w5 ⟨rfl, b5⟩
      rw [HS.out]
      clear q_0 q_1 q_2 q_3 q_lt v_0 v_1 v_lt
      have szw5 := b5.size
      replace bel := bel.trans (b5.mono bel.size)
      replace q := q.kept b5
      replace v := v.kept b5
      replace i1 := i1.below b5
      clear b5
      go_wp2
      go_ret
      exact ⟨rfl, bel⟩
    have HR := Lib.hid (rg_yes hok)
    obtain ⟨nb, nn, e1, e2, -, -, nb1, nb8, nn2, nn16, ⟨s0, s2⟩, ⟨gr0, gr16⟩, -⟩ := spOk_nums (spareOk_parts hok).1
    have HO := Lib.hid hok
    have HE1 := Lib.hid e1
    have HE2 := Lib.hid e2
    rw [hok]
    clear hok e1 e2
    obtain ⟨q_0, q_1, q_2, q_3⟩ := q.c4
    have q_lt := q.lt
    obtain ⟨v_0, v_1⟩ := v.c2
    have v_lt := v.lt
    go_wp2_with fail
    refine (iRegularGeometry_c gg gb gr gc s A1 n1 c1 zs1 _ i1 (by omega) ⟨hc1, hm1⟩).mono ?_
    rintro e w4 ⟨rfl, b4⟩
    rw [HR.out.1, HR.out.2.1, HR.out.2.2.1, HR.out.2.2.2]
    clear q_0 q_1 q_2 q_3 q_lt v_0 v_1 v_lt
    have szw4 := b4.size
    replace bel := bel.trans (b4.mono bel.size)
    replace q := q.kept b4
    replace v := v.kept b4
    replace i1 := i1.below b4
    clear b4
    go_wp2_with fail
    refine abs_call ?_
    intro W5 hW
    have szW5 : w4.heap.size + 1 ≤ W5.heap.size := by rw [hW]; simp [World.setCell]
    have szW5_ := bel.size
    replace bel : Below w.heap.size w W5 := by rw [hW]; exact (bel).alloc (by first | omega | (simp [World.setCell] <;> omega)) _
    replace q : Box W5 w1.heap.size 25 #[.int .i64 gg, .int .i64 gb, .int .i64 gr, .int .i64 gc] := by rw [hW]; exact q.alloc _
    replace v : Box W5 (w1.heap.size + 1) 28 #[.int .i64 s, .slice A1 n1 c1] := by rw [hW]; exact v.alloc _
    have x : Box W5 w4.heap.size 25 #[.int .i64 gg, .int .i64 gb, .int .i64 (gr - s), .int .i64 gc] := by rw [hW]; exact (Box.newAt (by simp [World.setCell]))
    replace i1 : Ints W5 A1 n1 zs1 := by rw [hW]; exact i1.alloc _
    clear hW
    refine (drawPlaces_c A n c zs _ (hA.below bel) hn).mono ?_
    rintro e w6 ⟨pl, hpl, A6, n6, c6, rfl, o6, b6⟩
    have szw6 := b6.size
    replace bel := bel.trans (b6.mono bel.size)
    replace q := q.kept b6
    replace v := v.kept b6
    replace x := x.kept b6
    replace i1 := i1.below b6
    clear b6
    obtain ⟨gp, hgp, P⟩ := places_at hpl o6
    obtain ⟨rfl, rfl, gp1, gp2⟩ := hgp
    obtain ⟨p0, p1, p2, p3, hp0, hp1, hp2, hp3, ⟨p0a, p0b⟩, -, -, -⟩ := P
    clear hp1 hp2 hp3
    obtain ⟨b, hb', eb1, eb2⟩ := rem_nat p0a (show 0 < nb by omega)
    have HSp := Lib.hid (spared HO.out HE1.out HE2.out hb')
    obtain ⟨q_0, q_1, q_2, q_3⟩ := q.c4
    have q_lt := q.lt
    obtain ⟨v_0, v_1⟩ := v.c2
    have v_lt := v.lt
    go_wp2_with fail
    have l0 := later_cell q_lt q_0
    have l1 := later_cell q_lt q_1
    have l2 := later_cell q_lt q_2
    have l3 := later_cell q_lt q_3
    have m0 := later_cell gp2 hp0
    have cB : ∀ z : Later w6, Calls Try.prog 21 #[.agg #[.int .i64 gg, .int .i64 gb, .int .i64 gr, .int .i64 gc]] z.w fun e w' => e = .returned (.int .i64 (nb : Int)) ∧ Below z.w.heap.size z.w w' := fun z => by
      have h := sBankCount_c gg gb gr gc z.w
      rw [HE1.out] at h
      exact h
    have nb0 : (nb : Int) ≠ 0 := by omega
    have nb00 : nb ≠ 0 := by omega
    refine wp_region_later (by kernel_rfl) (by kernel_rfl) ?_
    repeat (go_big_quiet_step ((go_at_call 21; exact later_call (cB _))))
    refine wpQuiet_nil ?_
    intro Z hw'
    obtain ⟨z, hw''⟩ := hw'
    have bZ := z.bel
    rw [← hw''] at bZ
    clear hw'' z l0 l1 l2 l3 m0 nb0 nb00 cB
    clear q_0 q_1 q_2 q_3 q_lt v_0 v_1 v_lt
    have szZ := bZ.size
    replace bel := bel.trans (bZ.mono bel.size)
    replace q := q.kept bZ
    replace v := v.kept bZ
    replace x := x.kept bZ
    replace i1 := i1.below bZ
    clear bZ
    clear eb1 eb2 hp0 o6 hpl
    go_wp2_with fail
    go_loopw [8] (fun i wr => ∃ (r : Nat), r ≤ nn ∧ i = .int .i64 r ∧ Below w.heap.size w wr ∧ Box wr w1.heap.size 25 #[.int .i64 gg, .int .i64 gb, .int .i64 gr, .int .i64 gc] ∧ Box wr (w1.heap.size + 1) 28 #[.int .i64 s, .slice A1 n1 c1] ∧ Box wr w4.heap.size 25 #[.int .i64 gg, .int .i64 gb, .int .i64 (gr - s), .int .i64 gc] ∧ Ints wr A1 n1 zs1) (fun i _ => nn - (intOf i).toNat)
    case atStart => exact ⟨0, Nat.zero_le _, rfl, bel, q, v, x, i1⟩
    case round =>
      clear bel q v x i1
      obtain ⟨r, hr, rfl, bel, q, v, x, i1⟩ := hrel
      obtain ⟨q_0, q_1, q_2, q_3⟩ := q.c4
      have q_lt := q.lt
      obtain ⟨v_0, v_1⟩ := v.c2
      have v_lt := v.lt
      by_cases hlt : r < nn
      · have t1 : decide ((r : Int) < gr - s) = true := by have := HE2.out; simp; omega
        obtain ⟨y, ey, y0, y1, er⟩ := HSp.out.each r hlt
        have HY := Lib.hid ey
        have HZ := Lib.hid er
        clear ey er
        go_wp2_with fail
        refine (iStoredRow_c gg gb gr gc s A1 n1 c1 zs1 b r _ i1 (by omega) ⟨hc1, hm1⟩).mono ?_
        rintro e w7 ⟨rfl, b7⟩
        rw [HY.out]
        clear q_0 q_1 q_2 q_3 q_lt v_0 v_1 v_lt
        have szw7 := b7.size
        replace bel := bel.trans (b7.mono bel.size)
        replace q := q.kept b7
        replace v := v.kept b7
        replace x := x.kept b7
        replace i1 := i1.below b7
        clear b7
        have t2 : decide (y < 0) = false := by simp; omega
        have t3 : decide (gr ≤ y) = false := by simp; omega
        have t4 : ((r : Int) != (r : Int)) = false := by simp
        obtain ⟨q_0, q_1, q_2, q_3⟩ := q.c4
        have q_lt := q.lt
        obtain ⟨v_0, v_1⟩ := v.c2
        have v_lt := v.lt
        go_wp2_with fail
        refine (iRegularRow_c gg gb gr gc s A1 n1 c1 zs1 b y _ i1 (by omega) ⟨hc1, hm1⟩).mono ?_
        rintro e w8 ⟨rfl, b8⟩
        rw [HZ.out]
        clear q_0 q_1 q_2 q_3 q_lt v_0 v_1 v_lt
        have szw8 := b8.size
        replace bel := bel.trans (b8.mono bel.size)
        replace q := q.kept b8
        replace v := v.kept b8
        replace x := x.kept b8
        replace i1 := i1.below b8
        clear b8
        go_wp2
        go_roundw
        case rel => exact ⟨r + 1, by omega, by go_num, bel, q, v, x, i1⟩
        case measure => simp [intOf]; omega
      · skip
        obtain rfl : nn = r := by omega
        have t1 : decide ((nn : Int) < gr - s) = false := by have := HE2.out; simp; omega
        have HT : Hid (spStored gg gb gr gc s zs1 b (gr - s) = -1) := by unfold Hid; rw [HE2.out]; exact HSp.out.out
        go_wp2_with fail
        refine (iSpareOk_c gg gb gr gc s A1 n1 c1 zs1 _ i1 (by omega) ⟨hc1, hm1⟩).mono ?_
        rintro e w7 ⟨rfl, b7⟩
        rw [HO.out]
        clear q_0 q_1 q_2 q_3 q_lt v_0 v_1 v_lt
        have szw7 := b7.size
        replace bel := bel.trans (b7.mono bel.size)
        replace q := q.kept b7
        replace v := v.kept b7
        replace x := x.kept b7
        replace i1 := i1.below b7
        clear b7
        have t2 : (gr - s == gr - s) = true := by simp
        have t3 : (gc == gc) = true := by simp
        obtain ⟨q_0, q_1, q_2, q_3⟩ := q.c4
        have q_lt := q.lt
        obtain ⟨v_0, v_1⟩ := v.c2
        have v_lt := v.lt
        obtain ⟨x_0, x_1, x_2, x_3⟩ := x.c4
        have x_lt := x.lt
        go_wp2_with fail
        refine (iStoredRow_c gg gb gr gc s A1 n1 c1 zs1 b (gr - s) _ i1 (by omega) ⟨hc1, hm1⟩).mono ?_
        rintro e w8 ⟨rfl, b8⟩
        rw [HT.out]
        clear q_0 q_1 q_2 q_3 q_lt v_0 v_1 v_lt x_0 x_1 x_2 x_3 x_lt
        have szw8 := b8.size
        replace bel := bel.trans (b8.mono bel.size)
        replace q := q.kept b8
        replace v := v.kept b8
        replace x := x.kept b8
        replace i1 := i1.below b8
        clear b8
        go_wp2
        go_ret
        exact ⟨rfl, bel⟩
end Go.Proofs.Ytbapamfomfbmmaa
