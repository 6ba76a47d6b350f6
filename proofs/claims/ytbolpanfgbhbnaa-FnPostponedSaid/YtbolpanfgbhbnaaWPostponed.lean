/-
  The walk of FnPostponed.
-/
import Derived.Test.YtbolpanfgbhbnaaDraw
import Derived.Test.YtbolpanfgbhbnaaPpM
import Derived.Test.YtbolpanfgbhbnaaRefK
import Derived.Deep.DeepCutAuto
namespace Go.Proofs.Ytbolpanfgbhbnaa
open Go.RowKit
set_option linter.unusedSimpArgs false
set_option linter.unusedVariables false

theorem new_post {N K : Nat} (h1 : 1 ≤ N) (h2 : N ≤ 4) (h3 : 9 ≤ K) (h4 : K ≤ 14) : newDebt N K = List.replicate N 0 ∧ newWait N K = K ∧ newOk N K = true := by
  have a1 : inB (N : Int) 1 8 = true := inB_mk (by omega) (by omega)
  have a2 : inB (K : Int) 2 10000 = true := inB_mk (by omega) (by omega)
  unfold newDebt newWait newOk
  rw [if_pos ⟨a1, a2⟩, if_pos ⟨a1, a2⟩, a1, a2]
  exact ⟨by simp, rfl, rfl⟩
theorem bools_two {w : World} {g : Nat} {t : TypeId} {a b : Bool} (h : Box w g t #[.bool a, .bool b]) : Bools w (some ⟨g, 0, none⟩) 2 [a, b] := by
  refine ⟨rfl, fun _ => ⟨g, 0, rfl, h.lt, fun j hj => ?_⟩⟩
  rw [Nat.zero_add]
  obtain rfl | rfl : j = 0 ∨ j = 1 := by omega
  · exact h.c2.1
  · exact h.c2.2

set_option maxRecDepth 100000 in
set_option maxHeartbeats 8000000 in
theorem fnPostponed_walk (A : Option Addr) (n c : Nat) (zs : List Int) (w : World) (hA : Bytes w A n zs) (hn : n ≤ maxLen) :
    Calls Try.prog 4 #[.slice A n c] w fun e w' => e = .returned (.bool true) ∧ Below w.heap.size w w' := by
  by_cases hb : 1048576 < n
  · have hd : decide (1048576 < n) = true := by simpa using hb
    go_enter Try.func4, Try.ntmps4
    go_wp2_with (go_at_call 15; refine (big_c A n c _ hn).mono ?_; rintro e w' ⟨rfl, rfl⟩)
    go_ret
    exact ⟨rfl, Below.refl _ _⟩
  · have hd : decide (1048576 < n) = false := by simpa using hb
    have bel : Below w.heap.size w w := Below.refl _ _
    go_enter Try.func4, Try.ntmps4
    go_wp2_with (first | (go_at_call 15; refine (big_c A n c _ hn).mono ?_; rintro e w' ⟨rfl, rfl⟩) | fail)
    refine (drawPlaces_c A n c zs _ hA hn).mono ?_
    rintro e w1 ⟨p, hp, A1, n1, c1, rfl, o1, b1⟩
    have szw1 := b1.size
    replace bel := bel.trans (b1.mono bel.size)
    clear b1
    obtain ⟨gp, hgp, P⟩ := places_at hp o1
    obtain ⟨rfl, rfl, gp1, gp2⟩ := hgp
    obtain ⟨p0, p1, p2, p3, hp0, hp1, hp2, hp3, ⟨p0a, p0b⟩, ⟨p1a, p1b⟩, ⟨p2a, p2b⟩, ⟨p3a, p3b⟩⟩ := P
    have HP := Lib.hid hp
    clear hp
    go_wp2_with fail
    have m0 : 0 ≤ p0 % 6 ∧ p0 % 6 < 6 := ⟨Int.emod_nonneg _ (by omega), Int.emod_lt_of_pos _ (by omega)⟩
    have m1 : 0 ≤ p1 % 4 ∧ p1 % 4 < 4 := ⟨Int.emod_nonneg _ (by omega), Int.emod_lt_of_pos _ (by omega)⟩
    generalize p0 % 6 = q0 at m0 ⊢
    generalize p1 % 4 = q1 at m1 ⊢
    obtain ⟨N, hN⟩ := Int.eq_ofNat_of_zero_le (show 0 ≤ 1 + q1 by omega)
    obtain ⟨K, hK⟩ := Int.eq_ofNat_of_zero_le (show 0 ≤ 9 + q0 by omega)
    have hN1 : 1 ≤ N ∧ N ≤ 4 := by omega
    have hK1 : 9 ≤ K ∧ K ≤ 14 := by omega
    generalize 1 + q1 = nn at hN ⊢
    generalize 9 + q0 = kk at hK ⊢
    subst hN hK
    obtain ⟨hN1, hN2⟩ := hN1
    obtain ⟨hK1, hK2⟩ := hK1
    have H4 := Lib.hid (new_post hN1 hN2 hK1 hK2)
    clear hp0 hp1 hp2 hp3
    refine (sRefreshNew_c N K _).mono ?_
    rintro e w2 ⟨A2, n2, c2, rfl, o2, b2⟩
    rw [H4.out.1] at o2
    rw [H4.out.2.1, H4.out.2.2]
    have szw2 := b2.size
    replace bel := bel.trans (b2.mono bel.size)
    replace o1 := o1.below b2
    clear b2
    go_wp2_with fail
    refine abs_code ?_
    intro W3 hW
    have szW3 : w2.heap.size + 1 ≤ W3.heap.size := by rw [hW]; simp [World.setCell]
    have szW3_ := bel.size
    replace bel : Below w.heap.size w W3 := by rw [hW]; exact (bel).alloc (by first | omega | (simp [World.setCell] <;> omega)) _
    have r : Box W3 w2.heap.size 27 #[.slice A2 n2 c2, .int .i64 (K : Int), .bool false] := by rw [hW]; exact (Box.newAt (by simp [World.setCell]))
    replace o1 : OwnH W3 w.heap.size w1.heap.size (some ⟨gp, 0, none⟩) 12 c1 p := by rw [hW]; exact o1.alloc _
    replace o2 : OwnH W3 w1.heap.size w2.heap.size A2 n2 c2 (List.replicate N 0) := by rw [hW]; exact o2.alloc _
    clear hW
    go_loopw [7] (fun i wr => ∃ (j : Nat) (B : Option Addr) (m d lo hi : Nat) (xs : List Int) (s1 : Int), j ≤ 120 ∧ i = .int .i64 j ∧ Below w.heap.size w wr ∧ Box wr w2.heap.size 27 #[.slice B m d, .int .i64 s1, .bool false] ∧ OwnH wr lo hi B m d xs ∧ OwnH wr w.heap.size w1.heap.size (some ⟨gp, 0, none⟩) 12 c1 p ∧ w2.heap.size < wr.heap.size ∧
      (w2.heap.size < lo ∨ hi ≤ w2.heap.size) ∧ Hid (Post K N xs s1)) (fun i _ => 120 - (intOf i).toNat)
    case atStart =>
      exact ⟨0, A2, n2, c2, w1.heap.size, w2.heap.size, _, _, Nat.zero_le _, rfl, bel, r, o2, o1, by omega, by omega, Lib.hid (Post.new (by omega))⟩
    case round =>
      obtain ⟨j, B, m, d, lo, hi, xs, s1, hj, rfl, br, r', or', op', sz', a1, HX⟩ := hrel
      clear r o2 bel o1
      have ml : m = N := by have := or'.len; rw [HX.out.len] at this; omega
      subst ml
      obtain ⟨r'_0, r'_1, r'_2⟩ := r'.c3
      have r'_lt := r'.lt
      have r'_f := r'.frozen
      by_cases hlt : j < 120
      · have HT := Lib.hid (post_tick HX.out hN1 hN2 hK1 hK2)
        go_wp2_with fail
        refine (iRefreshTick_c B m d xs s1 false K _ or'.ints (by omega)).mono ?_
        rintro e w6 ⟨A6, n6, c6, rfl, o6, b6⟩
        clear r'_0 r'_1 r'_2 r'_lt r'_f
        have szw6 := b6.size
        replace br := br.trans (b6.mono br.size)
        replace r' := r'.kept b6
        replace or' := or'.below b6
        replace op' := op'.below b6
        clear b6
        clear or'
        have m6 : m = n6 := by have := o6.len; rw [HT.out.1] at this; exact this
        subst m6
        have HR := Lib.hid (fun bs => post_round (bs := bs) HX.out hN1 hN2 hK1 hK2)
        generalize hys : tickZ xs s1 (K : Int) = ys at o6 HR
        generalize hr1 : tickS xs s1 false (K : Int) = r1 at HR ⊢
        clear hys hr1 HT HX
        obtain ⟨r'_0, r'_1, r'_2⟩ := r'.c3
        have r'_lt := r'.lt
        have r'_f := r'.frozen
        go_upto_region 10 with fail
        refine abs_code ?_
        intro W7 hW
        have so6 := ((o6.setCell ⟨w2.heap.size, 0, none⟩ (.slice A6 m c6) (by dsimp only; omega)).setCell ⟨w2.heap.size, 1, none⟩ (.int .i64 r1) (by dsimp only; omega)).setCell ⟨w2.heap.size, 2, none⟩ (.bool false) (by dsimp only; omega)
        replace o6 : OwnH W7 wr.heap.size w6.heap.size A6 m c6 ys := by rw [hW]; exact so6
        clear so6
        clear r'_0 r'_1 r'_2 r'_lt r'_f
        have szW7 : w6.heap.size ≤ W7.heap.size := by rw [hW]; simp [World.setCell]
        have szW7_ := br.size
        replace br : Below w.heap.size w W7 := by rw [hW]; exact (((br).setCell (by dsimp only; omega) _).setCell (by dsimp only; omega) _).setCell (by dsimp only; omega) _
        replace r' : Box W7 w2.heap.size 27 #[.slice A6 m c6, .int .i64 r1, .bool false] := by rw [hW]; exact (((r').set_ 0 _).set_ 1 _).set_ 2 _
        replace op' : OwnH W7 w.heap.size w1.heap.size (some ⟨gp, 0, none⟩) 12 c1 p := by rw [hW]; exact (((op').setCell _ _ (by dsimp only; omega)).setCell _ _ (by dsimp only; omega)).setCell _ _ (by dsimp only; omega)
        clear hW
        obtain ⟨gp', hgp', P'⟩ := places_at HP.out op'
        obtain ⟨rfl, -, -, -⟩ : gp' = gp ∧ True ∧ True ∧ True := by have := hgp'.1; injection this with this; injection this with this; exact ⟨this.symm, trivial, trivial, trivial⟩
        obtain ⟨y0, y1, y2, y3, -, -, hy2, hy3, -, -, ⟨y2a, y2b⟩, y3a, y3b⟩ := P'
        clear hgp'
        have g'lt : gp' < W7.heap.size := by omega
        have hS : ∀ Y : World, Below W7.heap.size W7 Y → (Y.cell? ⟨gp', 2, none⟩ = some (.int .i64 y2) ∧ Y.cell? ⟨gp', 3, none⟩ = some (.int .i64 y3)) := fun Y hY => ⟨(hY.cell (p := ⟨gp', 2, none⟩) g'lt).trans hy2, (hY.cell (p := ⟨gp', 3, none⟩) g'lt).trans hy3⟩
        have v2 : IntKind.i64.wrap ((j : Int) + y2) = (j : Int) + y2 := IntWalk.i64_in _ (by omega)
        have v3 : IntKind.i64.wrap ((j : Int) + y3) = (j : Int) + y3 := IntWalk.i64_in _ (by omega)
        have u2 : 0 ≤ (j : Int) + y2 := by omega
        have u3 : 0 ≤ (j : Int) + y3 := by omega
        go_region_held3 (fun Y => Y.cell? ⟨gp', 2, none⟩ = some (.int .i64 y2) ∧ Y.cell? ⟨gp', 3, none⟩ = some (.int .i64 y3))
          (first | (with_reducible exact hS _ (Below.refl _ _)) | (with_reducible exact hS _ (lat_d (Below.refl _ _))) | (with_reducible exact hS _ (lat_a (Below.refl _ _))) | (with_reducible exact hS _ (lat_ad (Below.refl _ _))) | fail)
          (fail)
        generalize (((j : Int) + y2).tmod 3 == 0) = b0
        generalize (((j : Int) + y3).tmod 2 == 0) = b1
        clear hS v2 v3 u2 u3 hy2 hy3
        go_upto_region 11 with fail
        refine abs_code ?_
        intro W8 hW
        have bb : Box W8 W7.heap.size 4 #[.bool b0, .bool b1] := by rw [hW]; exact (Box.new W7 4 #[.bool b0, .bool b1]).dr
        have hB := bools_two bb
        clear bb
        have szW8 : W7.heap.size + 1 ≤ W8.heap.size := by rw [hW]; simp [World.setCell]
        have szW8_ := br.size
        replace br : Below w.heap.size w W8 := by rw [hW]; exact (belowN ((br).alloc (by first | omega | (simp [World.setCell] <;> omega)) _) _)
        replace r' : Box W8 w2.heap.size 27 #[.slice A6 m c6, .int .i64 r1, .bool false] := by rw [hW]; exact (r'.alloc _).drewN _
        replace op' : OwnH W8 w.heap.size w1.heap.size (some ⟨(gp'), 0, none⟩) 12 c1 p := by rw [hW]; exact (op'.alloc _).drewN _
        replace o6 : OwnH W8 wr.heap.size w6.heap.size A6 m c6 ys := by rw [hW]; exact (o6.alloc _).drewN _
        clear hW
        obtain ⟨r'_0, r'_1, r'_2⟩ := r'.c3
        have r'_lt := r'.lt
        go_wp2_with fail
        refine (iRefreshPick_c A6 m c6 ys r1 false _ 2 _ [b0, b1] _ o6.ints (by omega) hB (by omega)).mono ?_
        rintro e w9 ⟨rfl, b9⟩
        clear hB
        clear r'_0 r'_1 r'_2 r'_lt
        have szw9 := b9.size
        replace br := br.trans (b9.mono br.size)
        replace r' := r'.kept b9
        replace op' := op'.below b9
        replace o6 := o6.below b9
        clear b9
        rcases HR.out [b0, b1] with ⟨hp1, hP1⟩ | ⟨k, hk, hp1, hd1, hP1⟩
        · rw [hp1]
          have HPo := Lib.hid hP1
          clear hp1 hP1 HR
          obtain ⟨r'_0, r'_1, r'_2⟩ := r'.c3
          have r'_lt := r'.lt
          go_wp2_with fail
          go_loop [12] (fun i => ∃ (q : Nat), q ≤ m ∧ i = .int .i64 q) (fun i => m - (intOf i).toNat)
          case atStart => exact ⟨0, Nat.zero_le _, rfl⟩
          case round =>
            obtain ⟨q, hq, rfl⟩ := hrel
            by_cases hlq : q < m
            · obtain ⟨g1, y1, eg1, hy1, hf1, hx1, -, -⟩ := o6.at_ hlq
              have hy4 : y1 ≤ 4 := (HPo.out.bd _ (List.mem_of_getElem? hx1.out)).2
              clear hx1 hf1
              subst eg1
              go_wp2
              go_round
              case rel => exact ⟨q + 1, by omega, by go_num⟩
              case measure => simp [intOf]; omega
            · obtain rfl : m = q := by omega
              go_wp2
              go_roundw
              case rel => exact ⟨j + 1, A6, m, c6, wr.heap.size, w6.heap.size, _, _, by omega, by go_num, br, r', o6, op', by omega, by omega, HPo.out⟩
              case measure => simp [intOf]; omega
        · skip
          rw [hp1]
          have HPo := Lib.hid hP1
          have HD := Lib.hid hd1
          clear hp1 hP1 HR hd1
          have k0 : (0 : Int) ≤ (k : Int) := by omega
          have kl : ¬ (m : Int) ≤ (k : Int) := by omega
          obtain ⟨r'_0, r'_1, r'_2⟩ := r'.c3
          have r'_lt := r'.lt
          go_wp2_with fail
          refine (iRefreshDone_c A6 m c6 ys r1 false k _ o6.ints (by omega)).mono ?_
          rintro e w10 ⟨A10, n10, c10, rfl, o10, b10⟩
          rw [HD.out]
          clear r'_0 r'_1 r'_2 r'_lt
          have szw10 := b10.size
          replace br := br.trans (b10.mono br.size)
          replace r' := r'.kept b10
          replace op' := op'.below b10
          replace o6 := o6.below b10
          clear b10
          have m10 : m = n10 := by have := o10.len; rw [HPo.out.len] at this; exact this
          subst m10
          generalize hus : doneZ ys r1 (k : Int) = us at o10 HPo
          clear hus HD
          obtain ⟨r'_0, r'_1, r'_2⟩ := r'.c3
          have r'_lt := r'.lt
          have r'_f := r'.frozen
          go_upto_region 19 with fail
          refine abs_code ?_
          intro W11 hW
          clear o6
          have so10 := (((o10.setCell ⟨w2.heap.size, 0, none⟩ (.slice A10 m c10) (by dsimp only; omega)).setCell ⟨w2.heap.size, 1, none⟩ (.int .i64 r1) (by dsimp only; omega)).setCell ⟨w2.heap.size, 2, none⟩ (.bool false) (by dsimp only; omega)).alloc (.cells #[.slice A10 m c10, .int .i64 r1, .bool false] 27)
          replace o10 : OwnH W11 w9.heap.size w10.heap.size A10 m c10 us := by rw [hW]; exact so10
          clear so10
          clear r'_0 r'_1 r'_2 r'_lt r'_f
          have szW11 : w10.heap.size + 1 ≤ W11.heap.size := by rw [hW]; simp [World.setCell]
          have szW11_ := br.size
          replace br : Below w.heap.size w W11 := by rw [hW]; exact ((((br).setCell (by dsimp only; omega) _).setCell (by dsimp only; omega) _).setCell (by dsimp only; omega) _).alloc (by first | omega | (simp [World.setCell] <;> omega)) _
          replace r' : Box W11 w2.heap.size 27 #[.slice A10 m c10, .int .i64 r1, .bool false] := by rw [hW]; exact ((((r').set_ 0 _).set_ 1 _).set_ 2 _).alloc _
          replace op' : OwnH W11 w.heap.size w1.heap.size (some ⟨(gp'), 0, none⟩) 12 c1 p := by rw [hW]; exact ((((op').setCell _ _ (by dsimp only; omega)).setCell _ _ (by dsimp only; omega)).setCell _ _ (by dsimp only; omega)).alloc _
          clear hW
          obtain ⟨r'_0, r'_1, r'_2⟩ := r'.c3
          have r'_lt := r'.lt
          go_wp2_with fail
          go_loop [12] (fun i => ∃ (q : Nat), q ≤ m ∧ i = .int .i64 q) (fun i => m - (intOf i).toNat)
          case atStart => exact ⟨0, Nat.zero_le _, rfl⟩
          case round =>
            obtain ⟨q, hq, rfl⟩ := hrel
            by_cases hlq : q < m
            · obtain ⟨g1, y1, eg1, hy1, hf1, hx1, -, -⟩ := o10.at_ hlq
              have hy4 : y1 ≤ 4 := (HPo.out.bd _ (List.mem_of_getElem? hx1.out)).2
              clear hx1 hf1
              subst eg1
              go_wp2
              go_round
              case rel => exact ⟨q + 1, by omega, by go_num⟩
              case measure => simp [intOf]; omega
            · obtain rfl : m = q := by omega
              go_wp2
              go_roundw
              case rel => exact ⟨j + 1, A10, m, c10, w9.heap.size, w10.heap.size, _, _, by omega, by go_num, br, r', o10, op', by omega, by omega, HPo.out⟩
              case measure => simp [intOf]; omega
      · skip
        obtain rfl : j = 120 := by omega
        have HO := Lib.hid (HX.out.ok hN1 (by omega) (by omega))
        go_wp2_with fail
        refine (iRefreshOk_c B m d xs s1 false _ or'.ints (by omega)).mono ?_
        rintro e w6 ⟨rfl, b6⟩
        rw [HO.out]
        clear r'_0 r'_1 r'_2 r'_lt r'_f
        have szw6 := b6.size
        replace br := br.trans (b6.mono br.size)
        replace r' := r'.kept b6
        replace or' := or'.below b6
        replace op' := op'.below b6
        clear b6
        go_wp2
        go_ret
        exact ⟨rfl, br⟩
end Go.Proofs.Ytbolpanfgbhbnaa
