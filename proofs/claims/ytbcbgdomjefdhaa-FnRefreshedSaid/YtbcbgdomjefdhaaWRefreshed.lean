/-
  The walk of FnRefreshed.
-/
import Derived.Test.YtbcbgdomjefdhaaPatD
import Derived.Test.YtbcbgdomjefdhaaPlc
import Derived.Test.YtbcbgdomjefdhaaExM
namespace Go.Proofs.Ytbcbgdomjefdhaa
open Go.RowKit
set_option linter.unusedSimpArgs false
set_option linter.unusedVariables false

theorem ints_five (w : World) (t : TypeId) : Ints (w.alloc (.cells #[.int .i64 0, .int .i64 2, .int .i64 0, .int .i64 1, .int .i64 2] t)) (some ⟨w.heap.size, 0, none⟩) 5 [0, 2, 0, 1, 2] := by
  have b := Box.new w t #[.int .i64 0, .int .i64 2, .int .i64 0, .int .i64 1, .int .i64 2]
  refine ⟨rfl, fun _ => ⟨w.heap.size, 0, rfl, b.lt, fun j hj => ?_⟩⟩
  rw [Nat.zero_add]
  obtain ⟨c0, c1, c2, c3, c4⟩ := b.c5
  obtain rfl | rfl | rfl | rfl | rfl : j = 0 ∨ j = 1 ∨ j = 2 ∨ j = 3 ∨ j = 4 := by omega
  · exact c0
  · exact c1
  · exact c2
  · exact c3
  · exact c4
set_option maxRecDepth 100000 in
set_option maxHeartbeats 8000000 in
theorem fnRefreshed_walk (A : Option Addr) (n c : Nat) (zs : List Int) (w : World) (hA : Bytes w A n zs) (hn : n ≤ maxLen) :
    Calls Try.prog 13 #[.slice A n c] w fun e w' => e = .returned (.bool true) ∧ Below w.heap.size w w' := by
  by_cases hb : 1048576 < n
  · have hd : decide (1048576 < n) = true := by simpa using hb
    go_enter Try.func13, Try.ntmps13
    go_wp2_with (go_at_call 15; refine (big_c A n c _ hn).mono ?_; rintro e w' ⟨rfl, rfl⟩)
    go_ret
    exact ⟨rfl, Below.refl _ _⟩
  · have hd : decide (1048576 < n) = false := by simpa using hb
    have bel : Below w.heap.size w w := Below.refl _ _
    go_enter Try.func13, Try.ntmps13
    go_wp2_with (first | (go_at_call 15; refine (big_c A n c _ hn).mono ?_; rintro e w' ⟨rfl, rfl⟩) | fail)
    refine (drawPattern_c A n c zs _ hA hn).mono ?_
    rintro e w1 ⟨R, A1, n1, c1, ps, hR1, hR2, rfl, o1, hp1, b1⟩
    have szw1 := b1.size
    replace bel := bel.trans (b1.mono bel.size)
    clear b1
    have HP1 := Lib.hid hp1
    have hn60 : n1 ≤ 60 := by have := o1.len; have := hp1.1; omega
    clear hp1
    go_wp2_with fail
    refine (drawPlaces_c A n c zs _ (hA.below bel) hn).mono ?_
    rintro e w3 ⟨p, hp, A2, n2, c2, rfl, o2, b3⟩
    have szw3 := b3.size
    replace bel := bel.trans (b3.mono bel.size)
    replace o1 := o1.below b3
    clear b3
    have hn12 : n2 = 12 := by rw [← o2.len]; exact hp.1
    subst hn12
    obtain ⟨z0, hz0, z0a, z0b⟩ := hp.at_ (show 0 < 12 by omega)
    obtain ⟨z1, hz1, z1a, z1b⟩ := hp.at_ (show 1 < 12 by omega)
    obtain ⟨gp, x0, eg, -, -, -, gp1, gp2⟩ := o2.at_ (show 0 < 12 by omega)
    subst eg
    have cp0 := place_cell o2 (show 0 < 12 by omega) hz0
    have cp1 := place_cell o2 (show 1 < 12 by omega) hz1
    clear hp hz0 hz1
    obtain ⟨r, hr, er1, er2⟩ := rem_nat z0a (show 0 < R by omega)
    have R0 : (R : Int) ≠ 0 := by omega
    have R00 : R ≠ 0 := by omega
    have HB := Lib.hid (refreshed_bd (R : Int) (r : Int) ps)
    go_wp2_with fail
    refine abs_code ?_
    intro W4 hW
    have szW4 : w3.heap.size + 1 ≤ W4.heap.size := by rw [hW]; simp [World.setCell]
    have szW4_ := bel.size
    replace bel : Below w.heap.size w W4 := by rw [hW]; exact (bel).alloc (by first | omega | (simp [World.setCell] <;> omega)) _
    replace o1 : OwnH W4 w.heap.size w1.heap.size A1 n1 c1 ps := by rw [hW]; exact o1.alloc _
    replace o2 : OwnH W4 w1.heap.size w3.heap.size (some ⟨gp, 0, none⟩) 12 c2 p := by rw [hW]; exact o2.alloc _
    clear hW
    go_loopw [7, 8] (fun v i wr => ∃ (j : Nat) (B : Option Addr) (m d : Nat), j ≤ n1 ∧ i = .int .i64 j ∧ v = .slice B m d ∧ OwnI wr W4.heap.size B m d (refreshed (r : Int) ps j) ∧ Below w.heap.size w wr ∧ OwnH wr w.heap.size w1.heap.size A1 n1 c1 ps ∧ W4.heap.size ≤ wr.heap.size) (fun _ i _ => n1 - (intOf i).toNat)
    case atStart => exact ⟨0, _, 0, 0, Nat.zero_le _, rfl, rfl, OwnI.nil _ _ _, bel, o1, Nat.le_refl _⟩
    case round =>
      obtain ⟨j, B, m, d, hj, rfl, rfl, ok, br, or', szr⟩ := hrel
      clear o1 bel
      have HM : Hid (m = j + j / 2) := by unfold Hid; rw [← ok.len, refreshed_len]
      have hm90 : m ≤ 90 := by have := HM.out; omega
      by_cases hlt : j < n1
      · obtain ⟨g1, y, rfl, hy, hyf, hyx, hl1, hl2⟩ := or'.at_ hlt
        have i0 : (0 : Int) ≤ (j : Int) := by omega
        have i1 : (j : Int) < (n1 : Int) := by omega
        have HY := hyx
        clear hyx hyf
        by_cases h2 : j % 2 = 1
        · have e2 : (j : Int).tmod 2 = 1 := by rw [Int.tmod_eq_emod_of_nonneg (by omega)]; omega
          have e2' : (j : Int) % 2 = 1 := by omega
          go_wp2_with (first | (at_builtin; refine wpList_app1 rfl (.tmp 30) (.tmp 35) 27 rfl Try.underlying27 infoInt B m d W4.heap.size (refreshed (r : Int) ps j) rfl (ok.alloc _) wr.heap.size y rfl (by simp) (by omega) (by simp; omega) ?_; intro B5 d5 w5 o5 g5 at5; have sz5 := g5.size; simp at sz5) | (at_builtin; refine wpList_app1 rfl (.tmp 40) (.tmp 42) 27 rfl Try.underlying27 infoInt B5 (m + 1) d5 W4.heap.size (refreshed (r : Int) ps j ++ [y]) rfl (o5.alloc _) w5.heap.size (r : Int) rfl (by simp) (by omega) (by simp; omega) ?_; intro B6 d6 w6 o6 g6 at6))
          go_roundw
          case rel =>
            have sz6 := g6.size
            simp at sz6
            have C5 : Chg W4.heap.size wr.heap.size (wr.alloc (.cells #[.int .i64 y] 3)) w5 := Chg.of_grown g5 (fun k hk => ok.lt k hk)
            have C6 : Chg W4.heap.size w5.heap.size (w5.alloc (.cells #[.int .i64 (r : Int)] 3)) w6 := Chg.of_grown g6 (fun k hk => o5.lt k hk)
            have b5 := below_app (br.alloc br.size _) g5 (fun k hk => by have := (ok.lt k hk).1; omega)
            refine ⟨j + 1, B6, m + 1 + 1, d6, by omega, by go_num, rfl, ?_, below_app (b5.alloc b5.size _) g6 (fun k hk => by have := (o5.lt k hk).1; omega), (((or'.alloc _).chg C5 (by omega)).alloc _).chg C6 (by omega), by omega⟩
            rw [refreshed_yes HY.out h2]
            exact o6
          case measure => simp [intOf]; omega
        · have e2 : (j : Int).tmod 2 = 0 := by rw [Int.tmod_eq_emod_of_nonneg (by omega)]; omega
          have e2' : (j : Int) % 2 = 0 := by omega
          go_wp2_with (at_builtin; refine wpList_app1 rfl (.tmp 30) (.tmp 35) 27 rfl Try.underlying27 infoInt B m d W4.heap.size (refreshed (r : Int) ps j) rfl (ok.alloc _) wr.heap.size y rfl (by simp) (by omega) (by simp; omega) ?_; intro B5 d5 w5 o5 g5 at5)
          go_roundw
          case rel =>
            have sz5 := g5.size
            simp at sz5
            have C5 : Chg W4.heap.size wr.heap.size (wr.alloc (.cells #[.int .i64 y] 3)) w5 := Chg.of_grown g5 (fun k hk => ok.lt k hk)
            refine ⟨j + 1, B5, m + 1, d5, by omega, by go_num, rfl, ?_, below_app (br.alloc br.size _) g5 (fun k hk => by have := (ok.lt k hk).1; omega), (or'.alloc _).chg C5 (by omega), by omega⟩
            rw [refreshed_no HY.out (by omega)]
            exact o5
          case measure => simp [intOf]; omega
      · obtain rfl : n1 = j := by omega
        have o5 := ok
        have hE := Lib.hid (refreshed_expo (rows := (R : Int)) (r := (r : Int)) (zs := ps) (by omega) (by omega) HP1.out.1 HP1.out.2 (by omega) (by omega))
        have hL := Lib.hid or'.len
        have t1 : decide (expo (R : Int) (refreshed (r : Int) ps n1) (r : Int) ≤ 2) = true := by
          have := hE.out
          rw [hL.out] at this
          simpa using this
        have h3 := expo_three
        generalize refreshed (r : Int) ps n1 = rs at ok t1
        clear hE hL HB HP1
        go_wp2_with fail
        refine (iExposure_c (R : Int) B m d rs (r : Int) _ (by exact ok.ints) (by omega)).mono ?_
        rintro e w7 ⟨rfl, b7⟩
        go_wp2_with fail
        refine abs_call ?_
        intro W8 hW
        have b8 : Below w7.heap.size w7 W8 := by rw [hW]; exact (Below.refl _ _).alloc (Nat.le_refl _) _
        have i8 : Ints W8 (some ⟨w7.heap.size, 0, none⟩) 5 [0, 2, 0, 1, 2] := by rw [hW]; exact ints_five _ _
        clear hW
        refine (iExposure_c 3 (some ⟨w7.heap.size, 0, none⟩) 5 5 [0, 2, 0, 1, 2] 1 _ i8 (by omega)).mono ?_
        rintro e w9 ⟨rfl, b9⟩
        rw [expo_three]
        go_wp2
        go_ret
        exact ⟨rfl, (br.trans (b7.mono br.size)).trans ((b8.trans (b9.mono b8.size)).mono (br.trans (b7.mono br.size)).size)⟩
end Go.Proofs.Ytbcbgdomjefdhaa
