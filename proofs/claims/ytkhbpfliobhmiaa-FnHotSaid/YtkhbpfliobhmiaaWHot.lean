/-
  The walk of FnHot.
-/
import Derived.Test.YtkhbpfliobhmiaaDraw
import Derived.Test.YtkhbpfliobhmiaaPlR
import Derived.Test.YtkhbpfliobhmiaaRefH
import Derived.Test.YtkhbpfliobhmiaaRefG
namespace Go.Proofs.Ytkhbpfliobhmiaa
open Go.RowKit
set_option linter.unusedSimpArgs false
set_option linter.unusedVariables false

theorem heat_new {k : Int} (hk : 4 ≤ k) (hk2 : k ≤ 14) (he : k % 2 = 0) : heatS (newDebt 1 k) (newWait 1 k) false true = k / 2 ∧ heatT (newDebt 1 k) (newWait 1 k) false true = true ∧ newDebt 1 k = List.replicate 1 0 ∧ newWait 1 k = k := by
  have h1 : inB 1 1 8 = true := inB_mk (by omega) (by omega)
  have h2 : inB k 2 10000 = true := inB_mk (by omega) (by omega)
  have e1 : newDebt 1 k = List.replicate 1 0 := by unfold newDebt; rw [if_pos ⟨h1, h2⟩]; rfl
  have e2 : newWait 1 k = k := by unfold newWait; rw [if_pos ⟨h1, h2⟩]
  have h3 : refOk (List.replicate 1 0) k = true := refOk_rep (m := 1) (d := 0) (by omega) (by omega) (by omega) (by omega) (by omega) (by omega)
  rw [e1, e2]
  unfold heatS heatT
  simp only [if_pos h3, if_true, Bool.false_eq_true, if_false]
  exact ⟨by omega, trivial, trivial, trivial⟩
theorem urg_one {s : Int} (h1 : 1 ≤ s) (h2 : s ≤ 10000) : urg [4] s = [0] := by
  have h : refOk [4] s = true := refOk_mk (by simp) (by simp) (by simp) h1 h2
  unfold urg
  rw [if_pos h]
  rfl

set_option maxHeartbeats 4000000 in
theorem fnHot_walk (A : Option Addr) (n c : Nat) (zs : List Int) (w : World) (hA : Bytes w A n zs) (hn : n ≤ maxLen) :
    Calls Try.prog 11 #[.slice A n c] w fun e w' => e = .returned (.bool true) ∧ Below w.heap.size w w' := by
  by_cases hb : 1048576 < n
  · have hd : decide (1048576 < n) = true := by simpa using hb
    go_enter Try.func11, Try.ntmps11
    go_wp2_with (go_at_call 37; refine (big_c A n c _ hn).mono ?_; rintro e w' ⟨rfl, rfl⟩)
    go_ret
    exact ⟨rfl, Below.refl _ _⟩
  · have hd : decide (1048576 < n) = false := by simpa using hb
    have bel : Below w.heap.size w w := Below.refl _ _
    go_enter Try.func11, Try.ntmps11
    go_wp2_with (first | (go_at_call 37; refine (big_c A n c _ hn).mono ?_; rintro e w' ⟨rfl, rfl⟩) | fail)
    refine (drawPlaces_c A n c zs _ hA hn).mono ?_
    rintro e w1 ⟨p, hp, A1, n1, c1, rfl, o1, b1⟩
    have szw1 := b1.size
    replace bel := bel.trans (b1.mono bel.size)
    clear b1
    have hn1 : n1 = 12 := by rw [← o1.len]; exact hp.1
    subst hn1
    obtain ⟨gp, p0, rfl, hp0, hf0, hx0, gp1, gp2⟩ := o1.at_ (show 0 < 12 by omega)
    obtain ⟨p0', ep0, p0a, p0b⟩ := hp.at_ (show 0 < 12 by omega)
    obtain rfl : p0' = p0 := by have := ep0.symm.trans hx0.out; injection this
    clear ep0 hx0 hf0 hp
    have hn12 : ((12 : Nat) : Int) = 12 := rfl
    go_wp2_with fail
    have m0 : 0 ≤ p0' % 6 ∧ p0' % 6 < 6 := ⟨Int.emod_nonneg _ (by omega), Int.emod_lt_of_pos _ (by omega)⟩
    generalize hq : p0' % 6 = q at m0 ⊢
    clear hq hp0
    clear o1
    obtain ⟨K, hK⟩ := Int.eq_ofNat_of_zero_le (show 0 ≤ 4 + 2 * q by omega)
    have hK1 : 4 ≤ K ∧ K ≤ 14 ∧ K % 2 = 0 := by omega
    generalize 4 + 2 * q = k at hK ⊢
    subst hK
    obtain ⟨hK1, hK2, hK3⟩ := hK1
    obtain ⟨L, hL⟩ : ∃ L : Nat, K = 2 * L := ⟨K / 2, by omega⟩
    have HL := Lib.hid hL
    have hL1 : K ≤ 2 * L := by omega
    have hL2 : 2 * L ≤ K := by omega
    clear hL hn12 hK3
    obtain ⟨h1, h2, h3, h4⟩ := heat_new (k := K) (by omega) (by omega) (by have := HL.out; omega)
    have H4 := Lib.hid (And.intro h1 (And.intro h2 (And.intro h3 h4)))
    clear h1 h2 h3 h4
    refine (iRefreshNew_c 1 K _).mono ?_
    rintro e w2 ⟨A2, n2, c2, rfl, o2, b2⟩
    rw [H4.out.2.2.1] at o2
    rw [H4.out.2.2.2]
    have szw2 := b2.size
    replace bel := bel.trans (b2.mono bel.size)
    clear b2
    go_wp2_with fail
    refine abs_call ?_
    intro W3 hW
    have szW3 : w2.heap.size + 1 ≤ W3.heap.size := by rw [hW]; simp [World.setCell]
    have szW3_ := bel.size
    replace bel : Below w.heap.size w W3 := by rw [hW]; exact (bel).alloc (by first | omega | (simp [World.setCell] <;> omega)) _
    have r : Box W3 w2.heap.size 24 #[.slice A2 n2 c2, .int .i64 (K : Int), .bool false] := by rw [hW]; exact (Box.newAt (by simp [World.setCell]))
    replace o2 : OwnH W3 w1.heap.size w2.heap.size A2 n2 c2 (List.replicate 1 0) := by rw [hW]; exact o2.alloc _
    clear hW
    refine (iRefreshHeat_c A2 n2 c2 (List.replicate 1 0) K false true _ o2.ints (by have := o2.len; simp at this; omega)).mono ?_
    rintro e w4 ⟨A4, n4, c4, rfl, o4, b4⟩
    have H5 := H4.out
    rw [H5.2.2.1, H5.2.2.2] at H5
    rw [H5.1, H5.2.1]
    clear H5 H4
    have szw4 := b4.size
    replace bel := bel.trans (b4.mono bel.size)
    replace r := r.kept b4
    replace o2 := o2.below b4
    clear b4
    go_wp2_with fail
    refine abs_code ?_
    intro W5 hW
    have szW5 : w4.heap.size + 1 ≤ W5.heap.size := by rw [hW]; simp [World.setCell]
    have szW5_ := bel.size
    replace bel : Below w.heap.size w W5 := by rw [hW]; exact (bel).alloc (by first | omega | (simp [World.setCell] <;> omega)) _
    replace r : Box W5 w2.heap.size 24 #[.slice A2 n2 c2, .int .i64 (K : Int), .bool false] := by rw [hW]; exact r.alloc _
    have h : Box W5 w4.heap.size 24 #[.slice A4 n4 c4, .int .i64 ((K : Int) / 2), .bool true] := by rw [hW]; exact (Box.newAt (by simp [World.setCell]))
    replace o2 : OwnH W5 w1.heap.size w2.heap.size A2 n2 c2 (List.replicate 1 0) := by rw [hW]; exact o2.alloc _
    replace o4 : OwnH W5 W3.heap.size w4.heap.size A4 n4 c4 (List.replicate 1 0) := by rw [hW]; exact o4.alloc _
    clear hW
    have hkl : (K : Int) / 2 = (L : Int) := by omega
    rw [hkl] at h
    clear hkl
    have r0 : Box W5 w2.heap.size 24 #[.slice A2 n2 c2, .int .i64 (K : Int), .bool false] := r
    go_loopw [8] (fun i wr => ∃ (j : Nat) (B : Option Addr) (m d : Nat) (C : Option Addr) (m' d' lo hi lo' hi' : Nat) (xs ys : List Int) (s1 s2 : Int), j ≤ 2 * K ∧ i = .int .i64 j ∧ Below w.heap.size w wr ∧ Box wr w2.heap.size 24 #[.slice B m d, .int .i64 s1, .bool false] ∧ OwnH wr lo hi B m d xs ∧
      Box wr w4.heap.size 24 #[.slice C m' d', .int .i64 s2, .bool true] ∧ OwnH wr lo' hi' C m' d' ys ∧ w4.heap.size < wr.heap.size ∧
      (w2.heap.size < lo ∨ hi ≤ w2.heap.size) ∧ (w4.heap.size < lo ∨ hi ≤ w4.heap.size) ∧ (w2.heap.size < lo' ∨ hi' ≤ w2.heap.size) ∧ (w4.heap.size < lo' ∨ hi' ≤ w4.heap.size) ∧
      Hid (xs = List.replicate 1 ((j / K : Nat) : Int) ∧ s1 = (K : Int) - ((j % K : Nat) : Int) ∧ ys = List.replicate 1 ((j / L : Nat) : Int) ∧ s2 = (L : Int) - ((j % L : Nat) : Int))) (fun i _ => 2 * K - (intOf i).toNat)
    case atStart =>
      exact ⟨0, A2, n2, c2, A4, n4, c4, w1.heap.size, w2.heap.size, W3.heap.size, w4.heap.size, _, _, _, _, Nat.zero_le _, rfl, bel, r, o2, h, o4, by omega, by omega, by omega, by omega, by omega, Lib.hid ⟨by simp, by simp, by simp, by simp⟩⟩
    case round =>
      obtain ⟨j, B, m, d, C, m', d', lo, hi, lo', hi', xs, ys, s1, s2, hj, rfl, br, r', or', h', oh', sz', a1, a2, a3, a4, HX⟩ := hrel
      clear r h o2 o4 bel r0
      have ml : m ≤ 1 := by have := or'.len; rw [HX.out.1] at this; simp at this; omega
      have ml' : m' ≤ 1 := by have := oh'.len; rw [HX.out.2.2.1] at this; simp at this; omega
      by_cases hlt : j < 2 * K
      · have dk : j / K ≤ 4 := by have : j / K < 2 := Nat.div_lt_of_lt_mul (by omega); omega
        have dl : j / L ≤ 4 := by have : j / L < 4 := Nat.div_lt_of_lt_mul (by omega); omega
        have HT1 := tick_i (m := 1) (i := j) (p := K) (k := K) (t := false) (by omega) (by omega) (by omega) (by omega) (by omega) (by omega) (by simp) dk
        have HT2 := tick_i (m := 1) (i := j) (p := L) (k := K) (t := true) (by omega) (by omega) (by omega) (by omega) (by omega) (by omega) (by simp; omega) dl
        rw [← HX.out.1, ← HX.out.2.1] at HT1
        rw [← HX.out.2.2.1, ← HX.out.2.2.2] at HT2
        replace HT1 := Lib.hid HT1
        replace HT2 := Lib.hid HT2
        clear dk dl HX
        obtain ⟨r'_0, r'_1, r'_2⟩ := r'.c3
        have r'_lt := r'.lt
        have r'_f := r'.frozen
        go_wp2_with fail
        refine (iRefreshTick_c B m d xs s1 false K _ or'.ints (by omega)).mono ?_
        rintro e w6 ⟨A6, n6, c6, rfl, o6, b6⟩
        clear r'_0 r'_1 r'_2 r'_lt r'_f
        have szw6 := b6.size
        replace br := br.trans (b6.mono br.size)
        replace r' := r'.kept b6
        replace h' := h'.kept b6
        replace or' := or'.below b6
        replace oh' := oh'.below b6
        clear b6
        clear or'
        obtain ⟨r'_0, r'_1, r'_2⟩ := r'.c3
        have r'_lt := r'.lt
        obtain ⟨h'_0, h'_1, h'_2⟩ := h'.c3
        have h'_lt := h'.lt
        have r'_f := r'.frozen
        have ne24 : w2.heap.size ≠ w4.heap.size := by omega
        have ne42 : w4.heap.size ≠ w2.heap.size := by omega
        go_wp2_with fail
        refine abs_call ?_
        intro W7 hW
        clear r'_0 r'_1 r'_2 r'_lt h'_0 h'_1 h'_2 h'_lt r'_f
        have szW7 : w6.heap.size ≤ W7.heap.size := by rw [hW]; simp [World.setCell]
        have szW7_ := br.size
        replace br : Below w.heap.size w W7 := by rw [hW]; exact (((br).setCell (by dsimp only; omega) _).setCell (by dsimp only; omega) _).setCell (by dsimp only; omega) _
        replace r' : Box W7 w2.heap.size 24 #[.slice A6 n6 c6, .int .i64 (tickS xs s1 false K), .bool false] := by rw [hW]; exact (((r').set_ 0 _).set_ 1 _).set_ 2 _
        replace h' : Box W7 w4.heap.size 24 #[.slice C m' d', .int .i64 s2, .bool true] := by rw [hW]; exact (((h').far (by dsimp only; omega) _).far (by dsimp only; omega) _).far (by dsimp only; omega) _
        replace oh' : OwnH W7 lo' hi' C m' d' ys := by rw [hW]; exact (((oh').setCell _ _ (by dsimp only; omega)).setCell _ _ (by dsimp only; omega)).setCell _ _ (by dsimp only; omega)
        replace o6 : OwnH W7 wr.heap.size w6.heap.size A6 n6 c6 (tickZ xs s1 K) := by rw [hW]; exact (((o6).setCell _ _ (by dsimp only; omega)).setCell _ _ (by dsimp only; omega)).setCell _ _ (by dsimp only; omega)
        clear hW
        refine (iRefreshTick_c C m' d' ys s2 true K _ oh'.ints (by omega)).mono ?_
        rintro e w8 ⟨A8, n8, c8, rfl, o8, b8⟩
        have szw8 := b8.size
        replace br := br.trans (b8.mono br.size)
        replace r' := r'.kept b8
        replace h' := h'.kept b8
        replace oh' := oh'.below b8
        replace o6 := o6.below b8
        clear b8
        clear oh'
        obtain ⟨r'_0, r'_1, r'_2⟩ := r'.c3
        have r'_lt := r'.lt
        obtain ⟨h'_0, h'_1, h'_2⟩ := h'.c3
        have h'_lt := h'.lt
        have r'_f := r'.frozen
        have h'_f := h'.frozen
        go_wp2_with fail
        clear r'_0 r'_1 r'_2 r'_lt h'_0 h'_1 h'_2 h'_lt r'_f h'_f
        clear ne24 ne42
        go_roundw
        case rel =>
          refine ⟨j + 1, A6, n6, c6, A8, n8, c8, wr.heap.size, w6.heap.size, W7.heap.size, w8.heap.size, _, _, _, _, by omega, by go_num, ?_, ?_, ?_, ((h'.set_ 0 _).set_ 1 _).set_ 2 _, ?_, by simp [World.setCell]; omega, by omega, by omega, by omega, by omega, Lib.hid ⟨HT1.out.1, HT1.out.2, HT2.out.1, HT2.out.2⟩⟩
          · exact (((br).setCell (by dsimp only; omega) _).setCell (by dsimp only; omega) _).setCell (by dsimp only; omega) _
          · exact (((r').far (by dsimp only; omega) _).far (by dsimp only; omega) _).far (by dsimp only; omega) _
          · exact (((o6).setCell _ _ (by dsimp only; omega)).setCell _ _ (by dsimp only; omega)).setCell _ _ (by dsimp only; omega)
          · exact (((o8).setCell _ _ (by dsimp only; omega)).setCell _ _ (by dsimp only; omega)).setCell _ _ (by dsimp only; omega)
        case measure => simp [intOf]; omega
      · obtain rfl : j = 2 * K := by omega
        have e1 : 2 * K / K = 2 := Nat.mul_div_cancel _ (by omega)
        have e2 : 2 * K / L = 4 := by rw [HL.out, show 2 * (2 * L) = 4 * L by omega]; exact Nat.mul_div_cancel _ (by omega)
        have e4 : (2 * K) % L = 0 := by rw [HL.out, show 2 * (2 * L) = 4 * L by omega]; exact Nat.mul_mod_left _ _
        rw [e1, e2, e4] at HX
        obtain ⟨x1, x2, x3, x4⟩ := HX.out
        clear e1 e2 e4 HX
        subst x1 x3 x4
        have HS2 := Lib.hid x2
        clear x2
        have m1 : 1 = m := by have := or'.len; simpa using this
        have m2 : 1 = m' := by have := oh'.len; simpa using this
        subst m1 m2
        obtain ⟨g1, y1, rfl, hy1, hf1, hx1, -, -⟩ := or'.at_ (show 0 < 1 by omega)
        obtain rfl : y1 = 2 := by have := hx1.out; simpa using this.symm
        obtain ⟨g2, y2, rfl, hy2, hf2, hx2, -, -⟩ := oh'.at_ (show 0 < 1 by omega)
        obtain rfl : y2 = 4 := by have := hx2.out; simpa using this.symm
        clear hx1 hx2 hf1 hf2
        obtain ⟨r'_0, r'_1, r'_2⟩ := r'.c3
        have r'_lt := r'.lt
        obtain ⟨h'_0, h'_1, h'_2⟩ := h'.c3
        have h'_lt := h'.lt
        go_wp2_with fail
        refine (iUrgentBanks_c (some ⟨g2, 0, none⟩) 1 d' (List.replicate 1 4) _ true _ oh'.ints (by omega)).mono ?_
        rintro e w9 ⟨A9, n9, c9, rfl, o9, b9⟩
        have n91 : n9 = 1 := by have := o9.len; rw [← this]; show (urg [4] _).length = 1; rw [urg_one (by omega) (by omega)]; rfl
        subst n91
        go_wp2
        go_ret
        exact ⟨rfl, br.trans (b9.mono br.size)⟩
end Go.Proofs.Ytkhbpfliobhmiaa
