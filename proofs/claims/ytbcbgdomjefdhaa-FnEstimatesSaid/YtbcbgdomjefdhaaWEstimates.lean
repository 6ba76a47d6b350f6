/-
  The walk of FnEstimates.
-/
import Derived.Test.YtbcbgdomjefdhaaPatD
import Derived.Test.YtbcbgdomjefdhaaPlc
import Derived.Test.YtbcbgdomjefdhaaTkA
import Derived.Test.YtbcbgdomjefdhaaTkC
import Derived.Deep.DeepCutAuto
namespace Go.Proofs.Ytbcbgdomjefdhaa
open Go.RowKit
set_option linter.unusedSimpArgs false
set_option linter.unusedVariables false

theorem tn_K {K : Nat} (h1 : 1 ≤ K) (h2 : K ≤ 16) : tnR (K : Int) = List.replicate K (-1) ∧ tnC (K : Int) = List.replicate K 0 ∧ inB (K : Int) 1 16 = true := by
  have h := inB_mk (x := (K : Int)) (lo := 1) (hi := 16) (by omega) (by omega)
  unfold tnR tnC
  rw [if_pos h, if_pos h, h]
  exact ⟨by simp, by simp, rfl⟩
theorem take_sum_le {l : List Int} (h : ∀ (i : Nat) (y : Int), l[i]? = some y → 0 ≤ y) (k : Nat) : 0 ≤ (l.take k).sum ∧ (l.take k).sum ≤ l.sum := by
  induction l generalizing k with
  | nil => simp
  | cons a l ih =>
    have h0 := h 0 a rfl
    have ih' := ih (fun i y hy => h (i + 1) y hy)
    cases k with
    | zero =>
      have := (ih' l.length)
      rw [List.take_length] at this
      simp only [List.take_zero, List.sum_nil, List.sum_cons]
      omega
    | succ k =>
      have := ih' k
      simp only [List.take_succ_cons, List.sum_cons]
      omega
theorem take_sum_succ {l : List Int} {k : Nat} {y : Int} (h : l[k]? = some y) : (l.take (k + 1)).sum = (l.take k).sum + y := by
  rw [take_snoc h, List.sum_append]; simp
theorem ints_two (w : World) (t : TypeId) : Ints (w.alloc (.cells #[.int .i64 2, .int .i64 2] t)) (some ⟨w.heap.size, 0, none⟩) 2 [2, 2] := by
  have b := Box.new w t #[.int .i64 2, .int .i64 2]
  refine ⟨rfl, fun _ => ⟨w.heap.size, 0, rfl, b.lt, fun j hj => ?_⟩⟩
  rw [Nat.zero_add]
  obtain ⟨c0, c1⟩ := b.c2
  obtain rfl | rfl : j = 0 ∨ j = 1 := by omega
  · exact c0
  · exact c1
theorem cnt_two : cnt [2, 2] 2 = 2 := by decide
/-- What the law asks of the tracker at the end. -/
theorem est_end {rs cs zs : List Int} {s : Int} {K : Nat} (h : Est rs cs s zs K) (h1 : 1 ≤ K) (h2 : K ≤ 5) (hz : zs.length ≤ 60) :
    tokOk rs cs s = true ∧ s + cs.sum = zs.length ∧ (0 ≤ s * ((K : Int) + 1) ∧ s * ((K : Int) + 1) ≤ zs.length) ∧ (∀ (i : Nat) (y : Int), cs[i]? = some y → 0 ≤ y ∧ y ≤ 60) ∧ 0 ≤ s ∧ s ≤ 60 := by
  have hs := h.sle
  refine ⟨h.ok h1 (by omega) (by omega), h.sum, ⟨Int.mul_nonneg hs.1 (by omega), h.sp⟩, fun i y hy => ?_, hs.1, by omega⟩
  have := h.cle hy
  omega
theorem tcount_hi {rs cs zs : List Int} {s : Int} {K : Nat} (h : Est rs cs s zs K) (r : Int) : 0 ≤ tcount rs cs s r := by
  have hs := h.sle
  unfold tcount
  split
  · rename_i hm
    obtain ⟨y, hy⟩ := get_some hm.2
    rw [getD_of hy]
    have := h.cle hy
    omega
  · exact hs.1

set_option maxRecDepth 100000 in
set_option maxHeartbeats 8000000 in
theorem fnEstimates_walk (A : Option Addr) (n c : Nat) (zs : List Int) (w : World) (hA : Bytes w A n zs) (hn : n ≤ maxLen) :
    Calls Try.prog 14 #[.slice A n c] w fun e w' => e = .returned (.bool true) ∧ Below w.heap.size w w' := by
  by_cases hb : 1048576 < n
  · have hd : decide (1048576 < n) = true := by simpa using hb
    go_enter Try.func14, Try.ntmps14
    go_wp2_with (go_at_call 15; refine (big_c A n c _ hn).mono ?_; rintro e w' ⟨rfl, rfl⟩)
    go_ret
    exact ⟨rfl, Below.refl _ _⟩
  · have hd : decide (1048576 < n) = false := by simpa using hb
    have bel : Below w.heap.size w w := Below.refl _ _
    go_enter Try.func14, Try.ntmps14
    go_wp2_with (first | (go_at_call 15; refine (big_c A n c _ hn).mono ?_; rintro e w' ⟨rfl, rfl⟩) | fail)
    refine (drawPattern_c A n c zs _ hA hn).mono ?_
    rintro e w1 ⟨R, A1, n1, c1, ps, hR1, hR2, rfl, o1, hp1, b1⟩
    have szw1 := b1.size
    replace bel := bel.trans (b1.mono bel.size)
    clear b1
    have HP1 := Lib.hid hp1
    have hn60 : n1 ≤ 60 := by have := o1.len; have := hp1.1; omega
    clear hp1
    go_wp2_with fail
    refine (drawPlaces_c A n c zs _ (hA.below bel) hn).mono ?_
    rintro e w3 ⟨p, hp, A2, n2, c2, rfl, o2, b3⟩
    have szw3 := b3.size
    replace bel := bel.trans (b3.mono bel.size)
    replace o1 := o1.below b3
    clear b3
    have hn12 : n2 = 12 := by rw [← o2.len]; exact hp.1
    subst hn12
    obtain ⟨z0, hz0, z0a, z0b⟩ := hp.at_ (show 0 < 12 by omega)
    obtain ⟨z1, hz1, z1a, z1b⟩ := hp.at_ (show 1 < 12 by omega)
    obtain ⟨gp, x0, eg, -, -, -, gp1, gp2⟩ := o2.at_ (show 0 < 12 by omega)
    subst eg
    have cp0 := place_cell o2 (show 0 < 12 by omega) hz0
    have cp1 := place_cell o2 (show 1 < 12 by omega) hz1
    clear hp hz0 hz1
    have m0 : 0 ≤ z0 % 5 ∧ z0 % 5 < 5 := ⟨Int.emod_nonneg _ (by omega), Int.emod_lt_of_pos _ (by omega)⟩
    go_wp2_with fail
    generalize z0 % 5 = q0 at m0 ⊢
    obtain ⟨K, hK⟩ := Int.eq_ofNat_of_zero_le (show 0 ≤ 1 + q0 by omega)
    have K1 : 1 ≤ K := by omega
    have K5 : K ≤ 5 := by omega
    generalize 1 + q0 = kk at hK ⊢
    subst hK
    clear m0
    have HTN := Lib.hid (tn_K K1 (by omega))
    refine (iTrackerNew_c (K : Int) _).mono ?_
    rintro e w5 ⟨A5, n5, c5, B5, m5, d5, l1, h1, l2, h2, rfl, o5, q5, ⟨ha1, ha2, ha3, ha4, hsep⟩, b5⟩
    rw [HTN.out.1] at o5
    rw [HTN.out.2.1] at q5
    rw [HTN.out.2.2]
    have en5 : n5 = K := by have := o5.len; simp at this; omega
    have em5 : m5 = K := by have := q5.len; simp at this; omega
    subst en5
    subst em5
    have szw5 := b5.size
    replace bel := bel.trans (b5.mono bel.size)
    replace o1 := o1.below b5
    replace o2 := o2.below b5
    clear b5
    go_wp2_with fail
    refine abs_code ?_
    intro W6 hW
    have szW6 : w5.heap.size + 1 ≤ W6.heap.size := by rw [hW]; simp [World.setCell]
    have szW6_ := bel.size
    replace bel : Below w.heap.size w W6 := by rw [hW]; exact (bel).alloc (by first | omega | (simp [World.setCell] <;> omega)) _
    have t : Box W6 w5.heap.size 75 #[.slice A5 m5 c5, .slice B5 m5 d5, .int .i64 0] := by rw [hW]; exact (Box.newAt (by simp [World.setCell]))
    replace o1 : OwnH W6 w.heap.size w1.heap.size A1 n1 c1 ps := by rw [hW]; exact o1.alloc _
    replace o2 : OwnH W6 w1.heap.size w3.heap.size (some ⟨gp, 0, none⟩) 12 c2 p := by rw [hW]; exact o2.alloc _
    replace o5 : OwnH W6 l1 h1 A5 m5 c5 (List.replicate m5 (-1)) := by rw [hW]; exact o5.alloc _
    replace q5 : OwnH W6 l2 h2 B5 m5 d5 (List.replicate m5 0) := by rw [hW]; exact q5.alloc _
    clear hW
    go_loopw [9] (fun i wr => ∃ (j : Nat) (A7 B7 : Option Addr) (c7 d7 l1 h1 l2 h2 : Nat) (rs cs : List Int) (s : Int), j ≤ n1 ∧ i = .int .i64 j ∧ Box wr w5.heap.size 75 #[.slice A7 m5 c7, .slice B7 m5 d7, .int .i64 s] ∧ OwnH wr l1 h1 A7 m5 c7 rs ∧ OwnH wr l2 h2 B7 m5 d7 cs ∧ Hid (Est rs cs s (ps.take j) m5) ∧ Below w.heap.size w wr ∧ OwnH wr w.heap.size w1.heap.size A1 n1 c1 ps ∧ W6.heap.size ≤ wr.heap.size ∧ (w5.heap.size < l1 ∨ h1 ≤ w5.heap.size) ∧ (w5.heap.size < l2 ∨ h2 ≤ w5.heap.size)) (fun i _ => n1 - (intOf i).toNat)
    case atStart => exact ⟨0, A5, B5, c5, d5, l1, h1, l2, h2, _, _, 0, Nat.zero_le _, rfl, t, o5, q5, Lib.hid (by rw [List.take_zero]; exact Est.new m5), bel, o1, Nat.le_refl _, by omega, by omega⟩
    case round =>
      obtain ⟨j, A7, B7, c7, d7, l1, h1, l2, h2, rs, cs, s, hj, rfl, t', o7, q7, HE, br, o1', szr, sp1, sp2⟩ := hrel
      clear t o5 q5 bel o1 o2
      by_cases hlt : j < n1
      · obtain ⟨g1, y, rfl, hy, -, hyx, gl1, gl2⟩ := o1'.at_ hlt
        have hyb := HP1.out.2 y (List.mem_of_getElem? hyx.out)
        obtain ⟨yb1, yb2⟩ := hyb
        have HN := Lib.hid (Est.next (row := y) (limit := 1000) HE.out K1 (by omega) (by have := HP1.out.1; have := List.length_take_le' j ps; omega) yb1 (by omega) (by omega) (by omega))
        have HT := Lib.hid (take_snoc hyx.out)
        clear hyx
        have i0 : (0 : Int) ≤ (j : Int) := by omega
        have i1 : (j : Int) < (n1 : Int) := by omega
        obtain ⟨t_0, t_1, t_2⟩ := t'.c3
        have t_lt := t'.lt
        go_wp2_with fail
        go_region_with ((go_at_call 53; refine (iTrackRow_c A7 B7 m5 c7 m5 d7 rs cs s y 1000 _ (by exact o7.ints) (by exact q7.ints) (by omega) (by omega)).mono ?_; rintro e w8 ⟨A8, n8, c8, B8, m8, d8, u1, v1, u2, v2, rfl, o8, q8, ⟨hb1, hb2, hb3, hb4, hsep8⟩, b8⟩; have hbt : Below wr.heap.size wr w8 := (by exact ⟨b8.os, b8.tape, b8.output, b8.size, b8.block⟩); have t8 := t'.kept hbt; have t8f := t8.frozen; have t8l := t8.lt; obtain ⟨t8_0, t8_1, t8_2⟩ := t8.c3; have o18 := o1'.below hbt))
        all_goals
          go_wp2
          go_roundw
          case rel =>
            have en8 : n8 = m5 := by have := o8.len; have := HN.out.rlen; omega
            have em8 : m8 = m5 := by have := q8.len; have := HN.out.clen; omega
            subst en8
            subst em8
            have szb := hbt.size
            have sz0 : wr.heap.size ≤ u1 := by first | exact hb1 | simpa using hb1
            have sz1 : wr.heap.size ≤ u2 := by first | exact hb3 | simpa using hb3
            refine ⟨j + 1, A8, B8, c8, d8, u1, v1, u2, v2, _, _, _, by omega, by go_num, ?_, ?_, ?_, Lib.hid (by rw [HT.out]; exact HN.out), ?_, ?_, ?_, by omega, by omega⟩
            · exact box_s3 t8
            · exact own_s3h o8 (by omega)
            · exact own_s3h q8 (by omega)
            · exact (((br.trans (hbt.mono br.size)).setCell (by dsimp only; omega) _).setCell (by dsimp only; omega) _).setCell (by dsimp only; omega) _
            · exact ((o18.setCell _ _ (by dsimp only; omega)).setCell _ _ (by dsimp only; omega)).setCell _ _ (by dsimp only; omega)
            · simp [World.setCell]; omega
          case measure => simp [intOf]; omega
      · obtain rfl : n1 = j := by omega
        have HE2 := HE.out
        rw [List.take_of_length_le (by have := o1'.len; omega)] at HE2
        clear HE hj hlt
        have HEn := Lib.hid (est_end HE2 K1 K5 HP1.out.1)
        have HE := Lib.hid HE2
        clear HE2
        refine abs_code ?_
        intro V hV
        subst hV
        go_wp2_with fail
        go_loopw [10] (fun i wr => ∃ (r : Nat), r ≤ 9 ∧ i = .int .i64 r ∧ Below V.heap.size V wr) (fun i _ => 9 - (intOf i).toNat)
        case atStart => exact ⟨0, Nat.zero_le _, rfl, Below.refl _ _⟩
        case round =>
          obtain ⟨r, hr, rfl, bv⟩ := hrel
          have t9 := t'.kept bv
          have o9 := o7.below bv
          have q9 := q7.below bv
          have p9 := o1'.below bv
          have bel9 := br.trans (bv.mono br.size)
          obtain ⟨t_0, t_1, t_2⟩ := t9.c3
          have t_lt := t9.lt
          by_cases hlr : r < 9
          · have dl : decide (tcount rs cs s (r : Int) < cnt ps (r : Int)) = false := by
              have := HE.out.count (r := (r : Int)) (by omega)
              simp; omega
            go_wp2_with (first | (go_at_call 66; refine (iTrackCount_c A7 B7 m5 c7 m5 d7 rs cs s (r : Int) _ (by exact o9.ints) (by exact q9.ints) (by omega) (by omega)).mono ?_; rintro e w10 ⟨rfl, b10⟩; have p10 := p9.below b10) | (go_at_call 62; refine (iCountRow_c A1 n1 c1 ps (r : Int) _ (by exact p10.ints) (by omega)).mono ?_; rintro e w' ⟨rfl, rfl⟩))
            go_roundw
            case rel => exact ⟨r + 1, by omega, by go_num, bv.trans (b10.mono bv.size)⟩
            case measure => simp [intOf]; omega
          · obtain rfl : r = 9 := by omega
            clear hr hlr
            have hs60 := HEn.out.2.2.2.2
            obtain ⟨s00, s60⟩ := hs60
            have HL := Lib.hid (show ps.length = n1 from p9.len)
            have HLC := Lib.hid (show cs.length = m5 from q9.len)
            go_wp2_with fail
            go_loop [11, 12] (fun v i => ∃ (k : Nat), k ≤ m5 ∧ i = .int .i64 k ∧ v = .int .i64 (s + (cs.take k).sum)) (fun _ i => m5 - (intOf i).toNat)
            case atStart => exact ⟨0, Nat.zero_le _, rfl, by simp⟩
            case round =>
              obtain ⟨k, hk, rfl, rfl⟩ := hrel
              have ts := take_sum_le (fun i y hy => (HEn.out.2.2.2.1 i y hy).1) k
              obtain ⟨ts0, ts1⟩ := ts
              have hsum : s + cs.sum = (n1 : Int) := by rw [← HL.out]; exact HEn.out.2.1
              by_cases hlk : k < m5
              · obtain ⟨gB, y, rfl, hy, -, hyx, -, -⟩ := q9.at_ hlk
                have HS := Lib.hid (take_sum_succ hyx.out)
                have hyb := HEn.out.2.2.2.1 k y hyx.out
                obtain ⟨yb1, yb2⟩ := hyb
                have k0 : (0 : Int) ≤ (k : Int) := by omega
                have k1 : (k : Int) < (m5 : Int) := by omega
                clear hyx
                generalize (cs.take k).sum = tk at ts0 ts1 HS ⊢
                generalize cs.sum = tt at ts1 hsum
                go_wp2
                go_round
                case rel => exact ⟨k + 1, by omega, by go_num, by rw [HS.out, Int.add_assoc]⟩
                case measure => simp [intOf]; omega
              · obtain rfl : m5 = k := by omega
                rw [List.take_of_length_le (by rw [HLC.out]; exact Nat.le_refl _), hsum]
                clear ts0 ts1 hk hlk
                obtain ⟨pr, hpr⟩ : ∃ pr, s * ((m5 : Int) + 1) = pr := ⟨_, rfl⟩
                have hp1 := HEn.out.2.2.1
                rw [hpr, HL.out] at hp1
                obtain ⟨hp1, hp2⟩ := hp1
                have dle : decide (pr ≤ (n1 : Int)) = true := by simpa using hp2
                go_wp2_with fail
                refine (iTrackerOk_c A7 B7 m5 c7 m5 d7 rs cs s _ (by exact o9.ints) (by exact q9.ints) (by omega) (by omega)).mono ?_
                rintro e w11 ⟨rfl, b11⟩
                rw [HEn.out.1]
                have t11 := t9.kept b11
                have bel11 := bel9.trans (b11.mono bel9.size)
                clear t_0 t_1 t_2 t_lt
                obtain ⟨t_0, t_1, t_2⟩ := t11.c3
                have t_lt := t11.lt
                go_wp2_with fail
                refine abs_call ?_
                intro W8 hW
                have b8 : Below w11.heap.size w11 W8 := by rw [hW]; exact (Below.refl _ _).alloc (Nat.le_refl _) _
                have i8 : Ints W8 (some ⟨w11.heap.size, 0, none⟩) 2 [2, 2] := by rw [hW]; exact ints_two _ _
                clear hW
                refine (iCountRow_c (some ⟨w11.heap.size, 0, none⟩) 2 2 [2, 2] 2 _ i8 (by omega)).mono ?_
                rintro e w12 ⟨rfl, rfl⟩
                rw [cnt_two]
                go_wp2
                go_ret
                exact ⟨rfl, bel11.trans (b8.mono bel11.size)⟩
end Go.Proofs.Ytbcbgdomjefdhaa
