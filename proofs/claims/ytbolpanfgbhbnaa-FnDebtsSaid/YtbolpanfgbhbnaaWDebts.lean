/-
  The walk of FnDebts.
-/
import Derived.Test.YtbolpanfgbhbnaaDraw
import Derived.Test.YtbolpanfgbhbnaaPlR
import Derived.Test.YtbolpanfgbhbnaaRefD
import Derived.Test.YtbolpanfgbhbnaaRefG
import Derived.Deep.DeepCutAuto
namespace Go.Proofs.Ytbolpanfgbhbnaa
open Go.RowKit
set_option linter.unusedSimpArgs false
set_option linter.unusedVariables false

theorem new_debts {N K : Nat} (h1 : 1 ≤ N) (h2 : N ≤ 8) (h3 : 2 ≤ K) (h4 : K ≤ 11) : newDebt N K = List.replicate N 0 ∧ newWait N K = K ∧ newOk N K = true := by
  have a1 : inB (N : Int) 1 8 = true := inB_mk (by omega) (by omega)
  have a2 : inB (K : Int) 2 10000 = true := inB_mk (by omega) (by omega)
  unfold newDebt newWait newOk
  rw [if_pos ⟨a1, a2⟩, if_pos ⟨a1, a2⟩, a1, a2]
  exact ⟨by simp, rfl, rfl⟩
theorem done_three {N b : Nat} {s : Int} (h1 : 1 ≤ N) (h2 : N ≤ 8) (hb : b < N) (hs : 1 ≤ s) (hs2 : s ≤ 10000) :
    doneOk (List.replicate N 3) s b = true ∧ doneZ (List.replicate N 3) s b = (List.replicate N 3).set b 2 ∧ refOk ((List.replicate N 3).set b 2) s = true ∧ urg (List.replicate N 3) s = [] := by
  have hr : refOk (List.replicate N 3) s = true := refOk_rep (by omega) (by omega) h1 h2 hs hs2
  have hx : (List.replicate N (3 : Int))[b]? = some 3 := by simp [hb]
  obtain ⟨d1, d2⟩ := doneOk_t (s := s) (x := 3) (k := b) hr (inB_mk (by omega) (by simp; omega)) hx (by omega)
  refine ⟨d1, d2, refOk_mk ?_ (by simpa using h1) (by simpa using h2) hs hs2, ?_⟩
  · intro x hx
    rcases List.mem_or_eq_of_mem_set hx with h | h
    · have := List.eq_of_mem_replicate h; omega
    · omega
  · unfold urg urgTo
    rw [if_pos hr, List.filterMap_eq_nil_iff]
    intro i hi
    rw [List.mem_range] at hi
    have : (List.replicate N (3 : Int)).getD i 0 = 3 := by simp at hi; simp [List.getD_eq_getElem?_getD, hi]
    rw [this, if_neg (by omega)]

set_option maxRecDepth 100000 in
set_option maxHeartbeats 8000000 in
theorem fnDebts_walk (A : Option Addr) (n c : Nat) (zs : List Int) (w : World) (hA : Bytes w A n zs) (hn : n ≤ maxLen) :
    Calls Try.prog 3 #[.slice A n c] w fun e w' => e = .returned (.bool true) ∧ Below w.heap.size w w' := by
  by_cases hb : 1048576 < n
  · have hd : decide (1048576 < n) = true := by simpa using hb
    go_enter Try.func3, Try.ntmps3
    go_wp2_with (go_at_call 15; refine (big_c A n c _ hn).mono ?_; rintro e w' ⟨rfl, rfl⟩)
    go_ret
    exact ⟨rfl, Below.refl _ _⟩
  · have hd : decide (1048576 < n) = false := by simpa using hb
    have bel : Below w.heap.size w w := Below.refl _ _
    go_enter Try.func3, Try.ntmps3
    go_wp2_with (first | (go_at_call 15; refine (big_c A n c _ hn).mono ?_; rintro e w' ⟨rfl, rfl⟩) | fail)
    refine (drawPlaces_c A n c zs _ hA hn).mono ?_
    rintro e w1 ⟨p, hp, A1, n1, c1, rfl, o1, b1⟩
    have szw1 := b1.size
    replace bel := bel.trans (b1.mono bel.size)
    clear b1
    obtain ⟨gp, hgp, P⟩ := places_at hp o1
    obtain ⟨rfl, rfl, gp1, gp2⟩ := hgp
    obtain ⟨p0, p1, p2, p3, hp0, hp1, hp2, hp3, ⟨p0a, p0b⟩, ⟨p1a, p1b⟩, ⟨p2a, p2b⟩, -⟩ := P
    have HP := Lib.hid hp
    clear hp
    go_wp2_with fail
    have m0 : 0 ≤ p0 % 8 ∧ p0 % 8 < 8 := ⟨Int.emod_nonneg _ (by omega), Int.emod_lt_of_pos _ (by omega)⟩
    have m1 : 0 ≤ p1 % 10 ∧ p1 % 10 < 10 := ⟨Int.emod_nonneg _ (by omega), Int.emod_lt_of_pos _ (by omega)⟩
    generalize p0 % 8 = q0 at m0 ⊢
    generalize p1 % 10 = q1 at m1 ⊢
    obtain ⟨N, hN⟩ := Int.eq_ofNat_of_zero_le (show 0 ≤ 1 + q0 by omega)
    obtain ⟨K, hK⟩ := Int.eq_ofNat_of_zero_le (show 0 ≤ 2 + q1 by omega)
    have hN1 : 1 ≤ N ∧ N ≤ 8 := by omega
    have hK1 : 2 ≤ K ∧ K ≤ 11 := by omega
    generalize 1 + q0 = nn at hN ⊢
    generalize 2 + q1 = kk at hK ⊢
    subst hN hK
    obtain ⟨hN1, hN2⟩ := hN1
    obtain ⟨hK1, hK2⟩ := hK1
    have H4 := Lib.hid (new_debts hN1 hN2 hK1 hK2)
    clear hp0 hp1 hp3
    refine (iRefreshNew_c N K _).mono ?_
    rintro e w2 ⟨A2, n2, c2, rfl, o2, b2⟩
    rw [H4.out.1] at o2
    rw [H4.out.2.1, H4.out.2.2]
    have szw2 := b2.size
    replace bel := bel.trans (b2.mono bel.size)
    replace o1 := o1.below b2
    clear b2
    go_wp2_with fail
    refine abs_code ?_
    intro W3 hW
    have szW3 : w2.heap.size + 1 ≤ W3.heap.size := by rw [hW]; simp [World.setCell]
    have szW3_ := bel.size
    replace bel : Below w.heap.size w W3 := by rw [hW]; exact (bel).alloc (by first | omega | (simp [World.setCell] <;> omega)) _
    have r : Box W3 w2.heap.size 27 #[.slice A2 n2 c2, .int .i64 (K : Int), .bool false] := by rw [hW]; exact (Box.newAt (by simp [World.setCell]))
    replace o1 : OwnH W3 w.heap.size w1.heap.size (some ⟨gp, 0, none⟩) 12 c1 p := by rw [hW]; exact o1.alloc _
    replace o2 : OwnH W3 w1.heap.size w2.heap.size A2 n2 c2 (List.replicate N 0) := by rw [hW]; exact o2.alloc _
    clear hW
    go_loopw [8] (fun i wr => ∃ (j : Nat) (B : Option Addr) (m d lo hi : Nat) (xs : List Int) (s1 : Int), j ≤ 3 * K ∧ i = .int .i64 j ∧ Below w.heap.size w wr ∧ Box wr w2.heap.size 27 #[.slice B m d, .int .i64 s1, .bool false] ∧ OwnH wr lo hi B m d xs ∧ OwnH wr w.heap.size w1.heap.size (some ⟨gp, 0, none⟩) 12 c1 p ∧ w2.heap.size < wr.heap.size ∧
      (w2.heap.size < lo ∨ hi ≤ w2.heap.size) ∧ Hid (xs = List.replicate N ((j / K : Nat) : Int) ∧ s1 = (K : Int) - ((j % K : Nat) : Int))) (fun i _ => 3 * K - (intOf i).toNat)
    case atStart =>
      exact ⟨0, A2, n2, c2, w1.heap.size, w2.heap.size, _, _, Nat.zero_le _, rfl, bel, r, o2, o1, by omega, by omega, Lib.hid ⟨by simp, by simp⟩⟩
    case round =>
      obtain ⟨j, B, m, d, lo, hi, xs, s1, hj, rfl, br, r', or', op', sz', a1, HX⟩ := hrel
      clear r o2 bel o1
      have ml : m = N := by have := or'.len; rw [HX.out.1] at this; simp at this; omega
      subst ml
      by_cases hlt : j < 3 * K
      · have dk : j / K ≤ 4 := by have : j / K < 3 := Nat.div_lt_of_lt_mul (by omega); omega
        have HT1 := tick_i (m := m) (i := j) (p := K) (k := K) (t := false) (by omega) (by omega) (by omega) (by omega) (by omega) (by omega) (by simp) dk
        rw [← HX.out.1, ← HX.out.2] at HT1
        replace HT1 := Lib.hid HT1
        clear dk HX
        obtain ⟨r'_0, r'_1, r'_2⟩ := r'.c3
        have r'_lt := r'.lt
        have r'_f := r'.frozen
        go_wp2_with fail
        refine (iRefreshTick_c B m d xs s1 false K _ or'.ints (by omega)).mono ?_
        rintro e w6 ⟨A6, n6, c6, rfl, o6, b6⟩
        clear r'_0 r'_1 r'_2 r'_lt r'_f
        have szw6 := b6.size
        replace br := br.trans (b6.mono br.size)
        replace r' := r'.kept b6
        replace or' := or'.below b6
        replace op' := op'.below b6
        clear b6
        clear or'
        obtain ⟨r'_0, r'_1, r'_2⟩ := r'.c3
        have r'_lt := r'.lt
        have r'_f := r'.frozen
        go_wp2_with fail
        clear r'_0 r'_1 r'_2 r'_lt r'_f
        go_roundw
        case rel =>
          refine ⟨j + 1, A6, n6, c6, wr.heap.size, w6.heap.size, _, _, by omega, by go_num, ?_, ((r'.set_ 0 _).set_ 1 _).set_ 2 _, ?_, ?_, by simp [World.setCell]; omega, by omega, Lib.hid ⟨HT1.out.1, HT1.out.2⟩⟩
          · exact (((br.setCell (by dsimp only; omega) _).setCell (by dsimp only; omega) _).setCell (by dsimp only; omega) _)
          · exact (((o6.setCell _ _ (by dsimp only; omega)).setCell _ _ (by dsimp only; omega)).setCell _ _ (by dsimp only; omega))
          · exact (((op'.setCell _ _ (by dsimp only; omega)).setCell _ _ (by dsimp only; omega)).setCell _ _ (by dsimp only; omega))
        case measure => simp [intOf]; omega
      · obtain rfl : j = 3 * K := by omega
        have e1 : 3 * K / K = 3 := Nat.mul_div_cancel _ (by omega)
        have e2 : 3 * K % K = 0 := Nat.mul_mod_left _ _
        rw [e1, e2] at HX
        obtain ⟨x1, x2⟩ := HX.out
        clear e1 e2 HX
        subst x1
        have hs1 : 1 ≤ s1 ∧ s1 ≤ 10000 := by rw [x2]; omega
        clear x2
        obtain ⟨hs1, hs2⟩ := hs1
        have nm : ((m : Int) != (m : Int)) = false := by simp
        obtain ⟨r'_0, r'_1, r'_2⟩ := r'.c3
        have r'_lt := r'.lt
        go_wp2_with fail
        go_loop [9] (fun i => ∃ (j : Nat), j ≤ m ∧ i = .int .i64 j) (fun i => m - (intOf i).toNat)
        case atStart => exact ⟨0, Nat.zero_le _, rfl⟩
        case round =>
          obtain ⟨j, hj, rfl⟩ := hrel
          by_cases hlt : j < m
          · obtain ⟨g1, y1, rfl, hy1, hf1, hx1, -, -⟩ := or'.at_ hlt
            obtain rfl : y1 = 3 := by have := hx1.out; simp [hlt] at this; exact this.symm
            clear hx1 hf1
            go_wp2
            go_round
            case rel => exact ⟨j + 1, by omega, by go_num⟩
            case measure => simp [intOf]; omega
          · obtain rfl : m = j := by omega
            clear hj hlt
            obtain ⟨gp', hgp', P'⟩ := places_at HP.out op'
            obtain ⟨rfl, -, -, -⟩ : gp' = gp ∧ True ∧ True ∧ True := by have := hgp'.1; injection this with this; injection this with this; exact ⟨this.symm, trivial, trivial, trivial⟩
            obtain ⟨y0, y1, y2, y3, -, -, hy2, -, -, -, ⟨y2a, y2b⟩, -⟩ := P'
            clear hgp' hp2
            have hbm : 0 ≤ y2 % (m : Int) ∧ y2 % (m : Int) < m := ⟨Int.emod_nonneg _ (by omega), Int.emod_lt_of_pos _ (by omega)⟩
            obtain ⟨b, hbb⟩ := Int.eq_ofNat_of_zero_le hbm.1
            have hbl : b < m := by omega
            have etm : y2.tmod (m : Int) = (b : Int) := by rw [Int.tmod_eq_emod_of_nonneg (by omega)]; exact hbb
            clear hbm
            have HD := Lib.hid (done_three hN1 hN2 hbl hs1 hs2)
            go_wp2_with fail
            have m00 : (0 : Int) < (m : Int) := by omega
            have m01 : (m : Int) ≠ 0 := by omega
            have m02 : m ≠ 0 := by omega
            have g'lt : gp' < wr.heap.size := by omega
            have hS : ∀ Y : World, Below wr.heap.size wr Y → (Y.cell? ⟨w2.heap.size, 0, none⟩ = some (.slice B m d) ∧ Y.cell? ⟨w2.heap.size, 1, none⟩ = some (.int .i64 s1) ∧ Y.cell? ⟨w2.heap.size, 2, none⟩ = some (.bool false) ∧ Y.cell? ⟨gp', 2, none⟩ = some (.int .i64 y2)) :=
              fun Y hY => ⟨(hY.cell (p := ⟨w2.heap.size, 0, none⟩) r'_lt).trans r'_0, (hY.cell (p := ⟨w2.heap.size, 1, none⟩) r'_lt).trans r'_1, (hY.cell (p := ⟨w2.heap.size, 2, none⟩) r'_lt).trans r'_2, (hY.cell (p := ⟨gp', 2, none⟩) g'lt).trans hy2⟩
            go_cut [10, 11] (fun s10 s11 wx => ∃ (u : Nat) (A6 : Option Addr) (n6 c6 lo hi : Nat), s10 = .pointer (some ⟨u, 0, none⟩) ∧ s11 = .bool true ∧ wr.heap.size ≤ u ∧ Box wx u 27 #[.slice A6 n6 c6, .int .i64 s1, .bool false] ∧ OwnH wx lo hi A6 n6 c6 ((List.replicate m 3).set b 2) ∧ Below wr.heap.size wr wx)
            case first =>
              go_region_held3 (fun W' => W'.cell? ⟨w2.heap.size, 0, none⟩ = some (.slice B m d) ∧ W'.cell? ⟨w2.heap.size, 1, none⟩ = some (.int .i64 s1) ∧ W'.cell? ⟨w2.heap.size, 2, none⟩ = some (.bool false) ∧ W'.cell? ⟨gp', 2, none⟩ = some (.int .i64 y2))
                (first | (with_reducible exact hS _ (Below.refl _ _)) | (with_reducible exact hS _ hbt1) | (with_reducible exact hS _ (lat_d (Below.refl _ _))) | (with_reducible exact hS _ (lat_a (Below.refl _ _))) | (with_reducible exact hS _ (lat_a hbt1)) | (with_reducible exact hS _ (lat_ad (Below.refl _ _))) | (with_reducible exact hS _ (lat_s3 hbt1 (Nat.le_refl _))) | (with_reducible exact hS _ (lat_s3 (lat_a hbt1) hbt1.size)) | fail)
                (first | (go_at_call 19; refine (iRefreshDone_c B m d (List.replicate m 3) s1 false b _ (by first | exact or'.ints | exact (or'.alloc _).ints) (by omega)).mono ?_; rintro e w6 ⟨A6, n6, c6, rfl, o6, b6'⟩; rw [HD.out.1]; rw [HD.out.2.1] at o6; have hbt1 : Below wr.heap.size wr w6 := (by first | exact ⟨b6'.os, b6'.tape, b6'.output, b6'.size, b6'.block⟩ | exact below_after_alloc_d b6' | exact below_after_alloc (.cells #[.slice none 0 0, .int .i64 0, .bool false] 27) ⟨b6'.os, b6'.tape, b6'.output, b6'.size, b6'.block⟩); (first | (have bx : Box w6 wr.heap.size 27 #[.slice none 0 0, .int .i64 0, .bool false] := (by first | with_reducible exact box_after_alloc_d b6' | exact box_after_alloc ⟨b6'.os, b6'.tape, b6'.output, b6'.size, b6'.block⟩)) | skip); (try (obtain ⟨bx1_0, bx1_1, bx1_2⟩ := bx.c3; have bxf := bx.frozen; have bxl := bx.lt))) | fail)
              all_goals
                go_wp2_with fail
                go_meet
                first
                | (with_reducible exact ⟨_, A6, n6, c6, _, _, rfl, rfl, hbt1.size, Box.new _ _ _, o6.alloc _, lat_a hbt1⟩)
                | exact ⟨_, A6, n6, c6, _, _, rfl, rfl, Nat.le_refl _, box_s3 bx, ((o6.setCell _ _ (.inl (by simp <;> omega))).setCell _ _ (.inl (by simp <;> omega))).setCell _ _ (.inl (by simp <;> omega)), lat_s3 hbt1 (Nat.le_refl _)⟩
            case rest =>
              obtain ⟨u, A6, n6, c6, lo6, hi6, rfl, rfl, hu, q', o6, bq⟩ := hcut
              obtain ⟨W9, hW9⟩ : ∃ v : World, wc = v := ⟨_, rfl⟩
              subst hW9
              have p2W : wc.cell? ⟨gp', 2, none⟩ = some (.int .i64 y2) := (hS _ bq).2.2.2
              have rW := r'.kept bq
              have oW := or'.below bq
              have szu := bq.size
              have bel9 : Below w.heap.size w wc := br.trans (bq.mono br.size)
              clear hS r'_0 r'_1 r'_2 r'_lt hy2 r' or'
              have n6m : m = n6 := by have := o6.len; simp at this; omega
              subst n6m
              obtain ⟨-, g5, eg5, -, g5lt⟩ := o6.1.form (show 0 < m by omega)
              subst eg5
              obtain ⟨g6, x6, eg6, hc6, hf6, hx6, -, -⟩ := o6.at_ hbl
              obtain rfl : g5 = g6 := by injection eg6 with e; injection e
              clear eg6
              obtain rfl : x6 = 2 := by have := hx6.out; simp [hbl] at this; exact this.symm
              clear hx6 hf6
              obtain ⟨q_0, q_1, q_2⟩ := q'.c3
              obtain ⟨r_0, r_1, r_2⟩ := rW.c3
              have q_lt := q'.lt
              have r_lt := rW.lt
              have b00 : (0 : Int) ≤ (b : Int) := by omega
              have b01 : (b : Int) < (m : Int) := by omega
              have e1 : ((m : Int) == (m : Int)) = true := by simp
              have m6 : m ≤ 1048576 := by omega
              have gpc : gp' < wc.heap.size := by omega
              go_wp2_with fail
              have hS : ∀ Y : World, Below wc.heap.size wc Y → (Y.cell? ⟨u, 0, none⟩ = some (.slice (some ⟨g5, 0, none⟩) m c6) ∧ Y.cell? ⟨u, 1, none⟩ = some (.int .i64 s1) ∧ Y.cell? ⟨u, 2, none⟩ = some (.bool false) ∧ Y.cell? ⟨w2.heap.size, 0, none⟩ = some (.slice B m d) ∧ Y.cell? ⟨w2.heap.size, 1, none⟩ = some (.int .i64 s1) ∧ Y.cell? ⟨w2.heap.size, 2, none⟩ = some (.bool false) ∧ Y.cell? ⟨gp', 2, none⟩ = some (.int .i64 y2) ∧ Y.cell? ⟨g5, b, none⟩ = some (.int .i64 2)) := fun Y hY => ⟨(hY.cell (p := ⟨u, 0, none⟩) q_lt).trans q_0, (hY.cell (p := ⟨u, 1, none⟩) q_lt).trans q_1, (hY.cell (p := ⟨u, 2, none⟩) q_lt).trans q_2, (hY.cell (p := ⟨w2.heap.size, 0, none⟩) r_lt).trans r_0, (hY.cell (p := ⟨w2.heap.size, 1, none⟩) r_lt).trans r_1, (hY.cell (p := ⟨w2.heap.size, 2, none⟩) r_lt).trans r_2, (hY.cell (p := ⟨gp', 2, none⟩) gpc).trans p2W, (hY.cell (p := ⟨g5, b, none⟩) g5lt).trans hc6⟩
              go_region_held3 (fun Y => Y.cell? ⟨u, 0, none⟩ = some (.slice (some ⟨g5, 0, none⟩) m c6) ∧ Y.cell? ⟨u, 1, none⟩ = some (.int .i64 s1) ∧ Y.cell? ⟨u, 2, none⟩ = some (.bool false) ∧ Y.cell? ⟨w2.heap.size, 0, none⟩ = some (.slice B m d) ∧ Y.cell? ⟨w2.heap.size, 1, none⟩ = some (.int .i64 s1) ∧ Y.cell? ⟨w2.heap.size, 2, none⟩ = some (.bool false) ∧ Y.cell? ⟨gp', 2, none⟩ = some (.int .i64 y2) ∧ Y.cell? ⟨g5, b, none⟩ = some (.int .i64 2))
                (first | (with_reducible exact hS _ (Below.refl _ _)) | (with_reducible exact hS _ (lat_d (Below.refl _ _))) | (with_reducible exact hS _ hbt1) | (with_reducible exact hS _ hbt2) | fail)
                (first | (go_at_call 20; refine (iRefreshOk_c _ m _ ((List.replicate m 3).set b 2) s1 false _ (by first | exact o6.ints) m6).mono ?_; rintro e w7 ⟨rfl, b7'⟩; rw [HD.out.2.2.1]; have hbt1 : Below wc.heap.size wc w7 := (by first | exact below_after_d b7' | exact b7'); have oR := oW.below hbt1) | (go_at_call 21; refine (iUrgentBanks_c B m d (List.replicate m 3) s1 false _ (by exact oR.ints) m6).mono ?_; rintro e w8 ⟨A8, n8, c8, rfl, o8, b8'⟩; have hn8 : n8 = 0 := (by have := o8.len; rw [HD.out.2.2.2] at this; simpa using this.symm); subst hn8; have hbt2 : Below wc.heap.size wc w8 := hbt1.trans (b8'.mono hbt1.size)) | fail)
              go_wp2
              go_ret
              exact ⟨rfl, bel9.trans (hbt2.mono bel9.size)⟩
end Go.Proofs.Ytbolpanfgbhbnaa
