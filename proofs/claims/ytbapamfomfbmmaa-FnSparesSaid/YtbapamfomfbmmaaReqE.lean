/-
  The contract of QueueAdd in the reference.
-/
import Derived.Test.YtbapamfomfbmmaaReqI
namespace Go.Proofs.Ytbapamfomfbmmaa
open Go.RowKit
set_option linter.unusedSimpArgs false
set_option linter.unusedVariables false

theorem RowReq.cap {w : World} {lo n c : Nat} {A : Option Addr} {rs : List Req} (h : RowReq w lo A n c rs) : n ≤ c ∧ c ≤ maxLen := OwnV.cap h
set_option maxRecDepth 100000 in
set_option maxHeartbeats 4000000 in
theorem sQueueAdd_c (lines : Int) (A : Option Addr) (n c : Nat) (rs : List Req) (id ten line : Int) (wrt : Bool) (dat att : Int) (w : World) (h : Reqs w A n rs) (hn : n ≤ 1048576) (hc : n ≤ c ∧ c ≤ maxLen) :
    Calls Try.prog 34 #[.int .i64 lines, .slice A n c, .agg #[.int .i64 id, .int .i64 ten, .int .i64 line, .bool wrt, .int .i64 dat, .int .i64 att]] w (NewReqB (addQ lines rs ⟨id, ten, line, wrt, dat, att⟩) (addOk lines rs ⟨id, ten, line, wrt, dat, att⟩) w) := by
  have bel : Below w.heap.size w w := Below.refl _ _
  have hl := Lib.hid h.len
  have HC := Lib.hid hc
  clear hc
  go_enter Try.func34, Try.ntmps34
  go_wp2
  refine abs_code ?_
  intro W3 hW
  have szW3 : w.heap.size + 1 + 1 ≤ W3.heap.size := by rw [hW]; simp [World.setCell]
  have szW3_ := bel.size
  replace bel : Below w.heap.size w W3 := by rw [hW]; exact ((bel).alloc (by first | omega | (simp [World.setCell] <;> omega)) _).alloc (by first | omega | (simp [World.setCell] <;> omega)) _
  have p : Box W3 w.heap.size 58 #[.int .i64 id, .int .i64 ten, .int .i64 line, .bool wrt, .int .i64 dat, .int .i64 att] := by rw [hW]; exact ((Box.newAt (by simp [World.setCell]))).alloc _
  clear hW
  have h3 := h.below bel
  go_loopw [8, 9, 10] (fun v b i wr => ∃ (k : Nat) (A1 : Option Addr) (m1 c1 : Nat) (pb : Bool) (xs : List Req), k ≤ n ∧ i = .int .i64 k ∧ v = .slice A1 m1 c1 ∧ b = .bool pb ∧ Hid (insTo (rs.take k) ⟨id, ten, line, wrt, dat, att⟩ = (xs, pb)) ∧ RowReq wr W3.heap.size A1 m1 c1 xs ∧ Below W3.heap.size W3 wr) (fun _ _ i _ => n - (intOf i).toNat)
  case atStart => exact ⟨0, _, 0, 0, false, [], Nat.zero_le _, rfl, rfl, rfl, rfl, RowReq.nil _ _ _, Below.refl _ _⟩
  case round =>
    obtain ⟨k, A1, m1, c1, pb, xs, hk, rfl, rfl, rfl, HX, ok, bk⟩ := hrel
    have hm1 : m1 ≤ k + 1 := by
      have h1 := ok.len
      have h2 := insTo_len (rs.take k) ⟨id, ten, line, wrt, dat, att⟩
      rw [HX.out, List.length_take] at h2
      simp only at h2
      omega
    have szk := bk.size
    have pk := p.kept bk
    by_cases hlt : k < n
    · obtain ⟨g, o, id2, ten2, line2, wrt2, dat2, att2, rfl, hg, h0, h1, h2, h3', h4, h5, hr⟩ := (h3.below bk).at_ hlt
      have HS := Lib.hid (insTo_snoc (r := ⟨id, ten, line, wrt, dat, att⟩) hr.out)
      have i1 : (0 : Int) ≤ (k : Int) := by omega
      have i2 : (k : Int) < (n : Int) := by omega
      obtain ⟨p0, p1, p2, p3, p4, p5⟩ := pk.c6
      have l0 := later_cell pk.lt p0
      have l1 := later_cell pk.lt p1
      have l2 := later_cell pk.lt p2
      have l3 := later_cell pk.lt p3
      have l4 := later_cell pk.lt p4
      have l5 := later_cell pk.lt p5
      have m0_ := later_cell hg h0
      have m1_ := later_cell hg h1
      have m2_ := later_cell hg h2
      have m3_ := later_cell hg h3'
      have m4_ := later_cell hg h4
      have m5_ := later_cell hg h5
      clear p0 p1 p2 p3 p4 p5 h0 h1 h2 h3' h4 h5
      cases pb
      · by_cases hb : befB att id att2 id2 = true
        · have HT : Hid (insTo (rs.take (k + 1)) ⟨id, ten, line, wrt, dat, att⟩ = (xs ++ [⟨id, ten, line, wrt, dat, att⟩] ++ [⟨id2, ten2, line2, wrt2, dat2, att2⟩], true)) := by unfold Hid; rw [HS.out, HX.out, insStep_yes _ (by exact hb)]
          go_wp2
          refine wp_region_later (by kernel_rfl) (by kernel_rfl) ?_
          repeat (go_big_quiet_step ((go_at_call 89; exact later_call (l19Before_c id ten line wrt dat att id2 ten2 line2 wrt2 dat2 att2 _))))
          refine wpQuiet_nil ?_
          intro Z hw'
          obtain ⟨z, hw''⟩ := hw'
          have bZ := z.bel
          rw [← hw''] at bZ
          clear hw'' z
          clear l0 l1 l2 l3 l4 l5 m0_ m1_ m2_ m3_ m4_ m5_
          have ok2 := ok.below bZ
          have bk2 := bk.trans (bZ.mono bk.size)
          have szZ := bk2.size
          have pZ := p.kept bk2
          obtain ⟨p0, p1, p2, p3, p4, p5⟩ := pZ.c6
          go_wp2_with (first | (at_builtin; refine wpList_appReq1 rfl (.tmp 28) (.tmp 30) 53 rfl Try.underlying53 infoReq A1 m1 c1 W3.heap.size xs rfl (ok2.alloc _) Z.heap.size ⟨id, ten, line, wrt, dat, att⟩ rfl (Box.new _ _ _) (by omega) (by simp; omega) ?_; intro A2 c2 w2 o2 g2 at2; have bk3 := below_app3 (bk2.alloc bk2.size _) g2 (fun j hj => (ok2.lt j hj).1); have sz2 := bk3.size; clear p0 p1 p2 p3 p4 p5 g2 at2; obtain ⟨g', o', id3, ten3, line3, wrt3, dat3, att3, e', hg', h0, h1, h2, h3', h4, h5, hr'⟩ := (h3.below bk3).at_ hlt; injection e' with e'; injection e' with e1 e2; subst e1 e2; have er := hr.out.symm.trans hr'.out; injection er with er; injection er with r0 r1 r2 r3 r4 r5; subst r0 r1 r2 r3 r4 r5) | (at_builtin; refine wpList_appReq1 rfl (.tmp 32) (.tmp 37) 53 rfl Try.underlying53 infoReq A2 (m1 + 1) c2 W3.heap.size (xs ++ [⟨id, ten, line, wrt, dat, att⟩]) rfl (o2.alloc _) w2.heap.size ⟨id2, ten2, line2, wrt2, dat2, att2⟩ rfl (Box.new _ _ _) (by omega) (by simp; omega) ?_; intro A4 c4 w4 o4 g4 at4) | fail)
          go_roundw
          case rel => exact ⟨k + 1, A4, m1 + 1 + 1, c4, true, _, by omega, by go_num, rfl, rfl, HT, o4, below_app3 (bk3.alloc bk3.size _) g4 (fun j hj => (o2.lt j hj).1)⟩
          case measure => simp [intOf]; omega
        · have hb' : befB att id att2 id2 = false := by simpa using hb
          have HT : Hid (insTo (rs.take (k + 1)) ⟨id, ten, line, wrt, dat, att⟩ = (xs ++ [⟨id2, ten2, line2, wrt2, dat2, att2⟩], false)) := by unfold Hid; rw [HS.out, HX.out, insStep_no _ (by exact hb')]
          clear hb
          go_wp2
          refine wp_region_later (by kernel_rfl) (by kernel_rfl) ?_
          repeat (go_big_quiet_step ((go_at_call 89; exact later_call (l19Before_c id ten line wrt dat att id2 ten2 line2 wrt2 dat2 att2 _))))
          refine wpQuiet_nil ?_
          intro Z hw'
          obtain ⟨z, hw''⟩ := hw'
          have bZ := z.bel
          rw [← hw''] at bZ
          clear hw'' z
          clear l0 l1 l2 l3 l4 l5 m0_ m1_ m2_ m3_ m4_ m5_
          have ok2 := ok.below bZ
          have bk2 := bk.trans (bZ.mono bk.size)
          have szZ := bk2.size
          obtain ⟨g', o', id3, ten3, line3, wrt3, dat3, att3, e', hg', h0, h1, h2, h3', h4, h5, hr'⟩ := (h3.below bk2).at_ hlt
          injection e' with e'
          injection e' with e1 e2
          subst e1 e2
          have er := hr.out.symm.trans hr'.out
          injection er with er
          injection er with r0 r1 r2 r3 r4 r5
          subst r0 r1 r2 r3 r4 r5
          go_wp2_with (at_builtin; refine wpList_appReq1 rfl (.tmp 32) (.tmp 37) 53 rfl Try.underlying53 infoReq A1 m1 c1 W3.heap.size xs rfl (ok2.alloc _) Z.heap.size ⟨id2, ten2, line2, wrt2, dat2, att2⟩ rfl (Box.new _ _ _) (by omega) (by simp; omega) ?_; intro A2 c2 w2 o2 g2 at2)
          go_roundw
          case rel => exact ⟨k + 1, A2, m1 + 1, c2, false, _, by omega, by go_num, rfl, rfl, HT, o2, below_app3 (bk2.alloc bk2.size _) g2 (fun j hj => (ok2.lt j hj).1)⟩
          case measure => simp [intOf]; omega
      · have HT : Hid (insTo (rs.take (k + 1)) ⟨id, ten, line, wrt, dat, att⟩ = (xs ++ [⟨id2, ten2, line2, wrt2, dat2, att2⟩], true)) := by unfold Hid; rw [HS.out, HX.out, insStep_put]
        go_wp2
        refine wp_region_later (by kernel_rfl) (by kernel_rfl) ?_
        repeat (go_big_quiet_step ((go_at_call 89; exact later_call (l19Before_c id ten line wrt dat att id2 ten2 line2 wrt2 dat2 att2 _))))
        refine wpQuiet_nil ?_
        intro Z hw'
        obtain ⟨z, hw''⟩ := hw'
        have bZ := z.bel
        rw [← hw''] at bZ
        clear hw'' z
        clear l0 l1 l2 l3 l4 l5 m0_ m1_ m2_ m3_ m4_ m5_
        have ok2 := ok.below bZ
        have bk2 := bk.trans (bZ.mono bk.size)
        have szZ := bk2.size
        obtain ⟨g', o', id3, ten3, line3, wrt3, dat3, att3, e', hg', h0, h1, h2, h3', h4, h5, hr'⟩ := (h3.below bk2).at_ hlt
        injection e' with e'
        injection e' with e1 e2
        subst e1 e2
        have er := hr.out.symm.trans hr'.out
        injection er with er
        injection er with r0 r1 r2 r3 r4 r5
        subst r0 r1 r2 r3 r4 r5
        go_wp2_with (at_builtin; refine wpList_appReq1 rfl (.tmp 32) (.tmp 37) 53 rfl Try.underlying53 infoReq A1 m1 c1 W3.heap.size xs rfl (ok2.alloc _) Z.heap.size ⟨id2, ten2, line2, wrt2, dat2, att2⟩ rfl (Box.new _ _ _) (by omega) (by simp; omega) ?_; intro A2 c2 w2 o2 g2 at2)
        go_roundw
        case rel => exact ⟨k + 1, A2, m1 + 1, c2, true, _, by omega, by go_num, rfl, rfl, HT, o2, below_app3 (bk2.alloc bk2.size _) g2 (fun j hj => (ok2.lt j hj).1)⟩
        case measure => simp [intOf]; omega
    · obtain rfl : n = k := by omega
      have HI : Hid (insS rs ⟨id, ten, line, wrt, dat, att⟩ = if pb = true then xs else xs ++ [⟨id, ten, line, wrt, dat, att⟩]) := by
        have h1 := insTo_end rs ⟨id, ten, line, wrt, dat, att⟩
        have h2 := HX.out
        rw [List.take_of_length_le (by rw [hl.out]; omega)] at h2
        rw [h2] at h1
        exact h1
      have szn := bk.size
      cases pb
      · obtain ⟨p0, p1, p2, p3, p4, p5⟩ := pk.c6
        go_wp2_with (first | (at_builtin; refine wpList_appReq1 rfl (.tmp 41) (.tmp 43) 53 rfl Try.underlying53 infoReq A1 m1 c1 W3.heap.size xs rfl (ok.alloc _) wr.heap.size ⟨id, ten, line, wrt, dat, att⟩ rfl (Box.new _ _ _) (by omega) (by simp; omega) ?_; intro A2 c2 w2 o2 g2 at2) | fail)
        have bk2 := below_app3 (bk.alloc bk.size _) g2 (fun j hj => (ok.lt j hj).1)
        have HI2 : Hid (insS rs ⟨id, ten, line, wrt, dat, att⟩ = xs ++ [⟨id, ten, line, wrt, dat, att⟩]) := by unfold Hid; rw [HI.out]; simp
        clear p0 p1 p2 p3 p4 p5 g2 at2 HI
        have bel2 := bel.trans (bk2.mono bel.size)
        refine (sQueueOk_c lines A n c rs _ (h.below bel2) hn HC.out).mono ?_
        rintro e wq ⟨rfl, bq⟩
        have bel3 := bel2.trans (bq.mono bel2.size)
        have OQ := (o2).below bq
        have BQ := bk2.trans (bq.mono bk2.size)
        have szq := BQ.size
        have szw := bel.size
        by_cases hq1 : queueOk lines rs = true
        · have n12 : n ≤ 12 := by
            have h1 := hq1
            unfold queueOk at h1
            rw [Bool.and_eq_true, hl.out] at h1
            simpa using h1.1
          go_wp2_with fail
          refine (sQueueOk_c lines A2 (m1 + 1) c2 (xs ++ [⟨id, ten, line, wrt, dat, att⟩]) _ OQ.recs (by omega) OQ.cap).mono ?_
          rintro e wz ⟨rfl, bz⟩
          have bel4 := bel3.trans (bz.mono bel3.size)
          have BZ := BQ.trans (bz.mono BQ.size)
          have OZ := OQ.below bz
          have szz := BZ.size
          by_cases hq2 : queueOk lines (xs ++ [⟨id, ten, line, wrt, dat, att⟩]) = true
          · have hq3 : queueOk lines (insI rs ⟨id, ten, line, wrt, dat, att⟩) = true := by rw [← queueOk_ins, HI2.out]; exact hq2
            obtain ⟨HA, HB, HE⟩ := add_yes hq1 hq3
            replace HA := Lib.hid HA
            replace HB : Hid (addQ lines rs ⟨id, ten, line, wrt, dat, att⟩ = xs ++ [⟨id, ten, line, wrt, dat, att⟩]) := by unfold Hid; rw [HB, ← HE]; exact HI2.out
            clear HE hq3
            go_wp2
            go_ret2
            rw [HA.out, HB.out]
            exact ⟨_, _, _, rfl, (OZ.mono (show w.heap.size ≤ W3.heap.size by omega)).own, bel4⟩
          · have hq2' : queueOk lines (xs ++ [⟨id, ten, line, wrt, dat, att⟩]) = false := by simpa using hq2
            have hq3 : queueOk lines (insI rs ⟨id, ten, line, wrt, dat, att⟩) = false := by rw [← queueOk_ins, HI2.out]; exact hq2'
            clear hq2
            obtain ⟨HA, HB⟩ := add_no (lines := lines) (rs := rs) (r := ⟨id, ten, line, wrt, dat, att⟩) (.inr hq3)
            replace HA := Lib.hid HA
            replace HB := Lib.hid HB
            clear hq3
            have b8 := bel4.alloc bel4.size (.cells #[] 58)
            go_wp2_with (at_builtin; refine wpList_appReq rfl (.tmp 55) (.tmp 56) 53 rfl Try.underlying53 infoReq _ 0 0 w.heap.size [] rfl (RowReq.nil _ _ _) A n c rs rfl (h.below b8) (by omega) (by exact b8.size) ?_; intro A9 c9 w9 o9 g9 at9; rw [Nat.zero_add] at o9 ⊢)
            go_ret2
            rw [HA.out, HB.out]
            exact ⟨_, _, _, rfl, RowReq.own (by simpa using o9), below_app3 b8 g9 (fun k hk => by rw [blk_zero] at hk; cases hk)⟩
        · have hq1' : queueOk lines rs = false := by simpa using hq1
          clear hq1
          obtain ⟨HA, HB⟩ := add_no (lines := lines) (rs := rs) (r := ⟨id, ten, line, wrt, dat, att⟩) (.inl hq1')
          replace HA := Lib.hid HA
          replace HB := Lib.hid HB
          have b8 := bel3.alloc bel3.size (.cells #[] 58)
          go_wp2_with (at_builtin; refine wpList_appReq rfl (.tmp 55) (.tmp 56) 53 rfl Try.underlying53 infoReq _ 0 0 w.heap.size [] rfl (RowReq.nil _ _ _) A n c rs rfl (h.below b8) (by omega) (by exact b8.size) ?_; intro A9 c9 w9 o9 g9 at9; rw [Nat.zero_add] at o9 ⊢)
          go_ret2
          rw [HA.out, HB.out]
          exact ⟨_, _, _, rfl, RowReq.own (by simpa using o9), below_app3 b8 g9 (fun k hk => by rw [blk_zero] at hk; cases hk)⟩
      · have HI2 : Hid (insS rs ⟨id, ten, line, wrt, dat, att⟩ = xs) := by unfold Hid; rw [HI.out]; simp
        clear HI
        go_wp2_with fail
        have bel2 := bel.trans (bk.mono bel.size)
        refine (sQueueOk_c lines A n c rs _ (h.below bel2) hn HC.out).mono ?_
        rintro e wq ⟨rfl, bq⟩
        have bel3 := bel2.trans (bq.mono bel2.size)
        have OQ := (ok).below bq
        have BQ := bk.trans (bq.mono bk.size)
        have szq := BQ.size
        have szw := bel.size
        by_cases hq1 : queueOk lines rs = true
        · have n12 : n ≤ 12 := by
            have h1 := hq1
            unfold queueOk at h1
            rw [Bool.and_eq_true, hl.out] at h1
            simpa using h1.1
          go_wp2_with fail
          refine (sQueueOk_c lines A1 (m1) c1 (xs) _ OQ.recs (by omega) OQ.cap).mono ?_
          rintro e wz ⟨rfl, bz⟩
          have bel4 := bel3.trans (bz.mono bel3.size)
          have BZ := BQ.trans (bz.mono BQ.size)
          have OZ := OQ.below bz
          have szz := BZ.size
          by_cases hq2 : queueOk lines (xs) = true
          · have hq3 : queueOk lines (insI rs ⟨id, ten, line, wrt, dat, att⟩) = true := by rw [← queueOk_ins, HI2.out]; exact hq2
            obtain ⟨HA, HB, HE⟩ := add_yes hq1 hq3
            replace HA := Lib.hid HA
            replace HB : Hid (addQ lines rs ⟨id, ten, line, wrt, dat, att⟩ = xs) := by unfold Hid; rw [HB, ← HE]; exact HI2.out
            clear HE hq3
            go_wp2
            go_ret2
            rw [HA.out, HB.out]
            exact ⟨_, _, _, rfl, (OZ.mono (show w.heap.size ≤ W3.heap.size by omega)).own, bel4⟩
          · have hq2' : queueOk lines (xs) = false := by simpa using hq2
            have hq3 : queueOk lines (insI rs ⟨id, ten, line, wrt, dat, att⟩) = false := by rw [← queueOk_ins, HI2.out]; exact hq2'
            clear hq2
            obtain ⟨HA, HB⟩ := add_no (lines := lines) (rs := rs) (r := ⟨id, ten, line, wrt, dat, att⟩) (.inr hq3)
            replace HA := Lib.hid HA
            replace HB := Lib.hid HB
            clear hq3
            have b8 := bel4.alloc bel4.size (.cells #[] 58)
            go_wp2_with (at_builtin; refine wpList_appReq rfl (.tmp 55) (.tmp 56) 53 rfl Try.underlying53 infoReq _ 0 0 w.heap.size [] rfl (RowReq.nil _ _ _) A n c rs rfl (h.below b8) (by omega) (by exact b8.size) ?_; intro A9 c9 w9 o9 g9 at9; rw [Nat.zero_add] at o9 ⊢)
            go_ret2
            rw [HA.out, HB.out]
            exact ⟨_, _, _, rfl, RowReq.own (by simpa using o9), below_app3 b8 g9 (fun k hk => by rw [blk_zero] at hk; cases hk)⟩
        · have hq1' : queueOk lines rs = false := by simpa using hq1
          clear hq1
          obtain ⟨HA, HB⟩ := add_no (lines := lines) (rs := rs) (r := ⟨id, ten, line, wrt, dat, att⟩) (.inl hq1')
          replace HA := Lib.hid HA
          replace HB := Lib.hid HB
          have b8 := bel3.alloc bel3.size (.cells #[] 58)
          go_wp2_with (at_builtin; refine wpList_appReq rfl (.tmp 55) (.tmp 56) 53 rfl Try.underlying53 infoReq _ 0 0 w.heap.size [] rfl (RowReq.nil _ _ _) A n c rs rfl (h.below b8) (by omega) (by exact b8.size) ?_; intro A9 c9 w9 o9 g9 at9; rw [Nat.zero_add] at o9 ⊢)
          go_ret2
          rw [HA.out, HB.out]
          exact ⟨_, _, _, rfl, RowReq.own (by simpa using o9), below_app3 b8 g9 (fun k hk => by rw [blk_zero] at hk; cases hk)⟩
end Go.Proofs.Ytbapamfomfbmmaa
