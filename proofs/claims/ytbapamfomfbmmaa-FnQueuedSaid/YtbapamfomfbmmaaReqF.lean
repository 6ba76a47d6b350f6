/-
  The contract of QueueAdd in the program.
-/
import Derived.Test.YtbapamfomfbmmaaReqE
namespace Go.Proofs.Ytbapamfomfbmmaa
open Go.RowKit
set_option linter.unusedSimpArgs false
set_option linter.unusedVariables false

theorem insI_at {rs : List Req} {r : Req} {k : Nat} (h : ∀ q ∈ rs.take k, q.bef r = true) (hs : rs.length ≤ k ∨ ∃ q, rs[k]? = some q ∧ q.bef r = false) : insI rs r = rs.take k ++ r :: rs.drop k := by
  unfold insI
  induction rs generalizing k with
  | nil => simp
  | cons q rs ih =>
    cases k with
    | zero =>
      rcases hs with hs | ⟨x, hx, hb⟩
      · simp at hs
      · simp at hx; subst hx; simp [List.takeWhile_cons, List.dropWhile_cons, hb]
    | succ k =>
      have hq := h q (by simp)
      have ih := ih (k := k) (fun x hx => h x (by simp [hx])) (by rcases hs with hs | hs; exact .inl (by simpa using hs); exact .inr (by simpa using hs))
      simp only [List.takeWhile_cons, List.dropWhile_cons, hq, if_true, List.take_succ_cons, List.drop_succ_cons, List.cons_append]
      rw [ih]
theorem Reqs.dr {w : World} {A : Option Addr} {n : Nat} {rs : List Req} (h : Reqs w A n rs) : Reqs w.drew A n rs := h
theorem Reqs.allocDrew {w : World} {A : Option Addr} {n : Nat} {rs : List Req} (h : Reqs w A n rs) (o : Obj) : Reqs (w.alloc o).drew A n rs := Cells.alloc h o
theorem all_snoc {rs : List Req} {r q : Req} {k : Nat} (h : ∀ q ∈ rs.take k, q.bef r = true) (hq : rs[k]? = some q) (hb : q.bef r = true) : ∀ q ∈ rs.take (k + 1), q.bef r = true := by
  intro x hx
  rw [take_snoc hq, List.mem_append] at hx
  rcases hx with hx | hx
  · exact h x hx
  · simp at hx; subst hx; exact hb
set_option maxRecDepth 100000 in
set_option maxHeartbeats 8000000 in
theorem iQueueAdd_c (lines : Int) (A : Option Addr) (n c : Nat) (rs : List Req) (id ten line : Int) (wrt : Bool) (dat att : Int) (w : World) (h : Reqs w A n rs) (hn : n ≤ 1048576) (hc : n ≤ c ∧ c ≤ maxLen) :
    Calls Try.prog 33 #[.int .i64 lines, .slice A n c, .agg #[.int .i64 id, .int .i64 ten, .int .i64 line, .bool wrt, .int .i64 dat, .int .i64 att]] w (NewReqB (addQ lines rs ⟨id, ten, line, wrt, dat, att⟩) (addOk lines rs ⟨id, ten, line, wrt, dat, att⟩) w) := by
  have bel : Below w.heap.size w w := Below.refl _ _
  have hl := Lib.hid h.len
  have HC := Lib.hid hc
  obtain ⟨hnc, hcm⟩ := hc
  unfold maxLen at hcm
  go_enter Try.func33, Try.ntmps33
  go_wp2
  refine abs_code ?_
  intro W3 hW
  have szW3 : w.heap.size + 1 ≤ W3.heap.size := by rw [hW]; simp [World.setCell]
  have szW3_ := bel.size
  replace bel : Below w.heap.size w W3 := by rw [hW]; exact (bel).alloc (by first | omega | (simp [World.setCell] <;> omega)) _
  have p : Box W3 w.heap.size 58 #[.int .i64 id, .int .i64 ten, .int .i64 line, .bool wrt, .int .i64 dat, .int .i64 att] := by rw [hW]; exact (Box.newAt (by simp [World.setCell]))
  clear hW
  have h3 := h.below bel
  go_loopw [8] (fun i wr => ∃ (k : Nat), k ≤ n ∧ i = .int .i64 k ∧ Hid (∀ q ∈ rs.take k, q.bef ⟨id, ten, line, wrt, dat, att⟩ = true) ∧ Below W3.heap.size W3 wr) (fun i _ => n - (intOf i).toNat)
  case atStart => exact ⟨0, Nat.zero_le _, rfl, by intro q hq; simp at hq, Below.refl _ _⟩
  case round =>
    obtain ⟨k, hk, rfl, HK, bk⟩ := hrel
    have pk := p.kept bk
    obtain ⟨p0, p1, p2, p3, p4, p5⟩ := pk.c6
    have l0 := later_cell pk.lt p0
    have l1 := later_cell pk.lt p1
    have l2 := later_cell pk.lt p2
    have l3 := later_cell pk.lt p3
    have l4 := later_cell pk.lt p4
    have l5 := later_cell pk.lt p5
    clear p0 p1 p2 p3 p4 p5
    by_cases hlt : k < n
    · have hd : decide ((k : Int) < (n : Int)) = true := by simp; omega
      have hd2 : decide (k < n) = true := by simp; omega
      obtain ⟨g, o, id2, ten2, line2, wrt2, dat2, att2, hA, hg, h0, h1, h2, h3', h4, h5, hr⟩ := (h3.below bk).at_ hlt
      have m0_ := later_cell hg h0
      have m1_ := later_cell hg h1
      have m2_ := later_cell hg h2
      have m3_ := later_cell hg h3'
      have m4_ := later_cell hg h4
      have m5_ := later_cell hg h5
      clear h0 h1 h2 h3' h4 h5
      have i1 : (0 : Int) ≤ (k : Int) := by omega
      have i2 : (k : Int) < (n : Int) := by omega
      by_cases hb : befB att2 id2 att id = true
      · subst hA
        have HT := Lib.hid (all_snoc HK.out hr.out (by exact hb))
        go_wp2
        refine wp_region_later (by kernel_rfl) (by kernel_rfl) ?_
        repeat (go_big_quiet_step ((go_at_call 87; exact later_call (arrivesBefore_c id2 ten2 line2 wrt2 dat2 att2 id ten line wrt dat att _))))
        refine wpQuiet_nil ?_
        intro Z hw'
        obtain ⟨z, hw''⟩ := hw'
        have bZ := z.bel
        rw [← hw''] at bZ
        clear hw'' z
        clear l0 l1 l2 l3 l4 l5 m0_ m1_ m2_ m3_ m4_ m5_
        go_wp2
        go_roundw
        case rel => exact ⟨k + 1, by omega, by go_num, HT.out, bk.trans (bZ.mono bk.size)⟩
        case measure => simp [intOf]; omega
      · have hb' : befB att2 id2 att id = false := by simpa using hb
        clear hb
        subst hA
        go_wp2
        refine wp_region_later (by kernel_rfl) (by kernel_rfl) ?_
        repeat (go_big_quiet_step ((go_at_call 87; exact later_call (arrivesBefore_c id2 ten2 line2 wrt2 dat2 att2 id ten line wrt dat att _))))
        refine wpQuiet_nil ?_
        intro Z hw'
        obtain ⟨z, hw''⟩ := hw'
        have bZ := z.bel
        rw [← hw''] at bZ
        clear hw'' z
        clear l0 l1 l2 l3 l4 l5 m0_ m1_ m2_ m3_ m4_ m5_ hd hd2
        have bkk := bk.trans (bZ.mono bk.size)
        have HI := Lib.hid (insI_at (rs := rs) (r := ⟨id, ten, line, wrt, dat, att⟩) (k := k) HK.out (.inr ⟨_, hr.out, by exact hb'⟩))
        have kc : (k : Int) ≤ (c : Int) := by omega
        have kc0 : (0 : Int) ≤ (k : Int) := by omega
        have kn : (k : Int) ≤ (n : Int) := by omega
        go_wp2
        refine abs_code ?_
        intro W hW
        obtain rfl : W = Z := hW
        have pW := p.kept bkk
        have hh := h3.below bkk
        have hhk := hh.take (show k ≤ n by omega)
        replace bel := bel.trans (bkk.mono bel.size)
        obtain ⟨pa0, pa1, pa2, pa3, pa4, pa5⟩ := pW.c6
        have pWl := pW.lt
        by_cases hck : c = k
        · exact absurd hck (by omega)
        · have src := Lib.hid (hh.drop (k := k) (by omega) (B := some ⟨g, o + k * 6, none⟩) (fun hlt g1 o1 e => by injection e with e; injection e with e1 e2; rw [e1, e2]))
          go_region_held3 (fun W' => W'.cell? ⟨w.heap.size, 0, none⟩ = some (.int .i64 id) ∧ W'.cell? ⟨w.heap.size, 1, none⟩ = some (.int .i64 ten) ∧ W'.cell? ⟨w.heap.size, 2, none⟩ = some (.int .i64 line) ∧ W'.cell? ⟨w.heap.size, 3, none⟩ = some (.bool wrt) ∧ W'.cell? ⟨w.heap.size, 4, none⟩ = some (.int .i64 dat) ∧ W'.cell? ⟨w.heap.size, 5, none⟩ = some (.int .i64 att))
            (first | (with_reducible exact ⟨pa0, pa1, pa2, pa3, pa4, pa5⟩) | (with_reducible exact ⟨pb0, pb1, pb2, pb3, pb4, pb5⟩) | (with_reducible exact ⟨pc0, pc1, pc2, pc3, pc4, pc5⟩) | (with_reducible exact ⟨pd0, pd1, pd2, pd3, pd4, pd5⟩) | (with_reducible exact (pW.ad _).c6) | (with_reducible exact (pW.alloc _).c6) | (with_reducible exact (p2.alloc _).c6) | (with_reducible exact pW.dr.c6) | exact ⟨pa0, pa1, pa2, pa3, pa4, pa5⟩ | fail)
            (first | (go_at_call 88; refine (copyQueue_c _ k _ (rs.take k) _ (by first | with_reducible exact hhk | with_reducible exact Reqs.dr hhk | with_reducible exact Reqs.allocDrew hhk (.cells #[.int .i64 id, .int .i64 ten, .int .i64 line, .bool wrt, .int .i64 dat, .int .i64 att] 58)) (by omega)).mono ?_; rintro e w2 ⟨A1, n1, c1, rfl, o1, b1'⟩; have b1 : Below W.heap.size W w2 := (by first | with_reducible exact b1' | with_reducible exact below_after_d b1' | with_reducible exact below_after_alloc_d b1'); (first | (have bx : Box w2 W.heap.size 58 #[.int .i64 id, .int .i64 ten, .int .i64 line, .bool wrt, .int .i64 dat, .int .i64 att] := (by with_reducible exact box_after_alloc_d b1')) | skip); have hn1 : n1 ≤ k := (by have := o1.len; simp at this; omega); have o1r : RowReq w2 W.heap.size A1 n1 c1 (rs.take k) := OwnV.mono o1.1 (by first | with_reducible exact Nat.le_refl _ | (simp; done) | (simp <;> omega)); have sz2 := b1.size; have src2 := src.out.below b1; have p2 := pW.kept b1; obtain ⟨pb0, pb1, pb2, pb3, pb4, pb5⟩ := p2.c6) | (refine step_appReq1 (by rfl) (.tmp 27) (.tmp 29) 53 (by rfl) Try.underlying53 infoReq A1 n1 c1 W.heap.size (rs.take k) (by rfl) o1r W.heap.size ⟨id, ten, line, wrt, dat, att⟩ (by rfl) bx (by omega) (by exact sz2) ?_; intro A2 c2 w3 o2 g2 at2; have b3 : Below W.heap.size W w3 := below_app3 b1 g2 (fun j hj => (o1r.lt j hj).1); have sz3 := b3.size; have src3 := src.out.below b3; have p3 := pW.kept b3; obtain ⟨pc0, pc1, pc2, pc3, pc4, pc5⟩ := p3.c6) | (refine step_appReq1 (by rfl) (.tmp 27) (.tmp 29) 53 (by rfl) Try.underlying53 infoReq A1 n1 c1 W.heap.size (rs.take k) (by rfl) (o1r.alloc _) w2.heap.size ⟨id, ten, line, wrt, dat, att⟩ (by rfl) (Box.new _ _ _) (by omega) (by simp; omega) ?_; intro A2 c2 w3 o2 g2 at2; have b3 : Below W.heap.size W w3 := below_app3 (b1.alloc b1.size _) g2 (fun j hj => (o1r.lt j hj).1); have sz3 := b3.size; have src3 := src.out.below b3; have p3 := pW.kept b3; obtain ⟨pc0, pc1, pc2, pc3, pc4, pc5⟩ := p3.c6) | (refine step_appReq (by rfl) (.tmp 30) (.tmp 33) 53 (by rfl) Try.underlying53 infoReq A2 (n1 + 1) c2 W.heap.size (rs.take k ++ [⟨id, ten, line, wrt, dat, att⟩]) (by rfl) o2 (some ⟨g, o + k * 6, none⟩) (n - k) _ (rs.drop k) (by rfl) (by exact src3) (by omega) (by exact sz3) ?_; intro A4 c4 w4 o4 g4 at4; have b4 : Below W.heap.size W w4 := below_app3 b3 g4 (fun j hj => (o2.lt j hj).1); have p4 := pW.kept b4; obtain ⟨pd0, pd1, pd2, pd3, pd4, pd5⟩ := p4.c6) | fail)
          all_goals
            have HI2 : Hid (insI rs ⟨id, ten, line, wrt, dat, att⟩ = rs.take k ++ [⟨id, ten, line, wrt, dat, att⟩] ++ rs.drop k) := by unfold Hid; rw [HI.out]; simp
            have szw := bel.size
            have bel2 := bel.trans (b4.mono bel.size)
            clear pa0 pa1 pa2 pa3 pa4 pa5 pb0 pb1 pb2 pb3 pb4 pb5 pc0 pc1 pc2 pc3 pc4 pc5 pd0 pd1 pd2 pd3 pd4 pd5 at2 at4 g2 g4 o2 o1 o1r src2 src3 p2 p3 p4 b1' b1 b3 src
            try clear bx
            try clear kc
            go_wp2_with fail
            have hX := iQueueOk_c lines _ n _ rs w4 (h.below bel2) hn HC.out
            (with_reducible refine hX.mono ?_)
            clear hX
            rintro e wq ⟨rfl, bq⟩
            have bel3 := bel2.trans (bq.mono bel2.size)
            have OQ := o4.below bq
            clear o4
            generalize hys : rs.take k ++ [(⟨id, ten, line, wrt, dat, att⟩ : Req)] ++ rs.drop k = ys at OQ HI2
            clear hys HI
            by_cases hq1 : queueOk lines rs = true
            · have n12 : n ≤ 12 := by
                have h1 := hq1
                unfold queueOk at h1
                rw [Bool.and_eq_true, hl.out] at h1
                simpa using h1.1
              go_wp2_with fail
              have hX := iQueueOk_c lines _ _ _ _ wq OQ.recs (by omega) OQ.cap
              (with_reducible refine hX.mono ?_)
              clear hX
              rintro e wz ⟨rfl, bz⟩
              have bel4 := bel3.trans (bz.mono bel3.size)
              have OZ := OQ.below bz
              by_cases hq2 : queueOk lines ys = true
              · obtain ⟨HA, HB, -⟩ := add_yes hq1 (by rw [HI2.out]; exact hq2)
                replace HA := Lib.hid HA
                replace HB : Hid (addQ lines rs ⟨id, ten, line, wrt, dat, att⟩ = ys) := by unfold Hid; rw [HB]; exact HI2.out
                go_wp2
                go_ret2
                rw [HA.out, HB.out]
                exact ⟨_, _, _, rfl, (OZ.mono (show w.heap.size ≤ W.heap.size by omega)).own, bel4⟩
              · have hq2' : queueOk lines ys = false := by simpa using hq2
                clear hq2
                obtain ⟨HA, HB⟩ := add_no (lines := lines) (rs := rs) (r := ⟨id, ten, line, wrt, dat, att⟩) (.inr (by rw [HI2.out]; exact hq2'))
                replace HA := Lib.hid HA
                replace HB := Lib.hid HB
                go_wp2_with fail
                refine (copyQueue_c _ n _ rs _ (h.below bel4) hn).mono ?_
                rintro e w9 ⟨A9, n9, c9, rfl, o9, b9⟩
                go_wp2
                go_ret2
                rw [HA.out, HB.out]
                exact ⟨_, _, _, rfl, o9.mono bel4.size (Nat.le_refl _), bel4.trans (b9.mono bel4.size)⟩
            · have hq1' : queueOk lines rs = false := by simpa using hq1
              clear hq1
              obtain ⟨HA, HB⟩ := add_no (lines := lines) (rs := rs) (r := ⟨id, ten, line, wrt, dat, att⟩) (.inl hq1')
              replace HA := Lib.hid HA
              replace HB := Lib.hid HB
              go_wp2_with fail
              refine (copyQueue_c _ n _ rs _ (h.below bel3) hn).mono ?_
              rintro e w9 ⟨A9, n9, c9, rfl, o9, b9⟩
              go_wp2
              go_ret2
              rw [HA.out, HB.out]
              exact ⟨_, _, _, rfl, o9.mono bel3.size (Nat.le_refl _), bel3.trans (b9.mono bel3.size)⟩
    · have hd : decide ((k : Int) < (n : Int)) = false := by simp; omega
      have hd2 : decide (k < n) = false := by simp; omega
      go_wp2
      refine wp_region_later (by kernel_rfl) (by kernel_rfl) ?_
      repeat (go_big_quiet_step ((go_at_call 87; exact later_call (arrivesBefore_c id2 ten2 line2 wrt2 dat2 att2 id ten line wrt dat att _))))
      refine wpQuiet_nil ?_
      intro Z hw'
      obtain ⟨z, hw''⟩ := hw'
      have bZ := z.bel
      rw [← hw''] at bZ
      clear hw'' z
      clear l0 l1 l2 l3 l4 l5 hd hd2
      have bkk := bk.trans (bZ.mono bk.size)
      have HI := Lib.hid (insI_at (rs := rs) (r := ⟨id, ten, line, wrt, dat, att⟩) (k := k) HK.out (.inl (by rw [hl.out]; omega)))
      have kc : (k : Int) ≤ (c : Int) := by omega
      have kc0 : (0 : Int) ≤ (k : Int) := by omega
      have kn : (k : Int) ≤ (n : Int) := by omega
      go_wp2
      refine abs_code ?_
      intro W hW
      obtain rfl : W = Z := hW
      have pW := p.kept bkk
      have hh := h3.below bkk
      have hhk := hh.take (show k ≤ n by omega)
      replace bel := bel.trans (bkk.mono bel.size)
      obtain ⟨pa0, pa1, pa2, pa3, pa4, pa5⟩ := pW.c6
      have pWl := pW.lt
      by_cases hck : c = k
      · have src0 := hh.drop (k := k) (by omega) (B := A) (fun hlt => by omega)
        rw [show n - k = 0 by omega] at src0
        have src := Lib.hid src0
        clear src0
        obtain rfl : k = c := hck.symm
        clear hck
        go_region_held3 (fun W' => W'.cell? ⟨w.heap.size, 0, none⟩ = some (.int .i64 id) ∧ W'.cell? ⟨w.heap.size, 1, none⟩ = some (.int .i64 ten) ∧ W'.cell? ⟨w.heap.size, 2, none⟩ = some (.int .i64 line) ∧ W'.cell? ⟨w.heap.size, 3, none⟩ = some (.bool wrt) ∧ W'.cell? ⟨w.heap.size, 4, none⟩ = some (.int .i64 dat) ∧ W'.cell? ⟨w.heap.size, 5, none⟩ = some (.int .i64 att))
          (first | (with_reducible exact ⟨pa0, pa1, pa2, pa3, pa4, pa5⟩) | (with_reducible exact ⟨pb0, pb1, pb2, pb3, pb4, pb5⟩) | (with_reducible exact ⟨pc0, pc1, pc2, pc3, pc4, pc5⟩) | (with_reducible exact ⟨pd0, pd1, pd2, pd3, pd4, pd5⟩) | (with_reducible exact (pW.ad _).c6) | (with_reducible exact (pW.alloc _).c6) | (with_reducible exact (p2.alloc _).c6) | (with_reducible exact pW.dr.c6) | exact ⟨pa0, pa1, pa2, pa3, pa4, pa5⟩ | fail)
          (first | (go_at_call 88; refine (copyQueue_c _ k _ (rs.take k) _ (by first | with_reducible exact hhk | with_reducible exact Reqs.dr hhk | with_reducible exact Reqs.allocDrew hhk (.cells #[.int .i64 id, .int .i64 ten, .int .i64 line, .bool wrt, .int .i64 dat, .int .i64 att] 58)) (by omega)).mono ?_; rintro e w2 ⟨A1, n1, c1, rfl, o1, b1'⟩; have b1 : Below W.heap.size W w2 := (by first | with_reducible exact b1' | with_reducible exact below_after_d b1' | with_reducible exact below_after_alloc_d b1'); (first | (have bx : Box w2 W.heap.size 58 #[.int .i64 id, .int .i64 ten, .int .i64 line, .bool wrt, .int .i64 dat, .int .i64 att] := (by with_reducible exact box_after_alloc_d b1')) | skip); have hn1 : n1 ≤ k := (by have := o1.len; simp at this; omega); have o1r : RowReq w2 W.heap.size A1 n1 c1 (rs.take k) := OwnV.mono o1.1 (by first | with_reducible exact Nat.le_refl _ | (simp; done) | (simp <;> omega)); have sz2 := b1.size; have src2 := src.out.below b1; have p2 := pW.kept b1; obtain ⟨pb0, pb1, pb2, pb3, pb4, pb5⟩ := p2.c6) | (refine step_appReq1 (by rfl) (.tmp 27) (.tmp 29) 53 (by rfl) Try.underlying53 infoReq A1 n1 c1 W.heap.size (rs.take k) (by rfl) o1r W.heap.size ⟨id, ten, line, wrt, dat, att⟩ (by rfl) bx (by omega) (by exact sz2) ?_; intro A2 c2 w3 o2 g2 at2; have b3 : Below W.heap.size W w3 := below_app3 b1 g2 (fun j hj => (o1r.lt j hj).1); have sz3 := b3.size; have src3 := src.out.below b3; have p3 := pW.kept b3; obtain ⟨pc0, pc1, pc2, pc3, pc4, pc5⟩ := p3.c6) | (refine step_appReq1 (by rfl) (.tmp 27) (.tmp 29) 53 (by rfl) Try.underlying53 infoReq A1 n1 c1 W.heap.size (rs.take k) (by rfl) (o1r.alloc _) w2.heap.size ⟨id, ten, line, wrt, dat, att⟩ (by rfl) (Box.new _ _ _) (by omega) (by simp; omega) ?_; intro A2 c2 w3 o2 g2 at2; have b3 : Below W.heap.size W w3 := below_app3 (b1.alloc b1.size _) g2 (fun j hj => (o1r.lt j hj).1); have sz3 := b3.size; have src3 := src.out.below b3; have p3 := pW.kept b3; obtain ⟨pc0, pc1, pc2, pc3, pc4, pc5⟩ := p3.c6) | (refine step_appReq (by rfl) (.tmp 30) (.tmp 33) 53 (by rfl) Try.underlying53 infoReq A2 (n1 + 1) c2 W.heap.size (rs.take k ++ [⟨id, ten, line, wrt, dat, att⟩]) (by rfl) o2 (A) (0) _ (rs.drop k) (by rfl) (by exact src3) (by omega) (by exact sz3) ?_; intro A4 c4 w4 o4 g4 at4; have b4 : Below W.heap.size W w4 := below_app3 b3 g4 (fun j hj => (o2.lt j hj).1); have p4 := pW.kept b4; obtain ⟨pd0, pd1, pd2, pd3, pd4, pd5⟩ := p4.c6) | fail)
        all_goals
          have HI2 : Hid (insI rs ⟨id, ten, line, wrt, dat, att⟩ = rs.take k ++ [⟨id, ten, line, wrt, dat, att⟩] ++ rs.drop k) := by unfold Hid; rw [HI.out]; simp
          have szw := bel.size
          have bel2 := bel.trans (b4.mono bel.size)
          clear pa0 pa1 pa2 pa3 pa4 pa5 pb0 pb1 pb2 pb3 pb4 pb5 pc0 pc1 pc2 pc3 pc4 pc5 pd0 pd1 pd2 pd3 pd4 pd5 at2 at4 g2 g4 o2 o1 o1r src2 src3 p2 p3 p4 b1' b1 b3 src
          try clear bx
          try clear kc
          go_wp2_with fail
          have hX := iQueueOk_c lines _ n _ rs w4 (h.below bel2) hn HC.out
          (with_reducible refine hX.mono ?_)
          clear hX
          rintro e wq ⟨rfl, bq⟩
          have bel3 := bel2.trans (bq.mono bel2.size)
          have OQ := o4.below bq
          clear o4
          generalize hys : rs.take k ++ [(⟨id, ten, line, wrt, dat, att⟩ : Req)] ++ rs.drop k = ys at OQ HI2
          clear hys HI
          by_cases hq1 : queueOk lines rs = true
          · have n12 : n ≤ 12 := by
              have h1 := hq1
              unfold queueOk at h1
              rw [Bool.and_eq_true, hl.out] at h1
              simpa using h1.1
            go_wp2_with fail
            have hX := iQueueOk_c lines _ _ _ _ wq OQ.recs (by omega) OQ.cap
            (with_reducible refine hX.mono ?_)
            clear hX
            rintro e wz ⟨rfl, bz⟩
            have bel4 := bel3.trans (bz.mono bel3.size)
            have OZ := OQ.below bz
            by_cases hq2 : queueOk lines ys = true
            · obtain ⟨HA, HB, -⟩ := add_yes hq1 (by rw [HI2.out]; exact hq2)
              replace HA := Lib.hid HA
              replace HB : Hid (addQ lines rs ⟨id, ten, line, wrt, dat, att⟩ = ys) := by unfold Hid; rw [HB]; exact HI2.out
              go_wp2
              go_ret2
              rw [HA.out, HB.out]
              exact ⟨_, _, _, rfl, (OZ.mono (show w.heap.size ≤ W.heap.size by omega)).own, bel4⟩
            · have hq2' : queueOk lines ys = false := by simpa using hq2
              clear hq2
              obtain ⟨HA, HB⟩ := add_no (lines := lines) (rs := rs) (r := ⟨id, ten, line, wrt, dat, att⟩) (.inr (by rw [HI2.out]; exact hq2'))
              replace HA := Lib.hid HA
              replace HB := Lib.hid HB
              go_wp2_with fail
              refine (copyQueue_c _ n _ rs _ (h.below bel4) hn).mono ?_
              rintro e w9 ⟨A9, n9, c9, rfl, o9, b9⟩
              go_wp2
              go_ret2
              rw [HA.out, HB.out]
              exact ⟨_, _, _, rfl, o9.mono bel4.size (Nat.le_refl _), bel4.trans (b9.mono bel4.size)⟩
          · have hq1' : queueOk lines rs = false := by simpa using hq1
            clear hq1
            obtain ⟨HA, HB⟩ := add_no (lines := lines) (rs := rs) (r := ⟨id, ten, line, wrt, dat, att⟩) (.inl hq1')
            replace HA := Lib.hid HA
            replace HB := Lib.hid HB
            go_wp2_with fail
            refine (copyQueue_c _ n _ rs _ (h.below bel3) hn).mono ?_
            rintro e w9 ⟨A9, n9, c9, rfl, o9, b9⟩
            go_wp2
            go_ret2
            rw [HA.out, HB.out]
            exact ⟨_, _, _, rfl, o9.mono bel3.size (Nat.le_refl _), bel3.trans (b9.mono bel3.size)⟩
      · have src := Lib.hid (hh.drop (k := k) (by omega) (B := A.map (·.add (k * 6))) (fun hlt g o e => by rw [e, Option.map_some, addr_add]))
        go_region_held3 (fun W' => W'.cell? ⟨w.heap.size, 0, none⟩ = some (.int .i64 id) ∧ W'.cell? ⟨w.heap.size, 1, none⟩ = some (.int .i64 ten) ∧ W'.cell? ⟨w.heap.size, 2, none⟩ = some (.int .i64 line) ∧ W'.cell? ⟨w.heap.size, 3, none⟩ = some (.bool wrt) ∧ W'.cell? ⟨w.heap.size, 4, none⟩ = some (.int .i64 dat) ∧ W'.cell? ⟨w.heap.size, 5, none⟩ = some (.int .i64 att))
          (first | (with_reducible exact ⟨pa0, pa1, pa2, pa3, pa4, pa5⟩) | (with_reducible exact ⟨pb0, pb1, pb2, pb3, pb4, pb5⟩) | (with_reducible exact ⟨pc0, pc1, pc2, pc3, pc4, pc5⟩) | (with_reducible exact ⟨pd0, pd1, pd2, pd3, pd4, pd5⟩) | (with_reducible exact (pW.ad _).c6) | (with_reducible exact (pW.alloc _).c6) | (with_reducible exact (p2.alloc _).c6) | (with_reducible exact pW.dr.c6) | exact ⟨pa0, pa1, pa2, pa3, pa4, pa5⟩ | fail)
          (first | (go_at_call 88; refine (copyQueue_c _ k _ (rs.take k) _ (by first | with_reducible exact hhk | with_reducible exact Reqs.dr hhk | with_reducible exact Reqs.allocDrew hhk (.cells #[.int .i64 id, .int .i64 ten, .int .i64 line, .bool wrt, .int .i64 dat, .int .i64 att] 58)) (by omega)).mono ?_; rintro e w2 ⟨A1, n1, c1, rfl, o1, b1'⟩; have b1 : Below W.heap.size W w2 := (by first | with_reducible exact b1' | with_reducible exact below_after_d b1' | with_reducible exact below_after_alloc_d b1'); (first | (have bx : Box w2 W.heap.size 58 #[.int .i64 id, .int .i64 ten, .int .i64 line, .bool wrt, .int .i64 dat, .int .i64 att] := (by with_reducible exact box_after_alloc_d b1')) | skip); have hn1 : n1 ≤ k := (by have := o1.len; simp at this; omega); have o1r : RowReq w2 W.heap.size A1 n1 c1 (rs.take k) := OwnV.mono o1.1 (by first | with_reducible exact Nat.le_refl _ | (simp; done) | (simp <;> omega)); have sz2 := b1.size; have src2 := src.out.below b1; have p2 := pW.kept b1; obtain ⟨pb0, pb1, pb2, pb3, pb4, pb5⟩ := p2.c6) | (refine step_appReq1 (by rfl) (.tmp 27) (.tmp 29) 53 (by rfl) Try.underlying53 infoReq A1 n1 c1 W.heap.size (rs.take k) (by rfl) o1r W.heap.size ⟨id, ten, line, wrt, dat, att⟩ (by rfl) bx (by omega) (by exact sz2) ?_; intro A2 c2 w3 o2 g2 at2; have b3 : Below W.heap.size W w3 := below_app3 b1 g2 (fun j hj => (o1r.lt j hj).1); have sz3 := b3.size; have src3 := src.out.below b3; have p3 := pW.kept b3; obtain ⟨pc0, pc1, pc2, pc3, pc4, pc5⟩ := p3.c6) | (refine step_appReq1 (by rfl) (.tmp 27) (.tmp 29) 53 (by rfl) Try.underlying53 infoReq A1 n1 c1 W.heap.size (rs.take k) (by rfl) (o1r.alloc _) w2.heap.size ⟨id, ten, line, wrt, dat, att⟩ (by rfl) (Box.new _ _ _) (by omega) (by simp; omega) ?_; intro A2 c2 w3 o2 g2 at2; have b3 : Below W.heap.size W w3 := below_app3 (b1.alloc b1.size _) g2 (fun j hj => (o1r.lt j hj).1); have sz3 := b3.size; have src3 := src.out.below b3; have p3 := pW.kept b3; obtain ⟨pc0, pc1, pc2, pc3, pc4, pc5⟩ := p3.c6) | (refine step_appReq (by rfl) (.tmp 30) (.tmp 33) 53 (by rfl) Try.underlying53 infoReq A2 (n1 + 1) c2 W.heap.size (rs.take k ++ [⟨id, ten, line, wrt, dat, att⟩]) (by rfl) o2 (A.map (·.add (k * 6))) (n - k) _ (rs.drop k) (by rfl) (by exact src3) (by omega) (by exact sz3) ?_; intro A4 c4 w4 o4 g4 at4; have b4 : Below W.heap.size W w4 := below_app3 b3 g4 (fun j hj => (o2.lt j hj).1); have p4 := pW.kept b4; obtain ⟨pd0, pd1, pd2, pd3, pd4, pd5⟩ := p4.c6) | fail)
        all_goals
          have HI2 : Hid (insI rs ⟨id, ten, line, wrt, dat, att⟩ = rs.take k ++ [⟨id, ten, line, wrt, dat, att⟩] ++ rs.drop k) := by unfold Hid; rw [HI.out]; simp
          have szw := bel.size
          have bel2 := bel.trans (b4.mono bel.size)
          clear pa0 pa1 pa2 pa3 pa4 pa5 pb0 pb1 pb2 pb3 pb4 pb5 pc0 pc1 pc2 pc3 pc4 pc5 pd0 pd1 pd2 pd3 pd4 pd5 at2 at4 g2 g4 o2 o1 o1r src2 src3 p2 p3 p4 b1' b1 b3 src
          try clear bx
          try clear kc
          go_wp2_with fail
          have hX := iQueueOk_c lines _ n _ rs w4 (h.below bel2) hn HC.out
          (with_reducible refine hX.mono ?_)
          clear hX
          rintro e wq ⟨rfl, bq⟩
          have bel3 := bel2.trans (bq.mono bel2.size)
          have OQ := o4.below bq
          clear o4
          generalize hys : rs.take k ++ [(⟨id, ten, line, wrt, dat, att⟩ : Req)] ++ rs.drop k = ys at OQ HI2
          clear hys HI
          by_cases hq1 : queueOk lines rs = true
          · have n12 : n ≤ 12 := by
              have h1 := hq1
              unfold queueOk at h1
              rw [Bool.and_eq_true, hl.out] at h1
              simpa using h1.1
            go_wp2_with fail
            have hX := iQueueOk_c lines _ _ _ _ wq OQ.recs (by omega) OQ.cap
            (with_reducible refine hX.mono ?_)
            clear hX
            rintro e wz ⟨rfl, bz⟩
            have bel4 := bel3.trans (bz.mono bel3.size)
            have OZ := OQ.below bz
            by_cases hq2 : queueOk lines ys = true
            · obtain ⟨HA, HB, -⟩ := add_yes hq1 (by rw [HI2.out]; exact hq2)
              replace HA := Lib.hid HA
              replace HB : Hid (addQ lines rs ⟨id, ten, line, wrt, dat, att⟩ = ys) := by unfold Hid; rw [HB]; exact HI2.out
              go_wp2
              go_ret2
              rw [HA.out, HB.out]
              exact ⟨_, _, _, rfl, (OZ.mono (show w.heap.size ≤ W.heap.size by omega)).own, bel4⟩
            · have hq2' : queueOk lines ys = false := by simpa using hq2
              clear hq2
              obtain ⟨HA, HB⟩ := add_no (lines := lines) (rs := rs) (r := ⟨id, ten, line, wrt, dat, att⟩) (.inr (by rw [HI2.out]; exact hq2'))
              replace HA := Lib.hid HA
              replace HB := Lib.hid HB
              go_wp2_with fail
              refine (copyQueue_c _ n _ rs _ (h.below bel4) hn).mono ?_
              rintro e w9 ⟨A9, n9, c9, rfl, o9, b9⟩
              go_wp2
              go_ret2
              rw [HA.out, HB.out]
              exact ⟨_, _, _, rfl, o9.mono bel4.size (Nat.le_refl _), bel4.trans (b9.mono bel4.size)⟩
          · have hq1' : queueOk lines rs = false := by simpa using hq1
            clear hq1
            obtain ⟨HA, HB⟩ := add_no (lines := lines) (rs := rs) (r := ⟨id, ten, line, wrt, dat, att⟩) (.inl hq1')
            replace HA := Lib.hid HA
            replace HB := Lib.hid HB
            go_wp2_with fail
            refine (copyQueue_c _ n _ rs _ (h.below bel3) hn).mono ?_
            rintro e w9 ⟨A9, n9, c9, rfl, o9, b9⟩
            go_wp2
            go_ret2
            rw [HA.out, HB.out]
            exact ⟨_, _, _, rfl, o9.mono bel3.size (Nat.le_refl _), bel3.trans (b9.mono bel3.size)⟩
end Go.Proofs.Ytbapamfomfbmmaa
