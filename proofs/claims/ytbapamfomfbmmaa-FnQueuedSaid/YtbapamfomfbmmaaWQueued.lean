/-
  The walk of FnQueued.
-/
import Derived.Test.YtbapamfomfbmmaaWFnBlk
import Derived.Test.YtbapamfomfbmmaaReqF
namespace Go.Proofs.Ytbapamfomfbmmaa
open Go.RowKit
set_option linter.unusedSimpArgs false
set_option linter.unusedVariables false

set_option maxRecDepth 100000 in
set_option maxHeartbeats 8000000 in
theorem fnQueued_walk (A : Option Addr) (n c : Nat) (zs : List Int) (w : World) (hA : Bytes w A n zs) (hn : n ≤ maxLen) :
    Calls Try.prog 6 #[.slice A n c] w fun e w' => e = .returned (.bool true) ∧ Below w.heap.size w w' := by
  by_cases hb : 1048576 < n
  · have hd : decide (1048576 < n) = true := by simpa using hb
    go_enter Try.func6, Try.ntmps6
    go_wp2_with (go_at_call 14; refine (big_c A n c _ hn).mono ?_; rintro e w' ⟨rfl, rfl⟩)
    go_ret
    exact ⟨rfl, Below.refl _ _⟩
  · have hd : decide (1048576 < n) = false := by simpa using hb
    have bel : Below w.heap.size w w := Below.refl _ _
    go_enter Try.func6, Try.ntmps6
    go_wp2_with (first | (go_at_call 14; refine (big_c A n c _ hn).mono ?_; rintro e w' ⟨rfl, rfl⟩) | fail)
    refine (drawQueueAdd_c A n c zs _ hA hn).mono ?_
    rintro e w1 ⟨l, A1, m, c1, rs, id, ten, line, wrt, dat, att, hm, rfl, o1, b1⟩
    have szw1 := b1.size
    replace bel := bel.trans (b1.mono bel.size)
    clear b1
    have hl := Lib.hid o1.len
    have h1 := o1.recs
    have HC := Lib.hid o1.1.cap
    clear o1 hA
    go_wp2_with fail
    refine abs_call ?_
    intro W2 hW
    have b2 : Below w1.heap.size w1 W2 := by rw [hW]; exact (Below.refl _ _).alloc (Nat.le_refl _) _
    have szW2 : w1.heap.size + 1 ≤ W2.heap.size := by rw [hW]; simp [World.setCell]
    have szW2_ := bel.size
    replace bel : Below w.heap.size w W2 := by rw [hW]; exact (bel).alloc (by first | omega | (simp [World.setCell] <;> omega)) _
    have p : Box W2 w1.heap.size 58 #[.int .i64 id, .int .i64 ten, .int .i64 line, .bool wrt, .int .i64 dat, .int .i64 att] := by rw [hW]; exact (Box.newAt (by simp [World.setCell]))
    clear hW
    replace h1 := h1.below b2
    clear b2
    refine (iQueueAdd_c l A1 m c1 rs id ten line wrt dat att _ h1 (by omega) HC.out).mono ?_
    rintro e w3 ⟨A3, n3, c3, rfl, o3, b3⟩
    have h13 := h1.below b3
    have szw3 := b3.size
    replace bel := bel.trans (b3.mono bel.size)
    replace p := p.kept b3
    clear b3
    have HC3 := Lib.hid o3.1.cap
    have h3 := o3.recs
    have hl3 : n3 ≤ 15 := by have := o3.len; have := addQ_len l rs ⟨id, ten, line, wrt, dat, att⟩; have := hl.out; omega
    clear h1 o3
    cases hok : addOk l rs ⟨id, ten, line, wrt, dat, att⟩
    · have HB := Lib.hid hok
      have e3 := not_queued hok
      rw [e3] at h3
      have hm3 : m = n3 := by have := h3.len; have := hl.out; omega
      subst hm3
      clear hok e3
      obtain ⟨p_0, p_1, p_2, p_3, p_4, p_5⟩ := p.c6
      have p_lt := p.lt
      go_wp2_with fail
      refine (sQueueAdd_c l A1 m c1 rs id ten line wrt dat att _ h13 (by omega) HC.out).mono ?_
      rintro e w4 ⟨A4, n4, c4, rfl, o4, b4⟩
      rw [HB.out]
      replace h13 := h13.below b4
      replace h3 := h3.below b4
      clear p_0 p_1 p_2 p_3 p_4 p_5 p_lt
      have szw4 := b4.size
      replace bel := bel.trans (b4.mono bel.size)
      replace p := p.kept b4
      clear b4
      clear o4
      go_wp2_with fail
      refine (sameRequests_c A3 m c3 A1 m c1 rs _ h3 h13 (by omega)).mono ?_
      rintro e w5 ⟨rfl, b5⟩
      have szw5 := b5.size
      replace bel := bel.trans (b5.mono bel.size)
      replace p := p.kept b5
      clear b5
      go_wp2_with fail
      refine abs_call ?_
      intro W6 hW
      have p6 : Box W6 w5.heap.size 58 #[.int .i64 0, .int .i64 0, .int .i64 0, .bool true, .int .i64 0, .int .i64 0] := by rw [hW]; exact Box.new _ _ _
      have b6 : Below w5.heap.size w5 W6 := by rw [hW]; exact (Below.refl _ _).alloc (Nat.le_refl _) _
      clear hW
      refine (iCountQueue_c (some ⟨w5.heap.size, 0, none⟩) 1 1 [⟨0, 0, 0, true, 0, 0⟩] true _ (one_req p6) (by omega)).mono ?_
      rintro e w7 hx
      obtain ⟨rfl, hx2⟩ := hx
      have b7 : Below W6.heap.size W6 w7 := by first | exact hx2 | (rw [← hx2]; exact Below.refl _ _)
      have e1 : cntW [⟨0, 0, 0, true, 0, 0⟩] true = 1 := by decide
      rw [e1]
      go_wp2
      go_ret
      exact ⟨rfl, bel.trans ((b6.trans (b7.mono b6.size)).mono bel.size)⟩
    · have HB := Lib.hid hok
      have HQ := Lib.hid (queued hok)
      clear hok
      obtain ⟨p_0, p_1, p_2, p_3, p_4, p_5⟩ := p.c6
      have p_lt := p.lt
      go_wp2_with fail
      refine (iQueueDrop_c A3 n3 c3 _ id _ h3 (by omega) HC3.out).mono ?_
      rintro e w4 ⟨A4, n4, c4, rfl, o4, b4⟩
      have ed : dropOk (addQ l rs ⟨id, ten, line, wrt, dat, att⟩) id = true := HQ.out.dok
      have ed2 : dropQ (addQ l rs ⟨id, ten, line, wrt, dat, att⟩) id = rs := HQ.out.drop
      rw [ed]
      rw [ed2] at o4
      have h4 := o4.recs
      have hm4 : m = n4 := by have := h4.len; have := hl.out; omega
      subst hm4
      replace h13 := h13.below b4
      replace h3 := h3.below b4
      clear p_0 p_1 p_2 p_3 p_4 p_5 p_lt
      have szw4 := b4.size
      replace bel := bel.trans (b4.mono bel.size)
      replace p := p.kept b4
      clear b4
      clear o4 ed ed2
      obtain ⟨p_0, p_1, p_2, p_3, p_4, p_5⟩ := p.c6
      have p_lt := p.lt
      go_wp2_with fail
      refine (sameRequests_c A4 m c4 A1 m c1 rs _ h4 h13 (by omega)).mono ?_
      rintro e w5 ⟨rfl, b5⟩
      replace h3 := h3.below b5
      clear p_0 p_1 p_2 p_3 p_4 p_5 p_lt
      have szw5 := b5.size
      replace bel := bel.trans (b5.mono bel.size)
      replace p := p.kept b5
      clear b5
      obtain ⟨p_0, p_1, p_2, p_3, p_4, p_5⟩ := p.c6
      have p_lt := p.lt
      go_wp2_with fail
      refine (iQueueOk_c l A3 n3 c3 _ _ h3 (by omega) HC3.out).mono ?_
      rintro e w6 ⟨rfl, b6⟩
      rw [HQ.out.q]
      replace h3 := h3.below b6
      clear p_0 p_1 p_2 p_3 p_4 p_5 p_lt
      have szw6 := b6.size
      replace bel := bel.trans (b6.mono bel.size)
      replace p := p.kept b6
      clear b6
      obtain ⟨p_0, p_1, p_2, p_3, p_4, p_5⟩ := p.c6
      have p_lt := p.lt
      go_wp2_with fail
      refine (iRequestOk_c l id ten line wrt dat att _).mono ?_
      rintro e w7 hx
      obtain ⟨rfl, hx2⟩ := hx
      have b7 : Below w6.heap.size w6 w7 := by first | exact hx2 | (rw [← hx2]; exact Below.refl _ _)
      have er : reqOk l id ten line wrt dat att = true := HQ.out.ok
      rw [er]
      replace h3 := h3.below b7
      clear p_0 p_1 p_2 p_3 p_4 p_5 p_lt
      have szw7 := b7.size
      replace bel := bel.trans (b7.mono bel.size)
      replace p := p.kept b7
      clear b7
      clear er hx2
      go_wp2_with fail
      refine (iCountQueue_c A3 n3 c3 _ true _ h3 (by omega)).mono ?_
      rintro e w8 hx
      obtain ⟨rfl, hx2⟩ := hx
      have b8 : Below w7.heap.size w7 w8 := by first | exact hx2 | (rw [← hx2]; exact Below.refl _ _)
      replace h3 := h3.below b8
      have szw8 := b8.size
      replace bel := bel.trans (b8.mono bel.size)
      replace p := p.kept b8
      clear b8
      clear hx2
      go_wp2_with fail
      refine (iCountQueue_c A3 n3 c3 _ false _ h3 (by omega)).mono ?_
      rintro e w9 hx
      obtain ⟨rfl, hx2⟩ := hx
      have b9 : Below w8.heap.size w8 w9 := by first | exact hx2 | (rw [← hx2]; exact Below.refl _ _)
      have ec := HQ.out.cnt
      have el := hl.out
      have hc1 := cntW_le (addQ l rs ⟨id, ten, line, wrt, dat, att⟩) true
      have hc2 := cntW_le (addQ l rs ⟨id, ten, line, wrt, dat, att⟩) false
      have hl9 := h3.len
      generalize cntW (addQ l rs ⟨id, ten, line, wrt, dat, att⟩) true = x at *
      generalize cntW (addQ l rs ⟨id, ten, line, wrt, dat, att⟩) false = y at *
      obtain rfl : y = (m : Int) + 1 - x := by omega
      have e5 : x + ((m : Int) + 1 - x) = (m : Int) + 1 := by omega
      clear ec hx2
      go_wp2
      go_ret
      refine ⟨ret_bool ?_, bel.trans (b9.mono bel.size)⟩
      first | rfl | (simp <;> omega)
end Go.Proofs.Ytbapamfomfbmmaa
