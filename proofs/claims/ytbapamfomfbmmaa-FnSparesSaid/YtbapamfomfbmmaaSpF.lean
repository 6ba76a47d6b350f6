/-
  Contract of RetireRow in the reference.
-/
import Derived.Test.YtbapamfomfbmmaaSpE
import Derived.Deep.DeepCutAuto
namespace Go.Proofs.Ytbapamfomfbmmaa
open Go.RowKit
set_option linter.unusedSimpArgs false
set_option linter.unusedVariables false

set_option maxHeartbeats 8000000 in
theorem sRetireRow_c (gg gb gr gc s : Int) (A : Option Addr) (m c : Nat) (zs : List Int) (bank row : Int) (w : World) (hA : Ints w A m zs) (hn : m ≤ 1048576) (hc : m ≤ c ∧ c ≤ maxLen) :
    Calls Try.prog 166 #[.agg #[.int .i64 gg, .int .i64 gb, .int .i64 gr, .int .i64 gc], .agg #[.int .i64 s, .slice A m c], .int .i64 bank, .int .i64 row] w (NewSpB (retMap gg gb gr gc s zs bank row) s (retOk gg gb gr gc s zs bank row) w) := by
  have bel : Below w.heap.size w w := Below.refl _ _
  have HL := Lib.hid hA.1
  go_enter Try.func166, Try.ntmps166
  go_wp2_with fail
  refine abs_call ?_
  intro W hW
  have szW : w.heap.size + 1 + 1 + 1 ≤ W.heap.size := by rw [hW]; simp [World.setCell]
  have szW_ := bel.size
  replace bel : Below w.heap.size w W := by rw [hW]; exact (((bel).alloc (by first | omega | (simp [World.setCell] <;> omega)) _).alloc (by first | omega | (simp [World.setCell] <;> omega)) _).alloc (by first | omega | (simp [World.setCell] <;> omega)) _
  have p : Box W w.heap.size 25 #[.int .i64 gg, .int .i64 gb, .int .i64 gr, .int .i64 gc] := by rw [hW]; exact (((Box.newAt (by simp [World.setCell]))).alloc _).alloc _
  have q : Box W (w.heap.size + 1) 28 #[.int .i64 s, .slice A m c] := by rw [hW]; exact ((Box.newAt (by simp [World.setCell]))).alloc _
  have r : Box W (w.heap.size + 1 + 1) 28 #[.int .i64 0, .slice none 0 0] := by rw [hW]; exact (Box.newAt (by simp [World.setCell]))
  clear hW
  refine (l17Copy_c s A m c zs _ (hA.below bel) hn).mono ?_
  rintro e w1 ⟨A1, m1, c1, rfl, o1, b1⟩
  have szw1 := b1.size
  replace bel := bel.trans (b1.mono bel.size)
  replace p := p.kept b1
  replace q := q.kept b1
  replace r := r.kept b1
  clear b1
  have hm1 : m = m1 := by rw [← o1.len]; exact HL.out.symm
  subst hm1
  obtain ⟨p_0, p_1, p_2, p_3⟩ := p.c4
  have p_lt := p.lt
  obtain ⟨q_0, q_1⟩ := q.c2
  have q_lt := q.lt
  go_wp2_with fail
  refine abs_call ?_
  intro W2 hW
  clear p_0 p_1 p_2 p_3 p_lt q_0 q_1 q_lt
  have szW2 : w1.heap.size + 1 ≤ W2.heap.size := by rw [hW]; simp [World.setCell]
  have szW2_ := bel.size
  replace bel : Below w.heap.size w W2 := by rw [hW]; exact (bel).alloc (by first | omega | (simp [World.setCell] <;> omega)) _
  replace p : Box W2 w.heap.size 25 #[.int .i64 gg, .int .i64 gb, .int .i64 gr, .int .i64 gc] := by rw [hW]; exact p.alloc _
  replace q : Box W2 (w.heap.size + 1) 28 #[.int .i64 s, .slice A m c] := by rw [hW]; exact q.alloc _
  replace r : Box W2 (w.heap.size + 1 + 1) 28 #[.int .i64 0, .slice none 0 0] := by rw [hW]; exact r.alloc _
  have x : Box W2 w1.heap.size 28 #[.int .i64 s, .slice A1 m c1] := by rw [hW]; exact (Box.newAt (by simp [World.setCell]))
  replace o1 : OwnH W2 W.heap.size w1.heap.size A1 (m) c1 zs := by rw [hW]; exact o1.alloc _
  clear hW
  refine (l17At_c gg gb gr gc s A m c zs bank row _ (hA.below bel) hn hc).mono ?_
  rintro e w2 ⟨rfl, b2⟩
  have szw2 := b2.size
  replace bel := bel.trans (b2.mono bel.size)
  replace p := p.kept b2
  replace q := q.kept b2
  replace r := r.kept b2
  replace x := x.kept b2
  replace o1 := o1.below b2
  clear b2
  by_cases hin : inSp gg gb gr gc s zs bank row = true
  case neg =>
    have hin' : inSp gg gb gr gc s zs bank row = false := by simpa using hin
    have HE := Lib.hid (ret_no hin')
    rw [show spAt gg gb gr gc s zs bank row = -1 by unfold spAt; rw [if_neg hin]]
    clear hin hin'
    obtain ⟨p_0, p_1, p_2, p_3⟩ := p.c4
    have p_lt := p.lt
    obtain ⟨q_0, q_1⟩ := q.c2
    have q_lt := q.lt
    obtain ⟨x_0, x_1⟩ := x.c2
    have x_lt := x.lt
    obtain ⟨r_0, r_1⟩ := r.c2
    have r_lt := r.lt
    have r_f := r.frozen
    go_wp2
    refine abs_body ?_
    intro W9 hW
    clear p_0 p_1 p_2 p_3 p_lt q_0 q_1 q_lt x_0 x_1 x_lt r_0 r_1 r_lt r_f
    have szW9 : w2.heap.size ≤ W9.heap.size := by rw [hW]; simp [World.setCell]
    have szW9_ := bel.size
    replace bel : Below w.heap.size w W9 := by rw [hW]; exact ((bel).setCell (by dsimp only; omega) _).setCell (by dsimp only; omega) _
    replace p : Box W9 w.heap.size 25 #[.int .i64 gg, .int .i64 gb, .int .i64 gr, .int .i64 gc] := by rw [hW]; exact ((p).far (by dsimp only; omega) _).far (by dsimp only; omega) _
    replace q : Box W9 (w.heap.size + 1) 28 #[.int .i64 s, .slice A m c] := by rw [hW]; exact ((q).far (by dsimp only; omega) _).far (by dsimp only; omega) _
    replace r : Box W9 (w.heap.size + 1 + 1) 28 #[.int .i64 s, .slice A1 m c1] := by rw [hW]; exact ((r).set_ 0 _).set_ 1 _
    replace x : Box W9 w1.heap.size 28 #[.int .i64 s, .slice A1 m c1] := by rw [hW]; exact ((x).far (by dsimp only; omega) _).far (by dsimp only; omega) _
    replace o1 : OwnH W9 W.heap.size w1.heap.size A1 (m) c1 zs := by rw [hW]; exact ((o1).setCell _ _ (by dsimp only; omega)).setCell _ _ (by dsimp only; omega)
    clear hW
    obtain ⟨z0, z1⟩ := r.c2
    refine bodyPost_ret (v := .tuple #[.agg #[.int .i64 s, .slice A1 m c1], .bool false]) (by simp [results, Try.results166, go_sem, z0, z1]) rfl ?_
    rw [HE.out.1, HE.out.2]
    exact ⟨_, _, _, rfl, o1.mono (by omega) (by omega), bel⟩
  obtain ⟨hs, nb, n, b, r0, e1, e2, e3, hl, rfl, rfl, hb, hr, n2, n4, n3, ⟨s0, s2⟩, ⟨gr0, gr1⟩, hlt0, e⟩ := inSp_parts hin
  obtain ⟨sn, rfl⟩ := Int.eq_ofNat_of_zero_le s0
  obtain ⟨kk, hkk0⟩ : ∃ kk, b * n + r0 = kk := ⟨_, rfl⟩
  rw [hkk0] at hlt0 e
  have hkk : kk < m := by have := HL.out; omega
  have hidx := Lib.hid e
  rw [show spAt gg gb gr gc sn zs b r0 = (kk : Int) by unfold spAt; rw [if_pos hin, e]]
  clear e1 e2 e3 hl e hs hlt0
  obtain ⟨p_0, p_1, p_2, p_3⟩ := p.c4
  have p_lt := p.lt
  obtain ⟨q_0, q_1⟩ := q.c2
  have q_lt := q.lt
  obtain ⟨x_0, x_1⟩ := x.c2
  have x_lt := x.lt
  go_wp2_with fail
  clear p_0 p_1 p_2 p_3 p_lt q_0 q_1 q_lt x_0 x_1 x_lt
  go_loopw [12] (fun i wr => ∃ k : Nat, k ≤ sn ∧ i = .int .i64 (gr - sn + (k : Int)) ∧ Below w.heap.size w wr ∧ Box wr w.heap.size 25 #[.int .i64 gg, .int .i64 gb, .int .i64 gr, .int .i64 gc] ∧ Box wr (w.heap.size + 1) 28 #[.int .i64 sn, .slice A m c] ∧ Box wr (w.heap.size + 1 + 1) 28 #[.int .i64 0, .slice none 0 0] ∧ Box wr w1.heap.size 28 #[.int .i64 sn, .slice A1 m c1] ∧ OwnH wr W.heap.size w1.heap.size A1 m c1 zs ∧ w1.heap.size < wr.heap.size ∧ Hid (∀ i : Nat, i < k → spFree gg gb gr gc sn zs b (gr - sn + (i : Int)) = false)) (fun i _ => (gr - intOf i).toNat)
  case atStart => exact ⟨0, Nat.zero_le _, by simp, bel, p, q, r, x, o1, by omega, (by intro i hi; omega)⟩
  case round =>
    clear p q r x o1 bel
    obtain ⟨k, hk, rfl, bel, p, q, r, x, o1, szx, HF⟩ := hrel
    obtain ⟨p_0, p_1, p_2, p_3⟩ := p.c4
    have p_lt := p.lt
    obtain ⟨q_0, q_1⟩ := q.c2
    have q_lt := q.lt
    obtain ⟨x_0, x_1⟩ := x.c2
    have x_lt := x.lt
    by_cases hlt : k < sn
    · have t1 : decide (gr - (sn : Int) + (k : Int) < gr) = true := by simp; omega
      go_wp2_with fail
      refine (sRegularRow_c gg gb gr gc sn A m c zs b (gr - sn + (k : Int)) _ (hA.below bel) hn hc).mono ?_
      rintro e w5 ⟨rfl, b5⟩
      clear p_0 p_1 p_2 p_3 p_lt q_0 q_1 q_lt x_0 x_1 x_lt
      have szw5 := b5.size
      replace bel := bel.trans (b5.mono bel.size)
      replace p := p.kept b5
      replace q := q.kept b5
      replace r := r.kept b5
      replace x := x.kept b5
      replace o1 := o1.below b5
      clear b5
      clear t1
      by_cases hx : spRegular gg gb gr gc sn zs b (gr - sn + (k : Int)) < 0
      · obtain ⟨g1, y1, rfl, hy1, hf1, hx1, gy1, gy2⟩ := o1.at_ hkk
        clear hx1
        have hfr : spFree gg gb gr gc sn zs b (gr - sn + (k : Int)) = true := by unfold spFree; simpa using hx
        have HE := Lib.hid (ret_at hin (by omega) hfr HF.out)
        have HZ : Hid (((b : Int) * (gr - sn) + (r0 : Int)).toNat = kk) := by unfold Hid; rw [hidx.out, Int.toNat_natCast]
        obtain ⟨p_0, p_1, p_2, p_3⟩ := p.c4
        have p_lt := p.lt
        obtain ⟨q_0, q_1⟩ := q.c2
        have q_lt := q.lt
        obtain ⟨x_0, x_1⟩ := x.c2
        have x_lt := x.lt
        obtain ⟨r_0, r_1⟩ := r.c2
        have r_lt := r.lt
        have r_f := r.frozen
        have x_f := x.frozen
        go_wp2
        refine abs_body ?_
        intro W9 hW
        clear p_0 p_1 p_2 p_3 p_lt q_0 q_1 q_lt x_0 x_1 x_lt r_0 r_1 r_lt r_f x_f
        have szW9 : w5.heap.size ≤ W9.heap.size := by rw [hW]; simp [World.setCell]
        have szW9_ := bel.size
        replace bel : Below w.heap.size w W9 := by rw [hW]; exact (((bel).setCell (by dsimp only; omega) _).setCell (by dsimp only; omega) _).setCell (by dsimp only; omega) _
        replace p : Box W9 w.heap.size 25 #[.int .i64 gg, .int .i64 gb, .int .i64 gr, .int .i64 gc] := by rw [hW]; exact (((p).far (by dsimp only; omega) _).far (by dsimp only; omega) _).far (by dsimp only; omega) _
        replace q : Box W9 (w.heap.size + 1) 28 #[.int .i64 sn, .slice A m c] := by rw [hW]; exact (((q).far (by dsimp only; omega) _).far (by dsimp only; omega) _).far (by dsimp only; omega) _
        replace r : Box W9 (w.heap.size + 1 + 1) 28 #[.int .i64 sn, .slice (some ⟨g1, 0, none⟩) m c1] := by rw [hW]; exact (((r).far (by dsimp only; omega) _).set_ 0 _).set_ 1 _
        replace x : Box W9 w1.heap.size 28 #[.int .i64 sn, .slice (some ⟨g1, 0, none⟩) m c1] := by rw [hW]; exact (((x).far (by dsimp only; omega) _).far (by dsimp only; omega) _).far (by dsimp only; omega) _
        replace o1 : OwnH W9 W.heap.size w1.heap.size (some ⟨g1, 0, none⟩) m c1 (zs.set kk (gr - sn + (k : Int))) := by rw [hW]; exact ((((o1).stored rfl hkk _).1).setCell _ _ (by dsimp only; omega)).setCell _ _ (by dsimp only; omega)
        clear hW
        obtain ⟨z0, z1⟩ := r.c2
        refine bodyPost_ret (v := .tuple #[.agg #[.int .i64 sn, .slice (some ⟨g1, 0, none⟩) m c1], .bool true]) (by simp [results, Try.results166, go_sem, z0, z1]) rfl ?_
        rw [HE.out.1, HE.out.2, HZ.out]
        exact ⟨_, _, _, rfl, o1.mono (by omega) (by omega), bel⟩
      · skip
        have hfr : spFree gg gb gr gc sn zs b (gr - sn + (k : Int)) = false := by unfold spFree; simpa using hx
        have HF2 : Hid (∀ i : Nat, i < k + 1 → spFree gg gb gr gc sn zs b (gr - sn + (i : Int)) = false) := by
          intro i hi
          by_cases e : i = k
          · subst e; exact hfr
          · exact HF.out i (by omega)
        go_wp2
        go_roundw
        case rel => exact ⟨k + 1, by omega, by congr 1; omega, bel, p, q, r, x, o1, by omega, HF2.out⟩
        case measure => simp [intOf]; omega
    · skip
      obtain rfl : sn = k := by omega
      have HE := Lib.hid (ret_none hin (fun j hj => HF.out j (by omega)))
      have t1 : decide (gr - (sn : Int) + (sn : Int) < gr) = false := by simp
      obtain ⟨r_0, r_1⟩ := r.c2
      have r_lt := r.lt
      have r_f := r.frozen
      go_wp2
      refine abs_body ?_
      intro W9 hW
      clear p_0 p_1 p_2 p_3 p_lt q_0 q_1 q_lt x_0 x_1 x_lt r_0 r_1 r_lt r_f
      have szW9 : wr.heap.size ≤ W9.heap.size := by rw [hW]; simp [World.setCell]
      have szW9_ := bel.size
      replace bel : Below w.heap.size w W9 := by rw [hW]; exact ((bel).setCell (by dsimp only; omega) _).setCell (by dsimp only; omega) _
      replace p : Box W9 w.heap.size 25 #[.int .i64 gg, .int .i64 gb, .int .i64 gr, .int .i64 gc] := by rw [hW]; exact ((p).far (by dsimp only; omega) _).far (by dsimp only; omega) _
      replace q : Box W9 (w.heap.size + 1) 28 #[.int .i64 sn, .slice A m c] := by rw [hW]; exact ((q).far (by dsimp only; omega) _).far (by dsimp only; omega) _
      replace r : Box W9 (w.heap.size + 1 + 1) 28 #[.int .i64 sn, .slice A1 m c1] := by rw [hW]; exact ((r).set_ 0 _).set_ 1 _
      replace x : Box W9 w1.heap.size 28 #[.int .i64 sn, .slice A1 m c1] := by rw [hW]; exact ((x).far (by dsimp only; omega) _).far (by dsimp only; omega) _
      replace o1 : OwnH W9 W.heap.size w1.heap.size A1 m c1 zs := by rw [hW]; exact ((o1).setCell _ _ (by dsimp only; omega)).setCell _ _ (by dsimp only; omega)
      clear hW
      obtain ⟨z0, z1⟩ := r.c2
      refine bodyPost_ret (v := .tuple #[.agg #[.int .i64 sn, .slice A1 m c1], .bool false]) (by simp [results, Try.results166, go_sem, z0, z1]) rfl ?_
      rw [HE.out.1, HE.out.2]
      exact ⟨_, _, _, rfl, o1.mono (by omega) (by omega), bel⟩
end Go.Proofs.Ytbapamfomfbmmaa
