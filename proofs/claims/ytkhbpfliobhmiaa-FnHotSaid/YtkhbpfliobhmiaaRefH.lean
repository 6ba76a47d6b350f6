/-
  Contracts of RefreshHeat, in the program and in the reference.
-/
import Derived.Test.YtkhbpfliobhmiaaRef3
import Derived.Test.YtkhbpfliobhmiaaRefP
namespace Go.Proofs.Ytkhbpfliobhmiaa
open Go.RowKit
set_option linter.unusedSimpArgs false
set_option linter.unusedVariables false

set_option maxHeartbeats 1000000 in
theorem iRefreshHeat_c (A : Option Addr) (n c : Nat) (zs : List Int) (s : Int) (t : Bool) (h : Bool) (w : World) (hA : Ints w A n zs) (hn : n ≤ 1048576) :
    Calls Try.prog 25 #[.agg #[.slice A n c, .int .i64 s, .bool t], .bool h] w (NewR zs (heatS zs s t h) (heatT zs s t h) w) := by
  have bel : Below w.heap.size w w := Below.refl _ _
  have hl := Lib.hid hA.1
  go_enter Try.func25, Try.ntmps25
  go_wp2_with fail
  refine abs_call ?_
  intro W hW
  have szW : w.heap.size + 1 + 1 ≤ W.heap.size := by rw [hW]; simp [World.setCell]
  have szW_ := bel.size
  replace bel : Below w.heap.size w W := by rw [hW]; exact ((bel).alloc (by first | omega | (simp [World.setCell] <;> omega)) _).alloc (by first | omega | (simp [World.setCell] <;> omega)) _
  have p : Box W w.heap.size 24 #[.slice A n c, .int .i64 s, .bool t] := by rw [hW]; exact ((Box.newAt (by simp [World.setCell]))).alloc _
  have r : Box W (w.heap.size + 1) 24 #[.slice none 0 0, .int .i64 0, .bool false] := by rw [hW]; exact (Box.newAt (by simp [World.setCell]))
  clear hW
  refine (copyRefresh_c A n c zs s t _ (hA.below bel) hn).mono ?_
  rintro e w1 ⟨A1, n1, c1, rfl, o, b1⟩
  have szw1 := b1.size
  replace bel := bel.trans (b1.mono bel.size)
  replace p := p.kept b1
  replace r := r.kept b1
  clear b1
  have n1n : n1 ≤ n := by have := o.len; have := hl.out; omega
  have nn1 : n ≤ n1 := by have := o.len; have := hl.out; omega
  obtain ⟨p_0, p_1, p_2⟩ := p.c3
  have p_lt := p.lt
  go_wp2_with fail
  refine abs_call ?_
  intro W2 hW
  clear p_0 p_1 p_2 p_lt
  have szW2 : w1.heap.size + 1 ≤ W2.heap.size := by rw [hW]; simp [World.setCell]
  have szW2_ := bel.size
  replace bel : Below w.heap.size w W2 := by rw [hW]; exact (bel).alloc (by first | omega | (simp [World.setCell] <;> omega)) _
  replace p : Box W2 w.heap.size 24 #[.slice A n c, .int .i64 s, .bool t] := by rw [hW]; exact p.alloc _
  replace r : Box W2 (w.heap.size + 1) 24 #[.slice none 0 0, .int .i64 0, .bool false] := by rw [hW]; exact r.alloc _
  have q : Box W2 w1.heap.size 24 #[.slice A1 n1 c1, .int .i64 s, .bool t] := by rw [hW]; exact (Box.newAt (by simp [World.setCell]))
  replace o : OwnH W2 W.heap.size w1.heap.size A1 n1 c1 zs := by rw [hW]; exact o.alloc _
  clear hW
  refine (iRefreshOk_c A n c zs s t _ (hA.below bel) hn).mono ?_
  rintro e w2 ⟨rfl, b2⟩
  have szw2 := b2.size
  replace bel := bel.trans (b2.mono bel.size)
  replace p := p.kept b2
  replace r := r.kept b2
  replace q := q.kept b2
  replace o := o.below b2
  clear b2
  by_cases hr : refOk zs s = true
  · obtain ⟨-, -, s1, s2⟩ := refOk_parts hr
    have HS : Hid (heatS zs s t h = (if h = true then (if t = true then s else (s + 1) / 2) else (if t = true then min (2 * s - 1) 10000 else s))) := by unfold Hid heatS; rw [if_pos hr]
    have HT : Hid (heatT zs s t h = h) := by unfold Hid heatT; rw [if_pos hr]
    cases h <;> cases t
    · skip
      obtain ⟨p_0, p_1, p_2⟩ := p.c3
      have p_lt := p.lt
      obtain ⟨q_0, q_1, q_2⟩ := q.c3
      have q_lt := q.lt
      obtain ⟨r_0, r_1, r_2⟩ := r.c3
      have r_lt := r.lt
      have q_f := q.frozen
      have r_f := r.frozen
      go_wp2
      refine abs_body ?_
      intro W9 hW
      clear p_0 p_1 p_2 p_lt q_0 q_1 q_2 q_lt r_0 r_1 r_2 r_lt q_f r_f
      have szW9 : w2.heap.size ≤ W9.heap.size := by rw [hW]; simp [World.setCell]
      have szW9_ := bel.size
      replace bel : Below w.heap.size w W9 := by rw [hW]; exact ((((bel).setCell (by dsimp only; omega) _).setCell (by dsimp only; omega) _).setCell (by dsimp only; omega) _).setCell (by dsimp only; omega) _
      replace p : Box W9 w.heap.size 24 #[.slice A n c, .int .i64 s, .bool (false)] := by rw [hW]; exact ((((p).far (by dsimp only; omega) _).far (by dsimp only; omega) _).far (by dsimp only; omega) _).far (by dsimp only; omega) _
      replace r : Box W9 (w.heap.size + 1) 24 #[.slice A1 n1 c1, .int .i64 (s), .bool false] := by rw [hW]; exact ((((r).far (by dsimp only; omega) _).set_ 0 _).set_ 1 _).set_ 2 _
      replace q : Box W9 w1.heap.size 24 #[.slice A1 n1 c1, .int .i64 s, .bool false] := by rw [hW]; exact ((((q).set_ 2 _).far (by dsimp only; omega) _).far (by dsimp only; omega) _).far (by dsimp only; omega) _
      replace o : OwnH W9 W.heap.size w1.heap.size A1 n1 c1 zs := by rw [hW]; exact ((((o).setCell _ _ (by dsimp only; omega)).setCell _ _ (by dsimp only; omega)).setCell _ _ (by dsimp only; omega)).setCell _ _ (by dsimp only; omega)
      clear hW
      obtain ⟨z1, z2, z3⟩ := r.c3
      refine bodyPost_ret (v := .agg #[.slice A1 n1 c1, .int .i64 (s), .bool false]) (by simp [results, Try.results25, go_sem, z1, z2, z3]) rfl ?_
      rw [HS.out, HT.out]
      simp only [if_true, if_false, Bool.false_eq_true]
      exact ⟨_, _, _, rfl, o.mono (by omega) (by omega), bel⟩
    · by_cases hm : 2 * s - 1 < 10000
      case pos =>
        obtain ⟨p_0, p_1, p_2⟩ := p.c3
        have p_lt := p.lt
        obtain ⟨q_0, q_1, q_2⟩ := q.c3
        have q_lt := q.lt
        obtain ⟨r_0, r_1, r_2⟩ := r.c3
        have r_lt := r.lt
        have q_f := q.frozen
        have r_f := r.frozen
        go_wp2
        refine abs_body ?_
        intro W9 hW
        clear p_0 p_1 p_2 p_lt q_0 q_1 q_2 q_lt r_0 r_1 r_2 r_lt q_f r_f
        have szW9 : w2.heap.size ≤ W9.heap.size := by rw [hW]; simp [World.setCell]
        have szW9_ := bel.size
        replace bel : Below w.heap.size w W9 := by rw [hW]; exact (((((bel).setCell (by dsimp only; omega) _).setCell (by dsimp only; omega) _).setCell (by dsimp only; omega) _).setCell (by dsimp only; omega) _).setCell (by dsimp only; omega) _
        replace p : Box W9 w.heap.size 24 #[.slice A n c, .int .i64 s, .bool (true)] := by rw [hW]; exact (((((p).far (by dsimp only; omega) _).far (by dsimp only; omega) _).far (by dsimp only; omega) _).far (by dsimp only; omega) _).far (by dsimp only; omega) _
        replace r : Box W9 (w.heap.size + 1) 24 #[.slice A1 n1 c1, .int .i64 (2 * s - 1), .bool false] := by rw [hW]; exact (((((r).far (by dsimp only; omega) _).far (by dsimp only; omega) _).set_ 0 _).set_ 1 _).set_ 2 _
        replace q : Box W9 w1.heap.size 24 #[.slice A1 n1 c1, .int .i64 (2 * s - 1), .bool false] := by rw [hW]; exact (((((q).set_ 2 _).set_ 1 _).far (by dsimp only; omega) _).far (by dsimp only; omega) _).far (by dsimp only; omega) _
        replace o : OwnH W9 W.heap.size w1.heap.size A1 n1 c1 zs := by rw [hW]; exact (((((o).setCell _ _ (by dsimp only; omega)).setCell _ _ (by dsimp only; omega)).setCell _ _ (by dsimp only; omega)).setCell _ _ (by dsimp only; omega)).setCell _ _ (by dsimp only; omega)
        clear hW
        obtain ⟨z1, z2, z3⟩ := r.c3
        refine bodyPost_ret (v := .agg #[.slice A1 n1 c1, .int .i64 (2 * s - 1), .bool false]) (by simp [results, Try.results25, go_sem, z1, z2, z3]) rfl ?_
        rw [HS.out, HT.out]
        simp only [if_true, if_false, Bool.false_eq_true]
        rw [show min (2 * s - 1) 10000 = 2 * s - 1 from by omega]
        exact ⟨_, _, _, rfl, o.mono (by omega) (by omega), bel⟩
      case neg =>
        obtain ⟨p_0, p_1, p_2⟩ := p.c3
        have p_lt := p.lt
        obtain ⟨q_0, q_1, q_2⟩ := q.c3
        have q_lt := q.lt
        obtain ⟨r_0, r_1, r_2⟩ := r.c3
        have r_lt := r.lt
        have q_f := q.frozen
        have r_f := r.frozen
        go_wp2
        refine abs_body ?_
        intro W9 hW
        clear p_0 p_1 p_2 p_lt q_0 q_1 q_2 q_lt r_0 r_1 r_2 r_lt q_f r_f
        have szW9 : w2.heap.size ≤ W9.heap.size := by rw [hW]; simp [World.setCell]
        have szW9_ := bel.size
        replace bel : Below w.heap.size w W9 := by rw [hW]; exact (((((bel).setCell (by dsimp only; omega) _).setCell (by dsimp only; omega) _).setCell (by dsimp only; omega) _).setCell (by dsimp only; omega) _).setCell (by dsimp only; omega) _
        replace p : Box W9 w.heap.size 24 #[.slice A n c, .int .i64 s, .bool (true)] := by rw [hW]; exact (((((p).far (by dsimp only; omega) _).far (by dsimp only; omega) _).far (by dsimp only; omega) _).far (by dsimp only; omega) _).far (by dsimp only; omega) _
        replace r : Box W9 (w.heap.size + 1) 24 #[.slice A1 n1 c1, .int .i64 (10000), .bool false] := by rw [hW]; exact (((((r).far (by dsimp only; omega) _).far (by dsimp only; omega) _).set_ 0 _).set_ 1 _).set_ 2 _
        replace q : Box W9 w1.heap.size 24 #[.slice A1 n1 c1, .int .i64 (10000), .bool false] := by rw [hW]; exact (((((q).set_ 2 _).set_ 1 _).far (by dsimp only; omega) _).far (by dsimp only; omega) _).far (by dsimp only; omega) _
        replace o : OwnH W9 W.heap.size w1.heap.size A1 n1 c1 zs := by rw [hW]; exact (((((o).setCell _ _ (by dsimp only; omega)).setCell _ _ (by dsimp only; omega)).setCell _ _ (by dsimp only; omega)).setCell _ _ (by dsimp only; omega)).setCell _ _ (by dsimp only; omega)
        clear hW
        obtain ⟨z1, z2, z3⟩ := r.c3
        refine bodyPost_ret (v := .agg #[.slice A1 n1 c1, .int .i64 (10000), .bool false]) (by simp [results, Try.results25, go_sem, z1, z2, z3]) rfl ?_
        rw [HS.out, HT.out]
        simp only [if_true, if_false, Bool.false_eq_true]
        rw [show min (2 * s - 1) 10000 = 10000 from by omega]
        exact ⟨_, _, _, rfl, o.mono (by omega) (by omega), bel⟩
    · skip
      obtain ⟨p_0, p_1, p_2⟩ := p.c3
      have p_lt := p.lt
      obtain ⟨q_0, q_1, q_2⟩ := q.c3
      have q_lt := q.lt
      obtain ⟨r_0, r_1, r_2⟩ := r.c3
      have r_lt := r.lt
      have q_f := q.frozen
      have r_f := r.frozen
      go_wp2
      refine abs_body ?_
      intro W9 hW
      clear p_0 p_1 p_2 p_lt q_0 q_1 q_2 q_lt r_0 r_1 r_2 r_lt q_f r_f
      have szW9 : w2.heap.size ≤ W9.heap.size := by rw [hW]; simp [World.setCell]
      have szW9_ := bel.size
      replace bel : Below w.heap.size w W9 := by rw [hW]; exact (((((bel).setCell (by dsimp only; omega) _).setCell (by dsimp only; omega) _).setCell (by dsimp only; omega) _).setCell (by dsimp only; omega) _).setCell (by dsimp only; omega) _
      replace p : Box W9 w.heap.size 24 #[.slice A n c, .int .i64 s, .bool (false)] := by rw [hW]; exact (((((p).far (by dsimp only; omega) _).far (by dsimp only; omega) _).far (by dsimp only; omega) _).far (by dsimp only; omega) _).far (by dsimp only; omega) _
      replace r : Box W9 (w.heap.size + 1) 24 #[.slice A1 n1 c1, .int .i64 ((s + 1) / 2), .bool true] := by rw [hW]; exact (((((r).far (by dsimp only; omega) _).far (by dsimp only; omega) _).set_ 0 _).set_ 1 _).set_ 2 _
      replace q : Box W9 w1.heap.size 24 #[.slice A1 n1 c1, .int .i64 ((s + 1) / 2), .bool true] := by rw [hW]; exact (((((q).set_ 2 _).set_ 1 _).far (by dsimp only; omega) _).far (by dsimp only; omega) _).far (by dsimp only; omega) _
      replace o : OwnH W9 W.heap.size w1.heap.size A1 n1 c1 zs := by rw [hW]; exact (((((o).setCell _ _ (by dsimp only; omega)).setCell _ _ (by dsimp only; omega)).setCell _ _ (by dsimp only; omega)).setCell _ _ (by dsimp only; omega)).setCell _ _ (by dsimp only; omega)
      clear hW
      obtain ⟨z1, z2, z3⟩ := r.c3
      refine bodyPost_ret (v := .agg #[.slice A1 n1 c1, .int .i64 ((s + 1) / 2), .bool true]) (by simp [results, Try.results25, go_sem, z1, z2, z3]) rfl ?_
      rw [HS.out, HT.out]
      simp only [if_true, if_false, Bool.false_eq_true]
      exact ⟨_, _, _, rfl, o.mono (by omega) (by omega), bel⟩
    · skip
      obtain ⟨p_0, p_1, p_2⟩ := p.c3
      have p_lt := p.lt
      obtain ⟨q_0, q_1, q_2⟩ := q.c3
      have q_lt := q.lt
      obtain ⟨r_0, r_1, r_2⟩ := r.c3
      have r_lt := r.lt
      have q_f := q.frozen
      have r_f := r.frozen
      go_wp2
      refine abs_body ?_
      intro W9 hW
      clear p_0 p_1 p_2 p_lt q_0 q_1 q_2 q_lt r_0 r_1 r_2 r_lt q_f r_f
      have szW9 : w2.heap.size ≤ W9.heap.size := by rw [hW]; simp [World.setCell]
      have szW9_ := bel.size
      replace bel : Below w.heap.size w W9 := by rw [hW]; exact ((((bel).setCell (by dsimp only; omega) _).setCell (by dsimp only; omega) _).setCell (by dsimp only; omega) _).setCell (by dsimp only; omega) _
      replace p : Box W9 w.heap.size 24 #[.slice A n c, .int .i64 s, .bool (true)] := by rw [hW]; exact ((((p).far (by dsimp only; omega) _).far (by dsimp only; omega) _).far (by dsimp only; omega) _).far (by dsimp only; omega) _
      replace r : Box W9 (w.heap.size + 1) 24 #[.slice A1 n1 c1, .int .i64 (s), .bool true] := by rw [hW]; exact ((((r).far (by dsimp only; omega) _).set_ 0 _).set_ 1 _).set_ 2 _
      replace q : Box W9 w1.heap.size 24 #[.slice A1 n1 c1, .int .i64 s, .bool true] := by rw [hW]; exact ((((q).set_ 2 _).far (by dsimp only; omega) _).far (by dsimp only; omega) _).far (by dsimp only; omega) _
      replace o : OwnH W9 W.heap.size w1.heap.size A1 n1 c1 zs := by rw [hW]; exact ((((o).setCell _ _ (by dsimp only; omega)).setCell _ _ (by dsimp only; omega)).setCell _ _ (by dsimp only; omega)).setCell _ _ (by dsimp only; omega)
      clear hW
      obtain ⟨z1, z2, z3⟩ := r.c3
      refine bodyPost_ret (v := .agg #[.slice A1 n1 c1, .int .i64 (s), .bool true]) (by simp [results, Try.results25, go_sem, z1, z2, z3]) rfl ?_
      rw [HS.out, HT.out]
      simp only [if_true, if_false, Bool.false_eq_true]
      exact ⟨_, _, _, rfl, o.mono (by omega) (by omega), bel⟩
  · have hr' : refOk zs s = false := by simpa using hr
    have HS : Hid (heatS zs s t h = s) := by unfold Hid heatS; rw [if_neg hr]
    have HT : Hid (heatT zs s t h = t) := by unfold Hid heatT; rw [if_neg hr]
    clear hr
    obtain ⟨p_0, p_1, p_2⟩ := p.c3
    have p_lt := p.lt
    obtain ⟨q_0, q_1, q_2⟩ := q.c3
    have q_lt := q.lt
    obtain ⟨r_0, r_1, r_2⟩ := r.c3
    have r_lt := r.lt
    have r_f := r.frozen
    go_wp2
    refine abs_body ?_
    intro W9 hW
    clear p_0 p_1 p_2 p_lt q_0 q_1 q_2 q_lt r_0 r_1 r_2 r_lt r_f
    have szW9 : w2.heap.size ≤ W9.heap.size := by rw [hW]; simp [World.setCell]
    have szW9_ := bel.size
    replace bel : Below w.heap.size w W9 := by rw [hW]; exact (((bel).setCell (by dsimp only; omega) _).setCell (by dsimp only; omega) _).setCell (by dsimp only; omega) _
    replace p : Box W9 w.heap.size 24 #[.slice A n c, .int .i64 s, .bool t] := by rw [hW]; exact (((p).far (by dsimp only; omega) _).far (by dsimp only; omega) _).far (by dsimp only; omega) _
    replace r : Box W9 (w.heap.size + 1) 24 #[.slice A1 n1 c1, .int .i64 s, .bool t] := by rw [hW]; exact (((r).set_ 0 _).set_ 1 _).set_ 2 _
    replace q : Box W9 w1.heap.size 24 #[.slice A1 n1 c1, .int .i64 s, .bool t] := by rw [hW]; exact (((q).far (by dsimp only; omega) _).far (by dsimp only; omega) _).far (by dsimp only; omega) _
    replace o : OwnH W9 W.heap.size w1.heap.size A1 n1 c1 zs := by rw [hW]; exact (((o).setCell _ _ (by dsimp only; omega)).setCell _ _ (by dsimp only; omega)).setCell _ _ (by dsimp only; omega)
    clear hW
    obtain ⟨z1, z2, z3⟩ := r.c3
    refine bodyPost_ret (v := .agg #[.slice A1 n1 c1, .int .i64 s, .bool t]) (by simp [results, Try.results25, go_sem, z1, z2, z3]) rfl ?_
    rw [HS.out, HT.out]
    exact ⟨_, _, _, rfl, o.mono (by omega) (by omega), bel⟩

set_option maxHeartbeats 1000000 in
theorem sRefreshHeat_c (A : Option Addr) (n c : Nat) (zs : List Int) (s : Int) (t : Bool) (h : Bool) (w : World) (hA : Ints w A n zs) (hn : n ≤ 1048576) :
    Calls Try.prog 24 #[.agg #[.slice A n c, .int .i64 s, .bool t], .bool h] w (NewR zs (heatS zs s t h) (heatT zs s t h) w) := by
  have bel : Below w.heap.size w w := Below.refl _ _
  have hl := Lib.hid hA.1
  go_enter Try.func24, Try.ntmps24
  go_wp2_with fail
  refine abs_call ?_
  intro W hW
  have szW : w.heap.size + 1 + 1 ≤ W.heap.size := by rw [hW]; simp [World.setCell]
  have szW_ := bel.size
  replace bel : Below w.heap.size w W := by rw [hW]; exact ((bel).alloc (by first | omega | (simp [World.setCell] <;> omega)) _).alloc (by first | omega | (simp [World.setCell] <;> omega)) _
  have p : Box W w.heap.size 24 #[.slice A n c, .int .i64 s, .bool t] := by rw [hW]; exact ((Box.newAt (by simp [World.setCell]))).alloc _
  have r : Box W (w.heap.size + 1) 24 #[.slice none 0 0, .int .i64 0, .bool false] := by rw [hW]; exact (Box.newAt (by simp [World.setCell]))
  clear hW
  refine (l18Copy_c A n c zs s t _ (hA.below bel) hn).mono ?_
  rintro e w1 ⟨A1, n1, c1, rfl, o, b1⟩
  have szw1 := b1.size
  replace bel := bel.trans (b1.mono bel.size)
  replace p := p.kept b1
  replace r := r.kept b1
  clear b1
  have n1n : n1 ≤ n := by have := o.len; have := hl.out; omega
  have nn1 : n ≤ n1 := by have := o.len; have := hl.out; omega
  obtain ⟨p_0, p_1, p_2⟩ := p.c3
  have p_lt := p.lt
  go_wp2_with fail
  refine abs_call ?_
  intro W2 hW
  clear p_0 p_1 p_2 p_lt
  have szW2 : w1.heap.size + 1 ≤ W2.heap.size := by rw [hW]; simp [World.setCell]
  have szW2_ := bel.size
  replace bel : Below w.heap.size w W2 := by rw [hW]; exact (bel).alloc (by first | omega | (simp [World.setCell] <;> omega)) _
  replace p : Box W2 w.heap.size 24 #[.slice A n c, .int .i64 s, .bool t] := by rw [hW]; exact p.alloc _
  replace r : Box W2 (w.heap.size + 1) 24 #[.slice none 0 0, .int .i64 0, .bool false] := by rw [hW]; exact r.alloc _
  have q : Box W2 w1.heap.size 24 #[.slice A1 n1 c1, .int .i64 s, .bool t] := by rw [hW]; exact (Box.newAt (by simp [World.setCell]))
  replace o : OwnH W2 W.heap.size w1.heap.size A1 n1 c1 zs := by rw [hW]; exact o.alloc _
  clear hW
  refine (sRefreshOk_c A n c zs s t _ (hA.below bel) hn).mono ?_
  rintro e w2 ⟨rfl, b2⟩
  have szw2 := b2.size
  replace bel := bel.trans (b2.mono bel.size)
  replace p := p.kept b2
  replace r := r.kept b2
  replace q := q.kept b2
  replace o := o.below b2
  clear b2
  by_cases hr : refOk zs s = true
  · obtain ⟨-, -, s1, s2⟩ := refOk_parts hr
    have HS : Hid (heatS zs s t h = (if h = true then (if t = true then s else (s + 1) / 2) else (if t = true then min (2 * s - 1) 10000 else s))) := by unfold Hid heatS; rw [if_pos hr]
    have HT : Hid (heatT zs s t h = h) := by unfold Hid heatT; rw [if_pos hr]
    cases h <;> cases t
    · skip
      obtain ⟨p_0, p_1, p_2⟩ := p.c3
      have p_lt := p.lt
      obtain ⟨q_0, q_1, q_2⟩ := q.c3
      have q_lt := q.lt
      obtain ⟨r_0, r_1, r_2⟩ := r.c3
      have r_lt := r.lt
      have q_f := q.frozen
      have r_f := r.frozen
      go_wp2
      refine abs_body ?_
      intro W9 hW
      clear p_0 p_1 p_2 p_lt q_0 q_1 q_2 q_lt r_0 r_1 r_2 r_lt q_f r_f
      have szW9 : w2.heap.size ≤ W9.heap.size := by rw [hW]; simp [World.setCell]
      have szW9_ := bel.size
      replace bel : Below w.heap.size w W9 := by rw [hW]; exact ((((bel).setCell (by dsimp only; omega) _).setCell (by dsimp only; omega) _).setCell (by dsimp only; omega) _).setCell (by dsimp only; omega) _
      replace p : Box W9 w.heap.size 24 #[.slice A n c, .int .i64 s, .bool (false)] := by rw [hW]; exact ((((p).far (by dsimp only; omega) _).far (by dsimp only; omega) _).far (by dsimp only; omega) _).far (by dsimp only; omega) _
      replace r : Box W9 (w.heap.size + 1) 24 #[.slice A1 n1 c1, .int .i64 (s), .bool false] := by rw [hW]; exact ((((r).far (by dsimp only; omega) _).set_ 0 _).set_ 1 _).set_ 2 _
      replace q : Box W9 w1.heap.size 24 #[.slice A1 n1 c1, .int .i64 s, .bool false] := by rw [hW]; exact ((((q).set_ 2 _).far (by dsimp only; omega) _).far (by dsimp only; omega) _).far (by dsimp only; omega) _
      replace o : OwnH W9 W.heap.size w1.heap.size A1 n1 c1 zs := by rw [hW]; exact ((((o).setCell _ _ (by dsimp only; omega)).setCell _ _ (by dsimp only; omega)).setCell _ _ (by dsimp only; omega)).setCell _ _ (by dsimp only; omega)
      clear hW
      obtain ⟨z1, z2, z3⟩ := r.c3
      refine bodyPost_ret (v := .agg #[.slice A1 n1 c1, .int .i64 (s), .bool false]) (by simp [results, Try.results24, go_sem, z1, z2, z3]) rfl ?_
      rw [HS.out, HT.out]
      simp only [if_true, if_false, Bool.false_eq_true]
      exact ⟨_, _, _, rfl, o.mono (by omega) (by omega), bel⟩
    · by_cases hm : 2 * s - 1 < 10000
      case pos =>
        obtain ⟨p_0, p_1, p_2⟩ := p.c3
        have p_lt := p.lt
        obtain ⟨q_0, q_1, q_2⟩ := q.c3
        have q_lt := q.lt
        obtain ⟨r_0, r_1, r_2⟩ := r.c3
        have r_lt := r.lt
        have q_f := q.frozen
        have r_f := r.frozen
        go_wp2
        refine abs_body ?_
        intro W9 hW
        clear p_0 p_1 p_2 p_lt q_0 q_1 q_2 q_lt r_0 r_1 r_2 r_lt q_f r_f
        have szW9 : w2.heap.size ≤ W9.heap.size := by rw [hW]; simp [World.setCell]
        have szW9_ := bel.size
        replace bel : Below w.heap.size w W9 := by rw [hW]; exact (((((bel).setCell (by dsimp only; omega) _).setCell (by dsimp only; omega) _).setCell (by dsimp only; omega) _).setCell (by dsimp only; omega) _).setCell (by dsimp only; omega) _
        replace p : Box W9 w.heap.size 24 #[.slice A n c, .int .i64 s, .bool (true)] := by rw [hW]; exact (((((p).far (by dsimp only; omega) _).far (by dsimp only; omega) _).far (by dsimp only; omega) _).far (by dsimp only; omega) _).far (by dsimp only; omega) _
        replace r : Box W9 (w.heap.size + 1) 24 #[.slice A1 n1 c1, .int .i64 (2 * s - 1), .bool false] := by rw [hW]; exact (((((r).far (by dsimp only; omega) _).far (by dsimp only; omega) _).set_ 0 _).set_ 1 _).set_ 2 _
        replace q : Box W9 w1.heap.size 24 #[.slice A1 n1 c1, .int .i64 (2 * s - 1), .bool false] := by rw [hW]; exact (((((q).set_ 1 _).set_ 2 _).far (by dsimp only; omega) _).far (by dsimp only; omega) _).far (by dsimp only; omega) _
        replace o : OwnH W9 W.heap.size w1.heap.size A1 n1 c1 zs := by rw [hW]; exact (((((o).setCell _ _ (by dsimp only; omega)).setCell _ _ (by dsimp only; omega)).setCell _ _ (by dsimp only; omega)).setCell _ _ (by dsimp only; omega)).setCell _ _ (by dsimp only; omega)
        clear hW
        obtain ⟨z1, z2, z3⟩ := r.c3
        refine bodyPost_ret (v := .agg #[.slice A1 n1 c1, .int .i64 (2 * s - 1), .bool false]) (by simp [results, Try.results24, go_sem, z1, z2, z3]) rfl ?_
        rw [HS.out, HT.out]
        simp only [if_true, if_false, Bool.false_eq_true]
        rw [show min (2 * s - 1) 10000 = 2 * s - 1 from by omega]
        exact ⟨_, _, _, rfl, o.mono (by omega) (by omega), bel⟩
      case neg =>
        obtain ⟨p_0, p_1, p_2⟩ := p.c3
        have p_lt := p.lt
        obtain ⟨q_0, q_1, q_2⟩ := q.c3
        have q_lt := q.lt
        obtain ⟨r_0, r_1, r_2⟩ := r.c3
        have r_lt := r.lt
        have q_f := q.frozen
        have r_f := r.frozen
        go_wp2
        refine abs_body ?_
        intro W9 hW
        clear p_0 p_1 p_2 p_lt q_0 q_1 q_2 q_lt r_0 r_1 r_2 r_lt q_f r_f
        have szW9 : w2.heap.size ≤ W9.heap.size := by rw [hW]; simp [World.setCell]
        have szW9_ := bel.size
        replace bel : Below w.heap.size w W9 := by rw [hW]; exact (((((bel).setCell (by dsimp only; omega) _).setCell (by dsimp only; omega) _).setCell (by dsimp only; omega) _).setCell (by dsimp only; omega) _).setCell (by dsimp only; omega) _
        replace p : Box W9 w.heap.size 24 #[.slice A n c, .int .i64 s, .bool (true)] := by rw [hW]; exact (((((p).far (by dsimp only; omega) _).far (by dsimp only; omega) _).far (by dsimp only; omega) _).far (by dsimp only; omega) _).far (by dsimp only; omega) _
        replace r : Box W9 (w.heap.size + 1) 24 #[.slice A1 n1 c1, .int .i64 (10000), .bool false] := by rw [hW]; exact (((((r).far (by dsimp only; omega) _).far (by dsimp only; omega) _).set_ 0 _).set_ 1 _).set_ 2 _
        replace q : Box W9 w1.heap.size 24 #[.slice A1 n1 c1, .int .i64 (10000), .bool false] := by rw [hW]; exact (((((q).set_ 1 _).set_ 2 _).far (by dsimp only; omega) _).far (by dsimp only; omega) _).far (by dsimp only; omega) _
        replace o : OwnH W9 W.heap.size w1.heap.size A1 n1 c1 zs := by rw [hW]; exact (((((o).setCell _ _ (by dsimp only; omega)).setCell _ _ (by dsimp only; omega)).setCell _ _ (by dsimp only; omega)).setCell _ _ (by dsimp only; omega)).setCell _ _ (by dsimp only; omega)
        clear hW
        obtain ⟨z1, z2, z3⟩ := r.c3
        refine bodyPost_ret (v := .agg #[.slice A1 n1 c1, .int .i64 (10000), .bool false]) (by simp [results, Try.results24, go_sem, z1, z2, z3]) rfl ?_
        rw [HS.out, HT.out]
        simp only [if_true, if_false, Bool.false_eq_true]
        rw [show min (2 * s - 1) 10000 = 10000 from by omega]
        exact ⟨_, _, _, rfl, o.mono (by omega) (by omega), bel⟩
    · skip
      obtain ⟨p_0, p_1, p_2⟩ := p.c3
      have p_lt := p.lt
      obtain ⟨q_0, q_1, q_2⟩ := q.c3
      have q_lt := q.lt
      obtain ⟨r_0, r_1, r_2⟩ := r.c3
      have r_lt := r.lt
      have q_f := q.frozen
      have r_f := r.frozen
      go_wp2
      refine abs_body ?_
      intro W9 hW
      clear p_0 p_1 p_2 p_lt q_0 q_1 q_2 q_lt r_0 r_1 r_2 r_lt q_f r_f
      have szW9 : w2.heap.size ≤ W9.heap.size := by rw [hW]; simp [World.setCell]
      have szW9_ := bel.size
      replace bel : Below w.heap.size w W9 := by rw [hW]; exact (((((bel).setCell (by dsimp only; omega) _).setCell (by dsimp only; omega) _).setCell (by dsimp only; omega) _).setCell (by dsimp only; omega) _).setCell (by dsimp only; omega) _
      replace p : Box W9 w.heap.size 24 #[.slice A n c, .int .i64 s, .bool (false)] := by rw [hW]; exact (((((p).far (by dsimp only; omega) _).far (by dsimp only; omega) _).far (by dsimp only; omega) _).far (by dsimp only; omega) _).far (by dsimp only; omega) _
      replace r : Box W9 (w.heap.size + 1) 24 #[.slice A1 n1 c1, .int .i64 ((s + 1) / 2), .bool true] := by rw [hW]; exact (((((r).far (by dsimp only; omega) _).far (by dsimp only; omega) _).set_ 0 _).set_ 1 _).set_ 2 _
      replace q : Box W9 w1.heap.size 24 #[.slice A1 n1 c1, .int .i64 ((s + 1) / 2), .bool true] := by rw [hW]; exact (((((q).set_ 1 _).set_ 2 _).far (by dsimp only; omega) _).far (by dsimp only; omega) _).far (by dsimp only; omega) _
      replace o : OwnH W9 W.heap.size w1.heap.size A1 n1 c1 zs := by rw [hW]; exact (((((o).setCell _ _ (by dsimp only; omega)).setCell _ _ (by dsimp only; omega)).setCell _ _ (by dsimp only; omega)).setCell _ _ (by dsimp only; omega)).setCell _ _ (by dsimp only; omega)
      clear hW
      obtain ⟨z1, z2, z3⟩ := r.c3
      refine bodyPost_ret (v := .agg #[.slice A1 n1 c1, .int .i64 ((s + 1) / 2), .bool true]) (by simp [results, Try.results24, go_sem, z1, z2, z3]) rfl ?_
      rw [HS.out, HT.out]
      simp only [if_true, if_false, Bool.false_eq_true]
      exact ⟨_, _, _, rfl, o.mono (by omega) (by omega), bel⟩
    · skip
      obtain ⟨p_0, p_1, p_2⟩ := p.c3
      have p_lt := p.lt
      obtain ⟨q_0, q_1, q_2⟩ := q.c3
      have q_lt := q.lt
      obtain ⟨r_0, r_1, r_2⟩ := r.c3
      have r_lt := r.lt
      have q_f := q.frozen
      have r_f := r.frozen
      go_wp2
      refine abs_body ?_
      intro W9 hW
      clear p_0 p_1 p_2 p_lt q_0 q_1 q_2 q_lt r_0 r_1 r_2 r_lt q_f r_f
      have szW9 : w2.heap.size ≤ W9.heap.size := by rw [hW]; simp [World.setCell]
      have szW9_ := bel.size
      replace bel : Below w.heap.size w W9 := by rw [hW]; exact ((((bel).setCell (by dsimp only; omega) _).setCell (by dsimp only; omega) _).setCell (by dsimp only; omega) _).setCell (by dsimp only; omega) _
      replace p : Box W9 w.heap.size 24 #[.slice A n c, .int .i64 s, .bool (true)] := by rw [hW]; exact ((((p).far (by dsimp only; omega) _).far (by dsimp only; omega) _).far (by dsimp only; omega) _).far (by dsimp only; omega) _
      replace r : Box W9 (w.heap.size + 1) 24 #[.slice A1 n1 c1, .int .i64 (s), .bool true] := by rw [hW]; exact ((((r).far (by dsimp only; omega) _).set_ 0 _).set_ 1 _).set_ 2 _
      replace q : Box W9 w1.heap.size 24 #[.slice A1 n1 c1, .int .i64 s, .bool true] := by rw [hW]; exact ((((q).set_ 2 _).far (by dsimp only; omega) _).far (by dsimp only; omega) _).far (by dsimp only; omega) _
      replace o : OwnH W9 W.heap.size w1.heap.size A1 n1 c1 zs := by rw [hW]; exact ((((o).setCell _ _ (by dsimp only; omega)).setCell _ _ (by dsimp only; omega)).setCell _ _ (by dsimp only; omega)).setCell _ _ (by dsimp only; omega)
      clear hW
      obtain ⟨z1, z2, z3⟩ := r.c3
      refine bodyPost_ret (v := .agg #[.slice A1 n1 c1, .int .i64 (s), .bool true]) (by simp [results, Try.results24, go_sem, z1, z2, z3]) rfl ?_
      rw [HS.out, HT.out]
      simp only [if_true, if_false, Bool.false_eq_true]
      exact ⟨_, _, _, rfl, o.mono (by omega) (by omega), bel⟩
  · have hr' : refOk zs s = false := by simpa using hr
    have HS : Hid (heatS zs s t h = s) := by unfold Hid heatS; rw [if_neg hr]
    have HT : Hid (heatT zs s t h = t) := by unfold Hid heatT; rw [if_neg hr]
    clear hr
    obtain ⟨p_0, p_1, p_2⟩ := p.c3
    have p_lt := p.lt
    obtain ⟨q_0, q_1, q_2⟩ := q.c3
    have q_lt := q.lt
    obtain ⟨r_0, r_1, r_2⟩ := r.c3
    have r_lt := r.lt
    have r_f := r.frozen
    go_wp2
    refine abs_body ?_
    intro W9 hW
    clear p_0 p_1 p_2 p_lt q_0 q_1 q_2 q_lt r_0 r_1 r_2 r_lt r_f
    have szW9 : w2.heap.size ≤ W9.heap.size := by rw [hW]; simp [World.setCell]
    have szW9_ := bel.size
    replace bel : Below w.heap.size w W9 := by rw [hW]; exact (((bel).setCell (by dsimp only; omega) _).setCell (by dsimp only; omega) _).setCell (by dsimp only; omega) _
    replace p : Box W9 w.heap.size 24 #[.slice A n c, .int .i64 s, .bool t] := by rw [hW]; exact (((p).far (by dsimp only; omega) _).far (by dsimp only; omega) _).far (by dsimp only; omega) _
    replace r : Box W9 (w.heap.size + 1) 24 #[.slice A1 n1 c1, .int .i64 s, .bool t] := by rw [hW]; exact (((r).set_ 0 _).set_ 1 _).set_ 2 _
    replace q : Box W9 w1.heap.size 24 #[.slice A1 n1 c1, .int .i64 s, .bool t] := by rw [hW]; exact (((q).far (by dsimp only; omega) _).far (by dsimp only; omega) _).far (by dsimp only; omega) _
    replace o : OwnH W9 W.heap.size w1.heap.size A1 n1 c1 zs := by rw [hW]; exact (((o).setCell _ _ (by dsimp only; omega)).setCell _ _ (by dsimp only; omega)).setCell _ _ (by dsimp only; omega)
    clear hW
    obtain ⟨z1, z2, z3⟩ := r.c3
    refine bodyPost_ret (v := .agg #[.slice A1 n1 c1, .int .i64 s, .bool t]) (by simp [results, Try.results24, go_sem, z1, z2, z3]) rfl ?_
    rw [HS.out, HT.out]
    exact ⟨_, _, _, rfl, o.mono (by omega) (by omega), bel⟩

end Go.Proofs.Ytkhbpfliobhmiaa
