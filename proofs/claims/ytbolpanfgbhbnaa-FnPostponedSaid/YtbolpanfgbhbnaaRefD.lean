/-
  Contracts of RefreshDone, RefreshHeat and RefreshTick, in the program and in the reference.
-/
import Derived.Test.YtbolpanfgbhbnaaRef3
import Derived.Test.YtbolpanfgbhbnaaRefP
namespace Go.Proofs.Ytbolpanfgbhbnaa
open Go.RowKit
set_option linter.unusedSimpArgs false
set_option linter.unusedVariables false

theorem doneOk_t {zs : List Int} {s x : Int} {k : Nat} (h1 : refOk zs s = true) (h2 : inB (k : Int) 0 ((zs.length : Int) - 1) = true) (hx : zs[k]? = some x) (h3 : -2 < x) : doneOk zs s k = true ∧ doneZ zs s k = zs.set k (x - 1) := by
  have h : doneOk zs s k = true := by unfold doneOk; rw [h1, h2, Int.toNat_natCast, getD_of hx]; simp [h3]
  refine ⟨h, ?_⟩
  unfold doneZ
  rw [if_pos h, Int.toNat_natCast, getD_of hx]
theorem doneOk_f {zs : List Int} {s b : Int} (h : refOk zs s = false ∨ inB b 0 ((zs.length : Int) - 1) = false ∨ ∃ x, zs[b.toNat]? = some x ∧ x ≤ -2) : doneOk zs s b = false ∧ doneZ zs s b = zs := by
  have h : doneOk zs s b = false := by
    unfold doneOk
    rcases h with h | h | ⟨x, h, h'⟩
    · rw [h]; rfl
    · rw [h]; simp
    · rw [getD_of h]; simp; intros; omega
  refine ⟨h, ?_⟩
  unfold doneZ
  rw [if_neg (by rw [h]; simp)]

set_option maxHeartbeats 1000000 in
theorem iRefreshDone_c (A : Option Addr) (n c : Nat) (zs : List Int) (s : Int) (t : Bool) (b : Int) (w : World) (hA : Ints w A n zs) (hn : n ≤ 1048576) :
    Calls Try.prog 19 #[.agg #[.slice A n c, .int .i64 s, .bool t], .int .i64 b] w (NewRB (doneZ zs s b) s t (doneOk zs s b) w) := by
  have bel : Below w.heap.size w w := Below.refl _ _
  have hl := Lib.hid hA.1
  go_enter Try.func19, Try.ntmps19
  go_wp2_with fail
  refine abs_call ?_
  intro W hW
  have szW : w.heap.size + 1 + 1 ≤ W.heap.size := by rw [hW]; simp [World.setCell]
  have szW_ := bel.size
  replace bel : Below w.heap.size w W := by rw [hW]; exact ((bel).alloc (by first | omega | (simp [World.setCell] <;> omega)) _).alloc (by first | omega | (simp [World.setCell] <;> omega)) _
  have p : Box W w.heap.size 27 #[.slice A n c, .int .i64 s, .bool t] := by rw [hW]; exact ((Box.newAt (by simp [World.setCell]))).alloc _
  have r : Box W (w.heap.size + 1) 27 #[.slice none 0 0, .int .i64 0, .bool false] := by rw [hW]; exact (Box.newAt (by simp [World.setCell]))
  clear hW
  refine (copyRefresh_c A n c zs s t _ (hA.below bel) hn).mono ?_
  rintro e w1 ⟨A1, n1, c1, rfl, o, b1⟩
  have szw1 := b1.size
  replace bel := bel.trans (b1.mono bel.size)
  replace p := p.kept b1
  replace r := r.kept b1
  clear b1
  have n1n : n1 ≤ n := by have := o.len; have := hl.out; omega
  have nn1 : n ≤ n1 := by have := o.len; have := hl.out; omega
  obtain ⟨p_0, p_1, p_2⟩ := p.c3
  have p_lt := p.lt
  go_wp2_with fail
  refine abs_call ?_
  intro W2 hW
  clear p_0 p_1 p_2 p_lt
  have szW2 : w1.heap.size + 1 ≤ W2.heap.size := by rw [hW]; simp [World.setCell]
  have szW2_ := bel.size
  replace bel : Below w.heap.size w W2 := by rw [hW]; exact (bel).alloc (by first | omega | (simp [World.setCell] <;> omega)) _
  replace p : Box W2 w.heap.size 27 #[.slice A n c, .int .i64 s, .bool t] := by rw [hW]; exact p.alloc _
  replace r : Box W2 (w.heap.size + 1) 27 #[.slice none 0 0, .int .i64 0, .bool false] := by rw [hW]; exact r.alloc _
  have q : Box W2 w1.heap.size 27 #[.slice A1 n1 c1, .int .i64 s, .bool t] := by rw [hW]; exact (Box.newAt (by simp [World.setCell]))
  replace o : OwnH W2 W.heap.size w1.heap.size A1 n1 c1 zs := by rw [hW]; exact o.alloc _
  clear hW
  refine (iRefreshOk_c A n c zs s t _ (hA.below bel) hn).mono ?_
  rintro e w2 ⟨rfl, b2⟩
  have szw2 := b2.size
  replace bel := bel.trans (b2.mono bel.size)
  replace p := p.kept b2
  replace r := r.kept b2
  replace q := q.kept b2
  replace o := o.below b2
  clear b2
  by_cases hr : refOk zs s = true
  · by_cases hb : inB b 0 ((n : Int) - 1) = true
    · obtain ⟨q1, q2⟩ := inB_t hb
      obtain ⟨k, rfl⟩ := Int.eq_ofNat_of_zero_le q1
      have hlt : k < n := by omega
      have hlt1 : k < n1 := by omega
      obtain ⟨g, o', x, rfl, hc1, hx⟩ := (hA.below bel).at_ hlt
      obtain ⟨xlo, xhi⟩ := debtsIn_at (refOk_parts hr).1 hx.out
      by_cases hx2 : (x == -2) = true
      · have x2 : x ≤ -2 := by simp at hx2; omega
        obtain ⟨p_0, p_1, p_2⟩ := p.c3
        have p_lt := p.lt
        obtain ⟨q_0, q_1, q_2⟩ := q.c3
        have q_lt := q.lt
        obtain ⟨r_0, r_1, r_2⟩ := r.c3
        have r_lt := r.lt
        have r_f := r.frozen
        go_wp2_with (go_at_call 75; refine (between_c _ _ _ _).mono ?_; rintro e w' ⟨rfl, rfl⟩)
        refine abs_body ?_
        intro W9 hW
        clear p_0 p_1 p_2 p_lt q_0 q_1 q_2 q_lt r_0 r_1 r_2 r_lt r_f
        have szW9 : w2.heap.size ≤ W9.heap.size := by rw [hW]; simp [World.setCell]
        have szW9_ := bel.size
        replace bel : Below w.heap.size w W9 := by rw [hW]; exact (((bel).setCell (by dsimp only; omega) _).setCell (by dsimp only; omega) _).setCell (by dsimp only; omega) _
        replace p : Box W9 w.heap.size 27 #[.slice (some ⟨g, o', none⟩) n c, .int .i64 s, .bool t] := by rw [hW]; exact (((p).far (by dsimp only; omega) _).far (by dsimp only; omega) _).far (by dsimp only; omega) _
        replace r : Box W9 (w.heap.size + 1) 27 #[.slice A1 n1 c1, .int .i64 s, .bool t] := by rw [hW]; exact (((r).set_ 0 _).set_ 1 _).set_ 2 _
        replace q : Box W9 w1.heap.size 27 #[.slice A1 n1 c1, .int .i64 s, .bool t] := by rw [hW]; exact (((q).far (by dsimp only; omega) _).far (by dsimp only; omega) _).far (by dsimp only; omega) _
        replace o : OwnH W9 W.heap.size w1.heap.size A1 n1 c1 zs := by rw [hW]; exact (((o).setCell _ _ (by dsimp only; omega)).setCell _ _ (by dsimp only; omega)).setCell _ _ (by dsimp only; omega)
        clear hW
        obtain ⟨z1, z2, z3⟩ := r.c3
        refine bodyPost_ret (v := .tuple #[.agg #[.slice A1 n1 c1, .int .i64 s, .bool t], .bool false]) (by simp [results, Try.results19, go_sem, z1, z2, z3]) rfl ?_
        obtain ⟨h1, h2⟩ := doneOk_f (zs := zs) (s := s) (b := (k : Int)) (.inr (.inr ⟨x, by rw [Int.toNat_natCast]; exact hx.out, x2⟩))
        rw [h1, h2]
        exact ⟨_, _, _, rfl, o.mono (by omega) (by omega), bel⟩
      · have hx2' : (x == -2) = false := by simpa using hx2
        have x2 : -2 < x := by simp at hx2; omega
        clear hx2
        obtain ⟨p_0, p_1, p_2⟩ := p.c3
        have p_lt := p.lt
        obtain ⟨g1, y, rfl, hy1, hy2, hy, gy1, gy2⟩ := o.at_ hlt1
        obtain rfl : x = y := by have := hx.out.symm.trans hy.out; injection this
        have HD := Lib.hid (doneOk_t hr (by rw [hl.out]; exact hb) hx.out x2)
        obtain ⟨q_0, q_1, q_2⟩ := q.c3
        have q_lt := q.lt
        obtain ⟨r_0, r_1, r_2⟩ := r.c3
        have r_lt := r.lt
        have r_f := r.frozen
        go_wp2_with (go_at_call 75; refine (between_c _ _ _ _).mono ?_; rintro e w' ⟨rfl, rfl⟩)
        refine abs_body ?_
        intro W9 hW
        clear p_0 p_1 p_2 p_lt q_0 q_1 q_2 q_lt r_0 r_1 r_2 r_lt r_f
        have szW9 : w2.heap.size ≤ W9.heap.size := by rw [hW]; simp [World.setCell]
        have szW9_ := bel.size
        replace bel : Below w.heap.size w W9 := by rw [hW]; exact ((((bel).setCell (by dsimp only; omega) _).setCell (by dsimp only; omega) _).setCell (by dsimp only; omega) _).setCell (by dsimp only; omega) _
        replace p : Box W9 w.heap.size 27 #[.slice (some ⟨g, o', none⟩) n c, .int .i64 s, .bool t] := by rw [hW]; exact ((((p).far (by dsimp only; omega) _).far (by dsimp only; omega) _).far (by dsimp only; omega) _).far (by dsimp only; omega) _
        replace r : Box W9 (w.heap.size + 1) 27 #[.slice (some ⟨g1, 0, none⟩) n1 c1, .int .i64 s, .bool t] := by rw [hW]; exact ((((r).far (by dsimp only; omega) _).set_ 0 _).set_ 1 _).set_ 2 _
        replace q : Box W9 w1.heap.size 27 #[.slice (some ⟨g1, 0, none⟩) n1 c1, .int .i64 s, .bool t] := by rw [hW]; exact ((((q).far (by dsimp only; omega) _).far (by dsimp only; omega) _).far (by dsimp only; omega) _).far (by dsimp only; omega) _
        replace o : OwnH W9 W.heap.size w1.heap.size (some ⟨g1, 0, none⟩) n1 c1 (zs.set k (x - 1)) := by rw [hW]; exact (((((o).stored rfl hlt1 _).1).setCell _ _ (by dsimp only; omega)).setCell _ _ (by dsimp only; omega)).setCell _ _ (by dsimp only; omega)
        clear hW
        obtain ⟨z1, z2, z3⟩ := r.c3
        refine bodyPost_ret (v := .tuple #[.agg #[.slice (some ⟨g1, 0, none⟩) n1 c1, .int .i64 s, .bool t], .bool true]) (by simp [results, Try.results19, go_sem, z1, z2, z3]) rfl ?_
        rw [HD.out.1, HD.out.2]
        exact ⟨_, _, _, rfl, o.mono (by omega) (by omega), bel⟩
    · have hb' : inB b 0 ((n : Int) - 1) = false := by simpa using hb
      clear hb
      obtain ⟨p_0, p_1, p_2⟩ := p.c3
      have p_lt := p.lt
      obtain ⟨q_0, q_1, q_2⟩ := q.c3
      have q_lt := q.lt
      obtain ⟨r_0, r_1, r_2⟩ := r.c3
      have r_lt := r.lt
      have r_f := r.frozen
      go_wp2_with (go_at_call 75; refine (between_c _ _ _ _).mono ?_; rintro e w' ⟨rfl, rfl⟩)
      refine abs_body ?_
      intro W9 hW
      clear p_0 p_1 p_2 p_lt q_0 q_1 q_2 q_lt r_0 r_1 r_2 r_lt r_f
      have szW9 : w2.heap.size ≤ W9.heap.size := by rw [hW]; simp [World.setCell]
      have szW9_ := bel.size
      replace bel : Below w.heap.size w W9 := by rw [hW]; exact (((bel).setCell (by dsimp only; omega) _).setCell (by dsimp only; omega) _).setCell (by dsimp only; omega) _
      replace p : Box W9 w.heap.size 27 #[.slice A n c, .int .i64 s, .bool t] := by rw [hW]; exact (((p).far (by dsimp only; omega) _).far (by dsimp only; omega) _).far (by dsimp only; omega) _
      replace r : Box W9 (w.heap.size + 1) 27 #[.slice A1 n1 c1, .int .i64 s, .bool t] := by rw [hW]; exact (((r).set_ 0 _).set_ 1 _).set_ 2 _
      replace q : Box W9 w1.heap.size 27 #[.slice A1 n1 c1, .int .i64 s, .bool t] := by rw [hW]; exact (((q).far (by dsimp only; omega) _).far (by dsimp only; omega) _).far (by dsimp only; omega) _
      replace o : OwnH W9 W.heap.size w1.heap.size A1 n1 c1 zs := by rw [hW]; exact (((o).setCell _ _ (by dsimp only; omega)).setCell _ _ (by dsimp only; omega)).setCell _ _ (by dsimp only; omega)
      clear hW
      obtain ⟨z1, z2, z3⟩ := r.c3
      refine bodyPost_ret (v := .tuple #[.agg #[.slice A1 n1 c1, .int .i64 s, .bool t], .bool false]) (by simp [results, Try.results19, go_sem, z1, z2, z3]) rfl ?_
      obtain ⟨h1, h2⟩ := doneOk_f (zs := zs) (s := s) (b := b) (.inr (.inl (by rw [hl.out]; exact hb')))
      rw [h1, h2]
      exact ⟨_, _, _, rfl, o.mono (by omega) (by omega), bel⟩
  · have hr' : refOk zs s = false := by simpa using hr
    clear hr
    obtain ⟨p_0, p_1, p_2⟩ := p.c3
    have p_lt := p.lt
    obtain ⟨q_0, q_1, q_2⟩ := q.c3
    have q_lt := q.lt
    obtain ⟨r_0, r_1, r_2⟩ := r.c3
    have r_lt := r.lt
    have r_f := r.frozen
    go_wp2_with (go_at_call 75; refine (between_c _ _ _ _).mono ?_; rintro e w' ⟨rfl, rfl⟩)
    refine abs_body ?_
    intro W9 hW
    clear p_0 p_1 p_2 p_lt q_0 q_1 q_2 q_lt r_0 r_1 r_2 r_lt r_f
    have szW9 : w2.heap.size ≤ W9.heap.size := by rw [hW]; simp [World.setCell]
    have szW9_ := bel.size
    replace bel : Below w.heap.size w W9 := by rw [hW]; exact (((bel).setCell (by dsimp only; omega) _).setCell (by dsimp only; omega) _).setCell (by dsimp only; omega) _
    replace p : Box W9 w.heap.size 27 #[.slice A n c, .int .i64 s, .bool t] := by rw [hW]; exact (((p).far (by dsimp only; omega) _).far (by dsimp only; omega) _).far (by dsimp only; omega) _
    replace r : Box W9 (w.heap.size + 1) 27 #[.slice A1 n1 c1, .int .i64 s, .bool t] := by rw [hW]; exact (((r).set_ 0 _).set_ 1 _).set_ 2 _
    replace q : Box W9 w1.heap.size 27 #[.slice A1 n1 c1, .int .i64 s, .bool t] := by rw [hW]; exact (((q).far (by dsimp only; omega) _).far (by dsimp only; omega) _).far (by dsimp only; omega) _
    replace o : OwnH W9 W.heap.size w1.heap.size A1 n1 c1 zs := by rw [hW]; exact (((o).setCell _ _ (by dsimp only; omega)).setCell _ _ (by dsimp only; omega)).setCell _ _ (by dsimp only; omega)
    clear hW
    obtain ⟨z1, z2, z3⟩ := r.c3
    refine bodyPost_ret (v := .tuple #[.agg #[.slice A1 n1 c1, .int .i64 s, .bool t], .bool false]) (by simp [results, Try.results19, go_sem, z1, z2, z3]) rfl ?_
    obtain ⟨h1, h2⟩ := doneOk_f (zs := zs) (s := s) (b := b) (.inl hr')
    rw [h1, h2]
    exact ⟨_, _, _, rfl, o.mono (by omega) (by omega), bel⟩


end Go.Proofs.Ytbolpanfgbhbnaa
