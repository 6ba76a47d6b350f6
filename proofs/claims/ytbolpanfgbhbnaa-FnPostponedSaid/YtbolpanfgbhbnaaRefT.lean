/-
  Contracts of RefreshTick, in the program and in the reference.
-/
import Derived.Test.YtbolpanfgbhbnaaRef3
import Derived.Test.YtbolpanfgbhbnaaRefP
import Derived.RegionTactic
namespace Go.Proofs.Ytbolpanfgbhbnaa
open Go.RowKit
set_option linter.unusedSimpArgs false
set_option linter.unusedVariables false

theorem tick_off {zs : List Int} {s k : Int} {t : Bool} (h : refOk zs s = false ∨ inB k 2 10000 = false) : tickZ zs s k = zs ∧ tickS zs s t k = s := by
  have h : tickOn zs s k = false := by
    unfold tickOn
    rcases h with h | h <;> rw [h] <;> simp
  unfold tickZ tickS
  rw [h]
  simp
theorem tick_on {zs : List Int} {s k : Int} {t : Bool} (h1 : refOk zs s = true) (h2 : inB k 2 10000 = true) :
    (tickZ zs s k = if s ≤ 1 then zs.map bump else zs) ∧ tickS zs s t k = (if s ≤ 1 then (if t = true then k / 2 else k) else s - 1) := by
  have h : tickOn zs s k = true := by unfold tickOn; rw [h1, h2]; rfl
  unfold tickZ tickS
  rw [h]
  simp

set_option maxHeartbeats 2000000 in
theorem iRefreshTick_c (A : Option Addr) (n c : Nat) (zs : List Int) (s : Int) (t : Bool) (k : Int) (w : World) (hA : Ints w A n zs) (hn : n ≤ 1048576) :
    Calls Try.prog 18 #[.agg #[.slice A n c, .int .i64 s, .bool t], .int .i64 k] w (NewR (tickZ zs s k) (tickS zs s t k) t w) := by
  have bel : Below w.heap.size w w := Below.refl _ _
  have hl := Lib.hid hA.1
  go_enter Try.func18, Try.ntmps18
  go_wp2_with fail
  refine abs_call ?_
  intro W hW
  have szW : w.heap.size + 1 + 1 ≤ W.heap.size := by rw [hW]; simp [World.setCell]
  have szW_ := bel.size
  replace bel : Below w.heap.size w W := by rw [hW]; exact ((bel).alloc (by first | omega | (simp [World.setCell] <;> omega)) _).alloc (by first | omega | (simp [World.setCell] <;> omega)) _
  have p : Box W w.heap.size 27 #[.slice A n c, .int .i64 s, .bool t] := by rw [hW]; exact ((Box.newAt (by simp [World.setCell]))).alloc _
  have r : Box W (w.heap.size + 1) 27 #[.slice none 0 0, .int .i64 0, .bool false] := by rw [hW]; exact (Box.newAt (by simp [World.setCell]))
  clear hW
  refine (copyRefresh_c A n c zs s t _ (hA.below bel) hn).mono ?_
  rintro e w1 ⟨A1, n1, c1, rfl, o, b1⟩
  have szw1 := b1.size
  replace bel := bel.trans (b1.mono bel.size)
  replace p := p.kept b1
  replace r := r.kept b1
  clear b1
  have n1n : n1 ≤ n := by have := o.len; have := hl.out; omega
  have nn1 : n ≤ n1 := by have := o.len; have := hl.out; omega
  obtain ⟨p_0, p_1, p_2⟩ := p.c3
  have p_lt := p.lt
  go_wp2_with fail
  refine abs_call ?_
  intro W2 hW
  clear p_0 p_1 p_2 p_lt
  have szW2 : w1.heap.size + 1 ≤ W2.heap.size := by rw [hW]; simp [World.setCell]
  have szW2_ := bel.size
  replace bel : Below w.heap.size w W2 := by rw [hW]; exact (bel).alloc (by first | omega | (simp [World.setCell] <;> omega)) _
  replace p : Box W2 w.heap.size 27 #[.slice A n c, .int .i64 s, .bool t] := by rw [hW]; exact p.alloc _
  replace r : Box W2 (w.heap.size + 1) 27 #[.slice none 0 0, .int .i64 0, .bool false] := by rw [hW]; exact r.alloc _
  have q : Box W2 w1.heap.size 27 #[.slice A1 n1 c1, .int .i64 s, .bool t] := by rw [hW]; exact (Box.newAt (by simp [World.setCell]))
  replace o : OwnH W2 W.heap.size w1.heap.size A1 n1 c1 zs := by rw [hW]; exact o.alloc _
  clear hW
  refine (iRefreshOk_c A n c zs s t _ (hA.below bel) hn).mono ?_
  rintro e w2 ⟨rfl, b2⟩
  have szw2 := b2.size
  replace bel := bel.trans (b2.mono bel.size)
  replace p := p.kept b2
  replace r := r.kept b2
  replace q := q.kept b2
  replace o := o.below b2
  clear b2
  by_cases hr : refOk zs s = true
  · by_cases hk : inB k 2 10000 = true
    · obtain ⟨k1, k2⟩ := inB_t hk
      obtain ⟨-, ⟨-, hl8⟩, s1, s2⟩ := refOk_parts hr
      obtain ⟨HZ, HS⟩ := tick_on (t := t) hr hk
      replace HZ := Lib.hid HZ
      replace HS := Lib.hid HS
      by_cases hs : s ≤ 1
      · skip
        obtain ⟨p_0, p_1, p_2⟩ := p.c3
        have p_lt := p.lt
        obtain ⟨q_0, q_1, q_2⟩ := q.c3
        have q_lt := q.lt
        obtain ⟨r_0, r_1, r_2⟩ := r.c3
        have r_lt := r.lt
        have q_f := q.frozen
        have r_f := r.frozen
        go_wp2_with (go_at_call 75; refine (between_c _ _ _ _).mono ?_; rintro e w' ⟨rfl, rfl⟩)
        refine abs_code ?_
        intro W3 hW
        clear p_0 p_1 p_2 p_lt q_0 q_1 q_2 q_lt r_0 r_1 r_2 r_lt q_f r_f
        have szW3 : w2.heap.size ≤ W3.heap.size := by rw [hW]; simp [World.setCell]
        have szW3_ := bel.size
        replace bel : Below w.heap.size w W3 := by rw [hW]; exact (bel).setCell (by dsimp only; omega) _
        replace p : Box W3 w.heap.size 27 #[.slice A n c, .int .i64 s, .bool t] := by rw [hW]; exact (p).far (by dsimp only; omega) _
        replace r : Box W3 (w.heap.size + 1) 27 #[.slice none 0 0, .int .i64 0, .bool false] := by rw [hW]; exact (r).far (by dsimp only; omega) _
        replace q : Box W3 w1.heap.size 27 #[.slice A1 n1 c1, .int .i64 (s - 1), .bool t] := by rw [hW]; exact (q).set_ 1 _
        replace o : OwnH W3 W.heap.size w1.heap.size A1 n1 c1 zs := by rw [hW]; exact (o).setCell _ _ (by dsimp only; omega)
        clear hW
        have hl1 : Hid (zs.length = n1) := o.len
        go_loopw [29] (fun i wr => ∃ j : Nat, j ≤ n1 ∧ i = .int .i64 j ∧ OwnH wr W.heap.size w1.heap.size A1 n1 c1 (halfM bump zs j) ∧ Chg W.heap.size w1.heap.size W3 wr) (fun i _ => n1 - (intOf i).toNat)
        case atStart => exact ⟨0, Nat.zero_le _, rfl, by rw [halfM_zero]; exact o, Chg.refl _ _ _⟩
        case round =>
          obtain ⟨j, hj, rfl, oj, Cj⟩ := hrel
          have qj := q.chg Cj (by omega)
          obtain ⟨q_0, q_1, q_2⟩ := qj.c3
          by_cases hlt : j < n1
          · obtain ⟨g1, x', rfl, hy1, hy2, hy, gy1, gy2⟩ := oj.at_ hlt
            obtain ⟨x, hx⟩ : ∃ x, Hid (zs[j]? = some x) := ⟨zs[j]'(by have := hl1.out; omega), by unfold Hid; exact List.getElem?_eq_getElem _⟩
            obtain rfl : x = x' := by have := (halfM_get (f := bump) hx.out).symm.trans hy.out; injection this
            obtain ⟨xlo, xhi⟩ := debtsIn_at (refOk_parts hr).1 hx.out
            have HO := Lib.hid oj
            have HC := Lib.hid Cj
            have HB := Lib.hid (bump_if' x)
            have i1 : (0 : Int) ≤ (j : Int) := by omega
            have i2 : (j : Int) < (n1 : Int) := by omega
            clear oj Cj qj
            go_wp2
            go_region
            go_wp2
            go_roundw
            case rel =>
              obtain ⟨s1', s2'⟩ := HO.out.stored rfl hlt (bump x)
              rw [halfM_set hx.out] at s1'
              rw [HB.out] at s1' s2'
              exact ⟨j + 1, by omega, by go_num, s1', (HC.out.trans s2').drewN 1⟩
            case measure => simp [intOf]; omega
          · obtain rfl : n1 = j := by omega
            rw [halfM_all _ _ _ (by rw [hl1.out]; omega)] at oj
            clear q_0 q_1 q_2 qj o
            have szwr := Cj.size
            replace bel := Cj.below bel (by omega)
            replace p := p.chg Cj (by omega)
            replace r := r.chg Cj (by omega)
            replace q := q.chg Cj (by omega)
            clear Cj
            have HZ' := HZ.out
            have HS' := HS.out
            rw [if_pos (by omega : s ≤ 1)] at HZ' HS'
            replace HZ := Lib.hid HZ'
            replace HS := Lib.hid HS'
            clear HZ' HS'
            cases t
            · skip
              obtain ⟨p_0, p_1, p_2⟩ := p.c3
              have p_lt := p.lt
              obtain ⟨q_0, q_1, q_2⟩ := q.c3
              have q_lt := q.lt
              obtain ⟨r_0, r_1, r_2⟩ := r.c3
              have r_lt := r.lt
              have q_f := q.frozen
              have r_f := r.frozen
              go_wp2
              refine abs_body ?_
              intro W9 hW
              clear p_0 p_1 p_2 p_lt q_0 q_1 q_2 q_lt r_0 r_1 r_2 r_lt q_f r_f
              have szW9 : wr.heap.size ≤ W9.heap.size := by rw [hW]; simp [World.setCell]
              have szW9_ := bel.size
              replace bel : Below w.heap.size w W9 := by rw [hW]; exact ((((bel).setCell (by dsimp only; omega) _).setCell (by dsimp only; omega) _).setCell (by dsimp only; omega) _).setCell (by dsimp only; omega) _
              replace p : Box W9 w.heap.size 27 #[.slice A n c, .int .i64 s, .bool (false)] := by rw [hW]; exact ((((p).far (by dsimp only; omega) _).far (by dsimp only; omega) _).far (by dsimp only; omega) _).far (by dsimp only; omega) _
              replace r : Box W9 (w.heap.size + 1) 27 #[.slice A1 n1 c1, .int .i64 (k), .bool false] := by rw [hW]; exact ((((r).far (by dsimp only; omega) _).set_ 0 _).set_ 1 _).set_ 2 _
              replace q : Box W9 w1.heap.size 27 #[.slice A1 n1 c1, .int .i64 k, .bool (false)] := by rw [hW]; exact ((((q).set_ 1 _).far (by dsimp only; omega) _).far (by dsimp only; omega) _).far (by dsimp only; omega) _
              replace oj : OwnH W9 W.heap.size w1.heap.size A1 n1 c1 (zs.map bump) := by rw [hW]; exact ((((oj).setCell _ _ (by dsimp only; omega)).setCell _ _ (by dsimp only; omega)).setCell _ _ (by dsimp only; omega)).setCell _ _ (by dsimp only; omega)
              clear hW
              obtain ⟨z1, z2, z3⟩ := r.c3
              refine bodyPost_ret (v := .agg #[.slice A1 n1 c1, .int .i64 (k), .bool false]) (by simp [results, Try.results18, go_sem, z1, z2, z3]) rfl ?_
              rw [HZ.out, HS.out]
              exact ⟨_, _, _, rfl, oj.mono (by omega) (by omega), bel⟩
            · skip
              obtain ⟨p_0, p_1, p_2⟩ := p.c3
              have p_lt := p.lt
              obtain ⟨q_0, q_1, q_2⟩ := q.c3
              have q_lt := q.lt
              obtain ⟨r_0, r_1, r_2⟩ := r.c3
              have r_lt := r.lt
              have q_f := q.frozen
              have r_f := r.frozen
              go_wp2
              refine abs_body ?_
              intro W9 hW
              clear p_0 p_1 p_2 p_lt q_0 q_1 q_2 q_lt r_0 r_1 r_2 r_lt q_f r_f
              have szW9 : wr.heap.size ≤ W9.heap.size := by rw [hW]; simp [World.setCell]
              have szW9_ := bel.size
              replace bel : Below w.heap.size w W9 := by rw [hW]; exact (((((bel).setCell (by dsimp only; omega) _).setCell (by dsimp only; omega) _).setCell (by dsimp only; omega) _).setCell (by dsimp only; omega) _).setCell (by dsimp only; omega) _
              replace p : Box W9 w.heap.size 27 #[.slice A n c, .int .i64 s, .bool (true)] := by rw [hW]; exact (((((p).far (by dsimp only; omega) _).far (by dsimp only; omega) _).far (by dsimp only; omega) _).far (by dsimp only; omega) _).far (by dsimp only; omega) _
              replace r : Box W9 (w.heap.size + 1) 27 #[.slice A1 n1 c1, .int .i64 (k / 2), .bool true] := by rw [hW]; exact (((((r).far (by dsimp only; omega) _).far (by dsimp only; omega) _).set_ 0 _).set_ 1 _).set_ 2 _
              replace q : Box W9 w1.heap.size 27 #[.slice A1 n1 c1, .int .i64 (k / 2), .bool (true)] := by rw [hW]; exact (((((q).set_ 1 _).set_ 1 _).far (by dsimp only; omega) _).far (by dsimp only; omega) _).far (by dsimp only; omega) _
              replace oj : OwnH W9 W.heap.size w1.heap.size A1 n1 c1 (zs.map bump) := by rw [hW]; exact (((((oj).setCell _ _ (by dsimp only; omega)).setCell _ _ (by dsimp only; omega)).setCell _ _ (by dsimp only; omega)).setCell _ _ (by dsimp only; omega)).setCell _ _ (by dsimp only; omega)
              clear hW
              obtain ⟨z1, z2, z3⟩ := r.c3
              refine bodyPost_ret (v := .agg #[.slice A1 n1 c1, .int .i64 (k / 2), .bool true]) (by simp [results, Try.results18, go_sem, z1, z2, z3]) rfl ?_
              rw [HZ.out, HS.out]
              exact ⟨_, _, _, rfl, oj.mono (by omega) (by omega), bel⟩
      · skip
        obtain ⟨p_0, p_1, p_2⟩ := p.c3
        have p_lt := p.lt
        obtain ⟨q_0, q_1, q_2⟩ := q.c3
        have q_lt := q.lt
        obtain ⟨r_0, r_1, r_2⟩ := r.c3
        have r_lt := r.lt
        have q_f := q.frozen
        have r_f := r.frozen
        go_wp2_with (go_at_call 75; refine (between_c _ _ _ _).mono ?_; rintro e w' ⟨rfl, rfl⟩)
        refine abs_body ?_
        intro W9 hW
        clear p_0 p_1 p_2 p_lt q_0 q_1 q_2 q_lt r_0 r_1 r_2 r_lt q_f r_f
        have szW9 : w2.heap.size ≤ W9.heap.size := by rw [hW]; simp [World.setCell]
        have szW9_ := bel.size
        replace bel : Below w.heap.size w W9 := by rw [hW]; exact ((((bel).setCell (by dsimp only; omega) _).setCell (by dsimp only; omega) _).setCell (by dsimp only; omega) _).setCell (by dsimp only; omega) _
        replace p : Box W9 w.heap.size 27 #[.slice A n c, .int .i64 s, .bool t] := by rw [hW]; exact ((((p).far (by dsimp only; omega) _).far (by dsimp only; omega) _).far (by dsimp only; omega) _).far (by dsimp only; omega) _
        replace r : Box W9 (w.heap.size + 1) 27 #[.slice A1 n1 c1, .int .i64 (s - 1), .bool t] := by rw [hW]; exact ((((r).far (by dsimp only; omega) _).set_ 0 _).set_ 1 _).set_ 2 _
        replace q : Box W9 w1.heap.size 27 #[.slice A1 n1 c1, .int .i64 (s - 1), .bool t] := by rw [hW]; exact ((((q).set_ 1 _).far (by dsimp only; omega) _).far (by dsimp only; omega) _).far (by dsimp only; omega) _
        replace o : OwnH W9 W.heap.size w1.heap.size A1 n1 c1 zs := by rw [hW]; exact ((((o).setCell _ _ (by dsimp only; omega)).setCell _ _ (by dsimp only; omega)).setCell _ _ (by dsimp only; omega)).setCell _ _ (by dsimp only; omega)
        clear hW
        obtain ⟨z1, z2, z3⟩ := r.c3
        refine bodyPost_ret (v := .agg #[.slice A1 n1 c1, .int .i64 (s - 1), .bool t]) (by simp [results, Try.results18, go_sem, z1, z2, z3]) rfl ?_
        rw [HZ.out, HS.out, if_neg (by omega : ¬ s ≤ 1), if_neg (by omega : ¬ s ≤ 1)]
        exact ⟨_, _, _, rfl, o.mono (by omega) (by omega), bel⟩
    · have hk' : inB k 2 10000 = false := by simpa using hk
      clear hk
      obtain ⟨p_0, p_1, p_2⟩ := p.c3
      have p_lt := p.lt
      obtain ⟨q_0, q_1, q_2⟩ := q.c3
      have q_lt := q.lt
      obtain ⟨r_0, r_1, r_2⟩ := r.c3
      have r_lt := r.lt
      have r_f := r.frozen
      go_wp2_with (go_at_call 75; refine (between_c _ _ _ _).mono ?_; rintro e w' ⟨rfl, rfl⟩)
      refine abs_body ?_
      intro W9 hW
      clear p_0 p_1 p_2 p_lt q_0 q_1 q_2 q_lt r_0 r_1 r_2 r_lt r_f
      have szW9 : w2.heap.size ≤ W9.heap.size := by rw [hW]; simp [World.setCell]
      have szW9_ := bel.size
      replace bel : Below w.heap.size w W9 := by rw [hW]; exact (((bel).setCell (by dsimp only; omega) _).setCell (by dsimp only; omega) _).setCell (by dsimp only; omega) _
      replace p : Box W9 w.heap.size 27 #[.slice A n c, .int .i64 s, .bool t] := by rw [hW]; exact (((p).far (by dsimp only; omega) _).far (by dsimp only; omega) _).far (by dsimp only; omega) _
      replace r : Box W9 (w.heap.size + 1) 27 #[.slice A1 n1 c1, .int .i64 (s), .bool t] := by rw [hW]; exact (((r).set_ 0 _).set_ 1 _).set_ 2 _
      replace q : Box W9 w1.heap.size 27 #[.slice A1 n1 c1, .int .i64 s, .bool t] := by rw [hW]; exact (((q).far (by dsimp only; omega) _).far (by dsimp only; omega) _).far (by dsimp only; omega) _
      replace o : OwnH W9 W.heap.size w1.heap.size A1 n1 c1 zs := by rw [hW]; exact (((o).setCell _ _ (by dsimp only; omega)).setCell _ _ (by dsimp only; omega)).setCell _ _ (by dsimp only; omega)
      clear hW
      obtain ⟨z1, z2, z3⟩ := r.c3
      refine bodyPost_ret (v := .agg #[.slice A1 n1 c1, .int .i64 (s), .bool t]) (by simp [results, Try.results18, go_sem, z1, z2, z3]) rfl ?_
      obtain ⟨h1, h2⟩ := tick_off (zs := zs) (s := s) (k := k) (t := t) (.inr hk')
      rw [h1, h2]
      exact ⟨_, _, _, rfl, o.mono (by omega) (by omega), bel⟩
  · have hr' : refOk zs s = false := by simpa using hr
    clear hr
    obtain ⟨p_0, p_1, p_2⟩ := p.c3
    have p_lt := p.lt
    obtain ⟨q_0, q_1, q_2⟩ := q.c3
    have q_lt := q.lt
    obtain ⟨r_0, r_1, r_2⟩ := r.c3
    have r_lt := r.lt
    have r_f := r.frozen
    go_wp2_with (go_at_call 75; refine (between_c _ _ _ _).mono ?_; rintro e w' ⟨rfl, rfl⟩)
    refine abs_body ?_
    intro W9 hW
    clear p_0 p_1 p_2 p_lt q_0 q_1 q_2 q_lt r_0 r_1 r_2 r_lt r_f
    have szW9 : w2.heap.size ≤ W9.heap.size := by rw [hW]; simp [World.setCell]
    have szW9_ := bel.size
    replace bel : Below w.heap.size w W9 := by rw [hW]; exact (((bel).setCell (by dsimp only; omega) _).setCell (by dsimp only; omega) _).setCell (by dsimp only; omega) _
    replace p : Box W9 w.heap.size 27 #[.slice A n c, .int .i64 s, .bool t] := by rw [hW]; exact (((p).far (by dsimp only; omega) _).far (by dsimp only; omega) _).far (by dsimp only; omega) _
    replace r : Box W9 (w.heap.size + 1) 27 #[.slice A1 n1 c1, .int .i64 (s), .bool t] := by rw [hW]; exact (((r).set_ 0 _).set_ 1 _).set_ 2 _
    replace q : Box W9 w1.heap.size 27 #[.slice A1 n1 c1, .int .i64 s, .bool t] := by rw [hW]; exact (((q).far (by dsimp only; omega) _).far (by dsimp only; omega) _).far (by dsimp only; omega) _
    replace o : OwnH W9 W.heap.size w1.heap.size A1 n1 c1 zs := by rw [hW]; exact (((o).setCell _ _ (by dsimp only; omega)).setCell _ _ (by dsimp only; omega)).setCell _ _ (by dsimp only; omega)
    clear hW
    obtain ⟨z1, z2, z3⟩ := r.c3
    refine bodyPost_ret (v := .agg #[.slice A1 n1 c1, .int .i64 (s), .bool t]) (by simp [results, Try.results18, go_sem, z1, z2, z3]) rfl ?_
    obtain ⟨h1, h2⟩ := tick_off (zs := zs) (s := s) (k := k) (t := t) (.inl hr')
    rw [h1, h2]
    exact ⟨_, _, _, rfl, o.mono (by omega) (by omega), bel⟩

end Go.Proofs.Ytbolpanfgbhbnaa
