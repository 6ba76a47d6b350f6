/-
  Contract of SpareNew in the reference.
-/
import Derived.Test.YtbapamfomfbmmaaSpA
import Derived.Deep.RegionLaw
namespace Go.Proofs.Ytbapamfomfbmmaa
open Go.RowKit
set_option linter.unusedSimpArgs false
set_option linter.unusedVariables false

set_option maxHeartbeats 8000000 in
theorem sSpareNew_c (gg gb gr gc s : Int) (w : World) :
    Calls Try.prog 69 #[.agg #[.int .i64 gg, .int .i64 gb, .int .i64 gr, .int .i64 gc], .int .i64 s] w (NewSpB (spMap gg gb gr gc s) (spSp gg gb gr gc s) (spOk gg gb gr gc s) w) := by
  have bel : Below w.heap.size w w := Below.refl _ _
  go_enter Try.func69, Try.ntmps69
  go_wp2_with fail
  refine abs_call ?_
  intro W hW
  have szW : w.heap.size + 1 + 1 ≤ W.heap.size := by rw [hW]; simp [World.setCell]
  have szW_ := bel.size
  replace bel : Below w.heap.size w W := by rw [hW]; exact ((bel).alloc (by first | omega | (simp [World.setCell] <;> omega)) _).alloc (by first | omega | (simp [World.setCell] <;> omega)) _
  have p : Box W w.heap.size 25 #[.int .i64 gg, .int .i64 gb, .int .i64 gr, .int .i64 gc] := by rw [hW]; exact ((Box.newAt (by simp [World.setCell]))).alloc _
  have r : Box W (w.heap.size + 1) 28 #[.int .i64 0, .slice none 0 0] := by rw [hW]; exact (Box.newAt (by simp [World.setCell]))
  clear hW
  refine (sGeometryOk_c gg gb gr gc _).mono ?_
  rintro e w1 ⟨rfl, b1⟩
  have szw1 := b1.size
  replace bel := bel.trans (b1.mono bel.size)
  replace p := p.kept b1
  replace r := r.kept b1
  clear b1
  by_cases h : geoOk gg gb gr gc = true
  case neg =>
    have h' : geoOk gg gb gr gc = false := by simpa using h
    clear h
    have HQ : Hid (spOk gg gb gr gc s = false) := by unfold Hid spOk; rw [h']; rfl
    obtain ⟨p_0, p_1, p_2, p_3⟩ := p.c4
    have p_lt := p.lt
    obtain ⟨r_0, r_1⟩ := r.c2
    have r_lt := r.lt
    have r_f := r.frozen
    go_wp2_with (go_at_call 70; refine (in_c _ _ _ _).mono ?_; rintro e w' ⟨rfl, rfl⟩)
    refine abs_body ?_
    intro W9 hW
    clear p_0 p_1 p_2 p_3 p_lt r_0 r_1 r_lt r_f
    have szW9 : w1.heap.size ≤ W9.heap.size := by rw [hW]; simp [World.setCell]
    have szW9_ := bel.size
    replace bel : Below w.heap.size w W9 := by rw [hW]; exact ((bel).setCell (by dsimp only; omega) _).setCell (by dsimp only; omega) _
    replace p : Box W9 w.heap.size 25 #[.int .i64 gg, .int .i64 gb, .int .i64 gr, .int .i64 gc] := by rw [hW]; exact ((p).far (by dsimp only; omega) _).far (by dsimp only; omega) _
    replace r : Box W9 (w.heap.size + 1) 28 #[.int .i64 0, .slice none 0 0] := by rw [hW]; exact ((r).set_ 0 _).set_ 1 _
    clear hW
    obtain ⟨z0, z1⟩ := r.c2
    refine bodyPost_ret (v := .tuple #[.agg #[.int .i64 0, .slice none 0 0], .bool false]) (by simp [results, Try.results69, go_sem, z0, z1]) rfl ?_
    rw [HQ.out, (sp_no HQ.out).1, (sp_no HQ.out).2]
    exact ⟨_, _, _, rfl, OwnI.nilH _ _ _ _, bel⟩
  by_cases h1 : inB s 0 2 = true
  case neg =>
    have h1' : inB s 0 2 = false := by simpa using h1
    clear h1
    have HQ : Hid (spOk gg gb gr gc s = false) := by unfold Hid spOk; rw [h, h1']; rfl
    obtain ⟨p_0, p_1, p_2, p_3⟩ := p.c4
    have p_lt := p.lt
    obtain ⟨r_0, r_1⟩ := r.c2
    have r_lt := r.lt
    have r_f := r.frozen
    go_wp2_with (go_at_call 70; refine (in_c _ _ _ _).mono ?_; rintro e w' ⟨rfl, rfl⟩)
    refine abs_body ?_
    intro W9 hW
    clear p_0 p_1 p_2 p_3 p_lt r_0 r_1 r_lt r_f
    have szW9 : w1.heap.size ≤ W9.heap.size := by rw [hW]; simp [World.setCell]
    have szW9_ := bel.size
    replace bel : Below w.heap.size w W9 := by rw [hW]; exact ((bel).setCell (by dsimp only; omega) _).setCell (by dsimp only; omega) _
    replace p : Box W9 w.heap.size 25 #[.int .i64 gg, .int .i64 gb, .int .i64 gr, .int .i64 gc] := by rw [hW]; exact ((p).far (by dsimp only; omega) _).far (by dsimp only; omega) _
    replace r : Box W9 (w.heap.size + 1) 28 #[.int .i64 0, .slice none 0 0] := by rw [hW]; exact ((r).set_ 0 _).set_ 1 _
    clear hW
    obtain ⟨z0, z1⟩ := r.c2
    refine bodyPost_ret (v := .tuple #[.agg #[.int .i64 0, .slice none 0 0], .bool false]) (by simp [results, Try.results69, go_sem, z0, z1]) rfl ?_
    rw [HQ.out, (sp_no HQ.out).1, (sp_no HQ.out).2]
    exact ⟨_, _, _, rfl, OwnI.nilH _ _ _ _, bel⟩
  obtain ⟨⟨g1, g2⟩, ⟨g3, g4⟩, ⟨g5, g6⟩, g7, g8⟩ := geo_parts h
  obtain ⟨s1, s2⟩ := inB_t h1
  by_cases h2 : gr - s < 2
  · have HQ : Hid (spOk gg gb gr gc s = false) := by
      unfold Hid spOk
      have : decide (2 ≤ gr - s) = false := by simp; omega
      rw [h, h1, this]; rfl
    obtain ⟨p_0, p_1, p_2, p_3⟩ := p.c4
    have p_lt := p.lt
    obtain ⟨r_0, r_1⟩ := r.c2
    have r_lt := r.lt
    have r_f := r.frozen
    go_wp2_with (go_at_call 70; refine (in_c _ _ _ _).mono ?_; rintro e w' ⟨rfl, rfl⟩)
    refine abs_body ?_
    intro W9 hW
    clear p_0 p_1 p_2 p_3 p_lt r_0 r_1 r_lt r_f
    have szW9 : w1.heap.size ≤ W9.heap.size := by rw [hW]; simp [World.setCell]
    have szW9_ := bel.size
    replace bel : Below w.heap.size w W9 := by rw [hW]; exact ((bel).setCell (by dsimp only; omega) _).setCell (by dsimp only; omega) _
    replace p : Box W9 w.heap.size 25 #[.int .i64 gg, .int .i64 gb, .int .i64 gr, .int .i64 gc] := by rw [hW]; exact ((p).far (by dsimp only; omega) _).far (by dsimp only; omega) _
    replace r : Box W9 (w.heap.size + 1) 28 #[.int .i64 0, .slice none 0 0] := by rw [hW]; exact ((r).set_ 0 _).set_ 1 _
    clear hW
    obtain ⟨z0, z1⟩ := r.c2
    refine bodyPost_ret (v := .tuple #[.agg #[.int .i64 0, .slice none 0 0], .bool false]) (by simp [results, Try.results69, go_sem, z0, z1]) rfl ?_
    rw [HQ.out, (sp_no HQ.out).1, (sp_no HQ.out).2]
    exact ⟨_, _, _, rfl, OwnI.nilH _ _ _ _, bel⟩
  have HK : Hid (spOk gg gb gr gc s = true) := by
    unfold Hid spOk
    have : decide (2 ≤ gr - s) = true := by simp; omega
    rw [h, h1, this]; rfl
  obtain ⟨nb, n, e1, e2, e3, e4, n1, n2, n3, n4, -⟩ := spOk_nums HK.out
  have HM : Hid (spMap gg gb gr gc s = freshTo n (nb * n)) := by unfold Hid; rw [(sp_yes HK.out).1, e3, e4]
  have HS : Hid (spSp gg gb gr gc s = s) := (sp_yes HK.out).2
  have HB := Lib.hid e1
  have q1 : gr - s ≤ n := by omega
  have q2 : n ≤ gr - s := by omega
  have hnn := le_mul8 n2 n4
  have HE2 := Lib.hid e2
  clear e1 e2 e3 e4
  obtain ⟨p_0, p_1, p_2, p_3⟩ := p.c4
  have p_lt := p.lt
  go_wp2_with (go_at_call 70; refine (in_c _ _ _ _).mono ?_; rintro e w' ⟨rfl, rfl⟩)
  refine abs_code ?_
  intro W3 hW
  clear p_0 p_1 p_2 p_3 p_lt
  have szW3 : w1.heap.size + 1 ≤ W3.heap.size := by rw [hW]; simp [World.setCell]
  have szW3_ := bel.size
  replace bel : Below w.heap.size w W3 := by rw [hW]; exact (bel).alloc (by first | omega | (simp [World.setCell] <;> omega)) _
  replace p : Box W3 w.heap.size 25 #[.int .i64 gg, .int .i64 gb, .int .i64 gr, .int .i64 gc] := by rw [hW]; exact p.alloc _
  replace r : Box W3 (w.heap.size + 1) 28 #[.int .i64 0, .slice none 0 0] := by rw [hW]; exact r.alloc _
  have q : Box W3 w1.heap.size 28 #[.int .i64 s, .slice none 0 0] := by rw [hW]; exact (Box.newAt (by simp [World.setCell]))
  clear hW
  have cB : ∀ w : World, Calls Try.prog 21 #[.agg #[.int .i64 gg, .int .i64 gb, .int .i64 gr, .int .i64 gc]] w fun e w' => e = .returned (.int .i64 (nb : Int)) ∧ Below w.heap.size w w' := fun w => by have := sBankCount_c gg gb gr gc w; rwa [HB.out] at this
  go_loopw [7] (fun i wr => ∃ (b : Nat) (A1 : Option Addr) (m1 c1 : Nat), b ≤ nb * n ∧ i = .int .i64 b ∧ Below w.heap.size w wr ∧ Box wr w.heap.size 25 #[.int .i64 gg, .int .i64 gb, .int .i64 gr, .int .i64 gc] ∧ Box wr (w.heap.size + 1) 28 #[.int .i64 0, .slice none 0 0] ∧ Box wr w1.heap.size 28 #[.int .i64 s, .slice A1 m1 c1] ∧ OwnI wr W3.heap.size A1 m1 c1 (freshTo n b) ∧ W3.heap.size ≤ wr.heap.size) (fun i _ => nb * n - (intOf i).toNat)
  case atStart => exact ⟨0, _, 0, 0, Nat.zero_le _, rfl, bel, p, r, q, OwnI.nil _ _ _, Nat.le_refl _⟩
  case round =>
    obtain ⟨b, A1, m1, c1, hb, rfl, br, p', r', q', ok, szr⟩ := hrel
    clear p r q bel
    have hm1 : m1 = b := by have := ok.len; rw [freshTo_len] at this; exact this.symm
    subst hm1
    obtain ⟨p'_0, p'_1, p'_2, p'_3⟩ := p'.c4
    have p'_lt := p'.lt
    have l0 := later_cell p'_lt p'_0
    have l1 := later_cell p'_lt p'_1
    have l2 := later_cell p'_lt p'_2
    have l3 := later_cell p'_lt p'_3
    have hw1 : IntKind.i64.wrap (gr - s) = (n : Int) := by rw [IntWalk.i64_in _ (by omega)]; exact HE2.out
    have hw2 : IntKind.i64.wrap ((nb : Int) * (n : Int)) = ((nb * n : Nat) : Int) := by rw [IntWalk.i64_in _ (by rw [← Int.natCast_mul]; omega)]; simp
    go_wp2
    refine wp_region_later (by kernel_rfl) (by kernel_rfl) ?_
    repeat (go_big_quiet_step ((go_at_call 21; exact later_call (cB _))))
    refine wpQuiet_nil ?_
    intro Z hw'
    obtain ⟨z, hw''⟩ := hw'
    have bZ := z.bel
    rw [← hw''] at bZ
    clear hw'' z l0 l1 l2 l3
    clear p'_0 p'_1 p'_2 p'_3 p'_lt
    have szZ := bZ.size
    replace br := br.trans (bZ.mono br.size)
    replace p' := p'.kept bZ
    replace r' := r'.kept bZ
    replace q' := q'.kept bZ
    replace ok := ok.below bZ
    clear bZ
    by_cases hlt : m1 < nb * n
    · have HF := Lib.hid (freshTo_succ n m1)
      have hw3 : (m1 : Int).tmod (n : Int) = ((m1 % n : Nat) : Int) := by rw [Int.tmod_eq_emod_of_nonneg (by omega)]; rfl
      have n0 : (n : Int) ≠ 0 := by omega
      have n00 : n ≠ 0 := by omega
      obtain ⟨p'_0, p'_1, p'_2, p'_3⟩ := p'.c4
      have p'_lt := p'.lt
      obtain ⟨q'_0, q'_1⟩ := q'.c2
      have q'_lt := q'.lt
      go_wp2
      go_region_law
        (first | (refine step_app1 (by rfl) (.tmp 38) (.tmp 45) 26 (by rfl) Try.underlying26 infoInt A1 m1 c1 W3.heap.size (freshTo n m1) (by rfl) (ok.alloc _) Z.heap.size ((m1 % n : Nat) : Int) (by rfl) (by simp) (by omega) (by first | (simp; done) | (simp; omega) | omega) ?_; intro A2 c2 w2 o2 g2 at2; have rg : ∀ g, g < W3.heap.size → some g ≠ blk A1 c1 := (fun g hg e => (by have := (ok.lt _ e.symm).1; omega)); have p2 := (p'.ad _).grown g2 (rg _ (by omega)); have q2 := (q'.ad _).grown g2 (rg _ (by omega)); obtain ⟨q2_0, q2_1⟩ := q2.c2; obtain ⟨p2_0, p2_1, p2_2, p2_3⟩ := p2.c4; have q2f := q2.frozen; have q2l := q2.lt) | fail)
      all_goals
        go_wp2
        go_roundw
        case rel =>
          have hs2 := g2.size
          refine ⟨m1 + 1, A2, m1 + 1, c2, by omega, by go_num, ?_, p2.far (by dsimp only; omega) _, ((r'.ad _).grown g2 (rg _ (by omega))).far (by dsimp only; omega) _, q2.set_ 1 _, ?_, ?_⟩
          · exact (below_app (belowN (br.alloc br.size _) 1) g2 (fun j hj => by have := (ok.lt j hj).1; omega) (by simp; omega)).setCell (by dsimp only; omega) _
          · rw [HF.out]
            exact o2.setCell _ _ (fun j hj => by have := (o2.lt j hj).1; dsimp only; omega)
          · simp [World.setCell] at hs2 ⊢; omega
        case measure => simp [intOf]; omega
    · skip
      have hend : Hid (m1 = nb * n) := by unfold Hid; omega
      obtain ⟨r'_0, r'_1⟩ := r'.c2
      have r'_lt := r'.lt
      obtain ⟨q'_0, q'_1⟩ := q'.c2
      have q'_lt := q'.lt
      have r'_f := r'.frozen
      go_wp2
      refine abs_body ?_
      intro W9 hW
      have sr9 := ok.setCell ⟨w.heap.size + 1, 0, none⟩ (.int .i64 s) (fun k hk => by have := (ok.lt k hk).1; dsimp only; omega)
      have so9 := sr9.setCell ⟨w.heap.size + 1, 1, none⟩ (.slice A1 m1 c1) (fun k hk => by have := (sr9.lt k hk).1; dsimp only; omega)
      have ok9 : OwnI W9 W3.heap.size A1 m1 c1 (freshTo n m1) := by rw [hW]; exact so9
      clear sr9 so9
      clear r'_0 r'_1 r'_lt q'_0 q'_1 q'_lt r'_f
      have szW9 : Z.heap.size ≤ W9.heap.size := by rw [hW]; simp [World.setCell]
      have szW9_ := br.size
      replace br : Below w.heap.size w W9 := by rw [hW]; exact ((br).setCell (by dsimp only; omega) _).setCell (by dsimp only; omega) _
      replace p' : Box W9 w.heap.size 25 #[.int .i64 gg, .int .i64 gb, .int .i64 gr, .int .i64 gc] := by rw [hW]; exact ((p').far (by dsimp only; omega) _).far (by dsimp only; omega) _
      replace r' : Box W9 (w.heap.size + 1) 28 #[.int .i64 s, .slice A1 m1 c1] := by rw [hW]; exact ((r').set_ 0 _).set_ 1 _
      replace q' : Box W9 w1.heap.size 28 #[.int .i64 s, .slice A1 m1 c1] := by rw [hW]; exact ((q').far (by dsimp only; omega) _).far (by dsimp only; omega) _
      clear hW
      obtain ⟨z0, z1⟩ := r'.c2
      refine bodyPost_ret (v := .tuple #[.agg #[.int .i64 s, .slice A1 m1 c1], .bool true]) (by simp [results, Try.results69, go_sem, z0, z1]) rfl ?_
      rw [HK.out, HM.out, HS.out, ← hend.out]
      exact ⟨_, _, _, rfl, OwnH.mk' (ok9.mono (by omega)), br⟩
end Go.Proofs.Ytbapamfomfbmmaa
