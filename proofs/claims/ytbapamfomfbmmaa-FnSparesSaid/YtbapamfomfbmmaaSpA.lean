/-
  Contracts of SpareNew, in the program and in the reference.
-/
import Derived.Test.YtbapamfomfbmmaaGeo
import Derived.Test.YtbapamfomfbmmaaSpare
namespace Go.Proofs.Ytbapamfomfbmmaa
open Go.RowKit
set_option linter.unusedSimpArgs false
set_option linter.unusedVariables false

section
variable {P : Program} {w : World} {ops : Array Oper} {o : Oper} {a : Act} {Q : Exit → Act → World → Prop}
/-- 'append(out, y)' of integers inside a statement that leaves its order open. -/
theorem step_app1 {K : Act → World → Prop} {E : Prop} (hgd : o.guard = none) (s x : Operand) (t : TypeId) (ho : o.op = .call { callee := .builtin .append, args := #[s, x], argTypes := #[t, t] }) (ht : P.underlying t = some (.slice 3))
    (hinf : (P.info? 3).map (fun i => (i.zero, i.size, i.bytes)) = some (some (.int .i64 0), 1, 8))
    (A : Option Addr) (n c lo : Nat) (zs : List Int) (hs : a.eval s = .slice A n c) (hown : OwnI w lo A n c zs) (g1 : Nat) (y : Int) (hx : a.eval x = .slice (some ⟨g1, 0, none⟩) 1 1)
    (hcell : w.cell? ⟨g1, 0, none⟩ = some (.int .i64 y)) (hlen : n + 1 ≤ 1099511627776) (hlo : lo ≤ w.heap.size)
    (h : ∀ A' c' w', OwnI w' lo A' (n + 1) c' (zs ++ [y]) → w.grownBy w' (blk A c) → (blk A' c' = blk A c ∨ blk A' c' = some w.heap.size) → K (a.put o.dst (.slice A' (n + 1) c')) w') :
    if Region.wanted o (yielded ops a.tmps) = true then Oper.wp P o a w K Q else E := by
  have hw : Region.wanted o (yielded ops a.tmps) = true := by simp [Region.wanted, hgd]
  rw [if_pos hw]
  refine wp_appV s x t ho lo 3 _ 1 8 ht hinf rfl (by omega) A n c (mapI zs) hs hown _ 1 1 [.int .i64 y] hx (Src.one hcell) (by intro u hu; simp at hu; subst hu; rfl) (by unfold maxLen; omega) (by omega) hlo ?_
  intro A' c' w' h2 h3 h4
  exact h A' c' w' (by unfold OwnI; rw [mapI_append]; exact h2) h3 h4
end
theorem OwnI.nilH (w : World) (lo hi : Nat) (A : Option Addr) : OwnH w lo hi A 0 0 [] := ⟨OwnI.nil _ _ _, fun k hk => by rw [blk_zero] at hk; cases hk⟩
/-- append in place grows nothing older than the row. -/
theorem below_app {lo : Nat} {a b c : World} {row : Option Nat} (h : Below lo a b) (g : b.grownBy c row) (hlo : ∀ k, row = some k → lo ≤ k) (hb : lo ≤ b.heap.size) : Below lo a c :=
  h.trans ⟨g.os, g.tape, g.output, g.size, fun k hk => g.block k (by omega) (fun e => by have := hlo k e.symm; omega)⟩
set_option maxHeartbeats 8000000 in
theorem iSpareNew_c (gg gb gr gc s : Int) (w : World) :
    Calls Try.prog 72 #[.agg #[.int .i64 gg, .int .i64 gb, .int .i64 gr, .int .i64 gc], .int .i64 s] w (NewSpB (spMap gg gb gr gc s) (spSp gg gb gr gc s) (spOk gg gb gr gc s) w) := by
  have bel : Below w.heap.size w w := Below.refl _ _
  go_enter Try.func72, Try.ntmps72
  go_wp2_with fail
  refine abs_call ?_
  intro W hW
  have szW : w.heap.size + 1 + 1 ≤ W.heap.size := by rw [hW]; simp [World.setCell]
  have szW_ := bel.size
  replace bel : Below w.heap.size w W := by rw [hW]; exact ((bel).alloc (by first | omega | (simp [World.setCell] <;> omega)) _).alloc (by first | omega | (simp [World.setCell] <;> omega)) _
  have p : Box W w.heap.size 25 #[.int .i64 gg, .int .i64 gb, .int .i64 gr, .int .i64 gc] := by rw [hW]; exact ((Box.newAt (by simp [World.setCell]))).alloc _
  have r : Box W (w.heap.size + 1) 28 #[.int .i64 0, .slice none 0 0] := by rw [hW]; exact (Box.newAt (by simp [World.setCell]))
  clear hW
  refine (iGeometryOk_c gg gb gr gc _).mono ?_
  rintro e w1 ⟨rfl, b1⟩
  have szw1 := b1.size
  replace bel := bel.trans (b1.mono bel.size)
  replace p := p.kept b1
  replace r := r.kept b1
  clear b1
  by_cases h : geoOk gg gb gr gc = true
  case neg =>
    have h' : geoOk gg gb gr gc = false := by simpa using h
    clear h
    have HQ : Hid (spOk gg gb gr gc s = false) := by unfold Hid spOk; rw [h']; rfl
    obtain ⟨p_0, p_1, p_2, p_3⟩ := p.c4
    have p_lt := p.lt
    obtain ⟨r_0, r_1⟩ := r.c2
    have r_lt := r.lt
    have r_f := r.frozen
    go_wp2_with (go_at_call 75; refine (between_c _ _ _ _).mono ?_; rintro e w' ⟨rfl, rfl⟩)
    refine abs_body ?_
    intro W9 hW
    clear p_0 p_1 p_2 p_3 p_lt r_0 r_1 r_lt r_f
    have szW9 : w1.heap.size ≤ W9.heap.size := by rw [hW]; simp [World.setCell]
    have szW9_ := bel.size
    replace bel : Below w.heap.size w W9 := by rw [hW]; exact ((bel).setCell (by dsimp only; omega) _).setCell (by dsimp only; omega) _
    replace p : Box W9 w.heap.size 25 #[.int .i64 gg, .int .i64 gb, .int .i64 gr, .int .i64 gc] := by rw [hW]; exact ((p).far (by dsimp only; omega) _).far (by dsimp only; omega) _
    replace r : Box W9 (w.heap.size + 1) 28 #[.int .i64 0, .slice none 0 0] := by rw [hW]; exact ((r).set_ 0 _).set_ 1 _
    clear hW
    obtain ⟨z0, z1⟩ := r.c2
    refine bodyPost_ret (v := .tuple #[.agg #[.int .i64 0, .slice none 0 0], .bool false]) (by simp [results, Try.results72, go_sem, z0, z1]) rfl ?_
    rw [HQ.out, (sp_no HQ.out).1, (sp_no HQ.out).2]
    exact ⟨_, _, _, rfl, OwnI.nilH _ _ _ _, bel⟩
  by_cases h1 : inB s 0 2 = true
  case neg =>
    have h1' : inB s 0 2 = false := by simpa using h1
    clear h1
    have HQ : Hid (spOk gg gb gr gc s = false) := by unfold Hid spOk; rw [h, h1']; rfl
    obtain ⟨p_0, p_1, p_2, p_3⟩ := p.c4
    have p_lt := p.lt
    obtain ⟨r_0, r_1⟩ := r.c2
    have r_lt := r.lt
    have r_f := r.frozen
    go_wp2_with (go_at_call 75; refine (between_c _ _ _ _).mono ?_; rintro e w' ⟨rfl, rfl⟩)
    refine abs_body ?_
    intro W9 hW
    clear p_0 p_1 p_2 p_3 p_lt r_0 r_1 r_lt r_f
    have szW9 : w1.heap.size ≤ W9.heap.size := by rw [hW]; simp [World.setCell]
    have szW9_ := bel.size
    replace bel : Below w.heap.size w W9 := by rw [hW]; exact ((bel).setCell (by dsimp only; omega) _).setCell (by dsimp only; omega) _
    replace p : Box W9 w.heap.size 25 #[.int .i64 gg, .int .i64 gb, .int .i64 gr, .int .i64 gc] := by rw [hW]; exact ((p).far (by dsimp only; omega) _).far (by dsimp only; omega) _
    replace r : Box W9 (w.heap.size + 1) 28 #[.int .i64 0, .slice none 0 0] := by rw [hW]; exact ((r).set_ 0 _).set_ 1 _
    clear hW
    obtain ⟨z0, z1⟩ := r.c2
    refine bodyPost_ret (v := .tuple #[.agg #[.int .i64 0, .slice none 0 0], .bool false]) (by simp [results, Try.results72, go_sem, z0, z1]) rfl ?_
    rw [HQ.out, (sp_no HQ.out).1, (sp_no HQ.out).2]
    exact ⟨_, _, _, rfl, OwnI.nilH _ _ _ _, bel⟩
  obtain ⟨⟨g1, g2⟩, ⟨g3, g4⟩, ⟨g5, g6⟩, g7, g8⟩ := geo_parts h
  obtain ⟨s1, s2⟩ := inB_t h1
  by_cases h2 : gr - s < 2
  · have HQ : Hid (spOk gg gb gr gc s = false) := by
      unfold Hid spOk
      have : decide (2 ≤ gr - s) = false := by simp; omega
      rw [h, h1, this]; rfl
    obtain ⟨p_0, p_1, p_2, p_3⟩ := p.c4
    have p_lt := p.lt
    obtain ⟨r_0, r_1⟩ := r.c2
    have r_lt := r.lt
    have r_f := r.frozen
    go_wp2_with (go_at_call 75; refine (between_c _ _ _ _).mono ?_; rintro e w' ⟨rfl, rfl⟩)
    refine abs_body ?_
    intro W9 hW
    clear p_0 p_1 p_2 p_3 p_lt r_0 r_1 r_lt r_f
    have szW9 : w1.heap.size ≤ W9.heap.size := by rw [hW]; simp [World.setCell]
    have szW9_ := bel.size
    replace bel : Below w.heap.size w W9 := by rw [hW]; exact ((bel).setCell (by dsimp only; omega) _).setCell (by dsimp only; omega) _
    replace p : Box W9 w.heap.size 25 #[.int .i64 gg, .int .i64 gb, .int .i64 gr, .int .i64 gc] := by rw [hW]; exact ((p).far (by dsimp only; omega) _).far (by dsimp only; omega) _
    replace r : Box W9 (w.heap.size + 1) 28 #[.int .i64 0, .slice none 0 0] := by rw [hW]; exact ((r).set_ 0 _).set_ 1 _
    clear hW
    obtain ⟨z0, z1⟩ := r.c2
    refine bodyPost_ret (v := .tuple #[.agg #[.int .i64 0, .slice none 0 0], .bool false]) (by simp [results, Try.results72, go_sem, z0, z1]) rfl ?_
    rw [HQ.out, (sp_no HQ.out).1, (sp_no HQ.out).2]
    exact ⟨_, _, _, rfl, OwnI.nilH _ _ _ _, bel⟩
  have HK : Hid (spOk gg gb gr gc s = true) := by
    unfold Hid spOk
    have : decide (2 ≤ gr - s) = true := by simp; omega
    rw [h, h1, this]; rfl
  obtain ⟨nb, n, e1, e2, e3, e4, n1, n2, n3, n4, -⟩ := spOk_nums HK.out
  have HM : Hid (spMap gg gb gr gc s = freshTo n (nb * n)) := by unfold Hid; rw [(sp_yes HK.out).1, e3, e4]
  have HS : Hid (spSp gg gb gr gc s = s) := (sp_yes HK.out).2
  have HB := Lib.hid e1
  have q1 : gr - s ≤ n := by omega
  have q2 : n ≤ gr - s := by omega
  have hnn := le_mul8 n2 n4
  have HE2 := Lib.hid e2
  clear e1 e2 e3 e4
  obtain ⟨p_0, p_1, p_2, p_3⟩ := p.c4
  have p_lt := p.lt
  go_wp2_with (go_at_call 75; refine (between_c _ _ _ _).mono ?_; rintro e w' ⟨rfl, rfl⟩)
  refine abs_code ?_
  intro W3 hW
  clear p_0 p_1 p_2 p_3 p_lt
  have szW3 : w1.heap.size + 1 ≤ W3.heap.size := by rw [hW]; simp [World.setCell]
  have szW3_ := bel.size
  replace bel : Below w.heap.size w W3 := by rw [hW]; exact (bel).alloc (by first | omega | (simp [World.setCell] <;> omega)) _
  replace p : Box W3 w.heap.size 25 #[.int .i64 gg, .int .i64 gb, .int .i64 gr, .int .i64 gc] := by rw [hW]; exact p.alloc _
  replace r : Box W3 (w.heap.size + 1) 28 #[.int .i64 0, .slice none 0 0] := by rw [hW]; exact r.alloc _
  have q : Box W3 w1.heap.size 28 #[.int .i64 s, .slice none 0 0] := by rw [hW]; exact (Box.newAt (by simp [World.setCell]))
  clear hW
  have r0 := r
  have q0 := q
  go_loopw [7] (fun i wr => ∃ (b : Nat) (A1 : Option Addr) (m1 c1 : Nat), b ≤ nb ∧ i = .int .i64 b ∧ Below w.heap.size w wr ∧ Box wr w.heap.size 25 #[.int .i64 gg, .int .i64 gb, .int .i64 gr, .int .i64 gc] ∧ Box wr (w.heap.size + 1) 28 #[.int .i64 0, .slice none 0 0] ∧ Box wr w1.heap.size 28 #[.int .i64 s, .slice A1 m1 c1] ∧ OwnI wr W3.heap.size A1 m1 c1 (freshTo n (b * n)) ∧ W3.heap.size ≤ wr.heap.size) (fun i _ => nb - (intOf i).toNat)
  case atStart => exact ⟨0, _, 0, 0, Nat.zero_le _, rfl, bel, p, r, q, (by rw [Nat.zero_mul]; exact OwnI.nil _ _ _), Nat.le_refl _⟩
  case round =>
    obtain ⟨b, A1, m1, c1, hb, rfl, br, p', r', q', ok, szr⟩ := hrel
    clear p r q r0 q0 bel
    obtain ⟨p'_0, p'_1, p'_2, p'_3⟩ := p'.c4
    have p'_lt := p'.lt
    go_wp2_with fail
    refine (iBankCount_c gg gb gr gc _).mono ?_
    rintro e w5 ⟨rfl, b5⟩
    rw [HB.out]
    clear p'_0 p'_1 p'_2 p'_3 p'_lt
    have szw5 := b5.size
    replace br := br.trans (b5.mono br.size)
    replace p' := p'.kept b5
    replace r' := r'.kept b5
    replace q' := q'.kept b5
    replace ok := ok.below b5
    clear b5
    by_cases hlt : b < nb
    · go_wp2_with fail
      go_loopw [8] (fun i wr => ∃ (k : Nat) (A1 : Option Addr) (m1 c1 : Nat), k ≤ n ∧ i = .int .i64 k ∧ Below w.heap.size w wr ∧ Box wr w.heap.size 25 #[.int .i64 gg, .int .i64 gb, .int .i64 gr, .int .i64 gc] ∧ Box wr (w.heap.size + 1) 28 #[.int .i64 0, .slice none 0 0] ∧ Box wr w1.heap.size 28 #[.int .i64 s, .slice A1 m1 c1] ∧ OwnI wr W3.heap.size A1 m1 c1 (freshTo n (b * n + k)) ∧ W3.heap.size ≤ wr.heap.size) (fun i _ => n - (intOf i).toNat)
      case atStart => exact ⟨0, A1, m1, c1, Nat.zero_le _, rfl, br, p', r', q', ok, by omega⟩
      case round =>
        clear p' r' q' ok br
        obtain ⟨k, A1, m1, c1, hk, rfl, br, p', r', q', ok, szr⟩ := hrel
        obtain ⟨p'_0, p'_1, p'_2, p'_3⟩ := p'.c4
        have p'_lt := p'.lt
        obtain ⟨q'_0, q'_1⟩ := q'.c2
        have q'_lt := q'.lt
        have hm1 : m1 = b * n + k := by have := ok.len; rw [freshTo_len] at this; exact this.symm
        have hm2 : m1 ≤ 128 := by have := Nat.mul_le_mul_right n (show b + 1 ≤ nb by omega); rw [Nat.add_mul] at this; omega
        have HM1 := Lib.hid hm1
        clear hm1
        by_cases hlt : k < n
        · have HF : Hid (freshTo n (b * n + k + 1) = freshTo n (b * n + k) ++ [(k : Int)]) := by unfold Hid; rw [freshTo_succ, (row_div hlt).2]
          go_wp2_with (at_builtin; refine wpList_app1 rfl (.tmp 42) (.tmp 44) 26 rfl Try.underlying26 infoInt A1 m1 c1 W3.heap.size (freshTo n (b * n + k)) rfl (ok.alloc _) wr.heap.size (k : Int) rfl (by simp) (by omega) (by simp; omega) ?_; intro A2 c2 w2 o2 g2 at2; have q2 := (q'.alloc _).grown g2 (fun e => by have := (ok.lt _ e.symm).1; omega); obtain ⟨q2_0, q2_1⟩ := q2.c2; have q2f := q2.frozen; have q2l := q2.lt)
          go_roundw
          case rel =>
            have rg : ∀ g, g < W3.heap.size → some g ≠ blk A1 c1 := fun g hg e => by have := (ok.lt _ e.symm).1; omega
            refine ⟨k + 1, A2, m1 + 1, c2, by omega, by go_num, ?_, ((p'.alloc _).grown g2 (rg _ (by omega))).far (by dsimp only; omega) _, ((r'.alloc _).grown g2 (rg _ (by omega))).far (by dsimp only; omega) _, q2.set_ 1 _, ?_, ?_⟩
            · exact (below_app (br.alloc br.size _) g2 (fun j hj => by have := (ok.lt j hj).1; omega) (by simp; omega)).setCell (by dsimp only; omega) _
            · rw [show b * n + (k + 1) = b * n + k + 1 by omega, HF.out]
              exact o2.setCell _ _ (fun j hj => by have := (o2.lt j hj).1; dsimp only; omega)
            · have := g2.size; simp [World.setCell] at this ⊢; omega
          case measure => simp [intOf]; omega
        · obtain rfl : n = k := by omega
          go_wp2
          go_roundw
          case rel => exact ⟨b + 1, A1, m1, c1, by omega, by go_num, br, p', r', q', (by rw [Nat.add_mul, Nat.one_mul]; exact ok), szr⟩
          case measure => simp [intOf]; omega
    · skip
      obtain rfl : nb = b := by omega
      obtain ⟨r'_0, r'_1⟩ := r'.c2
      have r'_lt := r'.lt
      obtain ⟨q'_0, q'_1⟩ := q'.c2
      have q'_lt := q'.lt
      have r'_f := r'.frozen
      go_wp2
      refine abs_body ?_
      intro W9 hW
      have sr9 := ok.setCell ⟨w.heap.size + 1, 0, none⟩ (.int .i64 s) (fun k hk => by have := (ok.lt k hk).1; dsimp only; omega)
      have so9 := sr9.setCell ⟨w.heap.size + 1, 1, none⟩ (.slice A1 m1 c1) (fun k hk => by have := (sr9.lt k hk).1; dsimp only; omega)
      have ok9 : OwnI W9 W3.heap.size A1 m1 c1 (freshTo n (nb * n)) := by rw [hW]; exact so9
      clear sr9 so9
      clear r'_0 r'_1 r'_lt q'_0 q'_1 q'_lt r'_f
      have szW9 : w5.heap.size ≤ W9.heap.size := by rw [hW]; simp [World.setCell]
      have szW9_ := br.size
      replace br : Below w.heap.size w W9 := by rw [hW]; exact ((br).setCell (by dsimp only; omega) _).setCell (by dsimp only; omega) _
      replace p' : Box W9 w.heap.size 25 #[.int .i64 gg, .int .i64 gb, .int .i64 gr, .int .i64 gc] := by rw [hW]; exact ((p').far (by dsimp only; omega) _).far (by dsimp only; omega) _
      replace r' : Box W9 (w.heap.size + 1) 28 #[.int .i64 s, .slice A1 m1 c1] := by rw [hW]; exact ((r').set_ 0 _).set_ 1 _
      replace q' : Box W9 w1.heap.size 28 #[.int .i64 s, .slice A1 m1 c1] := by rw [hW]; exact ((q').far (by dsimp only; omega) _).far (by dsimp only; omega) _
      clear hW
      obtain ⟨z0, z1⟩ := r'.c2
      refine bodyPost_ret (v := .tuple #[.agg #[.int .i64 s, .slice A1 m1 c1], .bool true]) (by simp [results, Try.results72, go_sem, z0, z1]) rfl ?_
      rw [HK.out, HM.out, HS.out]
      exact ⟨_, _, _, rfl, OwnH.mk' (ok9.mono (by omega)), br⟩
end Go.Proofs.Ytbapamfomfbmmaa
