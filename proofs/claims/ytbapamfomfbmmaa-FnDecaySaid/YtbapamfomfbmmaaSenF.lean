/-
  Sensing a row in the reference.
-/
import Derived.Test.YtbapamfomfbmmaaSenE
import Derived.Deep.DeepCutAuto
import Derived.Deep.RegionHeld3
import Derived.BigRegion
namespace Go.Proofs.Ytbapamfomfbmmaa
open Go.RowKit
set_option linter.unusedSimpArgs false
set_option linter.unusedVariables false

theorem bendTo_succ (vs : List CV) (base k : Nat) : bendTo vs base (k + 1) = bendAt (bendTo vs base k) (base + k) := rfl
theorem lens_at {vs us : List CV} (h : lens us = lens vs) {i : Nat} {v : CV} (hv : us[i]? = some v) (hc : vs.all celF = true) : v.1.length = 11 := by
  have e : (lens us)[i]? = some v.1.length := by unfold lens; rw [List.getElem?_map, hv]; rfl
  rw [h] at e
  unfold lens at e
  rw [List.getElem?_map] at e
  obtain ⟨u, hu, e2⟩ := Option.map_eq_some_iff.1 e
  rw [List.all_eq_true] at hc
  have := hc u (List.mem_of_getElem? hu)
  unfold celF symOkN at this
  simp only [Bool.and_eq_true, beq_iff_eq] at this
  omega
theorem bend_two {zs : List Int} {x0 x1 : Int} (h0 : zs[0]? = some x0) (h1 : zs[1]? = some x1) : (zs.set 0 (bits .xor .i64 x0 5)).set 1 (bits .xor .i64 x1 10) = bendL zs := by
  unfold bendL
  rw [List.getD_eq_getElem?_getD, List.getD_eq_getElem?_getD, h0, h1]
  rfl
theorem hit_set {ht : List Int} {i : Nat} {y : Int} (h : ht[i]? = some y) : ht.set i (min (y + 1) 100000) = hitAdd ht i := by
  unfold hitAdd
  rw [List.getD_eq_getElem?_getD, h]
  rfl
theorem age_at {ht : List Int} {i : Nat} {y : Int} (hc : ht.all ageF = true) (h : ht[i]? = some y) : 0 ≤ y ∧ y ≤ 100000 := by
  rw [List.all_eq_true] at hc
  exact inB_t (hc y (List.mem_of_getElem? h))
theorem lt_prod {b nb r R : Nat} (hb : b < nb) (hr : r < R) : b * R + r < nb * R := row_lt hb hr
section
variable {w w' : World} {lo hi n c : Nat} {A : Option Addr} {hs : List Cel} {vs : List CV}
theorem OwnC'.alloc (H : OwnC' w lo hi A n c hs vs) (o : Obj) : OwnC' (w.alloc o) lo hi A n c hs vs := H.below ((Below.refl _ _).alloc (Nat.le_refl _) o)
theorem OwnC'.drewN (H : OwnC' w lo hi A n c hs vs) (k : Nat) : OwnC' (w.drewN k) lo hi A n c hs vs := H.below (belowN (Below.refl _ _) k)
theorem OwnC'.chg {lo' hi' : Nat} (H : OwnC' w lo hi A n c hs vs) (hc : Chg lo' hi' w w') (hne : hi ≤ lo' ∨ hi' ≤ lo) : OwnC' w' lo hi A n c hs vs := H.chgOut hc hne
theorem OwnC'.setCell (H : OwnC' w lo hi A n c hs vs) (p : Addr) (u : Value) (hne : p.block < lo ∨ hi ≤ p.block) : OwnC' (w.setCell p u) lo hi A n c hs vs := H.setOut p u hne
end
set_option maxRecDepth 100000 in
set_option maxHeartbeats 16000000 in
theorem l14Sense_c (gg gb : Int) (nb R C b r : Nat) (la lh : Int) (pB lo hi : Nat) (A : Option Addr) (n c : Nat) (B : Option Addr) (m d : Nat) (D : Option Addr) (p q : Nat) (vs : List CV) (ag ht : List Int) (w : World)
    (P : Box w pB 87 #[.slice A n c, .slice B m d, .slice D p q]) (H : OwnA w lo hi A n c vs B m d ag D p q ht) (hp : pB < lo ∨ hi ≤ pB) (hhi : hi ≤ w.heap.size)
    (hg : geoOk gg gb R C = true) (hnb : bankCnt gg gb R C = (nb : Int)) (nb8 : nb ≤ 8) (R16 : R ≤ 16) (C8 : C ≤ 8) (hb : b < nb) (hr : r < R) (hn : n = nb * R * C) (hm : m = nb * R) (hpp : p = nb * R) {vs0 : List CV} (hcv : vs0.all celF = true) (hl0 : lens vs = lens vs0) (hca : ag.all ageF = true) (hch : ht.all ageF = true) :
    Calls Try.prog 110 #[.agg #[.int .i64 gg, .int .i64 gb, .int .i64 (R : Int), .int .i64 (C : Int)], .agg #[.int .i64 la, .int .i64 lh], .pointer (some ⟨pB, 0, none⟩), .int .i64 (b : Int), .int .i64 (r : Int)] w fun e w' => e = .returned (.tuple #[]) ∧ OwnA w' lo hi A n c (senV la lh R C b r vs ag ht) B m d (senA R b r ag) D p q (senH R b r ht) ∧ Chg lo hi w w' := by
  have bel : Below w.heap.size w w := Below.refl _ _
  obtain ⟨Tt, hT⟩ : ∃ x, b * R = x := ⟨_, rfl⟩
  obtain ⟨I, hI⟩ : ∃ x, Tt + r = x := ⟨_, rfl⟩
  obtain ⟨J, hJ⟩ : ∃ x, I * C = x := ⟨_, rfl⟩
  have hT2 : Tt ≤ 128 := by rw [← hT]; exact Nat.le_trans (Nat.mul_le_mul (show b ≤ 8 by omega) R16) (by omega)
  have hJ2 : J ≤ 1200 := by rw [← hJ]; exact Nat.le_trans (Nat.mul_le_mul (show I ≤ 150 by omega) C8) (by omega)
  have eT : (b : Int) * (R : Int) = (Tt : Int) := by rw [← Int.natCast_mul, hT]
  have eI : (Tt : Int) + (r : Int) = (I : Int) := by omega
  have eJ : (I : Int) * (C : Int) = (J : Int) := by rw [← Int.natCast_mul, hJ]
  have eT' : IntKind.i64.wrap ((b : Int) * (R : Int)) = (Tt : Int) := by rw [eT]; exact IntWalk.i64_in _ (by omega)
  have eJ' : IntKind.i64.wrap ((I : Int) * (C : Int)) = (J : Int) := by rw [eJ]; exact IntWalk.i64_in _ (by omega)
  have hIm : I < m := by have := lt_prod hb hr; rw [hT] at this; omega
  have hIp : I < p := by omega
  have hJn : J + C ≤ n := by
    have h1 : (I + 1) * C ≤ nb * R * C := Nat.mul_le_mul_right C (by have := lt_prod hb hr; rw [hT] at this; omega)
    rw [Nat.add_mul, Nat.one_mul, hJ] at h1
    omega
  have HTI := Lib.hid hT
  have HII := Lib.hid hI
  have HJJ := Lib.hid hJ
  have hIy : ∀ y, y < R → Tt + y < p := fun y h => by have := lt_prod hb h; rw [hT] at this; omega
  have hI1 : r + 1 < R → I + 1 < m ∧ I + 1 < p := fun h => by have := lt_prod hb h; rw [show b * R + (r + 1) = b * R + r + 1 by omega, hT] at this; omega
  obtain ⟨-, -, ⟨gR1, gR2⟩, -⟩ := geo_parts hg
  have HNear : Hid (nears (R : Int) (r : Int) = (if 0 < (r : Int) then [(r : Int) - 1] else []) ++ (if (r : Int) < (R : Int) - 1 then [(r : Int) + 1] else [])) := by unfold Hid nears; rw [if_pos ⟨inB_mk gR1 gR2, inB_mk (by omega) (by omega)⟩]
  have HSH : Hid (senH R b r ht = hitsTo Tt (nears (R : Int) (r : Int)) (ht.set I 0)) := by unfold Hid senH; rw [hT, hI]
  have HSA : Hid (senA R b r ag = ag.set I 0) := by unfold Hid senA; rw [hT, hI]
  clear hT hI hJ hn hm hpp
  obtain ⟨l1, h1, l2, h2, l3, h3, ⟨hs, HC⟩, o2, o3, ⟨a1, a2⟩, ⟨a3, a4⟩, ⟨a5, a6⟩, s1, s2, s3⟩ := H
  have Plt := P.lt
  have x := P
  clear P
  go_enter Try.func110, Try.ntmps110
  go_wp2_with fail
  refine abs_code ?_
  intro W hW
  have b0 : Below w.heap.size w W := by rw [hW]; exact ((Below.refl _ _).alloc (Nat.le_refl _) _).alloc (by simp) _
  have CC : Chg lo hi w W := Chg.of_below b0
  have szW0 : w.heap.size + 2 ≤ W.heap.size := by rw [hW]; simp
  have szW : w.heap.size + 1 + 1 ≤ W.heap.size := by rw [hW]; simp [World.setCell]
  replace x : Box W pB 87 #[.slice A n c, .slice B m d, .slice D p q] := by rw [hW]; exact (x.alloc _).alloc _
  have gq : Box W w.heap.size 25 #[.int .i64 gg, .int .i64 gb, .int .i64 (R : Int), .int .i64 (C : Int)] := by rw [hW]; exact ((Box.newAt (by simp [World.setCell]))).alloc _
  have l : Box W (w.heap.size + 1) 90 #[.int .i64 la, .int .i64 lh] := by rw [hW]; exact (Box.newAt (by simp [World.setCell]))
  replace o2 : OwnH W l2 h2 B m d ag := by rw [hW]; exact (o2.alloc _).alloc _
  replace o3 : OwnH W l3 h3 D p q ht := by rw [hW]; exact (o3.alloc _).alloc _
  replace HC : OwnC' W l1 h1 A n c hs vs := by rw [hW]; exact (HC.alloc _).alloc _
  clear hW
  obtain ⟨gq_0, gq_1, gq_2, gq_3⟩ := gq.c4
  have gq_lt := gq.lt
  obtain ⟨l_0, l_1⟩ := l.c2
  have l_lt := l.lt
  obtain ⟨x_0, x_1, x_2⟩ := x.c3
  have x_lt := x.lt
  go_wp2_with fail
  have l0 := later_cell gq_lt gq_0
  have l1' := later_cell gq_lt gq_1
  have l2' := later_cell gq_lt gq_2
  have l3' := later_cell gq_lt gq_3
  have m0 := later_cell l_lt l_0
  have m1 := later_cell l_lt l_1
  have x0' := later_cell x_lt x_0
  have x1' := later_cell x_lt x_1
  have x2' := later_cell x_lt x_2
  have iB := o2.ints
  have iD := o3.ints
  have cG : ∀ z : Later W, Calls Try.prog 151 #[.agg #[.int .i64 gg, .int .i64 gb, .int .i64 (R : Int), .int .i64 (C : Int)], .agg #[.int .i64 la, .int .i64 lh], .agg #[.slice A n c, .slice B m d, .slice D p q], .int .i64 (I : Int)] z.w fun e w' => e = .returned (.bool (goneB la lh ag ht I)) ∧ Below z.w.heap.size z.w w' := fun z => l14Gone_c gg gb R C la lh A n c B m d D p q ag ht I z.w (iB.below z.bel) (iD.below z.bel) hIm hIp
  refine wp_region_later (by kernel_rfl) (by kernel_rfl) ?_
  repeat (go_big_quiet_step ((go_at_call 151; exact later_call (cG _))))
  refine wpQuiet_nil ?_
  intro Z hw'
  obtain ⟨z, hw''⟩ := hw'
  have bZ := z.bel
  rw [← hw''] at bZ
  clear hw'' z l0 l1' l2' l3' m0 m1 x0' x1' x2' iB iD cG
  replace CC := CC.trans (Chg.of_below bZ)
  clear gq_0 gq_1 gq_2 gq_3 gq_lt l_0 l_1 l_lt x_0 x_1 x_2 x_lt
  have szZ := bZ.size
  replace x := x.kept bZ
  replace gq := gq.kept bZ
  replace l := l.kept bZ
  replace o2 := o2.below bZ
  replace o3 := o3.below bZ
  replace HC := HC.below bZ
  clear bZ
  go_upto_if 25 with (fail)
  go_cut [] (fun wx => OwnC' wx l1 h1 A n c hs (senV la lh R C b r vs ag ht) ∧ Chg l1 h1 Z wx)
  case first =>
    cases hgn : goneB la lh ag ht I
    · have HV : Hid (senV la lh R C b r vs ag ht = vs) := by unfold Hid senV; rw [HTI.out, HII.out, if_neg (by rw [hgn]; simp)]
      clear hgn
      go_wp2
      go_meet
      exact ⟨by rw [HV.out]; exact HC, Chg.refl _ _ _⟩
    · have HV : Hid (senV la lh R C b r vs ag ht = bendTo vs J C) := by unfold Hid senV; rw [HTI.out, HII.out, if_pos hgn, HJJ.out]
      clear hgn
      go_wp2_with fail
      go_loopw [11] (fun i wr => ∃ (k : Nat), k ≤ C ∧ i = .int .i64 k ∧ OwnC' wr l1 h1 A n c hs (bendTo vs J k) ∧ Chg l1 h1 Z wr) (fun i _ => C - (intOf i).toNat)
      case atStart => exact ⟨0, Nat.zero_le _, rfl, HC, Chg.refl _ _ _⟩
      case round =>
        obtain ⟨k, hk, rfl, HK, CK⟩ := hrel
        have szk := CK.size
        have gqk := gq.chg CK (by omega)
        have xk := x.chg CK (by omega)
        obtain ⟨gqk_0, gqk_1, gqk_2, gqk_3⟩ := gqk.c4
        obtain ⟨xk_0, xk_1, xk_2⟩ := xk.c3
        have gqk_lt := gqk.lt
        have xk_lt := xk.lt
        by_cases hlt : k < C
        · obtain ⟨Jk, hJk⟩ : ∃ x, x = J + k := ⟨_, rfl⟩
          have eK : (J : Int) + (k : Int) = (Jk : Int) := by omega
          have eK' : IntKind.i64.wrap ((J : Int) + (k : Int)) = (Jk : Int) := by rw [eK]; exact IntWalk.i64_in _ (by omega)
          have hJn2 : Jk < n := by omega
          obtain ⟨g, sa, sn, sc, zs, psn, rfl, gl, gh, hf, c0, c1, hI, hhs, hvs⟩ := HK.at_ hJn2
          have h11 := lens_at ((bendTo_lens vs J k).trans hl0) hvs.out hcv
          have hsn := hI.len
          dsimp only at h11
          obtain ⟨gS, y0, rfl, cy0, fy0, hy0, gS1, gS2⟩ := hI.at_ (show 0 < sn by omega)
          obtain ⟨gS', y1, eS, cy1, fy1, hy1, -, -⟩ := hI.at_ (show 1 < sn by omega)
          injection eS with eS
          injection eS with eS _
          subst eS
          have j0 : (0 : Int) ≤ (Jk : Int) := by omega
          have j1 : (Jk : Int) < (n : Int) := by omega
          have n0 : (0 : Int) < (sn : Int) := by omega
          have n1 : (1 : Int) < (sn : Int) := by omega
          have HB := Lib.hid (bend_two hy0.out hy1.out)
          have HBS : Hid (bendTo vs J (k + 1) = (bendTo vs J k).set Jk (bendL zs, psn)) := by unfold Hid; rw [bendTo_succ, ← hJk]; exact bendAt_of hvs.out
          have hcc : sc ≠ 0 := by have := hI.1.cap; omega
          have hbl : blk (some ⟨gS, 0, none⟩) sc = some gS := blk_at hcc
          clear hJk h11 hy0 hy1
          go_wp2_with fail
          go_quiet (fail)
          go_wp2
          go_roundw
          case rel => 
            have Cn := (((Chg.refl gS (gS + 1) wr).drewN nq).setCell (p := ⟨gS, 0, none⟩) (.inl ⟨Nat.le_refl _, Nat.lt_succ_self _⟩) (.int .i64 (bits .xor .i64 y0 5))).setCell (p := ⟨gS, 1, none⟩) (.inl ⟨Nat.le_refl _, Nat.lt_succ_self _⟩) (.int .i64 (bits .xor .i64 y1 10))
            have q1 := ((hI.drewN nq).stored rfl (show 0 < sn by omega) (bits .xor .i64 y0 5)).1
            have q2 := (q1.stored rfl (show 1 < sn by omega) (bits .xor .i64 y1 10)).1
            rw [HB.out] at q2
            have hch := HK.chgRow hhs.out hvs.out hbl Cn q2
            rw [← HBS.out] at hch
            exact ⟨k + 1, by omega, by go_num, hch, CK.trans (Cn.mono gS1 (by omega))⟩
          case measure => simp [intOf]; omega
        · obtain rfl : k = C := by omega
          go_wp2
          go_meet
          exact ⟨by rw [HV.out]; exact HK, CK⟩
  case rest =>
    obtain ⟨HV, C1⟩ := hcut
    obtain ⟨Wd, hWd⟩ : ∃ v : World, v = wc := ⟨_, rfl⟩
    subst hWd
    replace CC := CC.trans (C1.mono a1 a2)
    clear HC
    have szWd := C1.size
    replace x := x.chg C1 (by omega)
    replace gq := gq.chg C1 (by omega)
    replace l := l.chg C1 (by omega)
    replace o2 := o2.chg C1 (by omega)
    replace o3 := o3.chg C1 (by omega)
    clear C1
    obtain ⟨gA, yA, rfl, cA, fA, -, gA1, gA2⟩ := o2.at_ hIm
    obtain ⟨gH, yH, rfl, cH, fH, -, gH1, gH2⟩ := o3.at_ hIp
    have i0 : (0 : Int) ≤ (I : Int) := by omega
    have i1 : (I : Int) < (m : Int) := by omega
    have i2 : (I : Int) < (p : Int) := by omega
    have hall := set_all (i := I) (x := 0) hch rfl
    obtain ⟨gq_0, gq_1, gq_2, gq_3⟩ := gq.c4
    have gq_lt := gq.lt
    obtain ⟨x_0, x_1, x_2⟩ := x.c3
    have x_lt := x.lt
    by_cases hr0 : 0 < (r : Int)
    · have tr0 : decide (0 < (r : Int)) = true := by simpa using hr0
      by_cases hrR : (r : Int) < (R : Int) - 1
      · have trR : decide ((r : Int) < (R : Int) - 1) = true := by simpa using hrR
        obtain ⟨hI1m, hI1p⟩ := hI1 (by omega)
        go_wp2_with fail
        refine abs_code ?_
        intro Wf hW
        have CCWf : Chg lo hi w Wf := by rw [hW]; exact (CC.setCell (.inl (by dsimp only; omega)) _).setCell (.inl (by dsimp only; omega)) _
        clear gq_0 gq_1 gq_2 gq_3 gq_lt x_0 x_1 x_2 x_lt
        have szWf : Wd.heap.size ≤ Wf.heap.size := by rw [hW]; simp [World.setCell]
        replace x : Box Wf pB 87 #[.slice A n c, .slice (some ⟨gA, 0, none⟩) m d, .slice (some ⟨gH, 0, none⟩) p q] := by rw [hW]; exact ((x).far (by dsimp only; omega) _).far (by dsimp only; omega) _
        replace gq : Box Wf w.heap.size 25 #[.int .i64 gg, .int .i64 gb, .int .i64 (R : Int), .int .i64 (C : Int)] := by rw [hW]; exact ((gq).far (by dsimp only; omega) _).far (by dsimp only; omega) _
        replace l : Box Wf (w.heap.size + 1) 90 #[.int .i64 la, .int .i64 lh] := by rw [hW]; exact ((l).far (by dsimp only; omega) _).far (by dsimp only; omega) _
        replace o2 : OwnH Wf l2 h2 (some ⟨gA, 0, none⟩) m d (ag.set I 0) := by rw [hW]; exact (((o2).stored rfl hIm _).1).setCell _ _ (by dsimp only; omega)
        replace o3 : OwnH Wf l3 h3 (some ⟨gH, 0, none⟩) p q (ht.set I 0) := by rw [hW]; exact (((o3).setCell _ _ (by dsimp only; omega)).stored rfl hIp _).1
        replace HV : OwnC' Wf l1 h1 A n c hs (senV la lh R C b r vs ag ht) := by rw [hW]; exact ((HV).setCell _ _ (by dsimp only; omega)).setCell _ _ (by dsimp only; omega)
        clear hW
        obtain ⟨XX1, hXX1⟩ : ∃ x : Nat, (x : Int) = (I : Int) - 1 := ⟨I - 1, by omega⟩
        have hXp1 : XX1 < p := by omega
        obtain ⟨gX11, yX1, eX1, hcX1, hfX1, hyX1, gX11, gX21⟩ := o3.at_ hXp1
        injection eX1 with eX1
        injection eX1 with eX1 _
        subst eX1
        have hyb1 := age_at (hall) hyX1.out
        obtain ⟨hy01, hy11⟩ := hyb1
        have x0i1 : (0 : Int) ≤ (XX1 : Int) := by omega
        have x1i1 : (XX1 : Int) < (p : Int) := by omega
        have eS1 : IntKind.i64.wrap ((I : Int) - 1) = (XX1 : Int) := by rw [← hXX1]; exact IntWalk.i64_in _ (by omega)
        have eY1 : IntKind.i64.wrap (yX1 + 1) = yX1 + 1 := IntWalk.i64_in _ (by omega)
        have HXX1 := Lib.hid hXX1
        clear hXX1
        have HS1 := Lib.hid (hit_set hyX1.out)
        clear hyX1
        obtain ⟨gq_0, gq_1, gq_2, gq_3⟩ := gq.c4
        have gq_lt := gq.lt
        obtain ⟨x_0, x_1, x_2⟩ := x.c3
        have x_lt := x.lt
        go_wp2_with fail
        go_region
        go_wp2_with fail
        all_goals
          refine abs_code ?_
          intro Wg hW
          replace hW : Wg = (Wf.setCell ⟨gH, XX1, none⟩ (.int .i64 (min (yX1 + 1) 100000))).drew := by rw [hW]; first | (rw [show min (yX1 + 1) 100000 = yX1 + 1 by omega]) | (rw [show min (yX1 + 1) 100000 = 100000 by omega])
          have CCWg : Chg lo hi w Wg := by rw [hW]; exact (CCWf.setCell (.inl (by dsimp only; omega)) _).drewN 1
          clear gq_0 gq_1 gq_2 gq_3 gq_lt x_0 x_1 x_2 x_lt
          have szWg : Wf.heap.size ≤ Wg.heap.size := by rw [hW]; simp [World.setCell]
          replace x : Box Wg pB 87 #[.slice A n c, .slice (some ⟨gA, 0, none⟩) m d, .slice (some ⟨gH, 0, none⟩) p q] := by rw [hW]; exact ((x).far (by dsimp only; omega) _).drewN 1
          replace gq : Box Wg w.heap.size 25 #[.int .i64 gg, .int .i64 gb, .int .i64 (R : Int), .int .i64 (C : Int)] := by rw [hW]; exact ((gq).far (by dsimp only; omega) _).drewN 1
          replace l : Box Wg (w.heap.size + 1) 90 #[.int .i64 la, .int .i64 lh] := by rw [hW]; exact ((l).far (by dsimp only; omega) _).drewN 1
          replace o2 : OwnH Wg l2 h2 (some ⟨gA, 0, none⟩) m d (ag.set I 0) := by rw [hW]; exact ((o2).setCell _ _ (by dsimp only; omega)).drewN 1
          replace o3 : OwnH Wg l3 h3 (some ⟨gH, 0, none⟩) p q ((ht.set I 0).set XX1 (min (yX1 + 1) 100000)) := by rw [hW]; exact (((o3).stored rfl hXp1 _).1).drewN 1
          replace HV : OwnC' Wg l1 h1 A n c hs (senV la lh R C b r vs ag ht) := by rw [hW]; exact ((HV).setCell _ _ (by dsimp only; omega)).drewN 1
          clear hW
          rw [HS1.out] at o3
          have hall2 := hitAdd_all (i := XX1) hall
          obtain ⟨XX2, hXX2⟩ : ∃ x : Nat, (x : Int) = (I : Int) + 1 := ⟨I + 1, by omega⟩
          have hXp2 : XX2 < p := by omega
          obtain ⟨gX22, yX2, eX2, hcX2, hfX2, hyX2, gX12, gX22⟩ := o3.at_ hXp2
          injection eX2 with eX2
          injection eX2 with eX2 _
          subst eX2
          have hyb2 := age_at (hall2) hyX2.out
          obtain ⟨hy02, hy12⟩ := hyb2
          have x0i2 : (0 : Int) ≤ (XX2 : Int) := by omega
          have x1i2 : (XX2 : Int) < (p : Int) := by omega
          have eS2 : IntKind.i64.wrap ((I : Int) + 1) = (XX2 : Int) := by rw [← hXX2]; exact IntWalk.i64_in _ (by omega)
          have eY2 : IntKind.i64.wrap (yX2 + 1) = yX2 + 1 := IntWalk.i64_in _ (by omega)
          have HXX2 := Lib.hid hXX2
          clear hXX2
          have HS2 := Lib.hid (hit_set hyX2.out)
          clear hyX2
          obtain ⟨gq_0, gq_1, gq_2, gq_3⟩ := gq.c4
          have gq_lt := gq.lt
          obtain ⟨x_0, x_1, x_2⟩ := x.c3
          have x_lt := x.lt
          go_wp2_with fail
          go_region
          go_wp2
          all_goals
            refine abs_body ?_
            intro W9 hW
            replace hW : W9 = (Wg.setCell ⟨gH, XX2, none⟩ (.int .i64 (min (yX2 + 1) 100000))).drew := by rw [hW]; first | (rw [show min (yX2 + 1) 100000 = yX2 + 1 by omega]) | (rw [show min (yX2 + 1) 100000 = 100000 by omega])
            have CC9 : Chg lo hi w W9 := by rw [hW]; exact (CCWg.setCell (.inl (by dsimp only; omega)) _).drewN 1
            clear gq_0 gq_1 gq_2 gq_3 gq_lt x_0 x_1 x_2 x_lt
            have szW9 : Wg.heap.size ≤ W9.heap.size := by rw [hW]; simp [World.setCell]
            replace x : Box W9 pB 87 #[.slice A n c, .slice (some ⟨gA, 0, none⟩) m d, .slice (some ⟨gH, 0, none⟩) p q] := by rw [hW]; exact ((x).far (by dsimp only; omega) _).drewN 1
            replace gq : Box W9 w.heap.size 25 #[.int .i64 gg, .int .i64 gb, .int .i64 (R : Int), .int .i64 (C : Int)] := by rw [hW]; exact ((gq).far (by dsimp only; omega) _).drewN 1
            replace l : Box W9 (w.heap.size + 1) 90 #[.int .i64 la, .int .i64 lh] := by rw [hW]; exact ((l).far (by dsimp only; omega) _).drewN 1
            replace o2 : OwnH W9 l2 h2 (some ⟨gA, 0, none⟩) m d (ag.set I 0) := by rw [hW]; exact ((o2).setCell _ _ (by dsimp only; omega)).drewN 1
            replace o3 : OwnH W9 l3 h3 (some ⟨gH, 0, none⟩) p q ((hitAdd (ht.set I 0) XX1).set XX2 (min (yX2 + 1) 100000)) := by rw [hW]; exact (((o3).stored rfl hXp2 _).1).drewN 1
            replace HV : OwnC' W9 l1 h1 A n c hs (senV la lh R C b r vs ag ht) := by rw [hW]; exact ((HV).setCell _ _ (by dsimp only; omega)).drewN 1
            clear hW
            rw [HS2.out] at o3
            refine bodyPost_end (results_none rfl _ _ _) rfl ?_
            rw [HSA.out, HSH.out, HNear.out, if_pos (show 0 < (r : Int) by omega), if_pos (show (r : Int) < (R : Int) - 1 by omega), show ([(r : Int) - 1] ++ [(r : Int) + 1] : List Int) = [(r : Int) - 1] ++ [(r : Int) + 1] from rfl, hitsTo_snoc, show hitsTo Tt [(r : Int) - 1] (ht.set I 0) = hitAdd (ht.set I 0) (Tt + ((r : Int) - 1).toNat) from rfl, show Tt + ((r : Int) - 1).toNat = XX1 by have := HXX1.out; omega, show Tt + ((r : Int) + 1).toNat = XX2 by have := HXX2.out; omega]
            exact ⟨rfl, ⟨l1, h1, l2, h2, l3, h3, ⟨hs, HV⟩, o2, o3, ⟨a1, a2⟩, ⟨a3, a4⟩, ⟨a5, a6⟩, s1, s2, s3⟩, CC9⟩
      · skip
        have trR : decide ((r : Int) < (R : Int) - 1) = false := by simpa using hrR
        go_wp2_with fail
        refine abs_code ?_
        intro Wf hW
        have CCWf : Chg lo hi w Wf := by rw [hW]; exact (CC.setCell (.inl (by dsimp only; omega)) _).setCell (.inl (by dsimp only; omega)) _
        clear gq_0 gq_1 gq_2 gq_3 gq_lt x_0 x_1 x_2 x_lt
        have szWf : Wd.heap.size ≤ Wf.heap.size := by rw [hW]; simp [World.setCell]
        replace x : Box Wf pB 87 #[.slice A n c, .slice (some ⟨gA, 0, none⟩) m d, .slice (some ⟨gH, 0, none⟩) p q] := by rw [hW]; exact ((x).far (by dsimp only; omega) _).far (by dsimp only; omega) _
        replace gq : Box Wf w.heap.size 25 #[.int .i64 gg, .int .i64 gb, .int .i64 (R : Int), .int .i64 (C : Int)] := by rw [hW]; exact ((gq).far (by dsimp only; omega) _).far (by dsimp only; omega) _
        replace l : Box Wf (w.heap.size + 1) 90 #[.int .i64 la, .int .i64 lh] := by rw [hW]; exact ((l).far (by dsimp only; omega) _).far (by dsimp only; omega) _
        replace o2 : OwnH Wf l2 h2 (some ⟨gA, 0, none⟩) m d (ag.set I 0) := by rw [hW]; exact (((o2).stored rfl hIm _).1).setCell _ _ (by dsimp only; omega)
        replace o3 : OwnH Wf l3 h3 (some ⟨gH, 0, none⟩) p q (ht.set I 0) := by rw [hW]; exact (((o3).setCell _ _ (by dsimp only; omega)).stored rfl hIp _).1
        replace HV : OwnC' Wf l1 h1 A n c hs (senV la lh R C b r vs ag ht) := by rw [hW]; exact ((HV).setCell _ _ (by dsimp only; omega)).setCell _ _ (by dsimp only; omega)
        clear hW
        obtain ⟨XX1, hXX1⟩ : ∃ x : Nat, (x : Int) = (I : Int) - 1 := ⟨I - 1, by omega⟩
        have hXp1 : XX1 < p := by omega
        obtain ⟨gX11, yX1, eX1, hcX1, hfX1, hyX1, gX11, gX21⟩ := o3.at_ hXp1
        injection eX1 with eX1
        injection eX1 with eX1 _
        subst eX1
        have hyb1 := age_at (hall) hyX1.out
        obtain ⟨hy01, hy11⟩ := hyb1
        have x0i1 : (0 : Int) ≤ (XX1 : Int) := by omega
        have x1i1 : (XX1 : Int) < (p : Int) := by omega
        have eS1 : IntKind.i64.wrap ((I : Int) - 1) = (XX1 : Int) := by rw [← hXX1]; exact IntWalk.i64_in _ (by omega)
        have eY1 : IntKind.i64.wrap (yX1 + 1) = yX1 + 1 := IntWalk.i64_in _ (by omega)
        have HXX1 := Lib.hid hXX1
        clear hXX1
        have HS1 := Lib.hid (hit_set hyX1.out)
        clear hyX1
        obtain ⟨gq_0, gq_1, gq_2, gq_3⟩ := gq.c4
        have gq_lt := gq.lt
        obtain ⟨x_0, x_1, x_2⟩ := x.c3
        have x_lt := x.lt
        go_wp2_with fail
        go_region
        go_wp2
        all_goals
          refine abs_body ?_
          intro W9 hW
          replace hW : W9 = (Wf.setCell ⟨gH, XX1, none⟩ (.int .i64 (min (yX1 + 1) 100000))).drew := by rw [hW]; first | (rw [show min (yX1 + 1) 100000 = yX1 + 1 by omega]) | (rw [show min (yX1 + 1) 100000 = 100000 by omega])
          have CC9 : Chg lo hi w W9 := by rw [hW]; exact (CCWf.setCell (.inl (by dsimp only; omega)) _).drewN 1
          clear gq_0 gq_1 gq_2 gq_3 gq_lt x_0 x_1 x_2 x_lt
          have szW9 : Wf.heap.size ≤ W9.heap.size := by rw [hW]; simp [World.setCell]
          replace x : Box W9 pB 87 #[.slice A n c, .slice (some ⟨gA, 0, none⟩) m d, .slice (some ⟨gH, 0, none⟩) p q] := by rw [hW]; exact ((x).far (by dsimp only; omega) _).drewN 1
          replace gq : Box W9 w.heap.size 25 #[.int .i64 gg, .int .i64 gb, .int .i64 (R : Int), .int .i64 (C : Int)] := by rw [hW]; exact ((gq).far (by dsimp only; omega) _).drewN 1
          replace l : Box W9 (w.heap.size + 1) 90 #[.int .i64 la, .int .i64 lh] := by rw [hW]; exact ((l).far (by dsimp only; omega) _).drewN 1
          replace o2 : OwnH W9 l2 h2 (some ⟨gA, 0, none⟩) m d (ag.set I 0) := by rw [hW]; exact ((o2).setCell _ _ (by dsimp only; omega)).drewN 1
          replace o3 : OwnH W9 l3 h3 (some ⟨gH, 0, none⟩) p q ((ht.set I 0).set XX1 (min (yX1 + 1) 100000)) := by rw [hW]; exact (((o3).stored rfl hXp1 _).1).drewN 1
          replace HV : OwnC' W9 l1 h1 A n c hs (senV la lh R C b r vs ag ht) := by rw [hW]; exact ((HV).setCell _ _ (by dsimp only; omega)).drewN 1
          clear hW
          rw [HS1.out] at o3
          refine bodyPost_end (results_none rfl _ _ _) rfl ?_
          rw [HSA.out, HSH.out, HNear.out, if_pos (show 0 < (r : Int) by omega), if_neg (show ¬ ((r : Int) < (R : Int) - 1) by omega), List.append_nil, show hitsTo Tt [(r : Int) - 1] (ht.set I 0) = hitAdd (ht.set I 0) (Tt + ((r : Int) - 1).toNat) from rfl, show Tt + ((r : Int) - 1).toNat = XX1 by have := HXX1.out; omega]
          exact ⟨rfl, ⟨l1, h1, l2, h2, l3, h3, ⟨hs, HV⟩, o2, o3, ⟨a1, a2⟩, ⟨a3, a4⟩, ⟨a5, a6⟩, s1, s2, s3⟩, CC9⟩
    · skip
      have tr0 : decide (0 < (r : Int)) = false := by simpa using hr0
      have hrR : (r : Int) < (R : Int) - 1 := by omega
      have trR : decide ((r : Int) < (R : Int) - 1) = true := by simpa using hrR
      obtain ⟨hI1m, hI1p⟩ := hI1 (by omega)
      go_wp2_with fail
      refine abs_code ?_
      intro Wf hW
      have CCWf : Chg lo hi w Wf := by rw [hW]; exact (CC.setCell (.inl (by dsimp only; omega)) _).setCell (.inl (by dsimp only; omega)) _
      clear gq_0 gq_1 gq_2 gq_3 gq_lt x_0 x_1 x_2 x_lt
      have szWf : Wd.heap.size ≤ Wf.heap.size := by rw [hW]; simp [World.setCell]
      replace x : Box Wf pB 87 #[.slice A n c, .slice (some ⟨gA, 0, none⟩) m d, .slice (some ⟨gH, 0, none⟩) p q] := by rw [hW]; exact ((x).far (by dsimp only; omega) _).far (by dsimp only; omega) _
      replace gq : Box Wf w.heap.size 25 #[.int .i64 gg, .int .i64 gb, .int .i64 (R : Int), .int .i64 (C : Int)] := by rw [hW]; exact ((gq).far (by dsimp only; omega) _).far (by dsimp only; omega) _
      replace l : Box Wf (w.heap.size + 1) 90 #[.int .i64 la, .int .i64 lh] := by rw [hW]; exact ((l).far (by dsimp only; omega) _).far (by dsimp only; omega) _
      replace o2 : OwnH Wf l2 h2 (some ⟨gA, 0, none⟩) m d (ag.set I 0) := by rw [hW]; exact (((o2).stored rfl hIm _).1).setCell _ _ (by dsimp only; omega)
      replace o3 : OwnH Wf l3 h3 (some ⟨gH, 0, none⟩) p q (ht.set I 0) := by rw [hW]; exact (((o3).setCell _ _ (by dsimp only; omega)).stored rfl hIp _).1
      replace HV : OwnC' Wf l1 h1 A n c hs (senV la lh R C b r vs ag ht) := by rw [hW]; exact ((HV).setCell _ _ (by dsimp only; omega)).setCell _ _ (by dsimp only; omega)
      clear hW
      obtain ⟨XX2, hXX2⟩ : ∃ x : Nat, (x : Int) = (I : Int) + 1 := ⟨I + 1, by omega⟩
      have hXp2 : XX2 < p := by omega
      obtain ⟨gX22, yX2, eX2, hcX2, hfX2, hyX2, gX12, gX22⟩ := o3.at_ hXp2
      injection eX2 with eX2
      injection eX2 with eX2 _
      subst eX2
      have hyb2 := age_at (hall) hyX2.out
      obtain ⟨hy02, hy12⟩ := hyb2
      have x0i2 : (0 : Int) ≤ (XX2 : Int) := by omega
      have x1i2 : (XX2 : Int) < (p : Int) := by omega
      have eS2 : IntKind.i64.wrap ((I : Int) + 1) = (XX2 : Int) := by rw [← hXX2]; exact IntWalk.i64_in _ (by omega)
      have eY2 : IntKind.i64.wrap (yX2 + 1) = yX2 + 1 := IntWalk.i64_in _ (by omega)
      have HXX2 := Lib.hid hXX2
      clear hXX2
      have HS2 := Lib.hid (hit_set hyX2.out)
      clear hyX2
      obtain ⟨gq_0, gq_1, gq_2, gq_3⟩ := gq.c4
      have gq_lt := gq.lt
      obtain ⟨x_0, x_1, x_2⟩ := x.c3
      have x_lt := x.lt
      go_wp2_with fail
      go_region
      go_wp2
      all_goals
        refine abs_body ?_
        intro W9 hW
        replace hW : W9 = (Wf.setCell ⟨gH, XX2, none⟩ (.int .i64 (min (yX2 + 1) 100000))).drew := by rw [hW]; first | (rw [show min (yX2 + 1) 100000 = yX2 + 1 by omega]) | (rw [show min (yX2 + 1) 100000 = 100000 by omega])
        have CC9 : Chg lo hi w W9 := by rw [hW]; exact (CCWf.setCell (.inl (by dsimp only; omega)) _).drewN 1
        clear gq_0 gq_1 gq_2 gq_3 gq_lt x_0 x_1 x_2 x_lt
        have szW9 : Wf.heap.size ≤ W9.heap.size := by rw [hW]; simp [World.setCell]
        replace x : Box W9 pB 87 #[.slice A n c, .slice (some ⟨gA, 0, none⟩) m d, .slice (some ⟨gH, 0, none⟩) p q] := by rw [hW]; exact ((x).far (by dsimp only; omega) _).drewN 1
        replace gq : Box W9 w.heap.size 25 #[.int .i64 gg, .int .i64 gb, .int .i64 (R : Int), .int .i64 (C : Int)] := by rw [hW]; exact ((gq).far (by dsimp only; omega) _).drewN 1
        replace l : Box W9 (w.heap.size + 1) 90 #[.int .i64 la, .int .i64 lh] := by rw [hW]; exact ((l).far (by dsimp only; omega) _).drewN 1
        replace o2 : OwnH W9 l2 h2 (some ⟨gA, 0, none⟩) m d (ag.set I 0) := by rw [hW]; exact ((o2).setCell _ _ (by dsimp only; omega)).drewN 1
        replace o3 : OwnH W9 l3 h3 (some ⟨gH, 0, none⟩) p q ((ht.set I 0).set XX2 (min (yX2 + 1) 100000)) := by rw [hW]; exact (((o3).stored rfl hXp2 _).1).drewN 1
        replace HV : OwnC' W9 l1 h1 A n c hs (senV la lh R C b r vs ag ht) := by rw [hW]; exact ((HV).setCell _ _ (by dsimp only; omega)).drewN 1
        clear hW
        rw [HS2.out] at o3
        refine bodyPost_end (results_none rfl _ _ _) rfl ?_
        rw [HSA.out, HSH.out, HNear.out, if_neg (show ¬ (0 < (r : Int)) by omega), if_pos (show (r : Int) < (R : Int) - 1 by omega), List.nil_append, show hitsTo Tt [(r : Int) + 1] (ht.set I 0) = hitAdd (ht.set I 0) (Tt + ((r : Int) + 1).toNat) from rfl, show Tt + ((r : Int) + 1).toNat = XX2 by have := HXX2.out; omega]
        exact ⟨rfl, ⟨l1, h1, l2, h2, l3, h3, ⟨hs, HV⟩, o2, o3, ⟨a1, a2⟩, ⟨a3, a4⟩, ⟨a5, a6⟩, s1, s2, s3⟩, CC9⟩
end Go.Proofs.Ytbapamfomfbmmaa
