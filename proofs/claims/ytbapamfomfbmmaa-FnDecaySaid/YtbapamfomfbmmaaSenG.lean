/-
  Sensing a row in the program.
-/
import Derived.Test.YtbapamfomfbmmaaSenF
import Derived.Test.YtbapamfomfbmmaaPat3
import Derived.Test.YtbapamfomfbmmaaGrM
import Derived.Deep.DeepCutAuto
import Derived.Deep.RegionHeld3
import Derived.BigRegion
namespace Go.Proofs.Ytbapamfomfbmmaa
open Go.RowKit
set_option linter.unusedSimpArgs false
set_option linter.unusedVariables false

set_option maxRecDepth 100000 in
set_option maxHeartbeats 16000000 in
theorem iSense_c (gg gb : Int) (nb R C b r : Nat) (la lh : Int) (pB lo hi : Nat) (A : Option Addr) (n c : Nat) (B : Option Addr) (m d : Nat) (D : Option Addr) (p q : Nat) (vs : List CV) (ag ht : List Int) (w : World)
    (P : Box w pB 87 #[.slice A n c, .slice B m d, .slice D p q]) (H : OwnA w lo hi A n c vs B m d ag D p q ht) (hp : pB < lo ∨ hi ≤ pB) (hhi : hi ≤ w.heap.size)
    (hg : geoOk gg gb R C = true) (hnb : bankCnt gg gb R C = (nb : Int)) (nb8 : nb ≤ 8) (R16 : R ≤ 16) (C8 : C ≤ 8) (hb : b < nb) (hr : r < R) (hn : n = nb * R * C) (hm : m = nb * R) (hpp : p = nb * R) {vs0 : List CV} (hcv : vs0.all celF = true) (hl0 : lens vs = lens vs0) (hca : ag.all ageF = true) (hch : ht.all ageF = true) :
    Calls Try.prog 113 #[.agg #[.int .i64 gg, .int .i64 gb, .int .i64 (R : Int), .int .i64 (C : Int)], .agg #[.int .i64 la, .int .i64 lh], .pointer (some ⟨pB, 0, none⟩), .int .i64 (b : Int), .int .i64 (r : Int)] w fun e w' => e = .returned (.tuple #[]) ∧ OwnA w' lo hi A n c (senV la lh R C b r vs ag ht) B m d (senA R b r ag) D p q (senH R b r ht) ∧ Chg lo hi w w' := by
  have bel : Below w.heap.size w w := Below.refl _ _
  obtain ⟨Tt, hT⟩ : ∃ x, b * R = x := ⟨_, rfl⟩
  obtain ⟨I, hI⟩ : ∃ x, Tt + r = x := ⟨_, rfl⟩
  obtain ⟨J, hJ⟩ : ∃ x, I * C = x := ⟨_, rfl⟩
  have hT2 : Tt ≤ 128 := by rw [← hT]; exact Nat.le_trans (Nat.mul_le_mul (show b ≤ 8 by omega) R16) (by omega)
  have hJ2 : J ≤ 1200 := by rw [← hJ]; exact Nat.le_trans (Nat.mul_le_mul (show I ≤ 150 by omega) C8) (by omega)
  have eT : (b : Int) * (R : Int) = (Tt : Int) := by rw [← Int.natCast_mul, hT]
  have eI : (Tt : Int) + (r : Int) = (I : Int) := by omega
  have eJ : (I : Int) * (C : Int) = (J : Int) := by rw [← Int.natCast_mul, hJ]
  have eT' : IntKind.i64.wrap ((b : Int) * (R : Int)) = (Tt : Int) := by rw [eT]; exact IntWalk.i64_in _ (by omega)
  have eJ' : IntKind.i64.wrap ((I : Int) * (C : Int)) = (J : Int) := by rw [eJ]; exact IntWalk.i64_in _ (by omega)
  have hIm : I < m := by have := lt_prod hb hr; rw [hT] at this; omega
  have hIp : I < p := by omega
  have hJn : J + C ≤ n := by
    have h1 : (I + 1) * C ≤ nb * R * C := Nat.mul_le_mul_right C (by have := lt_prod hb hr; rw [hT] at this; omega)
    rw [Nat.add_mul, Nat.one_mul, hJ] at h1
    omega
  have HTI := Lib.hid hT
  have HII := Lib.hid hI
  have HJJ := Lib.hid hJ
  have hIy : ∀ y, y < R → Tt + y < p := fun y h => by have := lt_prod hb h; rw [hT] at this; omega
  have hI1 : r + 1 < R → I + 1 < m ∧ I + 1 < p := fun h => by have := lt_prod hb h; rw [show b * R + (r + 1) = b * R + r + 1 by omega, hT] at this; omega
  obtain ⟨-, -, ⟨gR1, gR2⟩, -⟩ := geo_parts hg
  have HNear : Hid (nears (R : Int) (r : Int) = (if 0 < (r : Int) then [(r : Int) - 1] else []) ++ (if (r : Int) < (R : Int) - 1 then [(r : Int) + 1] else [])) := by unfold Hid nears; rw [if_pos ⟨inB_mk gR1 gR2, inB_mk (by omega) (by omega)⟩]
  have HSH : Hid (senH R b r ht = hitsTo Tt (nears (R : Int) (r : Int)) (ht.set I 0)) := by unfold Hid senH; rw [hT, hI]
  have HSA : Hid (senA R b r ag = ag.set I 0) := by unfold Hid senA; rw [hT, hI]
  clear hT hI hJ hn hm hpp
  obtain ⟨l1, h1, l2, h2, l3, h3, ⟨hs, HC⟩, o2, o3, ⟨a1, a2⟩, ⟨a3, a4⟩, ⟨a5, a6⟩, s1, s2, s3⟩ := H
  have Plt := P.lt
  have x := P
  clear P
  go_enter Try.func113, Try.ntmps113
  go_wp2_with fail
  refine abs_code ?_
  intro W hW
  have b0 : Below w.heap.size w W := by rw [hW]; exact ((Below.refl _ _).alloc (Nat.le_refl _) _).alloc (by simp) _
  have CC : Chg lo hi w W := Chg.of_below b0
  have szW0 : w.heap.size + 2 ≤ W.heap.size := by rw [hW]; simp
  have szW : w.heap.size + 1 + 1 ≤ W.heap.size := by rw [hW]; simp [World.setCell]
  replace x : Box W pB 87 #[.slice A n c, .slice B m d, .slice D p q] := by rw [hW]; exact (x.alloc _).alloc _
  have gq : Box W w.heap.size 25 #[.int .i64 gg, .int .i64 gb, .int .i64 (R : Int), .int .i64 (C : Int)] := by rw [hW]; exact ((Box.newAt (by simp [World.setCell]))).alloc _
  have l : Box W (w.heap.size + 1) 90 #[.int .i64 la, .int .i64 lh] := by rw [hW]; exact (Box.newAt (by simp [World.setCell]))
  replace o2 : OwnH W l2 h2 B m d ag := by rw [hW]; exact (o2.alloc _).alloc _
  replace o3 : OwnH W l3 h3 D p q ht := by rw [hW]; exact (o3.alloc _).alloc _
  replace HC : OwnC' W l1 h1 A n c hs vs := by rw [hW]; exact (HC.alloc _).alloc _
  clear hW
  obtain ⟨gq_0, gq_1, gq_2, gq_3⟩ := gq.c4
  have gq_lt := gq.lt
  obtain ⟨l_0, l_1⟩ := l.c2
  have l_lt := l.lt
  obtain ⟨x_0, x_1, x_2⟩ := x.c3
  have x_lt := x.lt
  go_wp2_with fail
  have l0 := later_cell gq_lt gq_0
  have l1' := later_cell gq_lt gq_1
  have l2' := later_cell gq_lt gq_2
  have l3' := later_cell gq_lt gq_3
  have m0 := later_cell l_lt l_0
  have m1 := later_cell l_lt l_1
  have x0' := later_cell x_lt x_0
  have x1' := later_cell x_lt x_1
  have x2' := later_cell x_lt x_2
  have iB := o2.ints
  have iD := o3.ints
  have cG : ∀ z : Later W, Calls Try.prog 122 #[.agg #[.int .i64 gg, .int .i64 gb, .int .i64 (R : Int), .int .i64 (C : Int)], .agg #[.int .i64 la, .int .i64 lh], .agg #[.slice A n c, .slice B m d, .slice D p q], .int .i64 (b : Int), .int .i64 (r : Int)] z.w fun e w' => e = .returned (.bool (goneB la lh ag ht I)) ∧ Below z.w.heap.size z.w w' := fun z => decayed_c gg gb R C la lh A n c B m d D p q ag ht b r I (by rw [HTI.out]; exact HII.out) (by omega) R16 (by omega) z.w (iB.below z.bel) (iD.below z.bel) hIm hIp
  refine wp_region_later (by kernel_rfl) (by kernel_rfl) ?_
  repeat (go_big_quiet_step ((go_at_call 122; exact later_call (cG _))))
  refine wpQuiet_nil ?_
  intro Z hw'
  obtain ⟨z, hw''⟩ := hw'
  have bZ := z.bel
  rw [← hw''] at bZ
  clear hw'' z l0 l1' l2' l3' m0 m1 x0' x1' x2' iB iD cG
  replace CC := CC.trans (Chg.of_below bZ)
  clear gq_0 gq_1 gq_2 gq_3 gq_lt l_0 l_1 l_lt x_0 x_1 x_2 x_lt
  have szZ := bZ.size
  replace x := x.kept bZ
  replace gq := gq.kept bZ
  replace l := l.kept bZ
  replace o2 := o2.below bZ
  replace o3 := o3.below bZ
  replace HC := HC.below bZ
  clear bZ
  go_upto_if 22 with (fail)
  go_cut [] (fun wx => OwnC' wx l1 h1 A n c hs (senV la lh R C b r vs ag ht) ∧ Chg l1 h1 Z wx)
  case first =>
    cases hgn : goneB la lh ag ht I
    · have HV : Hid (senV la lh R C b r vs ag ht = vs) := by unfold Hid senV; rw [HTI.out, HII.out, if_neg (by rw [hgn]; simp)]
      clear hgn
      go_wp2
      go_meet
      exact ⟨by rw [HV.out]; exact HC, Chg.refl _ _ _⟩
    · have HV : Hid (senV la lh R C b r vs ag ht = bendTo vs J C) := by unfold Hid senV; rw [HTI.out, HII.out, if_pos hgn, HJJ.out]
      clear hgn
      go_wp2_with fail
      go_loopw [10] (fun i wr => ∃ (k : Nat), k ≤ C ∧ i = .int .i64 k ∧ OwnC' wr l1 h1 A n c hs (bendTo vs J k) ∧ Chg l1 h1 Z wr) (fun i _ => C - (intOf i).toNat)
      case atStart => exact ⟨0, Nat.zero_le _, rfl, HC, Chg.refl _ _ _⟩
      case round =>
        obtain ⟨k, hk, rfl, HK, CK⟩ := hrel
        have szk := CK.size
        have gqk := gq.chg CK (by omega)
        have xk := x.chg CK (by omega)
        obtain ⟨gqk_0, gqk_1, gqk_2, gqk_3⟩ := gqk.c4
        obtain ⟨xk_0, xk_1, xk_2⟩ := xk.c3
        have gqk_lt := gqk.lt
        have xk_lt := xk.lt
        by_cases hlt : k < C
        · obtain ⟨Jk, hJk⟩ : ∃ x, x = J + k := ⟨_, rfl⟩
          have hJn2 : Jk < n := by omega
          obtain ⟨g, sa, sn, sc, zs, psn, rfl, gl, gh, hf, c0, c1, hI, hhs, hvs⟩ := HK.at_ hJn2
          have h11 := lens_at ((bendTo_lens vs J k).trans hl0) hvs.out hcv
          have hsn := hI.len
          dsimp only at h11
          have hsn2 : 2 ≤ sn := by omega
          have j0 : (0 : Int) ≤ (Jk : Int) := by omega
          have j1 : (Jk : Int) < (n : Int) := by omega
          have n0 : (0 : Int) < (sn : Int) := by omega
          have n1 : (1 : Int) < (sn : Int) := by omega
          have HBS : Hid (bendTo vs J (k + 1) = (bendTo vs J k).set Jk (bendL zs, psn)) := by unfold Hid; rw [bendTo_succ, ← hJk]; exact bendAt_of hvs.out
          have hcc : sc ≠ 0 := by have := hI.1.cap; omega
          have HJk : Hid ((b * R + r) * C + k = Jk) := by unfold Hid; rw [HTI.out, HII.out, HJJ.out, hJk]
          have gwr : g < wr.heap.size := by omega
          clear hJk h11
          go_wp2_with fail
          have l0 := later_cell gqk_lt gqk_0
          have l1' := later_cell gqk_lt gqk_1
          have l2' := later_cell gqk_lt gqk_2
          have l3' := later_cell gqk_lt gqk_3
          have m0 := later_cell xk_lt xk_0
          have m1 := later_cell gwr c0
          have m2 := later_cell gwr c1
          have cX : ∀ z : Later wr, Calls Try.prog 125 #[.agg #[.int .i64 gg, .int .i64 gb, .int .i64 (R : Int), .int .i64 (C : Int)], .agg #[.int .i64 (b : Int), .int .i64 (r : Int), .int .i64 (k : Int)]] z.w fun e w' => e = .returned (.int .i64 (Jk : Int)) ∧ Below z.w.heap.size z.w w' := fun z => by
            have h := iAddrIndex_c gg gb nb R C b r k z.w hg hnb nb8 R16 C8 hb hr hlt
            rw [HJk.out] at h
            exact h
          refine wp_region_later (by kernel_rfl) (by kernel_rfl) ?_
          repeat (go_big_quiet_step ((go_at_call 125; exact later_call (cX _))))
          refine wpQuiet_nil ?_
          intro Z2 hw'
          obtain ⟨z, hw''⟩ := hw'
          have bZ2 := z.bel
          rw [← hw''] at bZ2
          clear hw'' z l0 l1' l2' l3' m0 m1 m2 cX c0 c1
          replace hI := hI.below bZ2
          replace HK := HK.below bZ2
          replace CK := CK.trans (Chg.of_below bZ2)
          obtain ⟨gS, y0, rfl, cy0, fy0, hy0, gS1, gS2⟩ := hI.at_ (show 0 < sn by omega)
          obtain ⟨gS', y1, eS, cy1, fy1, hy1, -, -⟩ := hI.at_ (show 1 < sn by omega)
          injection eS with eS
          injection eS with eS _
          subst eS
          have HB := Lib.hid (bend_two hy0.out hy1.out)
          have hbl : blk (some ⟨gS, 0, none⟩) sc = some gS := blk_at hcc
          clear hy0 hy1
          go_wp2
          go_roundw
          case rel =>
            have Cn := ((Chg.refl gS (gS + 1) Z2).setCell (p := ⟨gS, 0, none⟩) (.inl ⟨Nat.le_refl _, Nat.lt_succ_self _⟩) (.int .i64 (bits .xor .i64 y0 5))).setCell (p := ⟨gS, 1, none⟩) (.inl ⟨Nat.le_refl _, Nat.lt_succ_self _⟩) (.int .i64 (bits .xor .i64 y1 10))
            have q1 := (hI.stored rfl (show 0 < sn by omega) (bits .xor .i64 y0 5)).1
            have q2 := (q1.stored rfl (show 1 < sn by omega) (bits .xor .i64 y1 10)).1
            rw [HB.out] at q2
            have hch := HK.chgRow hhs.out hvs.out hbl Cn q2
            rw [← HBS.out] at hch
            exact ⟨k + 1, by omega, by go_num, hch, CK.trans (Cn.mono gS1 (by omega))⟩
          case measure => simp [intOf]; omega
        · obtain rfl : k = C := by omega
          go_wp2
          go_meet
          exact ⟨by rw [HV.out]; exact HK, CK⟩
  case rest =>
    obtain ⟨HV, C1⟩ := hcut
    obtain ⟨Wd, hWd⟩ : ∃ v : World, v = wc := ⟨_, rfl⟩
    subst hWd
    replace CC := CC.trans (C1.mono a1 a2)
    clear HC
    have szWd := C1.size
    replace x := x.chg C1 (by omega)
    replace gq := gq.chg C1 (by omega)
    replace l := l.chg C1 (by omega)
    replace o2 := o2.chg C1 (by omega)
    replace o3 := o3.chg C1 (by omega)
    clear C1
    obtain ⟨gA, yA, rfl, cA, fA, -, gA1, gA2⟩ := o2.at_ hIm
    obtain ⟨gH, yH, rfl, cH, fH, -, gH1, gH2⟩ := o3.at_ hIp
    have i0 : (0 : Int) ≤ (I : Int) := by omega
    have i1 : (I : Int) < (m : Int) := by omega
    have i2 : (I : Int) < (p : Int) := by omega
    have hall := set_all (i := I) (x := 0) hch rfl
    obtain ⟨gq_0, gq_1, gq_2, gq_3⟩ := gq.c4
    have gq_lt := gq.lt
    obtain ⟨x_0, x_1, x_2⟩ := x.c3
    have x_lt := x.lt
    go_wp2_with fail
    refine abs_call ?_
    intro We hW
    replace CC : Chg lo hi w We := by rw [hW]; exact (CC.setCell (.inl (by dsimp only; omega)) _).setCell (.inl (by dsimp only; omega)) _
    clear cA fA cH fH
    clear gq_0 gq_1 gq_2 gq_3 gq_lt x_0 x_1 x_2 x_lt
    have szWe : Wd.heap.size ≤ We.heap.size := by rw [hW]; simp [World.setCell]
    replace x : Box We pB 87 #[.slice A n c, .slice (some ⟨gA, 0, none⟩) m d, .slice (some ⟨gH, 0, none⟩) p q] := by rw [hW]; exact ((x).far (by dsimp only; omega) _).far (by dsimp only; omega) _
    replace gq : Box We w.heap.size 25 #[.int .i64 gg, .int .i64 gb, .int .i64 (R : Int), .int .i64 (C : Int)] := by rw [hW]; exact ((gq).far (by dsimp only; omega) _).far (by dsimp only; omega) _
    replace l : Box We (w.heap.size + 1) 90 #[.int .i64 la, .int .i64 lh] := by rw [hW]; exact ((l).far (by dsimp only; omega) _).far (by dsimp only; omega) _
    replace o2 : OwnH We l2 h2 (some ⟨gA, 0, none⟩) m d (ag.set I 0) := by rw [hW]; exact (((o2).stored rfl hIm _).1).setCell _ _ (by dsimp only; omega)
    replace o3 : OwnH We l3 h3 (some ⟨gH, 0, none⟩) p q (ht.set I 0) := by rw [hW]; exact (((o3).setCell _ _ (by dsimp only; omega)).stored rfl hIp _).1
    replace HV : OwnC' We l1 h1 A n c hs (senV la lh R C b r vs ag ht) := by rw [hW]; exact ((HV).setCell _ _ (by dsimp only; omega)).setCell _ _ (by dsimp only; omega)
    clear hW
    refine (iNeighbors_c (R : Int) (r : Int) _).mono ?_
    rintro e wN ⟨AN, nn, cN, rfl, oN, bN⟩
    have hnn : nn ≤ 2 := by have := oN.len; have := nears_len (R : Int) (r : Int); omega
    have szN := bN.size
    replace CC := CC.trans (Chg.of_below bN)
    have szwN := bN.size
    replace x := x.kept bN
    replace gq := gq.kept bN
    replace l := l.kept bN
    replace o2 := o2.below bN
    replace o3 := o3.below bN
    replace HV := HV.below bN
    clear bN
    have HNI := Lib.hid oN
    clear oN
    go_wp2_with fail
    go_loopw [77] (fun i wr => ∃ (j : Nat), j ≤ nn ∧ i = .int .i64 j ∧ OwnH wr l3 h3 (some ⟨gH, 0, none⟩) p q (hitsTo Tt ((nears (R : Int) (r : Int)).take j) (ht.set I 0)) ∧ Chg l3 h3 wN wr) (fun i _ => nn - (intOf i).toNat)
    case atStart => exact ⟨0, Nat.zero_le _, rfl, o3, Chg.refl _ _ _⟩
    case round =>
      clear o3
      obtain ⟨j, hj, rfl, o3, CN⟩ := hrel
      have szn := CN.size
      have gqn := gq.chg CN (by omega)
      have xn := x.chg CN (by omega)
      obtain ⟨xn_0, xn_1, xn_2⟩ := xn.c3
      have xn_lt := xn.lt
      by_cases hlt : j < nn
      · have iN : Ints wr AN nn (nears (R : Int) (r : Int)) := HNI.out.ints.chg CN (fun g o e => by
          right
          have hc : cN ≠ 0 := by have := HNI.out.cap; omega
          have := (HNI.out.lt g (by rw [e]; exact blk_at hc)).1
          omega)
        obtain ⟨g, o, y, rfl, hcy, hy⟩ := iN.at_ hlt
        have hyin := nears_in (List.mem_of_getElem? hy.out)
        obtain ⟨yn, hyn⟩ := Int.eq_ofNat_of_zero_le hyin.1
        subst hyn
        have HT : Hid (hitsTo Tt ((nears (R : Int) (r : Int)).take (j + 1)) (ht.set I 0) = hitAdd (hitsTo Tt ((nears (R : Int) (r : Int)).take j) (ht.set I 0)) (Tt + yn)) := by
          obtain ⟨hj', e⟩ := List.getElem?_eq_some_iff.1 hy.out
          unfold Hid
          rw [List.take_succ_eq_append_getElem hj', e, hitsTo_snoc, Int.toNat_natCast]
        obtain ⟨XX, hXX⟩ : ∃ x, x = Tt + yn := ⟨_, rfl⟩
        have hXp : XX < p := by rw [hXX]; exact hIy yn (by omega)
        obtain ⟨gX, yX, eX, hcX, hfX, hyX, gX1, gX2⟩ := o3.at_ hXp
        injection eX with eX
        injection eX with eX _
        subst eX
        have hyb := age_at (hitsTo_all hall) hyX.out
        obtain ⟨hy0, hy1⟩ := hyb
        have j0 : (0 : Int) ≤ (j : Int) := by omega
        have j1 : (j : Int) < (nn : Int) := by omega
        have x0i : (0 : Int) ≤ (XX : Int) := by omega
        have x1i : (XX : Int) < (p : Int) := by omega
        have eS0 : (Tt : Int) + (yn : Int) = (XX : Int) := by omega
        have eS : IntKind.i64.wrap ((Tt : Int) + (yn : Int)) = (XX : Int) := by rw [eS0]; exact IntWalk.i64_in _ (by omega)
        have eW : IntKind.i64.wrap (XX : Int) = (XX : Int) := IntWalk.i64_in _ (by omega)
        have eY : IntKind.i64.wrap (yX + 1) = yX + 1 := IntWalk.i64_in _ (by omega)
        have HS := Lib.hid (hit_set hyX.out)
        rw [← hXX] at HT
        clear hyX hXX hy hyin
        go_wp2_with fail
        go_region
        go_wp2
        all_goals
          go_roundw
          case rel =>
            refine ⟨j + 1, by omega, by go_num, ?_, ?_⟩
            · rw [HT.out, ← HS.out, show (min (yX + 1) 100000 : Int) = (if 100000 < yX + 1 then 100000 else yX + 1) by split <;> omega]
              exact ((o3.stored rfl hXp _).1).drewN 1
            · exact (CN.setCell (.inl ⟨by dsimp only; omega, by dsimp only; omega⟩) _).drewN 1
          case measure => simp [intOf]; omega
      · obtain rfl : nn = j := by omega
        have HL : Hid ((nears (R : Int) (r : Int)).take nn = nears (R : Int) (r : Int)) := by have := HNI.out.len; unfold Hid; rw [List.take_of_length_le (by omega)]
        rw [HL.out] at o3
        have CC9 := CC.trans (CN.mono a5 a6)
        have o29 := o2.chg CN (by omega)
        have HV9 := HV.chg CN (by omega)
        go_wp2
        refine bodyPost_end (results_none rfl _ _ _) rfl ?_
        rw [HSA.out, HSH.out]
        exact ⟨rfl, ⟨l1, h1, l2, h2, l3, h3, ⟨hs, HV9⟩, o29, o3, ⟨a1, a2⟩, ⟨a3, a4⟩, ⟨a5, a6⟩, s1, s2, s3⟩, CC9⟩
end Go.Proofs.Ytbapamfomfbmmaa
