/-
  The walk of FnSensed.
-/
import Derived.Test.YtbapamfomfbmmaaDrW
import Derived.Test.YtbapamfomfbmmaaDcRW
import Derived.Test.YtbapamfomfbmmaaPlc
import Derived.Deep.DeepCutAuto
namespace Go.Proofs.Ytbapamfomfbmmaa
open Go.RowKit
set_option linter.unusedSimpArgs false
set_option linter.unusedVariables false

theorem csz_cel {vs : List CV} (h : vs.all celF = true) : csz vs = 12 * vs.length := by
  induction vs with
  | nil => rfl
  | cons v l ih =>
    rw [List.all_cons, Bool.and_eq_true] at h
    have h1 : v.1.length = 11 := by
      have := h.1
      unfold celF symOkN at this
      simp only [Bool.and_eq_true, beq_iff_eq] at this
      omega
    have := ih h.2
    unfold csz at this ⊢
    rw [List.map_cons, List.sum_cons, List.length_cons]
    omega
/-- Age and count of each row behind sensing row r of bank b. -/
theorem sensed_at {R b r j : Nat} {ag ht : List Int} {ya yh za zh : Int} (R2 : 2 ≤ R) (R16 : R ≤ 16) (hr : r < R) (hle : hitLe 20 ht) (e1 : ag[j]? = some ya) (e2 : ht[j]? = some yh) (e3 : (senA R b r ag)[j]? = some za) (e4 : (senH R b r ht)[j]? = some zh) :
    (b * R + r = j → za = 0 ∧ zh = 0) ∧ (b * R + r ≠ j → (j + 1 = b * R + r ∧ 0 < r) ∨ (j = b * R + r + 1 ∧ r + 1 < R) → za = ya ∧ zh = yh + 1) ∧ (b * R + r ≠ j → ¬ ((j + 1 = b * R + r ∧ 0 < r) ∨ (j = b * R + r + 1 ∧ r + 1 < R)) → za = ya ∧ zh = yh) := by
  have l1 : j < ag.length := lt_of_get e1
  have l2 : j < ht.length := lt_of_get e2
  have g1 : ag.getD j 0 = ya := by rw [List.getD_eq_getElem?_getD, e1]; rfl
  have g2 : ht.getD j 0 = yh := by rw [List.getD_eq_getElem?_getD, e2]; rfl
  have g3 : (senA R b r ag).getD j 0 = za := by rw [List.getD_eq_getElem?_getD, e3]; rfl
  have g4 : (senH R b r ht).getD j 0 = zh := by rw [List.getD_eq_getElem?_getD, e4]; rfl
  have hy := hle j l2
  rw [g2] at hy
  rw [senH_at R2 R16 hr l2, g2] at g4
  unfold senA at g3
  rw [set0_at l1, g1] at g3
  refine ⟨fun h => ?_, fun h h' => ?_, fun h h' => ?_⟩
  · rw [if_pos h] at g3 g4
    exact ⟨g3.symm, g4.symm⟩
  · rw [if_neg h] at g3 g4
    rw [if_pos h'] at g4
    exact ⟨g3.symm, by omega⟩
  · rw [if_neg h] at g3 g4
    rw [if_neg h'] at g4
    exact ⟨g3.symm, g4.symm⟩
theorem sensed_not {R b r : Nat} {la lh : Int} {ag ht : List Int} (R2 : 2 ≤ R) (R16 : R ≤ 16) (hr : r < R) (h1 : b * R + r < ag.length) (h2 : b * R + r < ht.length) (la0 : 0 ≤ la) (lh0 : 0 ≤ lh) : goneB la lh (senA R b r ag) (senH R b r ht) (b * R + r) = false := by
  unfold goneB
  rw [senH_at R2 R16 hr h2, if_pos rfl]
  unfold senA
  rw [set0_at h1, if_pos rfl]
  simp
  omega
set_option maxRecDepth 100000 in
set_option maxHeartbeats 8000000 in
theorem fnSensed_walk (A : Option Addr) (n c : Nat) (zs : List Int) (w : World) (hA : Bytes w A n zs) (hn : n ≤ maxLen) :
    Calls Try.prog 12 #[.slice A n c] w fun e w' => e = .returned (.bool true) ∧ Below w.heap.size w w' := by
  by_cases hb : 1048576 < n
  · have hd : decide (1048576 < n) = true := by simpa using hb
    go_enter Try.func12, Try.ntmps12
    go_wp2_with (go_at_call 14; refine (big_c A n c _ hn).mono ?_; rintro e w' ⟨rfl, rfl⟩)
    go_ret
    exact ⟨rfl, Below.refl _ _⟩
  · have hd : decide (1048576 < n) = false := by simpa using hb
    have bel : Below w.heap.size w w := Below.refl _ _
    go_enter Try.func12, Try.ntmps12
    go_wp2_with (first | (go_at_call 14; refine (big_c A n c _ hn).mono ?_; rintro e w' ⟨rfl, rfl⟩) | fail)
    refine (drawArray_c A n c zs _ hA hn).mono ?_
    rintro e w1 ⟨nb, R, C, la, lh, A1, n1, c1, B1, m1, d1, D1, p1, q1, hs, vs, ag, ht, ⟨⟨nb1, nb2⟩, ⟨R2, R4⟩, ⟨C1, C2⟩, ⟨la0, la1⟩, ⟨lh0, lh1⟩⟩, hg, hbk, hN, hM, hP, hok, hle, X, rfl, b1⟩
    obtain ⟨hcv, hca, hch⟩ : vs.all celF = true ∧ ag.all ageF = true ∧ ht.all ageF = true := by obtain ⟨_, _, _, _, _, _, _, _, _, _, _, _, _, _, _, _, h1, h2, h3⟩ := arrOk_parts hok; exact ⟨h1, h2, h3⟩
    have HO := Lib.hid hok
    have HG := Lib.hid hg
    have HB := Lib.hid hbk
    have HN := Lib.hid hN
    have HM := Lib.hid hM
    have HP := Lib.hid hP
    have HV := Lib.hid hcv
    have HA := Lib.hid hca
    have HT := Lib.hid hch
    have HL := Lib.hid hle
    have m8 : m1 ≤ 8 := by rw [HM.out]; exact Nat.le_trans (Nat.mul_le_mul nb2 R4) (by omega)
    have p8 : p1 ≤ 8 := by rw [HP.out]; exact Nat.le_trans (Nat.mul_le_mul nb2 R4) (by omega)
    have n16 : n1 ≤ 16 := by rw [HN.out]; exact Nat.le_trans (Nat.mul_le_mul (show nb * R ≤ 8 from Nat.le_trans (Nat.mul_le_mul nb2 R4) (by omega)) C2) (by omega)
    have hsz : csz vs ≤ 1048576 := by rw [csz_cel hcv, X.1.len]; omega
    clear hok hg hbk hN hM hP hcv hca hch hle
    have szw1 := b1.size
    replace bel := bel.trans (b1.mono bel.size)
    clear b1
    go_wp2_with fail
    refine abs_call ?_
    intro W2 hW
    have szW2 : w1.heap.size + 1 + 1 + 1 ≤ W2.heap.size := by rw [hW]; simp [World.setCell]
    have szW2_ := bel.size
    replace bel : Below w.heap.size w W2 := by rw [hW]; exact (((bel).alloc (by first | omega | (simp [World.setCell] <;> omega)) _).alloc (by first | omega | (simp [World.setCell] <;> omega)) _).alloc (by first | omega | (simp [World.setCell] <;> omega)) _
    have q : Box W2 w1.heap.size 25 #[.int .i64 1, .int .i64 (nb : Int), .int .i64 (R : Int), .int .i64 (C : Int)] := by rw [hW]; exact (((Box.newAt (by simp [World.setCell]))).alloc _).alloc _
    have l : Box W2 (w1.heap.size + 1) 90 #[.int .i64 la, .int .i64 lh] := by rw [hW]; exact ((Box.newAt (by simp [World.setCell]))).alloc _
    have a : Box W2 (w1.heap.size + 1 + 1) 87 #[.slice A1 n1 c1, .slice B1 m1 d1, .slice D1 p1 q1] := by rw [hW]; exact (Box.newAt (by simp [World.setCell]))
    replace X : OwnX W2 w.heap.size w1.heap.size A1 n1 c1 hs vs B1 m1 d1 ag D1 p1 q1 ht := by rw [hW]; exact ((X.alloc _).alloc _).alloc _
    clear hW
    refine (drawPlaces_c A n c zs _ (hA.below bel) hn).mono ?_
    rintro e w6 ⟨pl, hpl, A6, n6, c6, rfl, o6, b6⟩
    have szw6 := b6.size
    replace bel := bel.trans (b6.mono bel.size)
    replace q := q.kept b6
    replace l := l.kept b6
    replace a := a.kept b6
    replace X := X.below b6
    clear b6
    obtain ⟨gp, hgp, P⟩ := places_at hpl o6
    obtain ⟨rfl, rfl, gp1, gp2⟩ := hgp
    obtain ⟨x0, x1, x2, x3, hp0, hp1, hp2, hp3, ⟨x0a, x0b⟩, ⟨x1a, x1b⟩, -, -⟩ := P
    clear hp2 hp3 o6 hpl
    obtain ⟨b, hb', eb1, eb2⟩ := rem_nat x0a (show 0 < nb by omega)
    obtain ⟨r, hr', er1, er2⟩ := rem_nat x1a (show 0 < R by omega)
    obtain ⟨q_0, q_1, q_2, q_3⟩ := q.c4
    have q_lt := q.lt
    go_wp2_with fail
    have l0 := later_cell q_lt q_0
    have l1 := later_cell q_lt q_1
    have l2 := later_cell q_lt q_2
    have l3 := later_cell q_lt q_3
    have k0 := later_cell gp2 hp0
    have cB : ∀ z : Later w6, Calls Try.prog 21 #[.agg #[.int .i64 1, .int .i64 (nb : Int), .int .i64 (R : Int), .int .i64 (C : Int)]] z.w fun e w' => e = .returned (.int .i64 (nb : Int)) ∧ Below z.w.heap.size z.w w' := fun z => by
      have h := sBankCount_c 1 nb R C z.w
      rw [HB.out] at h
      exact h
    have nb0 : (nb : Int) ≠ 0 := by omega
    have nb00 : nb ≠ 0 := by omega
    refine wp_region_later (by kernel_rfl) (by kernel_rfl) ?_
    repeat (go_big_quiet_step ((go_at_call 21; exact later_call (cB _))))
    refine wpQuiet_nil ?_
    intro Z hw'
    obtain ⟨z, hw''⟩ := hw'
    have bZ := z.bel
    rw [← hw''] at bZ
    clear hw'' z l0 l1 l2 l3 k0 nb0 nb00 cB
    have hp1Z := (bZ.cell (p := ⟨gp, 1, none⟩) gp2).trans hp1
    clear hp0 hp1
    clear q_0 q_1 q_2 q_3 q_lt
    have szZ := bZ.size
    replace bel := bel.trans (bZ.mono bel.size)
    replace q := q.kept bZ
    replace l := l.kept bZ
    replace a := a.kept bZ
    replace X := X.below bZ
    clear bZ
    clear eb1 eb2
    have R0 : (R : Int) ≠ 0 := by omega
    have R00 : R ≠ 0 := by omega
    obtain ⟨q_0, q_1, q_2, q_3⟩ := q.c4
    have q_lt := q.lt
    obtain ⟨l_0, l_1⟩ := l.c2
    have l_lt := l.lt
    obtain ⟨a_0, a_1, a_2⟩ := a.c3
    have a_lt := a.lt
    go_wp2_with fail
    go_quiet (fail)
    clear hp1Z R0 R00 er1 er2
    go_wp2_with fail
    refine abs_call ?_
    intro W7 hW
    clear q_0 q_1 q_2 q_3 q_lt l_0 l_1 l_lt a_0 a_1 a_2 a_lt
    have szW7 : Z.heap.size ≤ W7.heap.size := by rw [hW]; simp [World.setCell]
    have szW7_ := bel.size
    replace bel : Below w.heap.size w W7 := by rw [hW]; exact (belowN (bel) _)
    replace q : Box W7 w1.heap.size 25 #[.int .i64 1, .int .i64 (nb : Int), .int .i64 (R : Int), .int .i64 (C : Int)] := by rw [hW]; exact (q).drewN _
    replace l : Box W7 (w1.heap.size + 1) 90 #[.int .i64 la, .int .i64 lh] := by rw [hW]; exact (l).drewN _
    replace a : Box W7 (w1.heap.size + 1 + 1) 87 #[.slice A1 n1 c1, .slice B1 m1 d1, .slice D1 p1 q1] := by rw [hW]; exact (a).drewN _
    replace X : OwnX W7 w.heap.size w1.heap.size A1 n1 c1 hs vs B1 m1 d1 ag D1 p1 q1 ht := by rw [hW]; exact (X).drewN _
    clear hW
    have hadr : addrOk 1 nb R C b r 0 = true := by
      unfold addrOk
      rw [HG.out, HB.out, inB_mk (show (0 : Int) ≤ (b : Int) by omega) (show (b : Int) ≤ (nb : Int) - 1 by omega), inB_mk (show (0 : Int) ≤ (r : Int) by omega) (show (r : Int) ≤ (R : Int) - 1 by omega), inB_mk (show (0 : Int) ≤ (0 : Int) by omega) (show (0 : Int) ≤ (C : Int) - 1 by omega)]
      rfl
    have hsr : srOk 1 nb R C vs ag ht b r = true := by unfold srOk; rw [HO.out, hadr]; rfl
    have HR : Hid (srV 1 nb R C la lh vs ag ht b r = senV la lh R C b r vs ag ht ∧ srA 1 nb R C vs ag ht b r = senA R b r ag ∧ srH 1 nb R C vs ag ht b r = senH R b r ht) := by
      unfold Hid srV srA srH
      rw [hsr]
      simp
    clear hsr hadr
    refine (iSenseRow_c 1 nb R C la lh A1 n1 c1 B1 m1 d1 D1 p1 q1 vs ag ht b r _ X.1.cs X.2.1.ints X.2.2.1.ints hsz (by omega) (by omega)).mono ?_
    rintro e w7 ⟨A2, n2, c2, B2, m2, d2, D2, p2, q2, rfl, o2, b7⟩
    rw [HR.out.1, HR.out.2.1, HR.out.2.2] at o2
    clear HR
    have HO2 : Hid (arrOk 1 nb R C (senV la lh R C b r vs ag ht) (senA R b r ag) (senH R b r ht) = true) := by
      unfold Hid
      rw [arrOk_all HG.out HB.out (by rw [lens_len (senV_lens la lh R C b r vs ag ht), X.1.len]; exact HN.out) (by rw [senA_len, ← HM.out]; exact X.2.1.len) (by rw [senH_len, ← HP.out]; exact X.2.2.1.len), senV_ok HV.out, senA_all HA.out, senH_all HT.out]
      rfl
    have e2 : m2 = m1 := by have h1 := o2.ia.1; have h2 := X.2.1.len; rw [senA_len] at h1; omega
    have e3 : p2 = p1 := by have h1 := o2.ih.1; have h2 := X.2.2.1.len; rw [senH_len] at h1; omega
    have e4 : n2 = n1 := by have h1 := o2.cs.len; have h2 := X.1.len; rw [lens_len (senV_lens la lh R C b r vs ag ht)] at h1; omega
    subst e2 e3 e4
    have hmp : m2 = p2 := by rw [HM.out, HP.out]
    subst hmp
    have hsz2 : csz (senV la lh R C b r vs ag ht) ≤ 1048576 := by rw [csz_lens (senV_lens la lh R C b r vs ag ht)]; exact hsz
    have szw7 := b7.size
    replace bel := bel.trans (b7.mono bel.size)
    replace q := q.kept b7
    replace l := l.kept b7
    replace a := a.kept b7
    replace X := X.below b7
    clear b7
    obtain ⟨q_0, q_1, q_2, q_3⟩ := q.c4
    have q_lt := q.lt
    obtain ⟨a_0, a_1, a_2⟩ := a.c3
    have a_lt := a.lt
    go_wp2_with fail
    refine abs_call ?_
    intro W8 hW
    clear q_0 q_1 q_2 q_3 q_lt a_0 a_1 a_2 a_lt
    have szW8 : w7.heap.size + 1 ≤ W8.heap.size := by rw [hW]; simp [World.setCell]
    have szW8_ := bel.size
    replace bel : Below w.heap.size w W8 := by rw [hW]; exact (bel).alloc (by first | omega | (simp [World.setCell] <;> omega)) _
    replace q : Box W8 w1.heap.size 25 #[.int .i64 1, .int .i64 (nb : Int), .int .i64 (R : Int), .int .i64 (C : Int)] := by rw [hW]; exact q.alloc _
    replace l : Box W8 (w1.heap.size + 1) 90 #[.int .i64 la, .int .i64 lh] := by rw [hW]; exact l.alloc _
    replace a : Box W8 (w1.heap.size + 1 + 1) 87 #[.slice A1 (n2) c1, .slice B1 (m2) d1, .slice D1 (m2) q1] := by rw [hW]; exact a.alloc _
    have x : Box W8 w7.heap.size 87 #[.slice A2 n2 c2, .slice B2 m2 d2, .slice D2 m2 q2] := by rw [hW]; exact (Box.newAt (by simp [World.setCell]))
    replace X : OwnX W8 w.heap.size w1.heap.size A1 (n2) c1 hs vs B1 (m2) d1 ag D1 (m2) q1 ht := by rw [hW]; exact X.alloc _
    replace o2 : OwnA W8 W7.heap.size w7.heap.size A2 n2 c2 (senV la lh R C b r vs ag ht) B2 m2 d2 (senA R b r ag) D2 m2 q2 (senH R b r ht) := by rw [hW]; exact o2.alloc _
    clear hW
    refine (iArrayOk_c 1 nb R C A1 n2 c1 B1 m2 d1 D1 m2 q1 vs ag ht _ X.1.cs X.2.1.ints X.2.2.1.ints hsz (by omega) (by omega)).mono ?_
    rintro e w8 ⟨rfl, b8⟩
    rw [HO.out]
    have szw8 := b8.size
    replace bel := bel.trans (b8.mono bel.size)
    replace q := q.kept b8
    replace l := l.kept b8
    replace a := a.kept b8
    replace x := x.kept b8
    replace X := X.below b8
    replace o2 := o2.below b8
    clear b8
    obtain ⟨q_0, q_1, q_2, q_3⟩ := q.c4
    have q_lt := q.lt
    obtain ⟨x_0, x_1, x_2⟩ := x.c3
    have x_lt := x.lt
    go_wp2_with fail
    refine (iArrayOk_c 1 nb R C A2 n2 c2 B2 m2 d2 D2 m2 q2 _ _ _ _ o2.cs o2.ia o2.ih hsz2 (by omega) (by omega)).mono ?_
    rintro e w9 ⟨rfl, b9⟩
    rw [HO2.out]
    clear q_0 q_1 q_2 q_3 q_lt x_0 x_1 x_2 x_lt
    have szw9 := b9.size
    replace bel := bel.trans (b9.mono bel.size)
    replace q := q.kept b9
    replace l := l.kept b9
    replace a := a.kept b9
    replace x := x.kept b9
    replace X := X.below b9
    replace o2 := o2.below b9
    clear b9
    obtain ⟨T, hT⟩ : ∃ T, b * R = T := ⟨_, rfl⟩
    obtain ⟨K, hK⟩ : ∃ K, T + r = K := ⟨_, rfl⟩
    have hKm : K < m2 := by have := row_lt hb' hr'; rw [hT, hK, ← HM.out] at this; exact this
    have hKp : K < m2 := by have := row_lt hb' hr'; rw [hT, hK, ← HP.out] at this; exact this
    have HTK : Hid (b * R + r = K) := by unfold Hid; rw [hT]; exact hK
    have eT : (b : Int) * (R : Int) = (T : Int) := by rw [← Int.natCast_mul, hT]
    have eT' : IntKind.i64.wrap ((b : Int) * (R : Int)) = (T : Int) := by rw [eT]; exact IntWalk.i64_in _ (by omega)
    have eK : (T : Int) + (r : Int) = (K : Int) := by omega
    have eK' : IntKind.i64.wrap ((T : Int) + (r : Int)) = (K : Int) := by rw [eK]; exact IntWalk.i64_in _ (by omega)
    have eM : IntKind.i64.wrap ((K : Int) - 1) = (K : Int) - 1 := IntWalk.i64_in _ (by omega)
    have eP : IntKind.i64.wrap ((K : Int) + 1) = (K : Int) + 1 := IntWalk.i64_in _ (by omega)
    have eR : IntKind.i64.wrap ((R : Int) - 1) = (R : Int) - 1 := IntWalk.i64_in _ (by omega)
    clear hT hK
    obtain ⟨q_0, q_1, q_2, q_3⟩ := q.c4
    have q_lt := q.lt
    obtain ⟨l_0, l_1⟩ := l.c2
    have l_lt := l.lt
    obtain ⟨a_0, a_1, a_2⟩ := a.c3
    have a_lt := a.lt
    obtain ⟨x_0, x_1, x_2⟩ := x.c3
    have x_lt := x.lt
    clear q_0 q_1 q_2 q_3 q_lt l_0 l_1 l_lt a_0 a_1 a_2 a_lt x_0 x_1 x_2 x_lt
    go_wp2_with fail
    go_loopw [10] (fun i wr => ∃ (j : Nat), j ≤ m2 ∧ i = .int .i64 j ∧ Below w9.heap.size w9 wr) (fun i _ => m2 - (intOf i).toNat)
    case atStart => exact ⟨0, Nat.zero_le _, rfl, Below.refl _ _⟩
    case round =>
      obtain ⟨j, hj, rfl, bR⟩ := hrel
      have bR0 := bR
      have szwr := bR.size
      replace bel := bel.trans (bR.mono bel.size)
      replace q := q.kept bR
      replace l := l.kept bR
      replace a := a.kept bR
      replace x := x.kept bR
      replace X := X.below bR
      replace o2 := o2.below bR
      clear bR
      obtain ⟨q_0, q_1, q_2, q_3⟩ := q.c4
      have q_lt := q.lt
      obtain ⟨l_0, l_1⟩ := l.c2
      have l_lt := l.lt
      obtain ⟨a_0, a_1, a_2⟩ := a.c3
      have a_lt := a.lt
      obtain ⟨x_0, x_1, x_2⟩ := x.c3
      have x_lt := x.lt
      by_cases hlt : j < m2
      · obtain ⟨g1, ya, E1, ca, fa, hya, -, -⟩ := X.2.1.at_ hlt
        obtain ⟨g2, yh, E2, ch, fh, hyh, -, -⟩ := X.2.2.1.at_ (show j < m2 by omega)
        obtain ⟨g3, o3, za, E3, ca3, hza⟩ := o2.ia.at_ hlt
        obtain ⟨g4, o4, zh, E4, ch4, hzh⟩ := o2.ih.at_ (show j < m2 by omega)
        have HS := Lib.hid (sensed_at (b := b) R2 (by omega) hr' HL.out hya.out hyh.out hza.out hzh.out)
        have hyr := age_at HT.out hyh.out
        obtain ⟨hy0, hy1⟩ := hyr
        have eY : IntKind.i64.wrap (yh + 1) = yh + 1 := IntWalk.i64_in _ (by omega)
        rw [HTK.out] at HS
        subst E1 E2 E3 E4
        have i0 : (0 : Int) ≤ (j : Int) := by omega
        have i1 : (j : Int) < (m2 : Int) := by omega
        have i2 : (j : Int) < (m2 : Int) := by omega
        clear hya hyh hza hzh
        by_cases c0 : K = j
        · skip
          have q1 : ((j : Int) == (K : Int) - 1) = false := by simp; omega
          have q3 : ((j : Int) == (K : Int) + 1) = false := by simp; omega
          have q5 : ((j : Int) == (K : Int)) = true := by simp; omega
          obtain ⟨e1, e2⟩ := HS.out.1 c0
          clear HS
          clear c0
          subst e1 e2
          go_wp2_with fail
          go_roundw
          case rel => exact ⟨j + 1, by omega, by go_num, bR0⟩
          case measure => simp [intOf]; omega
        · skip
          by_cases c1 : j + 1 = K
          · by_cases c2 : 0 < r
            · skip
              have q1 : ((j : Int) == (K : Int) - 1) = true := by simp; omega
              have q2 : decide (0 < (r : Int)) = true := by simp; omega
              have q2n : decide (0 < r) = true := by simp; omega
              have q3 : ((j : Int) == (K : Int) + 1) = false := by simp; omega
              have q5 : ((j : Int) == (K : Int)) = false := by simp; omega
              obtain ⟨e1, e2⟩ := HS.out.2.1 c0 (.inl ⟨c1, c2⟩)
              clear HS
              clear c0 c1 c2
              subst e1 e2
              go_wp2_with fail
              go_quiet (fail)
              go_wp2
              go_roundw
              case rel => exact ⟨j + 1, by omega, by go_num, belowN bR0 _⟩
              case measure => simp [intOf]; omega
            · skip
              have q1 : ((j : Int) == (K : Int) - 1) = true := by simp; omega
              have q2 : decide (0 < (r : Int)) = false := by simp; omega
              have q2n : decide (0 < r) = false := by simp; omega
              have q3 : ((j : Int) == (K : Int) + 1) = false := by simp; omega
              have q5 : ((j : Int) == (K : Int)) = false := by simp; omega
              obtain ⟨e1, e2⟩ := HS.out.2.2 c0 (by omega)
              clear HS
              clear c0 c1 c2
              subst e1 e2
              go_wp2_with fail
              go_quiet (fail)
              go_wp2
              go_roundw
              case rel => exact ⟨j + 1, by omega, by go_num, belowN bR0 _⟩
              case measure => simp [intOf]; omega
          · skip
            by_cases c2 : j = K + 1
            · by_cases c3 : r + 1 < R
              · skip
                have q1 : ((j : Int) == (K : Int) - 1) = false := by simp; omega
                have q3 : ((j : Int) == (K : Int) + 1) = true := by simp; omega
                have q4 : decide ((r : Int) < (R : Int) - 1) = true := by simp; omega
                have q5 : ((j : Int) == (K : Int)) = false := by simp; omega
                obtain ⟨e1, e2⟩ := HS.out.2.1 c0 (.inr ⟨c2, c3⟩)
                clear HS
                clear c0 c1 c2 c3
                subst e1 e2
                go_wp2_with fail
                go_quiet (fail)
                go_wp2
                go_roundw
                case rel => exact ⟨j + 1, by omega, by go_num, belowN bR0 _⟩
                case measure => simp [intOf]; omega
              · skip
                have q1 : ((j : Int) == (K : Int) - 1) = false := by simp; omega
                have q3 : ((j : Int) == (K : Int) + 1) = true := by simp; omega
                have q4 : decide ((r : Int) < (R : Int) - 1) = false := by simp; omega
                have q5 : ((j : Int) == (K : Int)) = false := by simp; omega
                obtain ⟨e1, e2⟩ := HS.out.2.2 c0 (by omega)
                clear HS
                clear c0 c1 c2 c3
                subst e1 e2
                go_wp2_with fail
                go_quiet (fail)
                go_wp2
                go_roundw
                case rel => exact ⟨j + 1, by omega, by go_num, belowN bR0 _⟩
                case measure => simp [intOf]; omega
            · skip
              have q1 : ((j : Int) == (K : Int) - 1) = false := by simp; omega
              have q3 : ((j : Int) == (K : Int) + 1) = false := by simp; omega
              have q5 : ((j : Int) == (K : Int)) = false := by simp; omega
              obtain ⟨e1, e2⟩ := HS.out.2.2 c0 (by omega)
              clear HS
              clear c0 c1 c2
              subst e1 e2
              go_wp2_with fail
              go_quiet (fail)
              go_wp2
              go_roundw
              case rel => exact ⟨j + 1, by omega, by go_num, belowN bR0 _⟩
              case measure => simp [intOf]; omega
      · skip
        obtain rfl : m2 = j := by omega
        go_wp2_with fail
        refine (iRowDecayed_c 1 nb nb R C b r la lh A2 n2 c2 B2 m2 d2 D2 m2 q2 _ _ _ _ o2.cs o2.ia o2.ih hsz2 (by omega) (by omega) HO2.out HB.out (by omega) (by omega) C1 hb' hr' HM.out HP.out).mono ?_
        rintro e w10 ⟨rfl, b10⟩
        rw [sensed_not R2 (by omega) hr' (by rw [HTK.out, X.2.1.len]; exact hKm) (by rw [HTK.out, X.2.2.1.len]; exact hKp) la0 lh0]
        clear q_0 q_1 q_2 q_3 q_lt l_0 l_1 l_lt a_0 a_1 a_2 a_lt x_0 x_1 x_2 x_lt
        have szw10 := b10.size
        replace bel := bel.trans (b10.mono bel.size)
        replace q := q.kept b10
        replace l := l.kept b10
        replace a := a.kept b10
        replace x := x.kept b10
        replace X := X.below b10
        replace o2 := o2.below b10
        clear b10
        go_wp2
        go_ret
        exact ⟨rfl, bel⟩
end Go.Proofs.Ytbapamfomfbmmaa
