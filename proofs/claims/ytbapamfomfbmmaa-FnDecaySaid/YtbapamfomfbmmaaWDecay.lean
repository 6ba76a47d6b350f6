/-
  The walk of FnDecay.
-/
import Derived.Test.YtbapamfomfbmmaaDrW
import Derived.Test.YtbapamfomfbmmaaDcRW
import Derived.Test.YtbapamfomfbmmaaSynW
import Derived.Test.YtbapamfomfbmmaaPlc
import Derived.Deep.RegionLaw
import Derived.Deep.DeepCutAuto
namespace Go.Proofs.Ytbapamfomfbmmaa
open Go.RowKit
set_option linter.unusedSimpArgs false
set_option linter.unusedVariables false

theorem abs_any {P : World → Prop} {w : World} (h : ∀ W, W = w → P W) : P w := h w rfl
theorem csz_cells {vs : List CV} (h : vs.all celF = true) : csz vs = 12 * vs.length := by
  induction vs with
  | nil => rfl
  | cons v l ih =>
    rw [List.all_cons, Bool.and_eq_true] at h
    have h1 : v.1.length = 11 := by
      have := h.1
      unfold celF symOkN at this
      simp only [Bool.and_eq_true, beq_iff_eq] at this
      omega
    have := ih h.2
    unfold csz at this ⊢
    rw [List.map_cons, List.sum_cons, List.length_cons]
    omega
theorem code_clean : codeOf (List.replicate 11 0) 0 := ⟨0, 0, 0, by decide +kernel, ⟨rfl, rfl⟩, .inl ⟨rfl, rfl, rfl, rfl⟩⟩
theorem code_lost : codeOf (bendL (List.replicate 11 0)) 2 := ⟨15, 2, 11, by decide +kernel, ⟨rfl, rfl⟩, .inr ⟨rfl, by decide, by decide +kernel⟩⟩
theorem bendTo_at {vs : List CV} {base k : Nat} {zs : List Int} {p : Bool} (h : vs[base + k]? = some (zs, p)) (c : Nat) : (bendTo vs base c)[base + k]? = some (if k < c then (bendL zs, p) else (zs, p)) := by
  induction c with
  | zero => rw [if_neg (by omega)]; exact h
  | succ c ih =>
    rw [bendTo_succ]
    by_cases e : k = c
    · subst e
      rw [if_neg (by omega)] at ih
      rw [bendAt_of ih, if_pos (by omega), List.getElem?_set_self (lt_of_get ih)]
    · unfold bendAt
      rw [List.getElem?_set_ne (by omega), ih]
      by_cases e2 : k < c
      · rw [if_pos e2, if_pos (by omega)]
      · rw [if_neg e2, if_neg (by omega)]
theorem zeroC_at {L k : Nat} (h : k < L) : (zeroC L)[k]? = some (List.replicate 11 0, false) := by
  unfold zeroC
  rw [List.getElem?_replicate, if_pos h]
/-- A new array of whose first row one count is at the limit or one above it: sensed. -/
theorem decay_law {la lh : Int} {R C L M kc b2 : Nat} (la0 : 0 ≤ la) (lh0 : 0 ≤ lh) (M0 : 0 < M) (hk : kc < C) (hL : kc < L) (h2 : b2 < 2) :
    ∃ (gone : Bool) (word : List Int) (kk : Int), goneB la lh (List.replicate M 0) ((List.replicate M 0).set 0 (lh + (b2 : Int))) (0 * R + 0) = gone ∧ (senV la lh R C 0 0 (zeroC L) (List.replicate M 0) ((List.replicate M 0).set 0 (lh + (b2 : Int))))[(0 * R + 0) * C + kc]? = some (word, false) ∧ word.length = 11 ∧ symOkN word 11 = true ∧ codeOf word kk ∧ ((b2 = 0 ∧ gone = false ∧ kk = 0) ∨ (b2 = 1 ∧ gone = true ∧ kk = 2)) := by
  have e0 : 0 * R + 0 = 0 := by omega
  have e1 : 0 * C + kc = 0 + kc := by omega
  have e2 : 0 * C = 0 := by omega
  have hz := zeroC_at hL
  have g1 : (List.replicate M (0 : Int)).getD 0 0 = 0 := by rw [List.getD_eq_getElem?_getD, List.getElem?_replicate, if_pos M0]; rfl
  have g2 : ((List.replicate M (0 : Int)).set 0 (lh + (b2 : Int))).getD 0 0 = lh + (b2 : Int) := by rw [List.getD_eq_getElem?_getD, List.getElem?_set_self (by simpa using M0)]; rfl
  have hg : goneB la lh (List.replicate M 0) ((List.replicate M 0).set 0 (lh + (b2 : Int))) 0 = decide (b2 = 1) := by
    unfold goneB
    rw [g1, g2, show decide (la < 0) = false by simp; omega, Bool.false_or]
    exact decide_eq_decide.2 (by omega)
  unfold senV
  rw [e0, hg, e1, e2]
  by_cases hb : b2 = 1
  · refine ⟨true, bendL (List.replicate 11 0), 2, by simp [hb], ?_, by rw [bendL_len]; simp, bendL_ok (by decide +kernel), code_lost, .inr ⟨hb, rfl, rfl⟩⟩
    rw [if_pos (by simpa using hb)]
    have := bendTo_at (base := 0) (k := kc) (by simpa using hz) C
    rw [if_pos hk] at this
    exact this
  · refine ⟨false, List.replicate 11 0, 0, by simp [hb], ?_, by simp, by decide +kernel, code_clean, .inl ⟨by omega, rfl, rfl⟩⟩
    rw [if_neg (by simpa using hb)]
    simpa using hz
set_option maxRecDepth 100000 in
set_option maxHeartbeats 8000000 in
theorem fnDecay_walk (A : Option Addr) (n c : Nat) (zs : List Int) (w : World) (hA : Bytes w A n zs) (hn : n ≤ maxLen) :
    Calls Try.prog 13 #[.slice A n c] w fun e w' => e = .returned (.bool true) ∧ Below w.heap.size w w' := by
  by_cases hb : 1048576 < n
  · have hd : decide (1048576 < n) = true := by simpa using hb
    go_enter Try.func13, Try.ntmps13
    go_wp2_with (go_at_call 14; refine (big_c A n c _ hn).mono ?_; rintro e w' ⟨rfl, rfl⟩)
    go_ret
    exact ⟨rfl, Below.refl _ _⟩
  · have hd : decide (1048576 < n) = false := by simpa using hb
    have bel : Below w.heap.size w w := Below.refl _ _
    go_enter Try.func13, Try.ntmps13
    go_wp2_with (first | (go_at_call 14; refine (big_c A n c _ hn).mono ?_; rintro e w' ⟨rfl, rfl⟩) | fail)
    refine (drawArray_c A n c zs _ hA hn).mono ?_
    rintro e w1 ⟨nb, R, C, la, lh, A1, n1, c1, B1, m1, d1, D1, p1, q1, hs, vs, ag, ht, ⟨⟨nb1, nb2⟩, ⟨R2, R4⟩, ⟨C1, C2⟩, ⟨la0, la1⟩, ⟨lh0, lh1⟩⟩, hg, hbk, -, -, -, -, -, -, rfl, b1⟩
    have HG := Lib.hid hg
    have HB := Lib.hid hbk
    clear hg hbk
    have szw1 := b1.size
    replace bel := bel.trans (b1.mono bel.size)
    clear b1
    go_wp2_with fail
    refine abs_call ?_
    intro W2 hW
    have szW2 : w1.heap.size + 1 + 1 + 1 ≤ W2.heap.size := by rw [hW]; simp [World.setCell]
    have szW2_ := bel.size
    replace bel : Below w.heap.size w W2 := by rw [hW]; exact (((bel).alloc (by first | omega | (simp [World.setCell] <;> omega)) _).alloc (by first | omega | (simp [World.setCell] <;> omega)) _).alloc (by first | omega | (simp [World.setCell] <;> omega)) _
    have q : Box W2 w1.heap.size 25 #[.int .i64 1, .int .i64 (nb : Int), .int .i64 (R : Int), .int .i64 (C : Int)] := by rw [hW]; exact (((Box.newAt (by simp [World.setCell]))).alloc _).alloc _
    have l : Box W2 (w1.heap.size + 1) 90 #[.int .i64 la, .int .i64 lh] := by rw [hW]; exact ((Box.newAt (by simp [World.setCell]))).alloc _
    have a : Box W2 (w1.heap.size + 1 + 1) 87 #[.slice A1 n1 c1, .slice B1 m1 d1, .slice D1 p1 q1] := by rw [hW]; exact (Box.newAt (by simp [World.setCell]))
    clear hW
    refine (drawPlaces_c A n c zs _ (hA.below bel) hn).mono ?_
    rintro e w6 ⟨pl, hpl, A6, n6, c6, rfl, o6, b6⟩
    have szw6 := b6.size
    replace bel := bel.trans (b6.mono bel.size)
    replace q := q.kept b6
    replace l := l.kept b6
    replace a := a.kept b6
    clear b6
    obtain ⟨gp, hgp, P⟩ := places_at hpl o6
    obtain ⟨rfl, rfl, gp1, gp2⟩ := hgp
    obtain ⟨x0, x1, x2, x3, hp0, hp1, hp2, hp3, ⟨x0a, x0b⟩, ⟨x1a, x1b⟩, -, -⟩ := P
    obtain ⟨u0, HV0, eu0⟩ : ∃ u, Hid (pl[0]? = some u) ∧ u = x0 := by
      obtain ⟨g9, v9, e9, c9, -, h9, -, -⟩ := o6.at_ (show 0 < 12 by omega)
      injection e9 with e9
      injection e9 with e9 _
      subst e9
      have := c9.symm.trans hp0
      injection this with this
      injection this with _ this
      exact ⟨_, h9, this⟩
    obtain ⟨u1, HV1, eu1⟩ : ∃ u, Hid (pl[1]? = some u) ∧ u = x1 := by
      obtain ⟨g9, v9, e9, c9, -, h9, -, -⟩ := o6.at_ (show 1 < 12 by omega)
      injection e9 with e9
      injection e9 with e9 _
      subst e9
      have := c9.symm.trans hp1
      injection this with this
      injection this with _ this
      exact ⟨_, h9, this⟩
    subst eu0 eu1
    clear hp0 hp1 hp2 hp3 hpl
    obtain ⟨t, ht2, et1, et⟩ := rem_nat x0a (show 0 < 2 by omega)
    obtain ⟨kc, hkc, ek1, ek⟩ := rem_nat x1a (show 0 < C by omega)
    have HET : Hid (u0.tmod 2 = (t : Int)) := et
    have HEK := Lib.hid ek
    clear et et1 ek ek1
    obtain ⟨q_0, q_1, q_2, q_3⟩ := q.c4
    have q_lt := q.lt
    go_wp2_with fail
    refine (arrayNew_c 1 nb nb R C _ HG.out HB.out (by omega) (by omega) (by omega)).mono ?_
    rintro e w7 ⟨A2, n2, c2, B2, m2, d2, D2, p2, q2, rfl, o2, b7⟩
    clear q_0 q_1 q_2 q_3 q_lt
    have szw7 := b7.size
    replace bel := bel.trans (b7.mono bel.size)
    replace q := q.kept b7
    replace l := l.kept b7
    replace a := a.kept b7
    replace o6 := o6.below b7
    clear b7
    have HN := Lib.hid (show n2 = nb * R * C by have := o2.cs.len; unfold zeroC at this; rw [List.length_replicate] at this; omega)
    have HM := Lib.hid (show m2 = nb * R by have := o2.ia.1; rw [List.length_replicate] at this; omega)
    have HP := Lib.hid (show p2 = nb * R by have := o2.ih.1; rw [List.length_replicate] at this; omega)
    have M0 : 0 < nb * R := Nat.mul_pos (by omega) (by omega)
    have p0 : 0 < p2 := by rw [HP.out]; exact M0
    have m8 : m2 ≤ 8 := by rw [HM.out]; exact Nat.le_trans (Nat.mul_le_mul nb2 R4) (by omega)
    have p8 : p2 ≤ 8 := by rw [HP.out]; exact Nat.le_trans (Nat.mul_le_mul nb2 R4) (by omega)
    have n16 : nb * R * C ≤ 16 := Nat.le_trans (Nat.mul_le_mul (show nb * R ≤ 8 from Nat.le_trans (Nat.mul_le_mul nb2 R4) (by omega)) C2) (by omega)
    have kL : kc < nb * R * C := Nat.lt_of_lt_of_le hkc (by have := Nat.mul_le_mul_right C M0; omega)
    obtain ⟨hs2, X⟩ := o2.toX
    clear o2
    obtain ⟨gD, yD, eD, cD, fD, -, gD1, gD2⟩ := X.2.2.1.at_ p0
    subst eD
    clear cD fD
    go_wp2_with fail
    refine abs_code ?_
    intro W8 hW
    have szW8 : w7.heap.size + 1 ≤ W8.heap.size := by rw [hW]; simp [World.setCell]
    have szW8_ := bel.size
    replace bel : Below w.heap.size w W8 := by rw [hW]; exact (bel).alloc (by first | omega | (simp [World.setCell] <;> omega)) _
    replace q : Box W8 w1.heap.size 25 #[.int .i64 1, .int .i64 (nb : Int), .int .i64 (R : Int), .int .i64 (C : Int)] := by rw [hW]; exact q.alloc _
    replace l : Box W8 (w1.heap.size + 1) 90 #[.int .i64 la, .int .i64 lh] := by rw [hW]; exact l.alloc _
    replace a : Box W8 (w1.heap.size + 1 + 1) 87 #[.slice A1 n1 c1, .slice B1 m1 d1, .slice D1 p1 q1] := by rw [hW]; exact a.alloc _
    have y : Box W8 w7.heap.size 87 #[.slice A2 n2 c2, .slice B2 m2 d2, .slice (some ⟨gD, 0, none⟩) p2 q2] := by rw [hW]; exact (Box.newAt (by simp [World.setCell]))
    replace o6 : OwnH W8 W2.heap.size w6.heap.size (some ⟨gp, 0, none⟩) 12 c6 pl := by rw [hW]; exact o6.alloc _
    replace X : OwnX W8 w6.heap.size w7.heap.size A2 n2 c2 hs2 (zeroC (nb * R * C)) B2 m2 d2 (List.replicate (nb * R) 0) (some ⟨gD, 0, none⟩) p2 q2 (List.replicate (nb * R) 0) := by rw [hW]; exact X.alloc _
    clear hW
    obtain ⟨gD9, yD, eD, cD, fD, -, -, -⟩ := X.2.2.1.at_ p0
    injection eD with eD
    injection eD with eD _
    subst eD
    obtain ⟨l_0, l_1⟩ := l.c2
    have l_lt := l.lt
    obtain ⟨y_0, y_1, y_2⟩ := y.c3
    have y_lt := y.lt
    obtain ⟨k0, f0⟩ := o6.cellv (show 0 < 12 by omega) HV0.out
    have eT := HET.out
    have t1 : (t : Int) ≤ 1 := by omega
    have eW : IntKind.i64.wrap (lh + (t : Int)) = lh + (t : Int) := IntWalk.i64_in _ (by omega)
    have i2 : (0 : Int) < (p2 : Int) := by omega
    go_region
    clear k0 f0 cD fD eT eW i2
    refine abs_any (P := fun W => Exit.then _ _ _ _ W) ?_
    intro W9 hW
    clear l_0 l_1 l_lt y_0 y_1 y_2 y_lt
    have szW9 : W8.heap.size ≤ W9.heap.size := by rw [hW]; simp [World.setCell]
    have szW9_ := bel.size
    replace bel : Below w.heap.size w W9 := by rw [hW]; exact (belowN ((bel).setCell (by dsimp only; omega) _) 1)
    replace q : Box W9 w1.heap.size 25 #[.int .i64 1, .int .i64 (nb : Int), .int .i64 (R : Int), .int .i64 (C : Int)] := by rw [hW]; exact ((q).far (by dsimp only; omega) _).drewN 1
    replace l : Box W9 (w1.heap.size + 1) 90 #[.int .i64 la, .int .i64 lh] := by rw [hW]; exact ((l).far (by dsimp only; omega) _).drewN 1
    replace a : Box W9 (w1.heap.size + 1 + 1) 87 #[.slice A1 n1 c1, .slice B1 m1 d1, .slice D1 p1 q1] := by rw [hW]; exact ((a).far (by dsimp only; omega) _).drewN 1
    replace y : Box W9 w7.heap.size 87 #[.slice A2 n2 c2, .slice B2 m2 d2, .slice (some ⟨gD, 0, none⟩) p2 q2] := by rw [hW]; exact ((y).far (by dsimp only; omega) _).drewN 1
    replace o6 : OwnH W9 W2.heap.size w6.heap.size (some ⟨gp, 0, none⟩) 12 c6 pl := by rw [hW]; exact ((o6).setCell _ _ (by dsimp only; omega)).drewN 1
    replace X : OwnX W9 w6.heap.size w7.heap.size A2 n2 c2 hs2 (zeroC (nb * R * C)) B2 m2 d2 (List.replicate (nb * R) 0) (some ⟨gD, 0, none⟩) p2 q2 ((List.replicate (nb * R) 0).set 0 (lh + (t : Int))) := by rw [hW]; exact (((X).storeD p0 _)).drewN 1
    clear hW
    have hvok := zeroC_ok (nb * R * C)
    have haok := zeros_ok (nb * R)
    have htok : ((List.replicate (nb * R) 0).set 0 (lh + (t : Int))).all ageF = true := set_all haok (inB_mk (by omega) (by omega))
    have HOK : Hid (arrOk 1 nb R C (zeroC (nb * R * C)) (List.replicate (nb * R) 0) ((List.replicate (nb * R) 0).set 0 (lh + (t : Int))) = true) := by
      unfold Hid
      rw [arrOk_all HG.out HB.out (by unfold zeroC; simp) (by simp) (by simp), hvok, haok, htok]
      rfl
    have hsz : csz (zeroC (nb * R * C)) ≤ 1048576 := by rw [csz_cells hvok]; unfold zeroC; rw [List.length_replicate]; omega
    have HVO := Lib.hid hvok
    have HAO := Lib.hid haok
    have HTO := Lib.hid htok
    clear hvok haok htok
    obtain ⟨gone, word, kk, eG, eC, hw11, hwok, hcode, hcase⟩ := decay_law (R := R) (C := C) (L := nb * R * C) (M := nb * R) (lh := lh) la0 lh0 M0 hkc kL ht2
    have HEG := Lib.hid eG
    have HEC := Lib.hid eC
    have HWO := Lib.hid hwok
    have HCO := Lib.hid hcode
    have HCA := Lib.hid hcase
    clear eG eC hwok hcode hcase
    obtain ⟨q_0, q_1, q_2, q_3⟩ := q.c4
    have q_lt := q.lt
    obtain ⟨l_0, l_1⟩ := l.c2
    have l_lt := l.lt
    obtain ⟨y_0, y_1, y_2⟩ := y.c3
    have y_lt := y.lt
    go_wp2_with fail
    refine (iRowDecayed_c 1 nb nb R C 0 0 la lh A2 n2 c2 B2 m2 d2 (some ⟨gD, 0, none⟩) p2 q2 _ _ _ _ X.1.cs X.2.1.ints X.2.2.1.ints hsz (by omega) (by omega) HOK.out HB.out (by omega) (by omega) C1 (by omega) (by omega) HM.out HP.out).mono ?_
    rintro e w10 ⟨rfl, b10⟩
    rw [HEG.out]
    clear q_0 q_1 q_2 q_3 q_lt l_0 l_1 l_lt y_0 y_1 y_2 y_lt
    have szw10 := b10.size
    replace bel := bel.trans (b10.mono bel.size)
    replace q := q.kept b10
    replace l := l.kept b10
    replace a := a.kept b10
    replace y := y.kept b10
    replace o6 := o6.below b10
    replace X := X.below b10
    clear b10
    obtain ⟨q_0, q_1, q_2, q_3⟩ := q.c4
    have q_lt := q.lt
    obtain ⟨l_0, l_1⟩ := l.c2
    have l_lt := l.lt
    obtain ⟨y_0, y_1, y_2⟩ := y.c3
    have y_lt := y.lt
    go_wp2_with fail
    have hadr : addrOk 1 nb R C 0 0 0 = true := by
      unfold addrOk
      rw [HG.out, HB.out, inB_mk (show (0 : Int) ≤ (0 : Int) by omega) (show (0 : Int) ≤ (nb : Int) - 1 by omega), inB_mk (show (0 : Int) ≤ (0 : Int) by omega) (show (0 : Int) ≤ (R : Int) - 1 by omega), inB_mk (show (0 : Int) ≤ (0 : Int) by omega) (show (0 : Int) ≤ (C : Int) - 1 by omega)]
      rfl
    have hsr : srOk 1 nb R C (zeroC (nb * R * C)) (List.replicate (nb * R) 0) ((List.replicate (nb * R) 0).set 0 (lh + (t : Int))) 0 0 = true := by unfold srOk; rw [HOK.out, hadr]; rfl
    have HR : Hid (srV 1 nb R C la lh (zeroC (nb * R * C)) (List.replicate (nb * R) 0) ((List.replicate (nb * R) 0).set 0 (lh + (t : Int))) 0 0 = (senV la lh R C 0 0 (zeroC (nb * R * C)) (List.replicate (nb * R) 0) ((List.replicate (nb * R) 0).set 0 (lh + (t : Int)))) ∧ srA 1 nb R C (zeroC (nb * R * C)) (List.replicate (nb * R) 0) ((List.replicate (nb * R) 0).set 0 (lh + (t : Int))) 0 0 = senA R 0 0 (List.replicate (nb * R) 0) ∧ srH 1 nb R C (zeroC (nb * R * C)) (List.replicate (nb * R) 0) ((List.replicate (nb * R) 0).set 0 (lh + (t : Int))) 0 0 = senH R 0 0 ((List.replicate (nb * R) 0).set 0 (lh + (t : Int)))) := by
      unfold Hid srV srA srH
      rw [if_pos hsr, if_pos hsr, if_pos hsr]
      exact ⟨rfl, rfl, rfl⟩
    clear hsr hadr
    refine (iSenseRow_c 1 nb R C la lh A2 n2 c2 B2 m2 d2 (some ⟨gD, 0, none⟩) p2 q2 (zeroC (nb * R * C)) (List.replicate (nb * R) 0) ((List.replicate (nb * R) 0).set 0 (lh + (t : Int))) 0 0 _ X.1.cs X.2.1.ints X.2.2.1.ints hsz (by omega) (by omega)).mono ?_
    rintro e w11 ⟨A3, n3, c3, B3, m3, d3, D3, p3, q3, rfl, o3, b11⟩
    rw [HR.out.1, HR.out.2.1, HR.out.2.2] at o3
    clear HR
    have HOK3 : Hid (arrOk 1 nb R C (senV la lh R C 0 0 (zeroC (nb * R * C)) (List.replicate (nb * R) 0) ((List.replicate (nb * R) 0).set 0 (lh + (t : Int)))) (senA R 0 0 (List.replicate (nb * R) 0)) (senH R 0 0 ((List.replicate (nb * R) 0).set 0 (lh + (t : Int)))) = true) := by
      unfold Hid
      rw [arrOk_all HG.out HB.out (by rw [lens_len (senV_lens la lh R C 0 0 _ _ _)]; unfold zeroC; simp) (by rw [senA_len]; simp) (by rw [senH_len]; simp), senV_ok HVO.out, senA_all HAO.out, senH_all HTO.out]
      rfl
    have e2 : m2 = m3 := by have h1 := o3.ia.1; rw [senA_len, List.length_replicate] at h1; have := HM.out; omega
    have e3 : p2 = p3 := by have h1 := o3.ih.1; rw [senH_len, List.length_set, List.length_replicate] at h1; have := HP.out; omega
    have HN3 : Hid (n3 = nb * R * C) := by have h1 := o3.cs.len; rw [lens_len (senV_lens la lh R C 0 0 _ _ _)] at h1; unfold zeroC at h1; rw [List.length_replicate] at h1; exact h1.symm
    have hsz3 : csz (senV la lh R C 0 0 (zeroC (nb * R * C)) (List.replicate (nb * R) 0) ((List.replicate (nb * R) 0).set 0 (lh + (t : Int)))) ≤ 1048576 := by rw [csz_lens (senV_lens la lh R C 0 0 _ _ _)]; exact hsz
    subst e2 e3
    clear X
    clear q_0 q_1 q_2 q_3 q_lt l_0 l_1 l_lt y_0 y_1 y_2 y_lt
    have szw11 := b11.size
    replace bel := bel.trans (b11.mono bel.size)
    replace q := q.kept b11
    replace l := l.kept b11
    replace a := a.kept b11
    replace y := y.kept b11
    replace o6 := o6.below b11
    clear b11
    go_wp2_with fail
    refine abs_code ?_
    intro W12 hW
    have szW12 : w11.heap.size + 1 ≤ W12.heap.size := by rw [hW]; simp [World.setCell]
    have szW12_ := bel.size
    replace bel : Below w.heap.size w W12 := by rw [hW]; exact (bel).alloc (by first | omega | (simp [World.setCell] <;> omega)) _
    replace q : Box W12 w1.heap.size 25 #[.int .i64 1, .int .i64 (nb : Int), .int .i64 (R : Int), .int .i64 (C : Int)] := by rw [hW]; exact q.alloc _
    replace l : Box W12 (w1.heap.size + 1) 90 #[.int .i64 la, .int .i64 lh] := by rw [hW]; exact l.alloc _
    replace a : Box W12 (w1.heap.size + 1 + 1) 87 #[.slice A1 n1 c1, .slice B1 m1 d1, .slice D1 p1 q1] := by rw [hW]; exact a.alloc _
    replace y : Box W12 w7.heap.size 87 #[.slice A2 n2 c2, .slice B2 m2 d2, .slice (some ⟨gD, 0, none⟩) p2 q2] := by rw [hW]; exact y.alloc _
    have x : Box W12 w11.heap.size 87 #[.slice A3 n3 c3, .slice B3 m2 d3, .slice D3 p2 q3] := by rw [hW]; exact (Box.newAt (by simp [World.setCell]))
    replace o6 : OwnH W12 W2.heap.size w6.heap.size (some ⟨gp, 0, none⟩) 12 c6 pl := by rw [hW]; exact o6.alloc _
    replace o3 : OwnA W12 w10.heap.size w11.heap.size A3 n3 c3 (senV la lh R C 0 0 (zeroC (nb * R * C)) (List.replicate (nb * R) 0) ((List.replicate (nb * R) 0).set 0 (lh + (t : Int)))) B3 m2 d3 (senA R 0 0 (List.replicate (nb * R) 0)) D3 p2 q3 (senH R 0 0 ((List.replicate (nb * R) 0).set 0 (lh + (t : Int)))) := by rw [hW]; exact o3.alloc _
    clear hW
    obtain ⟨k1, f1⟩ := o6.cellv (show 1 < 12 by omega) HV1.out
    have eK := HEK.out
    have gp9 : gp < W12.heap.size := by omega
    have C0 : (C : Int) ≠ 0 := by omega
    have C00 : C ≠ 0 := by omega
    have cL : ∀ Y, Below W12.heap.size W12 Y → Calls Try.prog 65 #[.agg #[.int .i64 1, .int .i64 (nb : Int), .int .i64 (R : Int), .int .i64 (C : Int)], .agg #[.slice A3 n3 c3, .slice B3 m2 d3, .slice D3 p2 q3], .agg #[.int .i64 0, .int .i64 0, .int .i64 (kc : Int)]] Y fun e w' => (∃ S d, e = .returned (.tuple #[.agg #[.slice S 11 d, .bool false], .bool true]) ∧ OwnH w' Y.heap.size w'.heap.size S 11 d word) ∧ Below Y.heap.size Y w' := fun Y hY => iLoadCell_c 1 nb nb R C 0 0 kc A3 n3 c3 B3 m2 d3 D3 p2 q3 _ _ _ Y (o3.cs.below hY) (o3.ia.below hY) (o3.ih.below hY) hsz3 (by omega) (by omega) HOK3.out HG.out HB.out (by omega) (by omega) (by omega) (by omega) (by omega) hkc HN3.out HEC.out hw11
    have hS : ∀ Y, Below W12.heap.size W12 Y → (Y.cell? ⟨w1.heap.size, 0, none⟩ = some (.int .i64 1) ∧ Y.cell? ⟨w1.heap.size, 1, none⟩ = some (.int .i64 (nb : Int)) ∧ Y.cell? ⟨w1.heap.size, 2, none⟩ = some (.int .i64 (R : Int)) ∧ Y.cell? ⟨w1.heap.size, 3, none⟩ = some (.int .i64 (C : Int)) ∧ Y.cell? ⟨w11.heap.size, 0, none⟩ = some (.slice A3 n3 c3) ∧ Y.cell? ⟨w11.heap.size, 1, none⟩ = some (.slice B3 m2 d3) ∧ Y.cell? ⟨w11.heap.size, 2, none⟩ = some (.slice D3 p2 q3) ∧ Y.cell? ⟨gp, 1, none⟩ = some (.int .i64 u1)) := fun Y hY => by
      obtain ⟨a0, a1, a2, a3⟩ := (q.kept hY).c4
      obtain ⟨b0, b1, b2⟩ := (x.kept hY).c3
      exact ⟨a0, a1, a2, a3, b0, b1, b2, (hY.cell (p := ⟨gp, 1, none⟩) gp9).trans k1⟩
    have cLA := cL (W12.alloc (.cells #[.slice none 0 0, .bool false] 104)).drew (lat_ad (Below.refl _ _))
    have cLB := cL W12.drew (lat_d (Below.refl _ _))
    clear k1 f1 cL
    go_region_held3 (fun Y => (Y.cell? ⟨w1.heap.size, 0, none⟩ = some (.int .i64 1) ∧ Y.cell? ⟨w1.heap.size, 1, none⟩ = some (.int .i64 (nb : Int)) ∧ Y.cell? ⟨w1.heap.size, 2, none⟩ = some (.int .i64 (R : Int)) ∧ Y.cell? ⟨w1.heap.size, 3, none⟩ = some (.int .i64 (C : Int)) ∧ Y.cell? ⟨w11.heap.size, 0, none⟩ = some (.slice A3 n3 c3) ∧ Y.cell? ⟨w11.heap.size, 1, none⟩ = some (.slice B3 m2 d3) ∧ Y.cell? ⟨w11.heap.size, 2, none⟩ = some (.slice D3 p2 q3) ∧ Y.cell? ⟨gp, 1, none⟩ = some (.int .i64 u1)))
      (first | (refine hS _ ?_; (repeat (first | (with_reducible exact Below.refl _ _) | (with_reducible exact b13) | (with_reducible refine lat_d ?_) | (with_reducible refine lat_a ?_) | (with_reducible refine lat_s2 ?_ (by first | exact Nat.le_refl _ | exact b13.size)))); done) | fail)
      (first | (go_at_call 65; (with_reducible refine cLA.mono ?_); rintro e w13 ⟨⟨S, d, rfl, oS'⟩, b13'⟩; have oS := oS'.mono (show W12.heap.size + 1 ≤ _ by simp) (Nat.le_refl _); have b13 : Below W12.heap.size W12 w13 := below_after_alloc_d b13'; have cb := box_after_alloc_d b13'; obtain ⟨cb_0, cb_1⟩ := cb.c2; have cb_f := cb.frozen; have cb_lt := cb.lt; clear oS' b13') | (go_at_call 65; (with_reducible refine cLB.mono ?_); rintro e w13 ⟨⟨S, d, rfl, oS⟩, b13'⟩; have b13 : Below W12.heap.size W12 w13 := belL_of_d b13'; clear b13') | fail)
    all_goals
      have sz13 := b13.size
      go_wp2_with fail
      refine abs_call ?_
      intro W14 hW
      have hX : (∃ lo hi, OwnH W14 lo hi S 11 d word) ∧ Below W12.heap.size W12 W14 := by
        first
        | (rw [hW]; exact ⟨⟨_, _, (oS.setCell _ _ (by dsimp only; omega)).setCell _ _ (by dsimp only; omega)⟩, (b13.setCell (by dsimp only; omega) _).setCell (by dsimp only; omega) _⟩)
        | (rw [hW]; exact ⟨⟨_, _, oS.alloc _⟩, b13.alloc b13.size _⟩)
        | (rw [hW]; exact ⟨⟨_, _, (oS.alloc _).drewN 1⟩, belowN (b13.alloc b13.size _) 1⟩)
      obtain ⟨⟨lo9, hi9, oS9⟩, b14⟩ := hX
      clear hW
      have szW14 := b14.size
      replace bel := bel.trans (b14.mono bel.size)
      replace q := q.kept b14
      replace l := l.kept b14
      replace a := a.kept b14
      replace y := y.kept b14
      replace x := x.kept b14
      replace o6 := o6.below b14
      replace o3 := o3.below b14
      clear b14
      refine (decode_c S 11 d word kk _ oS9.ints HWO.out HCO.out).mono ?_
      rintro e w15 ⟨⟨v, rfl⟩, b15⟩
      have szw15 := b15.size
      replace bel := bel.trans (b15.mono bel.size)
      replace q := q.kept b15
      replace l := l.kept b15
      replace a := a.kept b15
      replace y := y.kept b15
      replace x := x.kept b15
      replace o6 := o6.below b15
      replace o3 := o3.below b15
      clear b15
      obtain ⟨k0, f0⟩ := o6.cellv (show 0 < 12 by omega) HV0.out
      have eT := HET.out
      rcases HCA.out with ⟨rfl, rfl, rfl⟩ | ⟨rfl, rfl, rfl⟩
      all_goals
        simp only [Int.natCast_zero, Int.natCast_one] at eT
        go_wp2
        go_ret
        exact ⟨rfl, bel⟩
end Go.Proofs.Ytbapamfomfbmmaa
