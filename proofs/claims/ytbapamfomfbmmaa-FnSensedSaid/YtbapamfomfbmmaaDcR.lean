/-
  RowDecayed of the program for a valid array and a row that exists.
-/
import Derived.Test.YtbapamfomfbmmaaSenH
import Derived.Deep.DeepCutAuto
namespace Go.Proofs.Ytbapamfomfbmmaa
open Go.RowKit
set_option linter.unusedSimpArgs false
set_option linter.unusedVariables false

set_option maxRecDepth 100000 in
set_option maxHeartbeats 8000000 in
theorem iRowDecayed_c (gg gb : Int) (nb R C b r : Nat) (la lh : Int) (A : Option Addr) (n c : Nat) (B : Option Addr) (m d : Nat) (D : Option Addr) (p q : Nat) (vs : List CV) (ag ht : List Int) (w : World) (hA : Cs w A n vs) (hB : Ints w B m ag) (hD : Ints w D p ht) (hn : csz vs ≤ 1048576) (hm : m ≤ 1048576) (hp : p ≤ 1048576)
    (hok : arrOk gg gb R C vs ag ht = true) (hnb : bankCnt gg gb R C = (nb : Int)) (nb8 : nb ≤ 8) (R16 : R ≤ 16) (C1 : 1 ≤ C) (hb : b < nb) (hr : r < R) (hmR : m = nb * R) (hpR : p = nb * R) :
    Calls Try.prog 63 #[.agg #[.int .i64 gg, .int .i64 gb, .int .i64 (R : Int), .int .i64 (C : Int)], .agg #[.int .i64 la, .int .i64 lh], .agg #[.slice A n c, .slice B m d, .slice D p q], .int .i64 (b : Int), .int .i64 (r : Int)] w fun e w' => e = .returned (.bool (goneB la lh ag ht (b * R + r))) ∧ Below w.heap.size w w' := by
  have bel : Below w.heap.size w w := Below.refl _ _
  have hg : geoOk gg gb R C = true := by
    unfold arrOk at hok
    simp only [Bool.and_eq_true] at hok
    exact hok.1
  have HA : Hid (addrOk gg gb R C b r 0 = true) := by
    unfold Hid addrOk
    rw [hg, hnb, inB_mk (show (0 : Int) ≤ (b : Int) by omega) (show (b : Int) ≤ (nb : Int) - 1 by omega), inB_mk (show (0 : Int) ≤ (r : Int) by omega) (show (r : Int) ≤ (R : Int) - 1 by omega), inB_mk (show (0 : Int) ≤ (0 : Int) by omega) (show (0 : Int) ≤ (C : Int) - 1 by omega)]
    rfl
  have HO := Lib.hid hok
  have hk : b * R + r < m := by rw [hmR]; exact row_lt hb hr
  have hk' : b * R + r < p := by rw [hpR]; exact row_lt hb hr
  obtain ⟨K, hK⟩ : ∃ K, b * R + r = K := ⟨_, rfl⟩
  have HK := Lib.hid hK
  rw [hK] at hk hk' ⊢
  clear hok hK hmR hpR
  go_enter Try.func63, Try.ntmps63
  go_wp2_with fail
  refine abs_call ?_
  intro W hW
  have szW : w.heap.size + 1 + 1 + 1 ≤ W.heap.size := by rw [hW]; simp [World.setCell]
  have szW_ := bel.size
  replace bel : Below w.heap.size w W := by rw [hW]; exact (((bel).alloc (by first | omega | (simp [World.setCell] <;> omega)) _).alloc (by first | omega | (simp [World.setCell] <;> omega)) _).alloc (by first | omega | (simp [World.setCell] <;> omega)) _
  have gq : Box W w.heap.size 25 #[.int .i64 gg, .int .i64 gb, .int .i64 (R : Int), .int .i64 (C : Int)] := by rw [hW]; exact (((Box.newAt (by simp [World.setCell]))).alloc _).alloc _
  have l : Box W (w.heap.size + 1) 90 #[.int .i64 la, .int .i64 lh] := by rw [hW]; exact ((Box.newAt (by simp [World.setCell]))).alloc _
  have x : Box W (w.heap.size + 1 + 1) 87 #[.slice A n c, .slice B m d, .slice D p q] := by rw [hW]; exact (Box.newAt (by simp [World.setCell]))
  clear hW
  refine (iArrayOk_c gg gb R C A n c B m d D p q vs ag ht _ (hA.below bel) (hB.below bel) (hD.below bel) hn hm hp).mono ?_
  rintro e w1 ⟨rfl, b1⟩
  rw [HO.out]
  have szw1 := b1.size
  replace bel := bel.trans (b1.mono bel.size)
  replace gq := gq.kept b1
  replace l := l.kept b1
  replace x := x.kept b1
  clear b1
  obtain ⟨gq_0, gq_1, gq_2, gq_3⟩ := gq.c4
  have gq_lt := gq.lt
  go_wp2_with fail
  refine (iRowExists_c gg gb R C b r _).mono ?_
  rintro e w2 ⟨rfl, b2⟩
  rw [HA.out]
  clear gq_0 gq_1 gq_2 gq_3 gq_lt
  have szw2 := b2.size
  replace bel := bel.trans (b2.mono bel.size)
  replace gq := gq.kept b2
  replace l := l.kept b2
  replace x := x.kept b2
  clear b2
  obtain ⟨gq_0, gq_1, gq_2, gq_3⟩ := gq.c4
  have gq_lt := gq.lt
  obtain ⟨l_0, l_1⟩ := l.c2
  have l_lt := l.lt
  obtain ⟨x_0, x_1, x_2⟩ := x.c3
  have x_lt := x.lt
  go_wp2_with fail
  refine (decayed_c gg gb R C la lh A n c B m d D p q ag ht b r K HK.out (by omega) R16 (by omega) _ (hB.below bel) (hD.below bel) hk hk').mono ?_
  rintro e w3 ⟨rfl, b3⟩
  clear gq_0 gq_1 gq_2 gq_3 gq_lt l_0 l_1 l_lt x_0 x_1 x_2 x_lt
  have szw3 := b3.size
  replace bel := bel.trans (b3.mono bel.size)
  replace gq := gq.kept b3
  replace l := l.kept b3
  replace x := x.kept b3
  clear b3
  go_wp2
  go_ret
  exact ⟨rfl, bel⟩
end Go.Proofs.Ytbapamfomfbmmaa
