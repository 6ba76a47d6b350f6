/-
  DrawArray: a drawn geometry, drawn limits and a drawn valid array.
-/
import Derived.Test.YtbapamfomfbmmaaDrF
import Derived.Deep.DeepCutAuto
namespace Go.Proofs.Ytbapamfomfbmmaa
open Go.RowKit
set_option linter.unusedSimpArgs false
set_option linter.unusedVariables false

/-- A drawn geometry, drawn limits and a drawn array, all in new memory. -/
def NewCase (w : World) (e : Ending) (w' : World) : Prop :=
  ∃ (nb R C : Nat) (la lh : Int) (A : Option Addr) (n c : Nat) (B : Option Addr) (m d : Nat) (D : Option Addr) (p q : Nat) (hs : List Cel) (vs : List CV) (ag ht : List Int),
    ((1 ≤ nb ∧ nb ≤ 2) ∧ (2 ≤ R ∧ R ≤ 4) ∧ (1 ≤ C ∧ C ≤ 2) ∧ (0 ≤ la ∧ la ≤ 100) ∧ (0 ≤ lh ∧ lh ≤ 20)) ∧ geoOk 1 nb R C = true ∧ bankCnt 1 nb R C = (nb : Int) ∧ n = nb * R * C ∧ m = nb * R ∧ p = nb * R ∧ arrOk 1 nb R C vs ag ht = true ∧ hitLe 20 ht ∧ OwnX w' w.heap.size w'.heap.size A n c hs vs B m d ag D p q ht ∧
    e = .returned (.tuple #[.agg #[.int .i64 1, .int .i64 (nb : Int), .int .i64 (R : Int), .int .i64 (C : Int)], .agg #[.int .i64 la, .int .i64 lh], .agg #[.slice A n c, .slice B m d, .slice D p q]]) ∧ Below w.heap.size w w'
set_option maxRecDepth 100000 in
set_option maxHeartbeats 4000000 in
theorem drawArray_c (A : Option Addr) (n c : Nat) (zs : List Int) (w : World) (hA : Bytes w A n zs) (hn : n ≤ maxLen) :
    Calls Try.prog 61 #[.slice A n c] w (NewCase w) := by
  have bel : Below w.heap.size w w := Below.refl _ _
  go_enter Try.func61, Try.ntmps61
  go_wp2_with fail
  refine abs_call ?_
  intro W hW
  have szW : w.heap.size + 1 + 1 + 1 ≤ W.heap.size := by rw [hW]; simp [World.setCell]
  have szW_ := bel.size
  replace bel : Below w.heap.size w W := by rw [hW]; exact (((bel).alloc (by first | omega | (simp [World.setCell] <;> omega)) _).alloc (by first | omega | (simp [World.setCell] <;> omega)) _).alloc (by first | omega | (simp [World.setCell] <;> omega)) _
  have r : Box W w.heap.size 25 #[.int .i64 0, .int .i64 0, .int .i64 0, .int .i64 0] := by rw [hW]; exact (((Box.newAt (by simp [World.setCell]))).alloc _).alloc _
  have u : Box W (w.heap.size + 1) 90 #[.int .i64 0, .int .i64 0] := by rw [hW]; exact ((Box.newAt (by simp [World.setCell]))).alloc _
  have z : Box W (w.heap.size + 1 + 1) 87 #[.slice none 0 0, .slice none 0 0, .slice none 0 0] := by rw [hW]; exact (Box.newAt (by simp [World.setCell]))
  clear hW
  refine (l01New_c A n c zs _ (hA.below bel) hn).mono ?_
  rintro e w1 ⟨g, rfl, k1, b1⟩
  have szg := k1.lt
  have szw1 := b1.size
  replace bel := bel.trans (b1.mono bel.size)
  replace r := r.kept b1
  replace u := u.kept b1
  replace z := z.kept b1
  clear b1
  go_wp2_with fail
  refine (l14Case_c _ g _ k1).mono ?_
  rintro e w2 ⟨nb, R, C, la, lh, A2, n2, c2, B, m, d, D, p, q, hs, vs, ag, ht, l, hnum, hg, hb, hN, hM, hP, hok, hle, X, hl, rfl, -, C2⟩
  have HN := Lib.hid hN
  have HM := Lib.hid hM
  have HP := Lib.hid hP
  clear hN hM hP
  have szw2 := C2.size
  replace bel := C2.below bel (by omega)
  replace r := r.chg C2 (by omega)
  replace u := u.chg C2 (by omega)
  replace z := z.chg C2 (by omega)
  clear C2
  obtain ⟨r_0, r_1, r_2, r_3⟩ := r.c4
  have r_lt := r.lt
  obtain ⟨u_0, u_1⟩ := u.c2
  have u_lt := u.lt
  obtain ⟨z_0, z_1, z_2⟩ := z.c3
  have z_lt := z.lt
  have r_f := r.frozen
  have u_f := u.frozen
  have z_f := z.frozen
  go_wp2_with fail
  refine abs_body ?_
  intro W9 hW
  clear r_0 r_1 r_2 r_3 r_lt u_0 u_1 u_lt z_0 z_1 z_2 z_lt r_f u_f z_f
  have szW9 : w2.heap.size ≤ W9.heap.size := by rw [hW]; simp [World.setCell]
  have szW9_ := bel.size
  replace bel : Below w.heap.size w W9 := by rw [hW]; exact (((((((((bel).setCell (by dsimp only; omega) _).setCell (by dsimp only; omega) _).setCell (by dsimp only; omega) _).setCell (by dsimp only; omega) _).setCell (by dsimp only; omega) _).setCell (by dsimp only; omega) _).setCell (by dsimp only; omega) _).setCell (by dsimp only; omega) _).setCell (by dsimp only; omega) _
  replace r : Box W9 w.heap.size 25 #[.int .i64 1, .int .i64 (nb : Int), .int .i64 (R : Int), .int .i64 (C : Int)] := by rw [hW]; exact (((((((((r).set_ 0 _).set_ 1 _).set_ 2 _).set_ 3 _).far (by dsimp only; omega) _).far (by dsimp only; omega) _).far (by dsimp only; omega) _).far (by dsimp only; omega) _).far (by dsimp only; omega) _
  replace u : Box W9 (w.heap.size + 1) 90 #[.int .i64 la, .int .i64 lh] := by rw [hW]; exact (((((((((u).far (by dsimp only; omega) _).far (by dsimp only; omega) _).far (by dsimp only; omega) _).far (by dsimp only; omega) _).set_ 0 _).set_ 1 _).far (by dsimp only; omega) _).far (by dsimp only; omega) _).far (by dsimp only; omega) _
  replace z : Box W9 (w.heap.size + 1 + 1) 87 #[.slice A2 n2 c2, .slice B m d, .slice D p q] := by rw [hW]; exact (((((((((z).far (by dsimp only; omega) _).far (by dsimp only; omega) _).far (by dsimp only; omega) _).far (by dsimp only; omega) _).far (by dsimp only; omega) _).far (by dsimp only; omega) _).set_ 0 _).set_ 1 _).set_ 2 _
  replace X : OwnX W9 l w2.heap.size A2 n2 c2 hs vs B m d ag D p q ht := by rw [hW]; exact (((((((((X).setCell _ _ (by dsimp only; omega)).setCell _ _ (by dsimp only; omega)).setCell _ _ (by dsimp only; omega)).setCell _ _ (by dsimp only; omega)).setCell _ _ (by dsimp only; omega)).setCell _ _ (by dsimp only; omega)).setCell _ _ (by dsimp only; omega)).setCell _ _ (by dsimp only; omega)).setCell _ _ (by dsimp only; omega)
  clear hW
  obtain ⟨r0, r1, r2, r3⟩ := r.c4
  obtain ⟨u0, u1⟩ := u.c2
  obtain ⟨z0, z1, z2⟩ := z.c3
  refine bodyPost_ret (v := .tuple #[.agg #[.int .i64 1, .int .i64 (nb : Int), .int .i64 (R : Int), .int .i64 (C : Int)], .agg #[.int .i64 la, .int .i64 lh], .agg #[.slice A2 n2 c2, .slice B m d, .slice D p q]]) (by simp [results, Try.results61, go_sem, r0, r1, r2, r3, u0, u1, z0, z1, z2]) rfl ?_
  exact ⟨nb, R, C, la, lh, A2, n2, c2, B, m, d, D, p, q, hs, vs, ag, ht, hnum, hg, hb, HN.out, HM.out, HP.out, hok, hle, X.mono (by omega) (by omega), rfl, bel⟩
end Go.Proofs.Ytbapamfomfbmmaa
