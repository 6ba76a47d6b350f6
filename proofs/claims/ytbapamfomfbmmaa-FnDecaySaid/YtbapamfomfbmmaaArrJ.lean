/-
  Whole arrays: how they lie in memory, and the laws' helpers on them.
-/
import Derived.Test.YtbapamfomfbmmaaArrI
namespace Go.Proofs.Ytbapamfomfbmmaa
open Go.RowKit
set_option linter.unusedSimpArgs false
set_option linter.unusedVariables false

theorem OwnH.clip {w : World} {lo hi n c : Nat} {A : Option Addr} {zs : List Int} (h : OwnH w lo hi A n c zs) : OwnH w lo (min hi w.heap.size) A n c zs :=
  ⟨h.1, fun k hk => by have := h.2 k hk; have := (h.1.lt k hk).2; omega⟩
theorem OwnC.clip {w : World} {lo hi n c : Nat} {A : Option Addr} {vs : List CV} (H : OwnC w lo hi A n c vs) : OwnC w lo (min hi w.heap.size) A n c vs := by
  obtain ⟨hs, H⟩ := H
  exact ⟨hs, ⟨H.out.1, fun k hk => by have := H.out.2 k hk; have := (H.out.1.lt k hk).2; omega⟩, H.len, fun i h v a b => ⟨(H.row i h v a b).1, (H.row i h v a b).2.clip⟩, H.apo, H.apr⟩
/-- An array whose rows are all the call's own, the three parts apart. -/
def OwnA (w : World) (lo hi : Nat) (A : Option Addr) (n c : Nat) (vs : List CV) (B : Option Addr) (m d : Nat) (ag : List Int) (D : Option Addr) (p q : Nat) (ht : List Int) : Prop :=
  ∃ l1 h1 l2 h2 l3 h3, OwnC w l1 h1 A n c vs ∧ OwnH w l2 h2 B m d ag ∧ OwnH w l3 h3 D p q ht ∧ (lo ≤ l1 ∧ h1 ≤ hi) ∧ (lo ≤ l2 ∧ h2 ≤ hi) ∧ (lo ≤ l3 ∧ h3 ≤ hi) ∧ (h1 ≤ l2 ∨ h2 ≤ l1) ∧ (h1 ≤ l3 ∨ h3 ≤ l1) ∧ (h2 ≤ l3 ∨ h3 ≤ l2)
section
variable {w w' : World} {lo hi n c m d p q : Nat} {A B D : Option Addr} {vs : List CV} {ag ht : List Int}
theorem OwnA.cs (H : OwnA w lo hi A n c vs B m d ag D p q ht) : Cs w A n vs := by obtain ⟨l1, h1, l2, h2, l3, h3, x, y, z, -⟩ := H; exact x.cs
theorem OwnA.ia (H : OwnA w lo hi A n c vs B m d ag D p q ht) : Ints w B m ag := by obtain ⟨l1, h1, l2, h2, l3, h3, x, y, z, -⟩ := H; exact y.ints
theorem OwnA.ih (H : OwnA w lo hi A n c vs B m d ag D p q ht) : Ints w D p ht := by obtain ⟨l1, h1, l2, h2, l3, h3, x, y, z, -⟩ := H; exact z.ints
theorem OwnA.below (H : OwnA w lo hi A n c vs B m d ag D p q ht) (hb : Below w.heap.size w w') : OwnA w' lo hi A n c vs B m d ag D p q ht := by
  obtain ⟨l1, h1, l2, h2, l3, h3, x, y, z, r⟩ := H; exact ⟨l1, h1, l2, h2, l3, h3, x.below hb, y.below hb, z.below hb, r⟩
theorem OwnA.alloc (H : OwnA w lo hi A n c vs B m d ag D p q ht) (o : Obj) : OwnA (w.alloc o) lo hi A n c vs B m d ag D p q ht := H.below ((Below.refl _ _).alloc (Nat.le_refl _) o)
theorem OwnA.drewN (H : OwnA w lo hi A n c vs B m d ag D p q ht) (k : Nat) : OwnA (w.drewN k) lo hi A n c vs B m d ag D p q ht := H.below (belowN (Below.refl _ _) k)
theorem OwnA.chg {lo' hi' : Nat} (H : OwnA w lo hi A n c vs B m d ag D p q ht) (hc : Chg lo' hi' w w') (hne : hi ≤ lo' ∨ hi' ≤ lo) : OwnA w' lo hi A n c vs B m d ag D p q ht := by
  obtain ⟨l1, h1, l2, h2, l3, h3, x, y, z, r1, r2, r3, r⟩ := H
  exact ⟨l1, h1, l2, h2, l3, h3, x.chg hc (by omega), y.chg hc (by omega), z.chg hc (by omega), r1, r2, r3, r⟩
theorem OwnA.mono {lo' hi' : Nat} (H : OwnA w lo hi A n c vs B m d ag D p q ht) (e1 : lo' ≤ lo) (e2 : hi ≤ hi') : OwnA w lo' hi' A n c vs B m d ag D p q ht := by
  obtain ⟨l1, h1, l2, h2, l3, h3, x, y, z, r1, r2, r3, r⟩ := H
  exact ⟨l1, h1, l2, h2, l3, h3, x, y, z, by omega, by omega, by omega, r⟩
theorem OwnA.setCell (H : OwnA w lo hi A n c vs B m d ag D p q ht) (a : Addr) (u : Value) (hne : a.block < lo ∨ hi ≤ a.block) : OwnA (w.setCell a u) lo hi A n c vs B m d ag D p q ht := by
  obtain ⟨l1, h1, l2, h2, l3, h3, x, y, z, r1, r2, r3, r⟩ := H
  exact ⟨l1, h1, l2, h2, l3, h3, x.setCell a u (by omega), y.setCell a u (by omega), z.setCell a u (by omega), r1, r2, r3, r⟩
end
/-- A new array in new memory; all that was there is as it was. -/
def NewA (vs : List CV) (ag ht : List Int) (w : World) (e : Ending) (w' : World) : Prop :=
  ∃ A n c B m d D p q, e = .returned (.agg #[.slice A n c, .slice B m d, .slice D p q]) ∧ OwnA w' w.heap.size w'.heap.size A n c vs B m d ag D p q ht ∧ Below w.heap.size w w'
set_option maxHeartbeats 2000000 in
theorem toArray_h (A : Option Addr) (n c : Nat) (B : Option Addr) (m d : Nat) (D : Option Addr) (p q : Nat) (vs : List CV) (ag ht : List Int) (w : World) (hA : Cs w A n vs) (hB : Ints w B m ag) (hD : Ints w D p ht) (hn : csz vs + m + p ≤ 1048576) :
    Calls Try.prog 54 #[.agg #[.slice A n c, .slice B m d, .slice D p q]] w (NewA vs ag ht w) := by
  have bel : Below w.heap.size w w := Below.refl _ _
  go_enter Try.func54, Try.ntmps54
  go_wp2_with fail
  refine abs_call ?_
  intro W hW
  have szW : w.heap.size + 1 + 1 + 1 ≤ W.heap.size := by rw [hW]; simp [World.setCell]
  have szW_ := bel.size
  replace bel : Below w.heap.size w W := by rw [hW]; exact (((bel).alloc (by first | omega | (simp [World.setCell] <;> omega)) _).alloc (by first | omega | (simp [World.setCell] <;> omega)) _).alloc (by first | omega | (simp [World.setCell] <;> omega)) _
  have x : Box W w.heap.size 83 #[.slice A n c, .slice B m d, .slice D p q] := by rw [hW]; exact (((Box.newAt (by simp [World.setCell]))).alloc _).alloc _
  have r : Box W (w.heap.size + 1) 87 #[.slice none 0 0, .slice none 0 0, .slice none 0 0] := by rw [hW]; exact ((Box.newAt (by simp [World.setCell]))).alloc _
  have y : Box W (w.heap.size + 1 + 1) 87 #[.slice none 0 0, .slice none 0 0, .slice none 0 0] := by rw [hW]; exact (Box.newAt (by simp [World.setCell]))
  clear hW
  refine (toCellS_h A n c vs _ (hA.below bel) (by omega)).mono ?_
  rintro e w1 ⟨A1, n1, c1, rfl, o1, b1⟩
  have szw1 := b1.size
  replace bel := bel.trans (b1.mono bel.size)
  replace x := x.kept b1
  replace r := r.kept b1
  replace y := y.kept b1
  clear b1
  obtain ⟨x_0, x_1, x_2⟩ := x.c3
  have x_lt := x.lt
  obtain ⟨y_0, y_1, y_2⟩ := y.c3
  have y_lt := y.lt
  have y_f := y.frozen
  go_wp2_with fail
  refine abs_call ?_
  intro W2 hW
  clear x_0 x_1 x_2 x_lt y_0 y_1 y_2 y_lt y_f
  have szW2 : w1.heap.size ≤ W2.heap.size := by rw [hW]; simp [World.setCell]
  have szW2_ := bel.size
  replace bel : Below w.heap.size w W2 := by rw [hW]; exact (bel).setCell (by dsimp only; omega) _
  replace x : Box W2 w.heap.size 83 #[.slice A n c, .slice B m d, .slice D p q] := by rw [hW]; exact (x).far (by dsimp only; omega) _
  replace r : Box W2 (w.heap.size + 1) 87 #[.slice none 0 0, .slice none 0 0, .slice none 0 0] := by rw [hW]; exact (r).far (by dsimp only; omega) _
  replace y : Box W2 (w.heap.size + 1 + 1) 87 #[.slice A1 n1 c1, .slice none 0 0, .slice none 0 0] := by rw [hW]; exact (y).set_ 0 _
  replace o1 : OwnC W2 W.heap.size w1.heap.size A1 n1 c1 vs := by rw [hW]; exact (o1).setCell _ _ (by dsimp only; omega)
  clear hW
  refine (toIntS_h B m d ag _ (hB.below bel) (by omega)).mono ?_
  rintro e w2 ⟨B1, m1, d1, rfl, o2, b2⟩
  have szw2 := b2.size
  replace bel := bel.trans (b2.mono bel.size)
  replace x := x.kept b2
  replace r := r.kept b2
  replace y := y.kept b2
  replace o1 := o1.below b2
  clear b2
  obtain ⟨x_0, x_1, x_2⟩ := x.c3
  have x_lt := x.lt
  obtain ⟨y_0, y_1, y_2⟩ := y.c3
  have y_lt := y.lt
  have y_f := y.frozen
  go_wp2_with fail
  refine abs_call ?_
  intro W3 hW
  clear x_0 x_1 x_2 x_lt y_0 y_1 y_2 y_lt y_f
  have szW3 : w2.heap.size ≤ W3.heap.size := by rw [hW]; simp [World.setCell]
  have szW3_ := bel.size
  replace bel : Below w.heap.size w W3 := by rw [hW]; exact (bel).setCell (by dsimp only; omega) _
  replace x : Box W3 w.heap.size 83 #[.slice A n c, .slice B m d, .slice D p q] := by rw [hW]; exact (x).far (by dsimp only; omega) _
  replace r : Box W3 (w.heap.size + 1) 87 #[.slice none 0 0, .slice none 0 0, .slice none 0 0] := by rw [hW]; exact (r).far (by dsimp only; omega) _
  replace y : Box W3 (w.heap.size + 1 + 1) 87 #[.slice A1 n1 c1, .slice B1 m1 d1, .slice none 0 0] := by rw [hW]; exact (y).set_ 1 _
  replace o1 : OwnC W3 W.heap.size w1.heap.size A1 n1 c1 vs := by rw [hW]; exact (o1).setCell _ _ (by dsimp only; omega)
  replace o2 : OwnH W3 W2.heap.size w2.heap.size B1 m1 d1 ag := by rw [hW]; exact (o2).setCell _ _ (by dsimp only; omega)
  clear hW
  refine (toIntS_h D p q ht _ (hD.below bel) (by omega)).mono ?_
  rintro e w3 ⟨D1, p1, q1, rfl, o3, b3⟩
  have szw3 := b3.size
  replace bel := bel.trans (b3.mono bel.size)
  replace x := x.kept b3
  replace r := r.kept b3
  replace y := y.kept b3
  replace o1 := o1.below b3
  replace o2 := o2.below b3
  clear b3
  obtain ⟨x_0, x_1, x_2⟩ := x.c3
  have x_lt := x.lt
  obtain ⟨y_0, y_1, y_2⟩ := y.c3
  have y_lt := y.lt
  obtain ⟨r_0, r_1, r_2⟩ := r.c3
  have r_lt := r.lt
  have y_f := y.frozen
  have r_f := r.frozen
  go_wp2
  refine abs_body ?_
  intro W9 hW
  clear x_0 x_1 x_2 x_lt y_0 y_1 y_2 y_lt r_0 r_1 r_2 r_lt y_f r_f
  have szW9 : w3.heap.size ≤ W9.heap.size := by rw [hW]; simp [World.setCell]
  have szW9_ := bel.size
  replace bel : Below w.heap.size w W9 := by rw [hW]; exact ((((bel).setCell (by dsimp only; omega) _).setCell (by dsimp only; omega) _).setCell (by dsimp only; omega) _).setCell (by dsimp only; omega) _
  replace x : Box W9 w.heap.size 83 #[.slice A n c, .slice B m d, .slice D p q] := by rw [hW]; exact ((((x).far (by dsimp only; omega) _).far (by dsimp only; omega) _).far (by dsimp only; omega) _).far (by dsimp only; omega) _
  replace r : Box W9 (w.heap.size + 1) 87 #[.slice A1 n1 c1, .slice B1 m1 d1, .slice D1 p1 q1] := by rw [hW]; exact ((((r).far (by dsimp only; omega) _).set_ 0 _).set_ 1 _).set_ 2 _
  replace y : Box W9 (w.heap.size + 1 + 1) 87 #[.slice A1 n1 c1, .slice B1 m1 d1, .slice D1 p1 q1] := by rw [hW]; exact ((((y).set_ 2 _).far (by dsimp only; omega) _).far (by dsimp only; omega) _).far (by dsimp only; omega) _
  replace o1 : OwnC W9 W.heap.size w1.heap.size A1 n1 c1 vs := by rw [hW]; exact ((((o1).setCell _ _ (by dsimp only; omega)).setCell _ _ (by dsimp only; omega)).setCell _ _ (by dsimp only; omega)).setCell _ _ (by dsimp only; omega)
  replace o2 : OwnH W9 W2.heap.size w2.heap.size B1 m1 d1 ag := by rw [hW]; exact ((((o2).setCell _ _ (by dsimp only; omega)).setCell _ _ (by dsimp only; omega)).setCell _ _ (by dsimp only; omega)).setCell _ _ (by dsimp only; omega)
  replace o3 : OwnH W9 W3.heap.size w3.heap.size D1 p1 q1 ht := by rw [hW]; exact ((((o3).setCell _ _ (by dsimp only; omega)).setCell _ _ (by dsimp only; omega)).setCell _ _ (by dsimp only; omega)).setCell _ _ (by dsimp only; omega)
  clear hW
  obtain ⟨z0, z1, z2⟩ := r.c3
  refine bodyPost_ret (v := .agg #[.slice A1 n1 c1, .slice B1 m1 d1, .slice D1 p1 q1]) (by simp [results, Try.results54, go_sem, z0, z1, z2]) rfl ?_
  exact ⟨_, _, _, _, _, _, _, _, _, rfl, ⟨_, _, _, _, _, _, o1, o2, o3, by omega, by omega, by omega, by omega, by omega, by omega⟩, bel⟩
set_option maxHeartbeats 2000000 in
theorem eqArray_h (A : Option Addr) (n c : Nat) (B : Option Addr) (m d : Nat) (D : Option Addr) (p q : Nat) (A' : Option Addr) (n' c' : Nat) (B' : Option Addr) (m' d' : Nat) (D' : Option Addr) (p' q' : Nat) (vs : List CV) (ag ht : List Int) (w : World) (hA : Cs w A n vs) (hB : Ints w B m ag) (hD : Ints w D p ht) (hA' : Cs w A' n' vs) (hB' : Ints w B' m' ag) (hD' : Ints w D' p' ht) (hn : csz vs ≤ 1048576) (hm : m ≤ 1048576) (hp : p ≤ 1048576) :
    Calls Try.prog 56 #[.agg #[.slice A n c, .slice B m d, .slice D p q], .agg #[.slice A' n' c', .slice B' m' d', .slice D' p' q']] w fun e w' => e = .returned (.bool true) ∧ Below w.heap.size w w' := by
  have bel : Below w.heap.size w w := Below.refl _ _
  go_enter Try.func56, Try.ntmps56
  go_wp2_with fail
  refine abs_call ?_
  intro W hW
  have szW : w.heap.size + 1 + 1 ≤ W.heap.size := by rw [hW]; simp [World.setCell]
  have szW_ := bel.size
  replace bel : Below w.heap.size w W := by rw [hW]; exact ((bel).alloc (by first | omega | (simp [World.setCell] <;> omega)) _).alloc (by first | omega | (simp [World.setCell] <;> omega)) _
  have x : Box W w.heap.size 87 #[.slice A n c, .slice B m d, .slice D p q] := by rw [hW]; exact ((Box.newAt (by simp [World.setCell]))).alloc _
  have y : Box W (w.heap.size + 1) 87 #[.slice A' n' c', .slice B' m' d', .slice D' p' q'] := by rw [hW]; exact (Box.newAt (by simp [World.setCell]))
  clear hW
  refine (eqCellS_h A n c A' n' c' vs _ (hA.below bel) (hA'.below bel) hn).mono ?_
  rintro e w1 ⟨rfl, b1⟩
  have szw1 := b1.size
  replace bel := bel.trans (b1.mono bel.size)
  replace x := x.kept b1
  replace y := y.kept b1
  clear b1
  obtain ⟨x_0, x_1, x_2⟩ := x.c3
  have x_lt := x.lt
  obtain ⟨y_0, y_1, y_2⟩ := y.c3
  have y_lt := y.lt
  go_wp2_with fail
  refine (eqIntS_h B m d B' m' d' ag _ (hB.below bel) (hB'.below bel) hm).mono ?_
  rintro e w2 ⟨rfl, b2⟩
  clear x_0 x_1 x_2 x_lt y_0 y_1 y_2 y_lt
  have szw2 := b2.size
  replace bel := bel.trans (b2.mono bel.size)
  replace x := x.kept b2
  replace y := y.kept b2
  clear b2
  obtain ⟨x_0, x_1, x_2⟩ := x.c3
  have x_lt := x.lt
  obtain ⟨y_0, y_1, y_2⟩ := y.c3
  have y_lt := y.lt
  go_wp2_with fail
  refine (eqIntS_h D p q D' p' q' ht _ (hD.below bel) (hD'.below bel) hp).mono ?_
  rintro e w3 ⟨rfl, b3⟩
  clear x_0 x_1 x_2 x_lt y_0 y_1 y_2 y_lt
  have szw3 := b3.size
  replace bel := bel.trans (b3.mono bel.size)
  replace x := x.kept b3
  replace y := y.kept b3
  clear b3
  go_wp2
  go_ret
  exact ⟨rfl, bel⟩
set_option maxHeartbeats 2000000 in
theorem szArray_y (A : Option Addr) (n c : Nat) (B : Option Addr) (m d : Nat) (D : Option Addr) (p q : Nat) (vs : List CV) (ag ht : List Int) (left : Int) (w : World) (hA : Cs w A n vs) (h1 : left ≤ 1048576) (hn : ((csz vs + m + p : Nat) : Int) ≤ left) :
    Calls Try.prog 50 #[.agg #[.slice A n c, .slice B m d, .slice D p q], .int .i64 left] w fun e w' => e = .returned (.int .i64 (left - csz vs - m - p)) ∧ Below w.heap.size w w' := by
  have bel : Below w.heap.size w w := Below.refl _ _
  have t0 : decide (left - (csz vs : Int) < 0) = false := by simp; omega
  have t1 : decide (left - (csz vs : Int) - (m : Int) < 0) = false := by simp; omega
  have t2 : decide (left - (csz vs : Int) - (m : Int) - (p : Int) < 0) = false := by simp; omega
  go_enter Try.func50, Try.ntmps50
  go_wp2_with fail
  refine abs_call ?_
  intro W hW
  have szW : w.heap.size + 1 ≤ W.heap.size := by rw [hW]; simp [World.setCell]
  have szW_ := bel.size
  replace bel : Below w.heap.size w W := by rw [hW]; exact (bel).alloc (by first | omega | (simp [World.setCell] <;> omega)) _
  have x : Box W w.heap.size 83 #[.slice A n c, .slice B m d, .slice D p q] := by rw [hW]; exact (Box.newAt (by simp [World.setCell]))
  clear hW
  refine (szCellS_y A n c vs left _ (hA.below bel) h1 (by omega)).mono ?_
  rintro e w1 ⟨rfl, b1⟩
  have szw1 := b1.size
  replace bel := bel.trans (b1.mono bel.size)
  replace x := x.kept b1
  clear b1
  obtain ⟨x_0, x_1, x_2⟩ := x.c3
  have x_lt := x.lt
  go_wp2_with fail
  refine (szIntS_yes B m d (left - csz vs) _ (by omega) (by omega)).mono ?_
  rintro e w2 ⟨rfl, rfl⟩
  go_wp2_with fail
  refine (szIntS_yes D p q (left - csz vs - m) _ (by omega) (by omega)).mono ?_
  rintro e w2 ⟨rfl, rfl⟩
  go_wp2
  go_ret
  exact ⟨rfl, bel⟩
set_option maxHeartbeats 2000000 in
theorem szArray_n (A : Option Addr) (n c : Nat) (B : Option Addr) (m d : Nat) (D : Option Addr) (p q : Nat) (vs : List CV) (ag ht : List Int) (left : Int) (w : World) (hA : Cs w A n vs) (hvs : ∀ v ∈ vs, v.1.length ≤ maxLen) (h0 : 0 ≤ left) (h1 : left ≤ 1048576) (hnm : n ≤ maxLen) (hmm : m ≤ maxLen) (hpm : p ≤ maxLen) (hn : left < ((csz vs + m + p : Nat) : Int)) :
    Calls Try.prog 50 #[.agg #[.slice A n c, .slice B m d, .slice D p q], .int .i64 left] w fun e w' => e = .returned (.int .i64 (-1)) ∧ Below w.heap.size w w' := by
  have bel : Below w.heap.size w w := Below.refl _ _
  go_enter Try.func50, Try.ntmps50
  go_wp2_with fail
  refine abs_call ?_
  intro W hW
  have szW : w.heap.size + 1 ≤ W.heap.size := by rw [hW]; simp [World.setCell]
  have szW_ := bel.size
  replace bel : Below w.heap.size w W := by rw [hW]; exact (bel).alloc (by first | omega | (simp [World.setCell] <;> omega)) _
  have x : Box W w.heap.size 83 #[.slice A n c, .slice B m d, .slice D p q] := by rw [hW]; exact (Box.newAt (by simp [World.setCell]))
  clear hW
  by_cases c1 : left < (csz vs : Int)
  · refine (szCellS_n A n c vs left _ (hA.below bel) h0 h1 hnm hvs c1).mono ?_
    rintro e w1 ⟨rfl, b1⟩
    have szw1 := b1.size
    replace bel := bel.trans (b1.mono bel.size)
    replace x := x.kept b1
    clear b1
    go_wp2
    go_ret
    exact ⟨rfl, bel⟩
  have t0 : decide (left - (csz vs : Int) < 0) = false := by simp; omega
  refine (szCellS_y A n c vs left _ (hA.below bel) h1 (by omega)).mono ?_
  rintro e w1 ⟨rfl, b1⟩
  have szw1 := b1.size
  replace bel := bel.trans (b1.mono bel.size)
  replace x := x.kept b1
  clear b1
  obtain ⟨x_0, x_1, x_2⟩ := x.c3
  have x_lt := x.lt
  go_wp2_with fail
  by_cases c2 : left - (csz vs : Int) < (m : Int)
  · refine (szIntS_no B m d (left - csz vs) _ (by omega) (by omega) hmm c2).mono ?_
    rintro e w2 ⟨rfl, rfl⟩
    go_wp2
    go_ret
    exact ⟨rfl, bel⟩
  have t1 : decide (left - (csz vs : Int) - (m : Int) < 0) = false := by simp; omega
  refine (szIntS_yes B m d (left - csz vs) _ (by omega) (by omega)).mono ?_
  rintro e w2 ⟨rfl, rfl⟩
  go_wp2_with fail
  refine (szIntS_no D p q (left - csz vs - m) _ (by omega) (by omega) hpm (by omega)).mono ?_
  rintro e w2 ⟨rfl, rfl⟩
  go_wp2
  go_ret
  exact ⟨rfl, bel⟩
set_option maxHeartbeats 2000000 in
theorem markArray_h (A : Option Addr) (n c : Nat) (B : Option Addr) (m d : Nat) (D : Option Addr) (p q : Nat) (lo hi : Nat) (vs : List CV) (ag ht : List Int) (k : Int) (w : World) (H : OwnA w lo hi A n c vs B m d ag D p q ht) (hn : csz vs ≤ 1048576) (hm : m ≤ 1048576) (hp : p ≤ 1048576) (h0 : 0 ≤ k) (hk : k ≤ 80000000) :
    Calls Try.prog 57 #[.agg #[.slice A n c, .slice B m d, .slice D p q], .int .i64 k] w fun e w' => e = .returned (.int .i64 (k + csz vs + m + p)) ∧ OwnA w' lo hi A n c (cmarks k vs) B m d (marks (k + csz vs) m) D p q (marks (k + csz vs + m) p) ∧ Chg lo hi w w' := by
  obtain ⟨l1, h1, l2, h2, l3, h3, o1', o2', o3', ⟨r1, r2⟩, ⟨r3, r4⟩, ⟨r5, r6⟩, s1, s2, s3⟩ := H
  have o1 := o1'.clip
  have o2 := o2'.clip
  have o3 := o3'.clip
  clear o1' o2' o3'
  obtain ⟨g1, hg1⟩ : ∃ x, x = min h1 w.heap.size := ⟨_, rfl⟩
  obtain ⟨g2, hg2⟩ : ∃ x, x = min h2 w.heap.size := ⟨_, rfl⟩
  obtain ⟨g3, hg3⟩ : ∃ x, x = min h3 w.heap.size := ⟨_, rfl⟩
  rw [← hg1] at o1
  rw [← hg2] at o2
  rw [← hg3] at o3
  have t1 : g1 ≤ h1 ∧ g1 ≤ w.heap.size := by omega
  have t2 : g2 ≤ h2 ∧ g2 ≤ w.heap.size := by omega
  have t3 : g3 ≤ h3 ∧ g3 ≤ w.heap.size := by omega
  clear hg1 hg2 hg3
  go_enter Try.func57, Try.ntmps57
  go_wp2_with fail
  refine abs_call ?_
  intro W hW
  have CC : Chg lo hi w W := by rw [hW]; exact (Chg.refl _ _ _).alloc _
  have szW : w.heap.size + 1 ≤ W.heap.size := by rw [hW]; simp [World.setCell]
  have x : Box W w.heap.size 87 #[.slice A n c, .slice B m d, .slice D p q] := by rw [hW]; exact (Box.newAt (by simp [World.setCell]))
  replace o1 : OwnC W l1 g1 A n c vs := by rw [hW]; exact o1.alloc _
  replace o2 : OwnH W l2 g2 B m d ag := by rw [hW]; exact o2.alloc _
  replace o3 : OwnH W l3 g3 D p q ht := by rw [hW]; exact o3.alloc _
  clear hW
  refine (markCellS_h A n c l1 g1 vs k _ o1 hn h0 (by omega)).mono ?_
  rintro e w1 ⟨rfl, p1, C1⟩
  replace CC := CC.trans (C1.mono r1 (by omega))
  clear o1
  have szw1 := C1.size
  replace x := x.chg C1 (by omega)
  replace o2 := o2.chg C1 (by omega)
  replace o3 := o3.chg C1 (by omega)
  clear C1
  obtain ⟨x_0, x_1, x_2⟩ := x.c3
  have x_lt := x.lt
  go_wp2_with fail
  refine (markIntS_h B m d l2 g2 ag (k + csz vs) _ o2 hm (by omega) (by omega)).mono ?_
  rintro e w2 ⟨rfl, p2, C2⟩
  replace CC := CC.trans (C2.mono r3 (by omega))
  clear o2
  clear x_0 x_1 x_2 x_lt
  have szw2 := C2.size
  replace x := x.chg C2 (by omega)
  replace o3 := o3.chg C2 (by omega)
  replace p1 := p1.chg C2 (by omega)
  clear C2
  obtain ⟨x_0, x_1, x_2⟩ := x.c3
  have x_lt := x.lt
  go_wp2_with fail
  refine (markIntS_h D p q l3 g3 ht (k + csz vs + m) _ o3 hp (by omega) (by omega)).mono ?_
  rintro e w3 ⟨rfl, p3, C3⟩
  replace CC := CC.trans (C3.mono r5 (by omega))
  clear o3
  clear x_0 x_1 x_2 x_lt
  have szw3 := C3.size
  replace x := x.chg C3 (by omega)
  replace p1 := p1.chg C3 (by omega)
  replace p2 := p2.chg C3 (by omega)
  clear C3
  go_wp2
  go_ret
  exact ⟨rfl, ⟨l1, g1, l2, g2, l3, g3, p1, p2, p3, by omega, by omega, by omega, by omega, by omega, by omega⟩, CC⟩
set_option maxHeartbeats 2000000 in
theorem heldArray_h (A : Option Addr) (n c : Nat) (B : Option Addr) (m d : Nat) (D : Option Addr) (p q : Nat) (vs : List CV) (k : Int) (w : World) (hA : Cs w A n (cmarks k vs)) (hB : Ints w B m (marks (k + csz vs) m)) (hD : Ints w D p (marks (k + csz vs + m) p)) (hn : csz vs ≤ 1048576) (hm : m ≤ 1048576) (hp : p ≤ 1048576) (h0 : 0 ≤ k) (hk : k ≤ 80000000) :
    Calls Try.prog 58 #[.agg #[.slice A n c, .slice B m d, .slice D p q], .int .i64 k] w fun e w' => e = .returned (.int .i64 (k + csz vs + m + p)) ∧ Below w.heap.size w w' := by
  have bel : Below w.heap.size w w := Below.refl _ _
  have t0 : decide (k + (csz vs : Int) < 0) = false := by simp; omega
  have t1 : decide (k + (csz vs : Int) + (m : Int) < 0) = false := by simp; omega
  have t2 : decide (k + (csz vs : Int) + (m : Int) + (p : Int) < 0) = false := by simp; omega
  go_enter Try.func58, Try.ntmps58
  go_wp2_with fail
  refine abs_call ?_
  intro W hW
  have szW : w.heap.size + 1 ≤ W.heap.size := by rw [hW]; simp [World.setCell]
  have szW_ := bel.size
  replace bel : Below w.heap.size w W := by rw [hW]; exact (bel).alloc (by first | omega | (simp [World.setCell] <;> omega)) _
  have x : Box W w.heap.size 87 #[.slice A n c, .slice B m d, .slice D p q] := by rw [hW]; exact (Box.newAt (by simp [World.setCell]))
  clear hW
  refine (heldCellS_h A n c vs k _ (hA.below bel) hn h0 (by omega)).mono ?_
  rintro e w1 ⟨rfl, b1⟩
  have szw1 := b1.size
  replace bel := bel.trans (b1.mono bel.size)
  replace x := x.kept b1
  clear b1
  obtain ⟨x_0, x_1, x_2⟩ := x.c3
  have x_lt := x.lt
  go_wp2_with fail
  refine (heldIntS_h B m d (k + csz vs) _ (hB.below bel) hm (by omega) (by omega)).mono ?_
  rintro e w2 ⟨rfl, b2⟩
  clear x_0 x_1 x_2 x_lt
  have szw2 := b2.size
  replace bel := bel.trans (b2.mono bel.size)
  replace x := x.kept b2
  clear b2
  obtain ⟨x_0, x_1, x_2⟩ := x.c3
  have x_lt := x.lt
  go_wp2_with fail
  refine (heldIntS_h D p q (k + csz vs + m) _ (hD.below bel) hp (by omega) (by omega)).mono ?_
  rintro e w3 ⟨rfl, b3⟩
  clear x_0 x_1 x_2 x_lt
  have szw3 := b3.size
  replace bel := bel.trans (b3.mono bel.size)
  replace x := x.kept b3
  clear b3
  go_wp2
  go_ret
  exact ⟨rfl, bel⟩
set_option maxHeartbeats 1000000 in
theorem toLimits_h (la lh : Int) (w : World) :
    Calls Try.prog 53 #[.agg #[.int .i64 la, .int .i64 lh]] w fun x w' => x = .returned (.agg #[.int .i64 la, .int .i64 lh]) ∧ Below w.heap.size w w' := by
  go_enter Try.func53, Try.ntmps53
  go_wp2
  exact bodyPost_ret (v := .agg #[.int .i64 la, .int .i64 lh]) (by simp [results, Try.results53, go_sem]) rfl ⟨rfl, (((Below.refl _ _).alloc (Nat.le_refl _) _).alloc (by simp) _).alloc (by simp; omega) _⟩
end Go.Proofs.Ytbapamfomfbmmaa
