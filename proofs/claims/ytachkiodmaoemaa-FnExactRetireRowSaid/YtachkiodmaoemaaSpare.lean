/-
  States Spare: how they lie in memory, and the contracts of the laws' helpers on them.
-/
import Derived.Test.YtachkiodmaoemaaUni
namespace Go.Proofs.Ytachkiodmaoemaa
open Go.RowKit
set_option linter.unusedSimpArgs false
set_option linter.unusedVariables false

/-- A new state Spare, its row in new memory; all that was there is as it was. -/
def NewSp (zs : List Int) (sp : Int) (w : World) (e : Ending) (w' : World) : Prop :=
  ∃ A n c, e = .returned (.agg #[.int .i64 sp, .slice A n c]) ∧ OwnH w' w.heap.size w'.heap.size A n c zs ∧ Below w.heap.size w w'
/-- The same and a bool. -/
def NewSpB (zs : List Int) (sp : Int) (ok : Bool) (w : World) (e : Ending) (w' : World) : Prop :=
  ∃ A n c, e = .returned (.tuple #[.agg #[.int .i64 sp, .slice A n c], .bool ok]) ∧ OwnH w' w.heap.size w'.heap.size A n c zs ∧ Below w.heap.size w w'

set_option maxHeartbeats 1000000 in
theorem toSpare_h (A : Option Addr) (n c : Nat) (zs : List Int) (sp : Int) (w : World) (hA : Ints w A n zs) (hn : n ≤ 1048576) :
    Calls Try.prog 20 #[.agg #[.int .i64 sp, .slice A n c]] w (NewSp zs sp w) := by
  have bel : Below w.heap.size w w := Below.refl _ _
  go_enter Try.func20, Try.ntmps20
  go_wp2_with fail
  refine abs_call ?_
  intro W hW
  have szW : w.heap.size + 1 + 1 + 1 ≤ W.heap.size := by rw [hW]; simp [World.setCell]
  have szW_ := bel.size
  replace bel : Below w.heap.size w W := by rw [hW]; exact (((bel).alloc (by first | omega | (simp [World.setCell] <;> omega)) _).alloc (by first | omega | (simp [World.setCell] <;> omega)) _).alloc (by first | omega | (simp [World.setCell] <;> omega)) _
  have p : Box W w.heap.size 34 #[.int .i64 sp, .slice A n c] := by rw [hW]; exact (((Box.newAt (by simp [World.setCell]))).alloc _).alloc _
  have r : Box W (w.heap.size + 1) 26 #[.int .i64 0, .slice none 0 0] := by rw [hW]; exact ((Box.newAt (by simp [World.setCell]))).alloc _
  have q : Box W (w.heap.size + 1 + 1) 26 #[.int .i64 sp, .slice none 0 0] := by rw [hW]; exact (Box.newAt (by simp [World.setCell]))
  clear hW
  refine (toIntS_h A n c zs _ (hA.below bel) hn).mono ?_
  rintro e w1 ⟨A1, n1, c1, rfl, o, b1⟩
  have szw1 := b1.size
  replace bel := bel.trans (b1.mono bel.size)
  replace p := p.kept b1
  replace r := r.kept b1
  replace q := q.kept b1
  clear b1
  obtain ⟨p_0, p_1⟩ := p.c2
  have p_lt := p.lt
  obtain ⟨q_0, q_1⟩ := q.c2
  have q_lt := q.lt
  obtain ⟨r_0, r_1⟩ := r.c2
  have r_lt := r.lt
  have q_f := q.frozen
  have r_f := r.frozen
  go_wp2
  refine abs_body ?_
  intro W9 hW
  clear p_0 p_1 p_lt q_0 q_1 q_lt r_0 r_1 r_lt q_f r_f
  have szW9 : w1.heap.size ≤ W9.heap.size := by rw [hW]; simp [World.setCell]
  have szW9_ := bel.size
  replace bel : Below w.heap.size w W9 := by rw [hW]; exact (((bel).setCell (by dsimp only; omega) _).setCell (by dsimp only; omega) _).setCell (by dsimp only; omega) _
  replace p : Box W9 w.heap.size 34 #[.int .i64 sp, .slice A n c] := by rw [hW]; exact (((p).far (by dsimp only; omega) _).far (by dsimp only; omega) _).far (by dsimp only; omega) _
  replace r : Box W9 (w.heap.size + 1) 26 #[.int .i64 sp, .slice A1 n1 c1] := by rw [hW]; exact (((r).far (by dsimp only; omega) _).set_ 0 _).set_ 1 _
  replace q : Box W9 (w.heap.size + 1 + 1) 26 #[.int .i64 sp, .slice A1 n1 c1] := by rw [hW]; exact (((q).set_ 1 _).far (by dsimp only; omega) _).far (by dsimp only; omega) _
  replace o : OwnH W9 W.heap.size w1.heap.size A1 n1 c1 zs := by rw [hW]; exact (((o).setCell _ _ (by dsimp only; omega)).setCell _ _ (by dsimp only; omega)).setCell _ _ (by dsimp only; omega)
  clear hW
  obtain ⟨z0, z1⟩ := r.c2
  refine bodyPost_ret (v := .agg #[.int .i64 sp, .slice A1 n1 c1]) (by simp [results, Try.results20, go_sem, z0, z1]) rfl ?_
  exact ⟨_, _, _, rfl, o.mono (by omega) (by omega), bel⟩

set_option maxHeartbeats 1000000 in
theorem eqSpare_h (A : Option Addr) (n c : Nat) (B : Option Addr) (m d : Nat) (zs : List Int) (sp : Int) (w : World) (hA : Ints w A n zs) (hB : Ints w B m zs) (hn : n ≤ 1048576) :
    Calls Try.prog 15 #[.agg #[.int .i64 sp, .slice A n c], .agg #[.int .i64 sp, .slice B m d]] w fun e w' => e = .returned (.bool true) ∧ Below w.heap.size w w' := by
  have bel : Below w.heap.size w w := Below.refl _ _
  have ne0 : (sp != sp) = false := by simp
  go_enter Try.func15, Try.ntmps15
  go_wp2_with fail
  refine abs_call ?_
  intro W hW
  have szW : w.heap.size + 1 + 1 ≤ W.heap.size := by rw [hW]; simp [World.setCell]
  have szW_ := bel.size
  replace bel : Below w.heap.size w W := by rw [hW]; exact ((bel).alloc (by first | omega | (simp [World.setCell] <;> omega)) _).alloc (by first | omega | (simp [World.setCell] <;> omega)) _
  have p : Box W w.heap.size 26 #[.int .i64 sp, .slice A n c] := by rw [hW]; exact ((Box.newAt (by simp [World.setCell]))).alloc _
  have r : Box W (w.heap.size + 1) 26 #[.int .i64 sp, .slice B m d] := by rw [hW]; exact (Box.newAt (by simp [World.setCell]))
  clear hW
  refine (eqIntS_h A n c B m d zs _ (hA.below bel) (hB.below bel) hn).mono ?_
  rintro e w1 ⟨rfl, b1⟩
  have szw1 := b1.size
  replace bel := bel.trans (b1.mono bel.size)
  replace p := p.kept b1
  replace r := r.kept b1
  clear b1
  obtain ⟨p_0, p_1⟩ := p.c2
  have p_lt := p.lt
  obtain ⟨r_0, r_1⟩ := r.c2
  have r_lt := r.lt
  go_wp2
  go_ret
  exact ⟨rfl, bel⟩

set_option maxHeartbeats 400000 in
theorem szSpare_y (A : Option Addr) (n c : Nat) (zs : List Int) (sp : Int) (left : Int) (w : World) (h1 : left ≤ 1048576) (hn : (n : Int) ≤ left) :
    Calls Try.prog 18 #[.agg #[.int .i64 sp, .slice A n c], .int .i64 left] w fun e w' => e = .returned (.int .i64 (left - n)) ∧ Below w.heap.size w w' := by
  have bel : Below w.heap.size w w := Below.refl _ _
  have td : decide ((left - (n : Int)) < 0) = false := by simp; omega
  go_enter Try.func18, Try.ntmps18
  go_wp2_with fail
  refine abs_call ?_
  intro W hW
  have szW : w.heap.size + 1 ≤ W.heap.size := by rw [hW]; simp [World.setCell]
  have szW_ := bel.size
  replace bel : Below w.heap.size w W := by rw [hW]; exact (bel).alloc (by first | omega | (simp [World.setCell] <;> omega)) _
  have p : Box W w.heap.size 34 #[.int .i64 sp, .slice A n c] := by rw [hW]; exact (Box.newAt (by simp [World.setCell]))
  clear hW
  refine (szIntS_yes A n c left _ h1 hn).mono ?_
  rintro e w1 ⟨rfl, rfl⟩
  go_wp2
  go_ret
  exact ⟨rfl, bel⟩

set_option maxHeartbeats 400000 in
theorem szSpare_n (A : Option Addr) (n c : Nat) (zs : List Int) (sp : Int) (left : Int) (w : World) (h0 : 0 ≤ left) (h1 : left ≤ 1048576) (hm : n ≤ maxLen) (hn : left < (n : Int)) :
    Calls Try.prog 18 #[.agg #[.int .i64 sp, .slice A n c], .int .i64 left] w fun e w' => e = .returned (.int .i64 (-1)) ∧ Below w.heap.size w w' := by
  have bel : Below w.heap.size w w := Below.refl _ _
  have td : decide ((left - (n : Int)) < 0) = true := by simp; omega
  go_enter Try.func18, Try.ntmps18
  go_wp2_with fail
  refine abs_call ?_
  intro W hW
  have szW : w.heap.size + 1 ≤ W.heap.size := by rw [hW]; simp [World.setCell]
  have szW_ := bel.size
  replace bel : Below w.heap.size w W := by rw [hW]; exact (bel).alloc (by first | omega | (simp [World.setCell] <;> omega)) _
  have p : Box W w.heap.size 34 #[.int .i64 sp, .slice A n c] := by rw [hW]; exact (Box.newAt (by simp [World.setCell]))
  clear hW
  refine (szIntS_no A n c left _ h0 h1 hm hn).mono ?_
  rintro e w1 ⟨rfl, rfl⟩
  go_wp2
  go_ret
  exact ⟨rfl, bel⟩

set_option maxHeartbeats 1000000 in
theorem markSpare_h (A : Option Addr) (n c lo hi : Nat) (zs : List Int) (sp : Int) (k : Int) (w : World) (h : OwnH w lo hi A n c zs) (hn : n ≤ 1048576) (h0 : 0 ≤ k) (hk : k ≤ 100000000) :
    Calls Try.prog 16 #[.agg #[.int .i64 sp, .slice A n c], .int .i64 k] w fun e w' => e = .returned (.int .i64 (k + n)) ∧ OwnH w' lo hi A n c (marks k n) ∧ Chg lo hi w w' := by
  go_enter Try.func16, Try.ntmps16
  go_wp2_with fail
  refine abs_call ?_
  intro W hW
  have b0 : Below w.heap.size w W := by rw [hW]; exact (Below.refl _ _).alloc (Nat.le_refl _) _
  clear hW
  refine (markIntS_h A n c lo hi zs k _ (h.below b0) hn h0 hk).mono ?_
  rintro e w1 ⟨rfl, o1, C1⟩
  go_wp2
  go_ret
  exact ⟨rfl, o1, (Chg.of_below b0).trans C1⟩

set_option maxHeartbeats 1000000 in
theorem heldSpare_h (A : Option Addr) (n c : Nat) (sp : Int) (k : Int) (w : World) (hA : Ints w A n (marks k n)) (hn : n ≤ 1048576) (h0 : 0 ≤ k) (hk : k ≤ 100000000) :
    Calls Try.prog 17 #[.agg #[.int .i64 sp, .slice A n c], .int .i64 k] w fun e w' => e = .returned (.int .i64 (k + n)) ∧ Below w.heap.size w w' := by
  have bel : Below w.heap.size w w := Below.refl _ _
  have td : decide (k + (n : Int) < 0) = false := by simp; omega
  go_enter Try.func17, Try.ntmps17
  go_wp2_with fail
  refine abs_call ?_
  intro W hW
  have szW : w.heap.size + 1 ≤ W.heap.size := by rw [hW]; simp [World.setCell]
  have szW_ := bel.size
  replace bel : Below w.heap.size w W := by rw [hW]; exact (bel).alloc (by first | omega | (simp [World.setCell] <;> omega)) _
  have p : Box W w.heap.size 26 #[.int .i64 sp, .slice A n c] := by rw [hW]; exact (Box.newAt (by simp [World.setCell]))
  clear hW
  refine (heldIntS_h A n c k _ (hA.below bel) hn h0 hk).mono ?_
  rintro e w1 ⟨rfl, b1⟩
  have szw1 := b1.size
  replace bel := bel.trans (b1.mono bel.size)
  replace p := p.kept b1
  clear b1
  go_wp2
  go_ret
  exact ⟨rfl, bel⟩

end Go.Proofs.Ytachkiodmaoemaa
