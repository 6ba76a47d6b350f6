/-
  States Rank: how they lie in memory, and the contracts of the laws' helpers on them.
-/
import Derived.Test.YtbolpanfgbhbnaaBnk
import Derived.Test.YtbolpanfgbhbnaaUni
namespace Go.Proofs.Ytbolpanfgbhbnaa
open Go.RowKit
set_option linter.unusedSimpArgs false
set_option linter.unusedVariables false

/-- A new state Rank, its row in new memory; all that was there is as it was. -/
def NewRk (ks : List Bnk) (pw : Int) (w : World) (e : Ending) (w' : World) : Prop :=
  ∃ A n c, e = .returned (.agg #[.slice A n c, .int .i64 pw]) ∧ OwnBnk w' w.heap.size w'.heap.size A n c ks ∧ Below w.heap.size w w'
/-- The same and a bool. -/
def NewRkB (ks : List Bnk) (pw : Int) (ok : Bool) (w : World) (e : Ending) (w' : World) : Prop :=
  ∃ A n c, e = .returned (.tuple #[.agg #[.slice A n c, .int .i64 pw], .bool ok]) ∧ OwnBnk w' w.heap.size w'.heap.size A n c ks ∧ Below w.heap.size w w'

set_option maxHeartbeats 1000000 in
theorem toRank_h (A : Option Addr) (n c : Nat) (ks : List Bnk) (pw : Int) (w : World) (hA : Bnks w A n ks) (hn : n ≤ 1048576) :
    Calls Try.prog 29 #[.agg #[.slice A n c, .int .i64 pw]] w (NewRk ks pw w) := by
  have bel : Below w.heap.size w w := Below.refl _ _
  go_enter Try.func29, Try.ntmps29
  go_wp2_with fail
  refine abs_call ?_
  intro W hW
  have szW : w.heap.size + 1 + 1 + 1 ≤ W.heap.size := by rw [hW]; simp [World.setCell]
  have szW_ := bel.size
  replace bel : Below w.heap.size w W := by rw [hW]; exact (((bel).alloc (by first | omega | (simp [World.setCell] <;> omega)) _).alloc (by first | omega | (simp [World.setCell] <;> omega)) _).alloc (by first | omega | (simp [World.setCell] <;> omega)) _
  have p : Box W w.heap.size 44 #[.slice A n c, .int .i64 pw] := by rw [hW]; exact (((Box.newAt (by simp [World.setCell]))).alloc _).alloc _
  have r : Box W (w.heap.size + 1) 53 #[.slice none 0 0, .int .i64 0] := by rw [hW]; exact ((Box.newAt (by simp [World.setCell]))).alloc _
  have q : Box W (w.heap.size + 1 + 1) 53 #[.slice none 0 0, .int .i64 0] := by rw [hW]; exact (Box.newAt (by simp [World.setCell]))
  clear hW
  refine (toBankS_h A n c ks _ (hA.below bel) hn).mono ?_
  rintro e w1 ⟨A1, n1, c1, rfl, o, b1⟩
  have szw1 := b1.size
  replace bel := bel.trans (b1.mono bel.size)
  replace p := p.kept b1
  replace r := r.kept b1
  replace q := q.kept b1
  clear b1
  obtain ⟨p_0, p_1⟩ := p.c2
  have p_lt := p.lt
  obtain ⟨q_0, q_1⟩ := q.c2
  have q_lt := q.lt
  obtain ⟨r_0, r_1⟩ := r.c2
  have r_lt := r.lt
  have q_f := q.frozen
  have r_f := r.frozen
  go_wp2
  refine abs_body ?_
  intro W9 hW
  clear p_0 p_1 p_lt q_0 q_1 q_lt r_0 r_1 r_lt q_f r_f
  have szW9 : w1.heap.size ≤ W9.heap.size := by rw [hW]; simp [World.setCell]
  have szW9_ := bel.size
  replace bel : Below w.heap.size w W9 := by rw [hW]; exact ((((bel).setCell (by dsimp only; omega) _).setCell (by dsimp only; omega) _).setCell (by dsimp only; omega) _).setCell (by dsimp only; omega) _
  replace p : Box W9 w.heap.size 44 #[.slice A n c, .int .i64 pw] := by rw [hW]; exact ((((p).far (by dsimp only; omega) _).far (by dsimp only; omega) _).far (by dsimp only; omega) _).far (by dsimp only; omega) _
  replace r : Box W9 (w.heap.size + 1) 53 #[.slice A1 n1 c1, .int .i64 pw] := by rw [hW]; exact ((((r).far (by dsimp only; omega) _).far (by dsimp only; omega) _).set_ 0 _).set_ 1 _
  replace q : Box W9 (w.heap.size + 1 + 1) 53 #[.slice A1 n1 c1, .int .i64 pw] := by rw [hW]; exact ((((q).set_ 0 _).set_ 1 _).far (by dsimp only; omega) _).far (by dsimp only; omega) _
  replace o : OwnBnk W9 W.heap.size w1.heap.size A1 n1 c1 ks := by rw [hW]; exact ((((o).setCell _ _ (by dsimp only; omega)).setCell _ _ (by dsimp only; omega)).setCell _ _ (by dsimp only; omega)).setCell _ _ (by dsimp only; omega)
  clear hW
  obtain ⟨z0, z1⟩ := r.c2
  refine bodyPost_ret (v := .agg #[.slice A1 n1 c1, .int .i64 pw]) (by simp [results, Try.results29, go_sem, z0, z1]) rfl ?_
  exact ⟨_, _, _, rfl, o.mono (by omega) (by omega), bel⟩

set_option maxHeartbeats 1000000 in
theorem eqRank_h (A : Option Addr) (n c : Nat) (B : Option Addr) (m d : Nat) (ks : List Bnk) (pw : Int) (w : World) (hA : Bnks w A n ks) (hB : Bnks w B m ks) (hn : n ≤ 1048576) :
    Calls Try.prog 33 #[.agg #[.slice A n c, .int .i64 pw], .agg #[.slice B m d, .int .i64 pw]] w fun e w' => e = .returned (.bool true) ∧ Below w.heap.size w w' := by
  have bel : Below w.heap.size w w := Below.refl _ _
  have ne0 : (pw != pw) = false := by simp
  go_enter Try.func33, Try.ntmps33
  go_wp2_with fail
  refine abs_call ?_
  intro W hW
  have szW : w.heap.size + 1 + 1 ≤ W.heap.size := by rw [hW]; simp [World.setCell]
  have szW_ := bel.size
  replace bel : Below w.heap.size w W := by rw [hW]; exact ((bel).alloc (by first | omega | (simp [World.setCell] <;> omega)) _).alloc (by first | omega | (simp [World.setCell] <;> omega)) _
  have p : Box W w.heap.size 53 #[.slice A n c, .int .i64 pw] := by rw [hW]; exact ((Box.newAt (by simp [World.setCell]))).alloc _
  have r : Box W (w.heap.size + 1) 53 #[.slice B m d, .int .i64 pw] := by rw [hW]; exact (Box.newAt (by simp [World.setCell]))
  clear hW
  refine (eqBankS_h A n c B m d ks _ (hA.below bel) (hB.below bel) hn).mono ?_
  rintro e w1 ⟨rfl, b1⟩
  have szw1 := b1.size
  replace bel := bel.trans (b1.mono bel.size)
  replace p := p.kept b1
  replace r := r.kept b1
  clear b1
  obtain ⟨p_0, p_1⟩ := p.c2
  have p_lt := p.lt
  obtain ⟨r_0, r_1⟩ := r.c2
  have r_lt := r.lt
  go_wp2
  go_ret
  exact ⟨rfl, bel⟩

set_option maxHeartbeats 400000 in
theorem szRank_y (A : Option Addr) (n c : Nat) (ks : List Bnk) (pw : Int) (left : Int) (w : World) (h1 : left ≤ 1048576) (hn : (n : Int) ≤ left) :
    Calls Try.prog 27 #[.agg #[.slice A n c, .int .i64 pw], .int .i64 left] w fun e w' => e = .returned (.int .i64 (left - n)) ∧ Below w.heap.size w w' := by
  have bel : Below w.heap.size w w := Below.refl _ _
  have td : decide ((left - (n : Int)) < 0) = false := by simp; omega
  go_enter Try.func27, Try.ntmps27
  go_wp2_with fail
  refine abs_call ?_
  intro W hW
  have szW : w.heap.size + 1 ≤ W.heap.size := by rw [hW]; simp [World.setCell]
  have szW_ := bel.size
  replace bel : Below w.heap.size w W := by rw [hW]; exact (bel).alloc (by first | omega | (simp [World.setCell] <;> omega)) _
  have p : Box W w.heap.size 44 #[.slice A n c, .int .i64 pw] := by rw [hW]; exact (Box.newAt (by simp [World.setCell]))
  clear hW
  refine (szBankS_y A n c left _ h1 hn).mono ?_
  rintro e w1 ⟨rfl, b1⟩
  have szw1 := b1.size
  replace bel := bel.trans (b1.mono bel.size)
  replace p := p.kept b1
  clear b1
  go_wp2
  go_ret
  exact ⟨rfl, bel⟩

set_option maxHeartbeats 400000 in
theorem szRank_n (A : Option Addr) (n c : Nat) (ks : List Bnk) (pw : Int) (left : Int) (w : World) (h0 : 0 ≤ left) (h1 : left ≤ 1048576) (hm : n ≤ maxLen) (hn : left < (n : Int)) :
    Calls Try.prog 27 #[.agg #[.slice A n c, .int .i64 pw], .int .i64 left] w fun e w' => e = .returned (.int .i64 (-1)) ∧ Below w.heap.size w w' := by
  have bel : Below w.heap.size w w := Below.refl _ _
  have td : decide ((left - (n : Int)) < 0) = true := by simp; omega
  go_enter Try.func27, Try.ntmps27
  go_wp2_with fail
  refine abs_call ?_
  intro W hW
  have szW : w.heap.size + 1 ≤ W.heap.size := by rw [hW]; simp [World.setCell]
  have szW_ := bel.size
  replace bel : Below w.heap.size w W := by rw [hW]; exact (bel).alloc (by first | omega | (simp [World.setCell] <;> omega)) _
  have p : Box W w.heap.size 44 #[.slice A n c, .int .i64 pw] := by rw [hW]; exact (Box.newAt (by simp [World.setCell]))
  clear hW
  refine (szBankS_n A n c left _ h0 h1 hm hn).mono ?_
  rintro e w1 ⟨rfl, b1⟩
  have szw1 := b1.size
  replace bel := bel.trans (b1.mono bel.size)
  replace p := p.kept b1
  clear b1
  go_wp2
  go_ret
  exact ⟨rfl, bel⟩

end Go.Proofs.Ytbolpanfgbhbnaa
