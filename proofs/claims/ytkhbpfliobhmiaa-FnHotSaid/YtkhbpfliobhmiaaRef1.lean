/-
  Contracts of the laws' helpers on refresh states.
-/
import Derived.Test.YtkhbpfliobhmiaaCommon
import Derived.Test.YtkhbpfliobhmiaaKit2
namespace Go.Proofs.Ytkhbpfliobhmiaa
open Go.RowKit
set_option linter.unusedSimpArgs false
set_option linter.unusedVariables false

set_option maxHeartbeats 400000 in
theorem szRefresh_yes (A : Option Addr) (n c : Nat) (s : Int) (t : Bool) (w : World) (hn : n ≤ 1048576) :
    Calls Try.prog 18 #[.agg #[.slice A n c, .int .i64 s, .bool t], .int .i64 1048576] w fun e w' => e = .returned (.int .i64 (1048576 - n)) ∧ Below w.heap.size w w' := by
  go_enter Try.func18, Try.ntmps18
  go_wp2_with fail
  refine (szIntS_yes A n c _ _ (by omega) (by omega)).mono ?_
  rintro e w' ⟨rfl, rfl⟩
  go_wp2
  go_ret
  exact ⟨rfl, (Below.refl _ _).alloc (Nat.le_refl _) _⟩
set_option maxHeartbeats 400000 in
theorem szRefresh_no (A : Option Addr) (n c : Nat) (s : Int) (t : Bool) (w : World) (h1 : n ≤ maxLen) (hn : 1048576 < n) :
    Calls Try.prog 18 #[.agg #[.slice A n c, .int .i64 s, .bool t], .int .i64 1048576] w fun e w' => e = .returned (.int .i64 (-1)) ∧ Below w.heap.size w w' := by
  go_enter Try.func18, Try.ntmps18
  go_wp2_with fail
  refine (szIntS_no A n c _ _ (by omega) (by omega) h1 (by omega)).mono ?_
  rintro e w' ⟨rfl, rfl⟩
  go_wp2
  go_ret
  exact ⟨rfl, (Below.refl _ _).alloc (Nat.le_refl _) _⟩

/-- A new refresh state, its row in new memory; all that was there is as it was. -/
def NewR (zs : List Int) (s : Int) (t : Bool) (w : World) (e : Ending) (w' : World) : Prop :=
  ∃ A n c, e = .returned (.agg #[.slice A n c, .int .i64 s, .bool t]) ∧ OwnH w' w.heap.size w'.heap.size A n c zs ∧ Below w.heap.size w w'

set_option maxHeartbeats 1000000 in
theorem toRefresh_c (A : Option Addr) (n c : Nat) (zs : List Int) (s : Int) (t : Bool) (w : World) (hA : Ints w A n zs) (hn : n ≤ 1048576) :
    Calls Try.prog 20 #[.agg #[.slice A n c, .int .i64 s, .bool t]] w (NewR zs s t w) := by
  go_enter Try.func20, Try.ntmps20
  go_wp2_with fail
  refine abs_call ?_
  intro W hW
  have p0 : Box W w.heap.size 30 #[.slice A n c, .int .i64 s, .bool t] := by rw [hW]; exact ((Box.new _ _ _).alloc _).alloc _
  have r0 : Box W (w.heap.size + 1) 24 #[.slice none 0 0, .int .i64 0, .bool false] := by rw [hW]; exact (Box.newAt (by simp)).alloc _
  have q0 : Box W (w.heap.size + 1 + 1) 24 #[.slice none 0 0, .int .i64 0, .bool false] := by rw [hW]; exact Box.newAt (by simp)
  have b0 : Below w.heap.size w W := by rw [hW]; exact (((Below.refl _ _).alloc (Nat.le_refl _) _).alloc (by simp) _).alloc (by simp; omega) _
  have hsz : W.heap.size = w.heap.size + 1 + 1 + 1 := by rw [hW]; simp
  clear hW
  refine (toIntS_c A n c zs _ (hA.below b0) (by omega)).mono ?_
  rintro e w1 ⟨g1, rfl, o1, b1⟩
  have L1 : Hid (∀ k, blk (some ⟨g1, 0, none⟩) n = some k → w.heap.size + 1 + 1 + 1 ≤ k) := fun k hk => by rw [← hsz]; exact (o1.lt k hk).1
  have s1 := b1.size
  have b01 : Below w.heap.size w w1 := b0.trans (b1.mono b0.size)
  have p1 := p0.kept b1
  have r1 := r0.kept b1
  have q1 := q0.kept b1
  have x1 : w.heap.size + 1 < w1.heap.size := r1.lt
  have x2 : w.heap.size + 1 + 1 < w1.heap.size := q1.lt
  have o1 := o1.mono (show w.heap.size ≤ W.heap.size by omega)
  clear b1 b0 p0 r0 q0 s1 hsz
  obtain ⟨-, c1, c2⟩ := p1.c3
  obtain ⟨d0, d1, d2⟩ := r1.c3
  obtain ⟨e0, e1, e2⟩ := q1.c3
  have f1 := r1.frozen
  have f2 := q1.frozen
  have O1 := Lib.hid o1
  have B01 := Lib.hid b01
  have R1 := Lib.hid r1
  clear o1 b01 p1 r1 q1
  go_wp2
  refine abs_body ?_
  intro W' hW'
  have rr : Box W' (w.heap.size + 1) 24 #[.slice (some ⟨g1, 0, none⟩) n n, .int .i64 s, .bool t] := by
    rw [hW']; exact (((((R1.out.far (by simp) _).far (by simp) _).far (by simp) _).set_ 0 _).set_ 1 _).set_ 2 _
  obtain ⟨z1, z2, z3⟩ := rr.c3
  refine bodyPost_ret (v := .agg #[.slice (some ⟨g1, 0, none⟩) n n, .int .i64 s, .bool t]) (by simp [results, Try.results20, go_sem, z1, z2, z3]) rfl ?_
  refine ⟨_, _, _, rfl, OwnH.mk' ?_, ?_⟩
  · rw [hW']
    refine (((((O1.out.setCell _ _ ?_).setCell _ _ ?_).setCell _ _ ?_).setCell _ _ ?_).setCell _ _ ?_).setCell _ _ ?_
    all_goals (intro k hk; have := L1.out k hk; simp; omega)
  · rw [hW']
    refine (((((B01.out.setCell ?_ _).setCell ?_ _).setCell ?_ _).setCell ?_ _).setCell ?_ _).setCell ?_ _
    all_goals (simp; try omega)

set_option maxHeartbeats 1000000 in
theorem eqRefresh_c (A A' : Option Addr) (n c n' c' : Nat) (zs : List Int) (s : Int) (t : Bool) (w : World) (hA : Ints w A n zs) (hA' : Ints w A' n' zs) (hn : n ≤ 1048576) :
    Calls Try.prog 15 #[.agg #[.slice A n c, .int .i64 s, .bool t], .agg #[.slice A' n' c', .int .i64 s, .bool t]] w fun e w' => e = .returned (.bool true) ∧ Below w.heap.size w w' := by
  have hs : (s != s) = false := by simp
  have ht : (t != t) = false := by simp
  go_enter Try.func15, Try.ntmps15
  go_wp2_with fail
  refine abs_call ?_
  intro W hW
  have p0 : Box W w.heap.size 24 #[.slice A n c, .int .i64 s, .bool t] := by rw [hW]; exact (Box.new _ _ _).alloc _
  have r0 : Box W (w.heap.size + 1) 24 #[.slice A' n' c', .int .i64 s, .bool t] := by rw [hW]; exact Box.newAt (by simp)
  have b0 : Below w.heap.size w W := by rw [hW]; exact ((Below.refl _ _).alloc (Nat.le_refl _) _).alloc (by simp) _
  clear hW
  obtain ⟨-, c1, c2⟩ := p0.c3
  obtain ⟨-, d1, d2⟩ := r0.c3
  refine (eqIntS_c A A' n c n' c' zs _ (hA.below b0) (hA'.below b0) hn).mono ?_
  rintro e w' ⟨rfl, k, rfl⟩
  go_wp2
  go_ret
  exact ⟨rfl, belowN b0 _⟩

set_option maxHeartbeats 1000000 in
theorem markRefresh_c (A : Option Addr) (n c lo hi : Nat) (zs : List Int) (s : Int) (t : Bool) (k : Int) (w : World) (h : OwnH w lo hi A n c zs) (hn : n ≤ 1048576) (hk0 : 0 ≤ k) (hk : k ≤ 100000000) :
    Calls Try.prog 16 #[.agg #[.slice A n c, .int .i64 s, .bool t], .int .i64 k] w fun e w' => e = .returned (.int .i64 (k + n)) ∧ OwnH w' lo hi A n c (marks k n) ∧ Chg lo hi w w' := by
  go_enter Try.func16, Try.ntmps16
  go_wp2_with fail
  refine abs_call ?_
  intro W hW
  have b0 : Below w.heap.size w W := by rw [hW]; exact (Below.refl _ _).alloc (Nat.le_refl _) _
  clear hW
  have oA := h.below b0
  refine (markIntS_c A n c lo zs k _ oA.1 (by omega) hk0 (by omega)).mono ?_
  rintro e w1 ⟨rfl, o1, g1⟩
  have C1 : Chg lo hi W w1 := Chg.of_grown g1 (fun j hj => ⟨(oA.1.lt j hj).1, oA.2 j hj⟩)
  go_wp2
  go_ret
  exact ⟨rfl, ⟨o1, h.2⟩, (Chg.of_below b0).trans C1⟩

set_option maxHeartbeats 1000000 in
theorem heldRefresh_c (A : Option Addr) (n c : Nat) (s : Int) (t : Bool) (k : Int) (w : World) (hA : Ints w A n (marks k n)) (hn : n ≤ 1048576) (hk0 : 0 ≤ k) (hk : k ≤ 100000000) :
    Calls Try.prog 17 #[.agg #[.slice A n c, .int .i64 s, .bool t], .int .i64 k] w fun e w' => e = .returned (.int .i64 (k + n)) ∧ Below w.heap.size w w' := by
  go_enter Try.func17, Try.ntmps17
  go_wp2_with fail
  refine abs_call ?_
  intro W hW
  have b0 : Below w.heap.size w W := by rw [hW]; exact (Below.refl _ _).alloc (Nat.le_refl _) _
  clear hW
  refine (heldIntS_c A n c k _ (hA.below b0) (by omega) hk0 (by omega)).mono ?_
  rintro e w' ⟨rfl, rfl⟩
  have t1 : decide (k + (n : Int) < 0) = false := by simp; omega
  go_wp2
  go_ret
  exact ⟨rfl, b0⟩
end Go.Proofs.Ytkhbpfliobhmiaa
