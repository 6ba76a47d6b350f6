/-
  The walks of FnExactGuardBound, FnExactPatternOk and FnExactNeighbors.
-/
import Derived.Test.YtlfgeoccbbplmaaPat3
import Derived.Test.YtlfgeoccbbplmaaOpen
namespace Go.Proofs.Ytlfgeoccbbplmaa
open Go.RowKit
set_option linter.unusedSimpArgs false
set_option linter.unusedVariables false

/-- 2 * limit + 2 within the limits. -/
def guardB (limit : Int) : Int := if inB limit 3 1000 = true then 2 * limit + 2 else 0
set_option maxHeartbeats 400000 in
theorem iGuardBound_c (l : Int) (w : World) : Calls Try.prog 16 #[.int .i64 l] w fun e w' => e = .returned (.int .i64 (guardB l)) ∧ w = w' := by
  by_cases hr : inB l 3 1000 = true
  · obtain ⟨r1, r2⟩ := inB_t hr
    have HG : Hid (guardB l = 2 * l + 2) := by unfold Hid guardB; rw [if_pos hr]
    go_enter Try.func16, Try.ntmps16
    go_wp2_with (go_at_call 50; refine (between_c _ _ _ _).mono ?_; rintro e w' ⟨rfl, rfl⟩)
    go_ret
    exact ⟨ret_int HG.out.symm, rfl⟩
  · have HG : Hid (guardB l = 0) := by unfold Hid guardB; rw [if_neg hr]
    have hr' : inB l 3 1000 = false := by simpa using hr
    clear hr
    go_enter Try.func16, Try.ntmps16
    go_wp2_with (go_at_call 50; refine (between_c _ _ _ _).mono ?_; rintro e w' ⟨rfl, rfl⟩)
    go_ret
    exact ⟨ret_int HG.out.symm, rfl⟩
set_option maxHeartbeats 400000 in
theorem sGuardBound_c (l : Int) (w : World) : Calls Try.prog 15 #[.int .i64 l] w fun e w' => e = .returned (.int .i64 (guardB l)) ∧ w = w' := by
  by_cases hr : inB l 3 1000 = true
  · obtain ⟨r1, r2⟩ := inB_t hr
    have HG : Hid (guardB l = 2 * l + 2) := by unfold Hid guardB; rw [if_pos hr]
    go_enter Try.func15, Try.ntmps15
    go_wp2_with (go_at_call 49; refine (in_c _ _ _ _).mono ?_; rintro e w' ⟨rfl, rfl⟩)
    go_ret
    exact ⟨ret_int HG.out.symm, rfl⟩
  · have HG : Hid (guardB l = 0) := by unfold Hid guardB; rw [if_neg hr]
    have hr' : inB l 3 1000 = false := by simpa using hr
    clear hr
    go_enter Try.func15, Try.ntmps15
    go_wp2_with (go_at_call 49; refine (in_c _ _ _ _).mono ?_; rintro e w' ⟨rfl, rfl⟩)
    go_ret
    exact ⟨ret_int HG.out.symm, rfl⟩
set_option maxHeartbeats 400000 in
theorem fnExactGuardBound_walk (l : Int) (w : World) (hl : I64 l) :
    Calls Try.prog 3 #[.int .i64 l] w fun e w' => e = .returned (.bool true) ∧ Below w.heap.size w w' := by
  clear hl
  have ht : (guardB l != guardB l) = false := by simp
  go_enter Try.func3, Try.ntmps3
  go_wp2_with (first | (go_at_call 15; refine (sGuardBound_c _ _).mono ?_; rintro e w' ⟨rfl, rfl⟩) | (go_at_call 16; refine (iGuardBound_c _ _).mono ?_; rintro e w' ⟨rfl, rfl⟩))
  go_ret
  exact ⟨rfl, Below.refl _ _⟩

set_option maxHeartbeats 400000 in
theorem fnExactPatternOk_walk (r : Int) (A : Option Addr) (n c : Nat) (zs : List Int) (w : World) (hr : I64 r) (h : Ints w A n zs) (hm : n ≤ maxLen) (hi : ∀ z ∈ zs, I64 z) :
    Calls Try.prog 5 #[.int .i64 r, .slice A n c] w fun e w' => e = .returned (.bool true) ∧ Below w.heap.size w w' := by
  unfold maxLen at hm
  clear hi hr
  by_cases hb : 1048576 < n
  · go_enter Try.func5, Try.ntmps5
    go_wp2
    go_ret
    exact ⟨rfl, Below.refl _ _⟩
  · have ht : (patOk r zs != patOk r zs) = false := by simp
    go_enter Try.func5, Try.ntmps5
    go_wp2_with fail
    refine (toIntS_c A n c zs _ h (by omega)).mono ?_
    rintro e w1 ⟨g1, rfl, o1, b1⟩
    go_wp2_with fail
    refine (sPatternOk_c _ n n zs r _ o1.ints (by omega)).mono ?_
    rintro e w' ⟨rfl, rfl⟩
    go_wp2_with fail
    refine (toIntS_c A n c zs _ (h.below b1) (by omega)).mono ?_
    rintro e w2 ⟨g2, rfl, o2, b2⟩
    have b12 : Below w.heap.size w w2 := b1.trans (b2.mono b1.size)
    go_wp2_with fail
    refine (iPatternOk_c _ n n zs r _ o2.ints (by omega)).mono ?_
    rintro e w' ⟨rfl, rfl⟩
    go_wp2_with fail
    refine (toIntS_c A n c zs _ (h.below b12) (by omega)).mono ?_
    rintro e w3 ⟨g3, rfl, o3, b3⟩
    have b13 : Below w.heap.size w w3 := b12.trans (b3.mono b12.size)
    go_wp2_with fail
    refine (eqIntS_c _ _ n n n n zs _ (o2.below b3).ints o3.ints (by omega)).mono ?_
    rintro e w' ⟨rfl, k, rfl⟩
    go_wp2
    go_ret
    exact ⟨rfl, belowN b13 _⟩

set_option maxHeartbeats 400000 in
theorem fnExactNeighbors_walk (rows row : Int) (w : World) (h1 : I64 rows) (h2 : I64 row) :
    Calls Try.prog 6 #[.int .i64 rows, .int .i64 row] w fun e w' => e = .returned (.bool true) ∧ Below w.heap.size w w' := by
  clear h1 h2
  have hlen := nears_len rows row
  go_enter Try.func6, Try.ntmps6
  go_wp2_with fail
  refine (sNeighbors_c rows row _).mono ?_
  rintro e w1 ⟨A1, n1, c1, rfl, o1, b1⟩
  have hm1 : n1 ≤ 2 := by have := o1.len; omega
  go_wp2_with fail
  refine (iNeighbors_c rows row _).mono ?_
  rintro e w2 ⟨A2, n2, c2, rfl, o2, b2⟩
  have b12 : Below w.heap.size w w2 := b1.trans (b2.mono b1.size)
  have hm2 : n2 ≤ 2 := by have := o2.len; omega
  go_wp2_with fail
  refine (eqIntS_c A2 A1 n2 c2 n1 c1 _ _ o2.ints (o1.below b2).ints (by omega)).mono ?_
  rintro e w' ⟨rfl, k, rfl⟩
  go_wp2_with fail
  refine (markIntS_c A2 n2 c2 w1.heap.size _ 1 _ (o2.drewN k) (by omega) (by omega) (by omega)).mono ?_
  rintro e w3 ⟨rfl, o3, g3⟩
  go_wp2_with fail
  refine (heldIntS_c A2 n2 c2 1 _ o3.ints (by omega) (by omega) (by omega)).mono ?_
  rintro e w' ⟨rfl, rfl⟩
  have ht : ((1 + (n2 : Int)) != (1 + (n2 : Int))) = false := by simp
  have hlt : decide ((1 + (n2 : Int)) < 0) = false := by simp; omega
  have b13 : Below w.heap.size w w3 := (belowN b12 k).grown g3 b12.size (fun j hj => Nat.le_trans b1.size (o2.lt j hj).1)
  have o1' : OwnI w3 w.heap.size A1 n1 c1 (nears rows row) := ((o1.below b2).drewN k).kept g3 (fun j hj e => by have := (o1.lt j hj).2; have := (o2.lt j e.symm).1; omega)
  go_wp2_with fail
  refine (iNeighbors_c rows row _).mono ?_
  rintro e w4 ⟨A4, n4, c4, rfl, o4, b4⟩
  have hm4 : n4 ≤ 2 := by have := o4.len; omega
  go_wp2_with fail
  refine (eqIntS_c A4 A1 n4 c4 n1 c1 _ _ o4.ints (o1'.below b4).ints (by omega)).mono ?_
  rintro e w' ⟨rfl, k', rfl⟩
  go_wp2_with fail
  refine (heldIntS_c A2 n2 c2 1 _ ((o3.below b4).drewN k').ints (by omega) (by omega) (by omega)).mono ?_
  rintro e w' ⟨rfl, rfl⟩
  go_wp2
  go_ret
  exact ⟨rfl, belowN (b13.trans (b4.mono b13.size)) _⟩
end Go.Proofs.Ytlfgeoccbbplmaa
