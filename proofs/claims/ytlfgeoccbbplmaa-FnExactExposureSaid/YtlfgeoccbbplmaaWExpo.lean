/-
  The walks of FnExactExposure and FnExactWorstExposure.
-/
import Derived.Test.YtlfgeoccbbplmaaExpo
import Derived.Test.YtlfgeoccbbplmaaOpen
namespace Go.Proofs.Ytlfgeoccbbplmaa
open Go.RowKit
set_option linter.unusedSimpArgs false
set_option linter.unusedVariables false

set_option maxHeartbeats 400000 in
theorem fnExactExposure_walk (rows : Int) (A : Option Addr) (n c : Nat) (zs : List Int) (row : Int) (w : World) (hr : I64 rows) (h : Ints w A n zs) (hm : n ≤ maxLen) (hi : ∀ z ∈ zs, I64 z) (hw : I64 row) :
    Calls Try.prog 7 #[.int .i64 rows, .slice A n c, .int .i64 row] w fun e w' => e = .returned (.bool true) ∧ Below w.heap.size w w' := by
  unfold maxLen at hm
  clear hr hi hw
  by_cases hb : 1048576 < n
  · go_enter Try.func7, Try.ntmps7
    go_wp2
    go_ret
    exact ⟨rfl, Below.refl _ _⟩
  · have ht : (expo rows zs row != expo rows zs row) = false := by simp
    go_enter Try.func7, Try.ntmps7
    go_wp2_with fail
    refine (toIntS_c A n c zs _ h (by omega)).mono ?_
    rintro e w1 ⟨g1, rfl, o1, b1⟩
    go_wp2_with fail
    refine (sExposure_c rows _ n n zs row _ o1.ints (by omega)).mono ?_
    rintro e w2 ⟨rfl, b2⟩
    have b02 : Below w.heap.size w w2 := b1.trans (b2.mono b1.size)
    go_wp2_with fail
    refine (toIntS_c A n c zs _ (h.below b02) (by omega)).mono ?_
    rintro e w3 ⟨g3, rfl, o3, b3⟩
    have b03 : Below w.heap.size w w3 := b02.trans (b3.mono b02.size)
    go_wp2_with fail
    refine (iExposure_c rows _ n n zs row _ o3.ints (by omega)).mono ?_
    rintro e w4 ⟨rfl, b4⟩
    have b04 : Below w.heap.size w w4 := b03.trans (b4.mono b03.size)
    go_wp2_with fail
    refine (toIntS_c A n c zs _ (h.below b04) (by omega)).mono ?_
    rintro e w5 ⟨g5, rfl, o5, b5⟩
    have b05 : Below w.heap.size w w5 := b04.trans (b5.mono b04.size)
    go_wp2_with fail
    refine (eqIntS_c _ _ n n n n zs _ ((o3.below b4).below b5).ints o5.ints (by omega)).mono ?_
    rintro e w' ⟨rfl, k, rfl⟩
    go_wp2
    go_ret
    exact ⟨rfl, belowN b05 _⟩

set_option maxHeartbeats 400000 in
theorem fnExactWorstExposure_walk (rows : Int) (A : Option Addr) (n c : Nat) (zs : List Int) (w : World) (hr : I64 rows) (h : Ints w A n zs) (hm : n ≤ maxLen) (hi : ∀ z ∈ zs, I64 z) :
    Calls Try.prog 8 #[.int .i64 rows, .slice A n c] w fun e w' => e = .returned (.bool true) ∧ Below w.heap.size w w' := by
  unfold maxLen at hm
  clear hr hi
  by_cases hb : 1048576 < n
  · go_enter Try.func8, Try.ntmps8
    go_wp2
    go_ret
    exact ⟨rfl, Below.refl _ _⟩
  · have ht : (worst rows zs != worst rows zs) = false := by simp
    go_enter Try.func8, Try.ntmps8
    go_wp2_with fail
    refine (toIntS_c A n c zs _ h (by omega)).mono ?_
    rintro e w1 ⟨g1, rfl, o1, b1⟩
    go_wp2_with fail
    refine (sWorstExposure_c rows _ n n zs _ o1.ints (by omega)).mono ?_
    rintro e w2 ⟨rfl, b2⟩
    have b02 : Below w.heap.size w w2 := b1.trans (b2.mono b1.size)
    go_wp2_with fail
    refine (toIntS_c A n c zs _ (h.below b02) (by omega)).mono ?_
    rintro e w3 ⟨g3, rfl, o3, b3⟩
    have b03 : Below w.heap.size w w3 := b02.trans (b3.mono b02.size)
    go_wp2_with fail
    refine (iWorstExposure_c rows _ n n zs _ o3.ints (by omega)).mono ?_
    rintro e w4 ⟨rfl, b4⟩
    have b04 : Below w.heap.size w w4 := b03.trans (b4.mono b03.size)
    go_wp2_with fail
    refine (toIntS_c A n c zs _ (h.below b04) (by omega)).mono ?_
    rintro e w5 ⟨g5, rfl, o5, b5⟩
    have b05 : Below w.heap.size w w5 := b04.trans (b5.mono b04.size)
    go_wp2_with fail
    refine (eqIntS_c _ _ n n n n zs _ ((o3.below b4).below b5).ints o5.ints (by omega)).mono ?_
    rintro e w' ⟨rfl, k, rfl⟩
    go_wp2
    go_ret
    exact ⟨rfl, belowN b05 _⟩
end Go.Proofs.Ytlfgeoccbbplmaa
