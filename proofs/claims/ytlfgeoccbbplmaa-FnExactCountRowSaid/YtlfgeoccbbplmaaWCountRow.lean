/-
  The walk of FnExactCountRow.
-/
import Derived.Test.YtlfgeoccbbplmaaPat1
import Derived.Test.YtlfgeoccbbplmaaOpen
namespace Go.Proofs.Ytlfgeoccbbplmaa
open Go.RowKit
set_option linter.unusedSimpArgs false
set_option linter.unusedVariables false

set_option maxHeartbeats 400000 in
theorem fnExactCountRow_walk (A : Option Addr) (n c : Nat) (zs : List Int) (r : Int) (w : World) (h : Ints w A n zs) (hm : n ≤ maxLen) (hi : ∀ z ∈ zs, I64 z) (hr : I64 r) :
    Calls Try.prog 4 #[.slice A n c, .int .i64 r] w fun e w' => e = .returned (.bool true) ∧ Below w.heap.size w w' := by
  unfold maxLen at hm
  clear hi hr
  by_cases hb : 1048576 < n
  · go_enter Try.func4, Try.ntmps4
    go_wp2
    go_ret
    exact ⟨rfl, Below.refl _ _⟩
  · have ht : (cnt zs r != cnt zs r) = false := by simp
    go_enter Try.func4, Try.ntmps4
    go_wp2_with fail
    refine (toIntS_c A n c zs _ h (by omega)).mono ?_
    rintro e w1 ⟨g1, rfl, o1, b1⟩
    go_wp2_with fail
    refine (sCountRow_c _ n n zs r _ o1.ints (by omega)).mono ?_
    rintro e w' ⟨rfl, rfl⟩
    go_wp2_with fail
    refine (toIntS_c A n c zs _ (h.below b1) (by omega)).mono ?_
    rintro e w2 ⟨g2, rfl, o2, b2⟩
    have b12 : Below w.heap.size w w2 := b1.trans (b2.mono b1.size)
    go_wp2_with fail
    refine (iCountRow_c _ n n zs r _ o2.ints (by omega)).mono ?_
    rintro e w' ⟨rfl, rfl⟩
    go_wp2_with fail
    refine (toIntS_c A n c zs _ (h.below b12) (by omega)).mono ?_
    rintro e w3 ⟨g3, rfl, o3, b3⟩
    have b13 : Below w.heap.size w w3 := b12.trans (b3.mono b12.size)
    go_wp2_with fail
    refine (eqIntS_c _ _ n n n n zs _ (o2.below b3).ints o3.ints (by omega)).mono ?_
    rintro e w' ⟨rfl, k, rfl⟩
    go_wp2
    go_ret
    exact ⟨rfl, belowN b13 _⟩
end Go.Proofs.Ytlfgeoccbbplmaa
