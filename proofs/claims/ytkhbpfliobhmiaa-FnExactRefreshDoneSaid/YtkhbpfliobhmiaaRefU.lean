/-
  The laws' helpers on refresh states in the one form.
-/
import Derived.Test.YtkhbpfliobhmiaaRef1
import Derived.Test.YtkhbpfliobhmiaaUni
namespace Go.Proofs.Ytkhbpfliobhmiaa
open Go.RowKit
set_option linter.unusedSimpArgs false
set_option linter.unusedVariables false

set_option maxHeartbeats 400000 in
theorem szRefresh_y (A : Option Addr) (n c : Nat) (zs : List Int) (s : Int) (t : Bool) (left : Int) (w : World) (h1 : left ≤ 1048576) (hn : (n : Int) ≤ left) :
    Calls Try.prog 18 #[.agg #[.slice A n c, .int .i64 s, .bool t], .int .i64 left] w fun e w' => e = .returned (.int .i64 (left - n)) ∧ Below w.heap.size w w' := by
  go_enter Try.func18, Try.ntmps18
  go_wp2_with fail
  refine (szIntS_yes A n c _ _ (by omega) (by omega)).mono ?_
  rintro e w' ⟨rfl, rfl⟩
  go_wp2
  go_ret
  exact ⟨rfl, (Below.refl _ _).alloc (Nat.le_refl _) _⟩
set_option maxHeartbeats 400000 in
theorem szRefresh_n (A : Option Addr) (n c : Nat) (zs : List Int) (s : Int) (t : Bool) (left : Int) (w : World) (h0 : 0 ≤ left) (h1 : left ≤ 1048576) (hm : n ≤ maxLen) (hn : left < (n : Int)) :
    Calls Try.prog 18 #[.agg #[.slice A n c, .int .i64 s, .bool t], .int .i64 left] w fun e w' => e = .returned (.int .i64 (-1)) ∧ Below w.heap.size w w' := by
  go_enter Try.func18, Try.ntmps18
  go_wp2_with fail
  refine (szIntS_no A n c _ _ h0 h1 hm hn).mono ?_
  rintro e w' ⟨rfl, rfl⟩
  go_wp2
  go_ret
  exact ⟨rfl, (Below.refl _ _).alloc (Nat.le_refl _) _⟩
theorem toRefresh_h (A : Option Addr) (n c : Nat) (zs : List Int) (s : Int) (t : Bool) (w : World) (hA : Ints w A n zs) (hn : n ≤ 1048576) :
    Calls Try.prog 20 #[.agg #[.slice A n c, .int .i64 s, .bool t]] w (NewR zs s t w) := toRefresh_c A n c zs s t w hA hn
theorem eqRefresh_h (A : Option Addr) (n c : Nat) (A' : Option Addr) (n' c' : Nat) (zs : List Int) (s : Int) (t : Bool) (w : World) (hA : Ints w A n zs) (hA' : Ints w A' n' zs) (hn : n ≤ 1048576) :
    Calls Try.prog 15 #[.agg #[.slice A n c, .int .i64 s, .bool t], .agg #[.slice A' n' c', .int .i64 s, .bool t]] w fun e w' => e = .returned (.bool true) ∧ Below w.heap.size w w' := eqRefresh_c A A' n c n' c' zs s t w hA hA' hn
theorem markRefresh_h (A : Option Addr) (n c lo hi : Nat) (zs : List Int) (s : Int) (t : Bool) (k : Int) (w : World) (h : OwnH w lo hi A n c zs) (hn : n ≤ 1048576) (hk0 : 0 ≤ k) (hk : k ≤ 100000000) :
    Calls Try.prog 16 #[.agg #[.slice A n c, .int .i64 s, .bool t], .int .i64 k] w fun e w' => e = .returned (.int .i64 (k + n)) ∧ OwnH w' lo hi A n c (marks k n) ∧ Chg lo hi w w' := markRefresh_c A n c lo hi zs s t k w h hn hk0 hk
theorem heldRefresh_h (A : Option Addr) (n c : Nat) (s : Int) (t : Bool) (k : Int) (w : World) (hA : Ints w A n (marks k n)) (hn : n ≤ 1048576) (hk0 : 0 ≤ k) (hk : k ≤ 100000000) :
    Calls Try.prog 17 #[.agg #[.slice A n c, .int .i64 s, .bool t], .int .i64 k] w fun e w' => e = .returned (.int .i64 (k + n)) ∧ Below w.heap.size w w' := heldRefresh_c A n c s t k w hA hn hk0 hk
end Go.Proofs.Ytkhbpfliobhmiaa
