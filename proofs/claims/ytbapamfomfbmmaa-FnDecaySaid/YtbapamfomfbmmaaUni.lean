/-
  The helpers' contracts in one form for all types: memory letters, then data, then the world.
-/
import Derived.Test.YtbapamfomfbmmaaCommon
import Derived.Test.YtbapamfomfbmmaaKit2
namespace Go.Proofs.Ytbapamfomfbmmaa
open Go.RowKit
set_option linter.unusedSimpArgs false
set_option linter.unusedVariables false

/-- A new slice of integers, in new memory; all that was there is as it was. -/
def NewL (zs : List Int) (w : World) (e : Ending) (w' : World) : Prop :=
  ∃ A n c, e = .returned (.slice A n c) ∧ OwnH w' w.heap.size w'.heap.size A n c zs ∧ Below w.heap.size w w'

theorem toIntS_h (A : Option Addr) (n c : Nat) (zs : List Int) (w : World) (h : Ints w A n zs) (hn : n ≤ 1048576) :
    Calls Try.prog 41 #[.slice A n c] w (NewL zs w) := by
  refine (toIntS_c A n c zs w h hn).mono ?_
  rintro e w' ⟨g, rfl, o, b⟩
  exact ⟨_, _, _, rfl, OwnH.mk' o, b⟩
theorem eqIntS_h (A : Option Addr) (n c : Nat) (B : Option Addr) (m d : Nat) (zs : List Int) (w : World) (h : Ints w A n zs) (h' : Ints w B m zs) (hn : n ≤ 1048576) :
    Calls Try.prog 43 #[.slice A n c, .slice B m d] w fun e w' => e = .returned (.bool true) ∧ Below w.heap.size w w' := by
  refine (eqIntS_c A B n c m d zs w h h' hn).mono ?_
  rintro e w' ⟨rfl, k, rfl⟩
  exact ⟨rfl, belowN (Below.refl _ _) _⟩
theorem markIntS_h (A : Option Addr) (n c lo hi : Nat) (zs : List Int) (k : Int) (w : World) (h : OwnH w lo hi A n c zs) (hn : n ≤ 1048576) (h0 : 0 ≤ k) (hk : k ≤ 100000000) :
    Calls Try.prog 44 #[.slice A n c, .int .i64 k] w fun e w' => e = .returned (.int .i64 (k + n)) ∧ OwnH w' lo hi A n c (marks k n) ∧ Chg lo hi w w' := by
  refine (markIntS_c A n c lo zs k w h.1 hn h0 (by omega)).mono ?_
  rintro e w' ⟨rfl, o, g⟩
  exact ⟨rfl, ⟨o, h.2⟩, Chg.of_grown g (fun j hj => ⟨(h.1.lt j hj).1, h.2 j hj⟩)⟩
theorem heldIntS_h (A : Option Addr) (n c : Nat) (k : Int) (w : World) (h : Ints w A n (marks k n)) (hn : n ≤ 1048576) (h0 : 0 ≤ k) (hk : k ≤ 100000000) :
    Calls Try.prog 45 #[.slice A n c, .int .i64 k] w fun e w' => e = .returned (.int .i64 (k + n)) ∧ Below w.heap.size w w' := by
  refine (heldIntS_c A n c k w h hn h0 (by omega)).mono ?_
  rintro e w' ⟨rfl, rfl⟩
  exact ⟨rfl, Below.refl _ _⟩
end Go.Proofs.Ytbapamfomfbmmaa
