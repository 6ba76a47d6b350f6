/-
  A drawn place's cell.
-/
import Derived.Test.YtbapamfomfbmmaaDraw
namespace Go.Proofs.Ytbapamfomfbmmaa
open Go.RowKit
set_option linter.unusedSimpArgs false
set_option linter.unusedVariables false

theorem place_cell {w : World} {lo hi g n c k : Nat} {p : List Int} {z : Int} (o : OwnH w lo hi (some ⟨g, 0, none⟩) n c p) (hk : k < n) (hz : p[k]? = some z) : w.cell? ⟨g, k, none⟩ = some (.int .i64 z) := by
  obtain ⟨g', x, e, hc, -, hx, -, -⟩ := o.at_ hk
  injection e with e
  injection e with e
  subst e
  have := hx.out.symm.trans hz
  injection this with this
  rw [← this]; exact hc
/-- A remainder as a natural number, however it is spelled. -/
theorem rem_nat {z : Int} {n : Nat} (hz : 0 ≤ z) (hn : 0 < n) : ∃ b : Nat, b < n ∧ z % (n : Int) = (b : Int) ∧ z.tmod (n : Int) = (b : Int) := by
  have h1 := Int.emod_nonneg z (show (n : Int) ≠ 0 by omega)
  have h2 := Int.emod_lt_of_pos z (show 0 < (n : Int) by omega)
  obtain ⟨b, hb⟩ := Int.eq_ofNat_of_zero_le h1
  exact ⟨b, by omega, hb, by rw [Int.tmod_eq_emod_of_nonneg hz]; exact hb⟩
end Go.Proofs.Ytbapamfomfbmmaa
