/-
  Contracts of TrackCount, in the program and in the reference.
-/
import Derived.Test.YtbapamfomfbmmaaTrk1
namespace Go.Proofs.Ytbapamfomfbmmaa
open Go.RowKit
set_option linter.unusedSimpArgs false
set_option linter.unusedVariables false

/-- The count of a row. -/
def tcount (rs cs : List Int) (s row : Int) : Int := if row ∈ rs ∧ rs.idxOf row < cs.length then cs.getD (rs.idxOf row) 0 else s
theorem tcount_at {rs cs : List Int} {s row y : Int} {k : Nat} (h : row ∉ rs.take k) (hk : rs[k]? = some row) (hy : cs[k]? = some y) : tcount rs cs s row = y := by
  have h1 := idxI_at h hk
  unfold idxI at h1
  rw [if_pos (List.mem_of_getElem? hk)] at h1
  have h2 : rs.idxOf row = k := by omega
  unfold tcount
  rw [h2, if_pos ⟨List.mem_of_getElem? hk, lt_of_get hy⟩, getD_of hy]
theorem tcount_spill {rs cs : List Int} {s row : Int} {k : Nat} (h : row ∉ rs.take k) (hk : rs.length ≤ k ∨ cs.length ≤ k) : tcount rs cs s row = s := by
  unfold tcount
  rw [if_neg]
  rintro ⟨h1, h2⟩
  have h3 := List.idxOf_lt_length_of_mem h1
  apply h
  rw [List.mem_take_iff_getElem]
  exact ⟨rs.idxOf row, by omega, List.getElem_idxOf h3⟩


end Go.Proofs.Ytbapamfomfbmmaa
