/-
  Contracts of TrackCount, in the program and in the reference.
-/
import Derived.Test.YtbcbgdomjefdhaaTrk1
namespace Go.Proofs.Ytbcbgdomjefdhaa
open Go.RowKit
set_option linter.unusedSimpArgs false
set_option linter.unusedVariables false

/-- The count of a row. -/
def tcount (rs cs : List Int) (s row : Int) : Int := if row ∈ rs ∧ rs.idxOf row < cs.length then cs.getD (rs.idxOf row) 0 else s
theorem tcount_at {rs cs : List Int} {s row y : Int} {k : Nat} (h : row ∉ rs.take k) (hk : rs[k]? = some row) (hy : cs[k]? = some y) : tcount rs cs s row = y := by
  have h1 := idxI_at h hk
  unfold idxI at h1
  rw [if_pos (List.mem_of_getElem? hk)] at h1
  have h2 : rs.idxOf row = k := by omega
  unfold tcount
  rw [h2, if_pos ⟨List.mem_of_getElem? hk, lt_of_get hy⟩, getD_of hy]
theorem tcount_spill {rs cs : List Int} {s row : Int} {k : Nat} (h : row ∉ rs.take k) (hk : rs.length ≤ k ∨ cs.length ≤ k) : tcount rs cs s row = s := by
  unfold tcount
  rw [if_neg]
  rintro ⟨h1, h2⟩
  have h3 := List.idxOf_lt_length_of_mem h1
  apply h
  rw [List.mem_take_iff_getElem]
  exact ⟨rs.idxOf row, by omega, List.getElem_idxOf h3⟩

set_option maxHeartbeats 1000000 in
theorem iTrackCount_c (A B : Option Addr) (n c m d : Nat) (rs cs : List Int) (s row : Int) (w : World) (hA : Ints w A n rs) (hB : Ints w B m cs) (hn : n ≤ 1048576) (hm : m ≤ 1048576) :
    Calls Try.prog 66 #[.agg #[.slice A n c, .slice B m d, .int .i64 s], .int .i64 row] w fun e w' => e = .returned (.int .i64 (tcount rs cs s row)) ∧ Below w.heap.size w w' := by
  have HA := Lib.hid hA.1
  have HB := Lib.hid hB.1
  go_enter Try.func66, Try.ntmps66
  go_wp2_with fail
  refine abs_call ?_
  intro W hW
  have p0 : Box W w.heap.size 75 #[.slice A n c, .slice B m d, .int .i64 s] := by rw [hW]; exact Box.new _ _ _
  have b0 : Below w.heap.size w W := by rw [hW]; exact (Below.refl _ _).alloc (Nat.le_refl _) _
  clear hW
  obtain ⟨-, c1, c2⟩ := p0.c3
  refine (index_c A n c rs row _ (hA.below b0) hn).mono ?_
  rintro e w' ⟨rfl, rfl⟩
  by_cases hmem : row ∈ rs
  · obtain ⟨k, hk⟩ : ∃ k : Nat, k = rs.idxOf row := ⟨_, rfl⟩
    have hkl := List.idxOf_lt_length_of_mem hmem
    have hget : rs[k]? = some row := by rw [hk, List.getElem?_eq_getElem hkl, List.getElem_idxOf hkl]
    have hI : idxI rs row = k := by unfold idxI; rw [if_pos hmem, hk]
    have hT : Hid (tcount rs cs s row = if k < m then cs.getD k 0 else s) := by
      unfold Hid tcount; rw [← hk, HB.out]; simp [hmem]
    rw [hI]
    clear hI hk hkl hmem
    have t1 : decide ((k : Int) < 0) = false := by simp <;> omega
    by_cases hkm : k < m
    · obtain ⟨g, o, y, rfl, hc, hy⟩ := (hB.below b0).at_ hkm
      have t2 : decide ((m : Int) ≤ (k : Int)) = false := by simp <;> omega
      go_wp2
      go_ret
      exact ⟨ret_int (by rw [hT.out, if_pos hkm, getD_of hy.out]), b0⟩
    · have t2 : decide ((m : Int) ≤ (k : Int)) = true := by simp <;> omega
      go_wp2
      go_ret
      exact ⟨ret_int (by rw [hT.out, if_neg hkm]), b0⟩
  · rw [idxI_none hmem]
    have hT : Hid (tcount rs cs s row = s) := by unfold Hid tcount; rw [if_neg (fun h => hmem h.1)]
    clear hmem
    go_wp2
    go_ret
    exact ⟨ret_int hT.out.symm, b0⟩

end Go.Proofs.Ytbcbgdomjefdhaa
