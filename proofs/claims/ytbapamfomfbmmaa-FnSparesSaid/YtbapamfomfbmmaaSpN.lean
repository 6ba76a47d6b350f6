/-
  The plain law of spare rows: different regular rows of a bank are stored in different rows.
-/
import Derived.Test.YtbapamfomfbmmaaSpR
namespace Go.Proofs.Ytbapamfomfbmmaa
open Go.RowKit
set_option linter.unusedSimpArgs false
set_option linter.unusedVariables false

/-- In a valid table no row stands twice in a bank. -/
theorem good_apart {n i j : Nat} {gr v : Int} {zs : List Int} (hn : 0 < n) (hi : goodS n gr zs i = true) (hj : goodS n gr zs j = true) (hij : i < j) (hb : i / n = j / n) (vi : zs[i]? = some v) (vj : zs[j]? = some v) : False := by
  unfold goodS at hi hj
  rw [getD_of vi] at hi
  rw [getD_of vj] at hj
  simp only [Bool.or_eq_true, Bool.and_eq_true, beq_iff_eq, Bool.not_eq_true', decide_eq_false_iff_not] at hi hj
  have mi := Nat.mod_lt i hn
  have mj := Nat.mod_lt j hn
  have di := Nat.div_add_mod i n
  have dj := Nat.div_add_mod j n
  rcases hj with hj | ⟨hj, hj2⟩
  · rcases hi with hi | ⟨hi, -⟩
    · have : i % n = j % n := by omega
      rw [hb, this] at di
      omega
    · have := inB_t hi
      omega
  · apply hj2
    have h0 : j / n * n ≤ i := by rw [← hb]; exact Nat.div_mul_le_self i n
    exact (mem_range_drop (Nat.div_mul_le_self j n)).2 ⟨i, h0, hij, vi⟩
/-- All that the law of spare rows asks. -/
structure Spared (gg gb gr gc s : Int) (zs : List Int) (b n : Nat) : Prop where
  each : ∀ r : Nat, r < n → ∃ y : Int, spStored gg gb gr gc s zs b r = y ∧ 0 ≤ y ∧ y < gr ∧ spRegular gg gb gr gc s zs b y = r
  out : spStored gg gb gr gc s zs b n = -1
theorem spared {gg gb gr gc s : Int} {zs : List Int} {nb n b : Nat} (h : spareOk gg gb gr gc s zs = true) (e1 : bankCnt gg gb gr gc = (nb : Int)) (e2 : gr - s = (n : Int)) (hb : b < nb) : Spared gg gb gr gc s zs b n := by
  obtain ⟨h1, h2, h3⟩ := spareOk_parts h
  have d3 : spB gg gb gr gc = nb := by unfold spB; omega
  have d4 : spN gr s = n := by unfold spN; omega
  rw [d3, d4] at h2
  rw [d4] at h3
  refine ⟨fun r hr => ?_, ?_⟩
  · have i0 : b * n + r < nb * n := row_lt hb hr
    have hl : b * n + r < zs.length := by rw [h2]; exact i0
    obtain ⟨y, hy⟩ : ∃ y, zs[b * n + r]? = some y := ⟨_, List.getElem?_eq_getElem hl⟩
    have hrow := spareOk_rows h y (List.mem_of_getElem? hy)
    have x1 : ((b : Int) * (gr - s) + (r : Int)).toNat = b * n + r := by rw [e2, show (b : Int) * (n : Int) + (r : Int) = ((b * n + r : Nat) : Int) by simp, Int.toNat_natCast]
    refine ⟨y, ?_, hrow.1, hrow.2, ?_⟩
    · unfold spStored
      rw [if_pos (inSp_mk h e1 e2 hb hr), x1]
      exact getD_of hy
    · unfold spRegular
      have h00 : inSp gg gb gr gc s zs (b : Int) 0 = true := by have := inSp_mk (r := 0) h e1 e2 hb (by omega); simpa using this
      rw [if_pos h00, d4, Int.toNat_natCast]
      have hg : (bankRow zs n b)[r]? = some y := by rw [bankRow_get hr]; exact hy
      refine idxI_at (fun hm => ?_) hg
      rw [List.mem_take_iff_getElem] at hm
      obtain ⟨i, hi, ei⟩ := hm
      have hir : i < r := by omega
      have hgi : (bankRow zs n b)[i]? = some y := by rw [List.getElem?_eq_getElem (by omega), ei]
      rw [bankRow_get (by omega)] at hgi
      have q1 := (row_div (b := b) (show i < n by omega)).1
      have q2 := (row_div (b := b) hr).1
      exact good_apart (by omega) (h3 (b * n + i) (by omega)) (h3 (b * n + r) hl) (by omega) (by rw [q1, q2]) hgi hy
  · unfold spStored
    rw [if_neg]
    intro hc
    unfold inSp at hc
    simp only [Bool.and_eq_true] at hc
    have := inB_t hc.2.2
    omega
end Go.Proofs.Ytbapamfomfbmmaa
