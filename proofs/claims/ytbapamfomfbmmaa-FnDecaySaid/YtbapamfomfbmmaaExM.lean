/-
  Plain laws of exposures: bounded by the neighbors' counts, growing with the pattern, at most the worst; at most 2 where the row is refreshed.
-/
import Derived.Test.YtbapamfomfbmmaaExpo
namespace Go.Proofs.Ytbapamfomfbmmaa
open Go.RowKit
set_option linter.unusedSimpArgs false
set_option linter.unusedVariables false

def sumC (near zs : List Int) : Int := (near.map (cnt zs)).sum
theorem cnt_snoc (zs : List Int) (x r : Int) : cnt (zs ++ [x]) r = cnt zs r + (if x = r then 1 else 0) := by
  unfold cnt
  rw [List.count_append, List.count_singleton]
  by_cases h : x = r
  · subst h; simp
  · simp [h]
theorem cnt_cons (zs : List Int) (x r : Int) : cnt (x :: zs) r = cnt zs r + (if x = r then 1 else 0) := by
  unfold cnt
  rw [List.count_cons]
  by_cases h : x = r
  · subst h; simp
  · simp [h]
theorem sumC_snoc (near zs : List Int) (x : Int) : sumC near (zs ++ [x]) = sumC near zs + cnt near x := by
  unfold sumC
  induction near with
  | nil => simp [cnt]
  | cons a near ih =>
    simp only [List.map_cons, List.sum_cons]
    rw [ih, cnt_snoc, cnt_cons]
    by_cases h : x = a
    · subst h; simp; omega
    · have h' : ¬ a = x := fun e => h e.symm
      simp [h, h']; omega
theorem sumC_pos (near zs : List Int) : 0 ≤ sumC near zs := by
  unfold sumC
  induction near with
  | nil => simp
  | cons a near ih =>
    simp only [List.map_cons, List.sum_cons]
    have := (cnt_le zs a).1
    omega
theorem expoTo_app (near : List Int) (row : Int) (zs : List Int) (x : Int) : expoTo near row (zs ++ [x]) = expoStep near row (expoTo near row zs) x := by unfold expoTo; rw [List.foldl_append]; rfl
theorem expoTo_sum (near : List Int) (row : Int) (hn : near.length ≤ 2) (zs : List Int) : (expoTo near row zs).1 ≤ sumC near zs ∧ (expoTo near row zs).2 ≤ sumC near zs := by
  induction zs using snoc_ind with
  | h0 => have := sumC_pos near []; exact ⟨this, this⟩
  | h1 zs x ih =>
    rw [expoTo_app, sumC_snoc]
    have hc := (cnt_le near x).1
    have hp := sumC_pos near zs
    unfold expoStep
    dsimp only
    split <;> omega
theorem expoTo_grow (near : List Int) (row : Int) (s : Int × Int) (zs : List Int) : s.1 ≤ (zs.foldl (expoStep near row) s).1 := by
  induction zs generalizing s with
  | nil => exact Int.le_refl _
  | cons x zs ih =>
    have h1 := ih (expoStep near row s x)
    have h2 : s.1 ≤ (expoStep near row s x).1 := by unfold expoStep; dsimp only; omega
    exact Int.le_trans h2 h1
theorem patOk_mk {rows : Int} {zs : List Int} (h1 : 2 ≤ rows) (h2 : rows ≤ 16) (hl : zs.length ≤ 1000) (h : ∀ x ∈ zs, 0 ≤ x ∧ x < rows) : patOk rows zs = true := by
  unfold patOk rowsIn
  rw [inB_mk h1 h2, decide_eq_true hl]
  simp only [Bool.true_and, List.all_eq_true]
  intro x hx
  have := h x hx
  exact inB_mk this.1 (by omega)
theorem expo_take {rows : Int} {zs : List Int} (r : Int) (k : Nat) (h1 : 2 ≤ rows) (h2 : rows ≤ 16) (hl : zs.length ≤ 1000) (h : ∀ x ∈ zs, 0 ≤ x ∧ x < rows) : expo rows (zs.take k) r ≤ expo rows zs r := by
  unfold expo
  rw [if_pos (patOk_mk h1 h2 hl h), if_pos (patOk_mk h1 h2 (by have := List.length_take_le k zs; have := List.length_take_le' k zs; omega) fun x hx => h x (List.mem_of_mem_take hx))]
  conv => rhs; rw [← List.take_append_drop k zs]
  unfold expoTo
  rw [List.foldl_append]
  exact expoTo_grow _ _ _ _
theorem worstTo_ge (rows : Int) (zs : List Int) (k r : Nat) (hr : r < k) : expo rows zs r ≤ worstTo rows zs k := by
  induction k with
  | zero => omega
  | succ k ih =>
    rw [worstTo_succ]
    by_cases h : r = k
    · subst h; split <;> omega
    · have := ih (by omega)
      split <;> omega
theorem nears_one {rows r : Int} (h1 : 3 ≤ rows) (h2 : rows ≤ 16) (h3 : 0 ≤ r) (h4 : r < rows) : 1 ≤ (nears rows r).length := by
  unfold nears
  rw [if_pos ⟨inB_mk (by omega) h2, inB_mk h3 (by omega)⟩]
  by_cases h : 0 < r
  · rw [if_pos h]; simp
  · rw [if_neg h, if_pos (by omega)]; simp
/-- All that the law of exposures asks. -/
structure Exposed (rows : Int) (zs : List Int) (r : Int) (k : Nat) : Prop where
  ok : patOk rows zs = true
  sum : expo rows zs r ≤ sumC (nears rows r) zs
  less : expo rows (zs.take k) r ≤ expo rows zs r
  most : expo rows zs r ≤ worst rows zs
  one : 1 ≤ (nears rows r).length
  two : (nears rows r).length ≤ 2
theorem exposed {rows : Int} {zs : List Int} {r : Int} (k : Nat) (h1 : 3 ≤ rows) (h2 : rows ≤ 16) (hl : zs.length ≤ 1000) (h : ∀ x ∈ zs, 0 ≤ x ∧ x < rows) (h3 : 0 ≤ r) (h4 : r < rows) : Exposed rows zs r k := by
  have hp := patOk_mk (by omega) h2 hl h
  refine ⟨hp, ?_, expo_take r k (by omega) h2 hl h, ?_, nears_one h1 h2 h3 h4, nears_len _ _⟩
  · unfold expo
    rw [if_pos hp]
    exact (expoTo_sum _ _ (nears_len _ _) zs).1
  · unfold worst
    rw [if_pos hp]
    have := worstTo_ge rows zs rows.toNat r.toNat (by omega)
    rwa [Int.toNat_of_nonneg h3] at this
/-- The neighbors' counts up to the k-th neighbor. -/
def sumTo (near zs : List Int) (k : Nat) : Int := sumC (near.take k) zs
theorem sumTo_succ {near : List Int} {k : Nat} {y : Int} (zs : List Int) (h : near[k]? = some y) : sumTo near zs (k + 1) = sumTo near zs k + cnt zs y := by
  unfold sumTo sumC
  rw [take_snoc h, List.map_append, List.sum_append]
  simp
theorem sumTo_all {near : List Int} {k : Nat} (zs : List Int) (h : near.length ≤ k) : sumTo near zs k = sumC near zs := by
  unfold sumTo; rw [List.take_of_length_le h]
theorem sumTo_bd (near zs : List Int) (k : Nat) : 0 ≤ sumTo near zs k := sumC_pos _ _
theorem sumTo_le {near zs : List Int} (k : Nat) (h2 : near.length ≤ 2) (hl : zs.length ≤ 1000) : sumTo near zs k ≤ 2000 := by
  unfold sumTo sumC
  have : ∀ l : List Int, (l.map (cnt zs)).sum ≤ 1000 * l.length := by
    intro l
    induction l with
    | nil => simp
    | cons a l ih =>
      simp only [List.map_cons, List.sum_cons, List.length_cons]
      have := (cnt_le zs a).2
      omega
  have h3 := this (near.take k)
  have h4 := List.length_take_le' k near
  omega

/-- The row after every second activation. -/
def refreshed (r : Int) (zs : List Int) : Nat → List Int
  | 0 => []
  | k + 1 => refreshed r zs k ++ zs.getD k 0 :: (if k % 2 = 1 then [r] else [])
theorem cnt_nears (rows r x : Int) : cnt (nears rows r) x ≤ 1 := by
  unfold nears
  split
  · by_cases h1 : 0 < r <;> by_cases h2 : r < rows - 1 <;> simp only [h1, h2, if_true, if_false, List.nil_append, List.append_nil, List.cons_append]
    · rw [cnt_cons, cnt_cons]
      have : cnt [] x = 0 := rfl
      split <;> split <;> omega
    · rw [cnt_cons]
      have : cnt [] x = 0 := rfl
      split <;> omega
    · rw [cnt_cons]
      have : cnt [] x = 0 := rfl
      split <;> omega
    · have : cnt [] x = 0 := rfl
      omega
  · have : cnt [] x = 0 := rfl
    omega
theorem cnt_self (rows r : Int) : cnt (nears rows r) r = 0 := by
  unfold cnt
  rw [List.count_eq_zero.2]
  · rfl
  · unfold nears
    split
    · intro h
      rcases List.mem_append.1 h with h | h
      · split at h <;> simp at h; omega
      · split at h <;> simp at h; omega
    · simp
theorem refreshed_bd (rows r : Int) (zs : List Int) (k : Nat) :
    (expoTo (nears rows r) r (refreshed r zs k)).1 ≤ 2 ∧ 0 ≤ (expoTo (nears rows r) r (refreshed r zs k)).2 ∧ (expoTo (nears rows r) r (refreshed r zs k)).2 ≤ ((k % 2 : Nat) : Int) := by
  induction k with
  | zero => simp [refreshed, expoTo]
  | succ k ih =>
    have hc := cnt_nears rows r (zs.getD k 0)
    have hc0 := (cnt_le (nears rows r) (zs.getD k 0)).1
    have hs := cnt_self rows r
    by_cases h : k % 2 = 1
    · have e : refreshed r zs (k + 1) = (refreshed r zs k ++ [zs.getD k 0]) ++ [r] := by simp [refreshed, h]
      rw [e, expoTo_app, expoTo_app]
      unfold expoStep
      dsimp only
      rw [if_pos rfl, hs]
      split <;> omega
    · have e : refreshed r zs (k + 1) = refreshed r zs k ++ [zs.getD k 0] := by simp [refreshed, h]
      rw [e, expoTo_app]
      unfold expoStep
      dsimp only
      split <;> omega
theorem refreshed_len (r : Int) (zs : List Int) (k : Nat) : (refreshed r zs k).length = k + k / 2 := by
  induction k with
  | zero => rfl
  | succ k ih =>
    unfold refreshed
    rw [List.length_append, ih]
    split
    · simp; omega
    · simp; omega
theorem refreshed_in {rows r : Int} {zs : List Int} (h : ∀ x ∈ zs, 0 ≤ x ∧ x < rows) (h3 : 0 ≤ r) (h4 : r < rows) (k : Nat) (hk : k ≤ zs.length) : ∀ x ∈ refreshed r zs k, 0 ≤ x ∧ x < rows := by
  induction k with
  | zero => simp [refreshed]
  | succ k ih =>
    intro x hx
    unfold refreshed at hx
    rcases List.mem_append.1 hx with hx | hx
    · exact ih (by omega) x hx
    · rcases List.mem_cons.1 hx with hx | hx
      · rw [hx]
        refine h _ ?_
        rw [List.getD_eq_getElem?_getD, List.getElem?_eq_getElem (show k < zs.length by omega)]
        exact List.getElem_mem _
      · split at hx
        · simp at hx; omega
        · simp at hx
theorem refreshed_expo {rows r : Int} {zs : List Int} (h1 : 3 ≤ rows) (h2 : rows ≤ 16) (hl : zs.length ≤ 60) (h : ∀ x ∈ zs, 0 ≤ x ∧ x < rows) (h3 : 0 ≤ r) (h4 : r < rows) : expo rows (refreshed r zs zs.length) r ≤ 2 := by
  unfold expo
  split
  · exact (refreshed_bd rows r zs zs.length).1
  · omega
theorem expo_three : expo 3 [0, 2, 0, 1, 2] 1 = 3 := by decide
theorem refreshed_yes {r : Int} {zs : List Int} {k : Nat} {x : Int} (hx : zs[k]? = some x) (h : k % 2 = 1) : refreshed r zs (k + 1) = refreshed r zs k ++ [x] ++ [r] := by simp [refreshed, h, hx]
theorem refreshed_no {r : Int} {zs : List Int} {k : Nat} {x : Int} (hx : zs[k]? = some x) (h : k % 2 = 0) : refreshed r zs (k + 1) = refreshed r zs k ++ [x] := by
  have : ¬ k % 2 = 1 := by omega
  simp [refreshed, this, hx]
end Go.Proofs.Ytbapamfomfbmmaa
