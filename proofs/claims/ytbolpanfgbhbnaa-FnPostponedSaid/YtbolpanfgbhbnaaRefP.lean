/-
  What the functions on refresh states compute, in plain words.
-/
import Derived.Test.YtbolpanfgbhbnaaRef2
import Derived.Test.YtbolpanfgbhbnaaKit3
namespace Go.Proofs.Ytbolpanfgbhbnaa
open Go.RowKit
set_option linter.unusedSimpArgs false
set_option linter.unusedVariables false

theorem refOk_parts {zs : List Int} {s : Int} (h : refOk zs s = true) : debtsIn zs = true ∧ (1 ≤ zs.length ∧ zs.length ≤ 8) ∧ 1 ≤ s ∧ s ≤ 10000 := by
  unfold refOk at h
  rw [Bool.and_eq_true, Bool.and_eq_true] at h
  obtain ⟨h1, h2, h3⟩ := h
  have := inB_t h2
  have := inB_t h3
  exact ⟨h1, by omega, by omega⟩
theorem debtsIn_at {zs : List Int} (h : debtsIn zs = true) {k : Nat} {x : Int} (hx : zs[k]? = some x) : -2 ≤ x ∧ x ≤ 5 := by
  unfold debtsIn at h
  rw [List.all_eq_true] at h
  exact inB_t (h x (List.mem_of_getElem? hx))

/-- One more debt, at most 5. -/
def bump (d : Int) : Int := min (d + 1) 5
theorem bump_if (d : Int) : bump d = if d + 1 < 5 then d + 1 else 5 := by unfold bump; split <;> omega
theorem bump_if' (d : Int) : bump d = if 5 < d + 1 then 5 else d + 1 := by unfold bump; split <;> omega
/-- A tick is taken. -/
def tickOn (zs : List Int) (s k : Int) : Bool := refOk zs s && inB k 2 10000
def tickZ (zs : List Int) (s k : Int) : List Int := if tickOn zs s k = true ∧ s ≤ 1 then zs.map bump else zs
def tickS (zs : List Int) (s : Int) (t : Bool) (k : Int) : Int := if tickOn zs s k = true then (if s ≤ 1 then (if t = true then k / 2 else k) else s - 1) else s
/-- Heat. -/
def heatS (zs : List Int) (s : Int) (t h : Bool) : Int := if refOk zs s = true then (if h = true then (if t = true then s else (s + 1) / 2) else (if t = true then min (2 * s - 1) 10000 else s)) else s
def heatT (zs : List Int) (s : Int) (t h : Bool) : Bool := if refOk zs s = true then h else t
/-- A refresh done at a bank. -/
def doneOk (zs : List Int) (s b : Int) : Bool := refOk zs s && (inB b 0 ((zs.length : Int) - 1) && decide (-2 < zs.getD b.toNat 0))
def doneZ (zs : List Int) (s b : Int) : List Int := if doneOk zs s b = true then zs.set b.toNat (zs.getD b.toNat 0 - 1) else zs
theorem doneZ_len (zs : List Int) (s b : Int) : (doneZ zs s b).length = zs.length := by unfold doneZ; split <;> simp
theorem tickZ_len (zs : List Int) (s k : Int) : (tickZ zs s k).length = zs.length := by unfold tickZ; split <;> simp
/-- The banks whose debt is urgent, among the first k. -/
def urgTo (zs : List Int) (k : Nat) : List Int := (List.range k).filterMap fun i => if 4 ≤ zs.getD i 0 then some (i : Int) else none
def urg (zs : List Int) (s : Int) : List Int := if refOk zs s = true then urgTo zs zs.length else []
theorem urgTo_yes {zs : List Int} {k : Nat} {x : Int} (hx : zs[k]? = some x) (h : 4 ≤ x) : urgTo zs (k + 1) = urgTo zs k ++ [(k : Int)] := by
  unfold urgTo; rw [List.range_succ, List.filterMap_append]; simp [List.getD_eq_getElem?_getD, hx, h]
theorem urgTo_no {zs : List Int} {k : Nat} {x : Int} (hx : zs[k]? = some x) (h : ¬ 4 ≤ x) : urgTo zs (k + 1) = urgTo zs k := by
  unfold urgTo; rw [List.range_succ, List.filterMap_append]; simp [List.getD_eq_getElem?_getD, hx, h]
theorem urgTo_len (zs : List Int) (k : Nat) : (urgTo zs k).length ≤ k := by
  unfold urgTo
  have := List.length_filterMap_le (fun i : Nat => if 4 ≤ zs.getD i 0 then some (i : Int) else none) (List.range k)
  simpa using this
theorem urg_len (zs : List Int) (s : Int) : (urg zs s).length ≤ 8 := by
  unfold urg
  split
  · rename_i h
    have := urgTo_len zs zs.length
    have := (refOk_parts h).2.1
    omega
  · simp
/-- The bank to be refreshed next, among the first k: the best so far (-1: none). -/
def mayP (zs : List Int) (u : Bool) (idle : List Bool) (i : Nat) : Bool := if u = true then decide (4 ≤ zs.getD i 0) else decide (0 < zs.getD i 0) && (decide (i < idle.length) && idle.getD i false)
def pickStep (zs : List Int) (u : Bool) (idle : List Bool) (b : Int) (i : Nat) : Int := if mayP zs u idle i = true ∧ (b < 0 ∨ zs.getD b.toNat 0 < zs.getD i 0) then (i : Int) else b
def pickTo (zs : List Int) (u : Bool) (idle : List Bool) (k : Nat) : Int := (List.range k).foldl (pickStep zs u idle) (-1)
def pick (zs : List Int) (s : Int) (idle : List Bool) : Int := if refOk zs s = true then pickTo zs (decide (0 < (urg zs s).length)) idle zs.length else -1
theorem pickTo_succ (zs : List Int) (u : Bool) (idle : List Bool) (k : Nat) : pickTo zs u idle (k + 1) = pickStep zs u idle (pickTo zs u idle k) k := by
  unfold pickTo; rw [List.range_succ, List.foldl_append]; rfl
theorem pickTo_bd (zs : List Int) (u : Bool) (idle : List Bool) (k : Nat) : -1 ≤ pickTo zs u idle k ∧ pickTo zs u idle k < max k 0 := by
  induction k with
  | zero => simp [pickTo]
  | succ k ih =>
    rw [pickTo_succ]
    unfold pickStep
    split <;> omega
end Go.Proofs.Ytbolpanfgbhbnaa
