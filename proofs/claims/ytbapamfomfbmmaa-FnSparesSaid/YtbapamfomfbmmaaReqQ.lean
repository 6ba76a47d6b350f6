/-
  When a queue is valid, in plain words.
-/
import Derived.Test.YtbapamfomfbmmaaReqB
namespace Go.Proofs.Ytbapamfomfbmmaa
open Go.RowKit
set_option linter.unusedSimpArgs false
set_option linter.unusedVariables false

def Req.zero : Req := ⟨0, 0, 0, false, 0, 0⟩
/-- The i-th request is valid, behind the one before it, and its id is new. -/
def qok1 (lines : Int) (rs : List Req) (i : Nat) : Bool :=
  (rs.getD i Req.zero).ok lines && ((decide (i = 0) || (rs.getD (i - 1) Req.zero).bef (rs.getD i Req.zero)) && decide ((rs.getD i Req.zero).id ∉ (rs.take i).map Req.id))
def qokTo (lines : Int) (rs : List Req) (k : Nat) : Bool := (List.range k).all (qok1 lines rs)
/-- A valid queue. -/
def queueOk (lines : Int) (rs : List Req) : Bool := decide (rs.length ≤ 12) && qokTo lines rs rs.length
theorem qokTo_succ (lines : Int) (rs : List Req) (k : Nat) : qokTo lines rs (k + 1) = (qokTo lines rs k && qok1 lines rs k) := by
  unfold qokTo; rw [List.range_succ, List.all_append]; simp
theorem qokTo_no {lines : Int} {rs : List Req} {k n : Nat} (hk : k < n) (h : qok1 lines rs k = false) : qokTo lines rs n = false := by
  unfold qokTo
  rw [Bool.eq_false_iff]
  intro hc
  rw [List.all_eq_true] at hc
  have := hc k (List.mem_range.2 hk)
  rw [h] at this
  cases this
theorem queueOk_no {lines : Int} {rs : List Req} {k : Nat} (hk : k < rs.length) (h : qok1 lines rs k = false) : queueOk lines rs = false := by
  unfold queueOk; rw [qokTo_no hk h]; simp
theorem getReq {rs : List Req} {i : Nat} {r : Req} (h : rs[i]? = some r) : rs.getD i Req.zero = r := by rw [List.getD_eq_getElem?_getD, h]; rfl
theorem qok1_bad {lines : Int} {rs : List Req} {k : Nat} {r : Req} (h : rs[k]? = some r) (hb : r.ok lines = false) : qok1 lines rs k = false := by unfold qok1; rw [getReq h, hb]; rfl
theorem qok1_order {lines : Int} {rs : List Req} {k : Nat} {r q : Req} (h : rs[k + 1]? = some r) (hq : rs[k]? = some q) (hb : q.bef r = false) : qok1 lines rs (k + 1) = false := by
  unfold qok1; rw [getReq h, show k + 1 - 1 = k by omega, getReq hq, hb]; simp
theorem qok1_twice {lines : Int} {rs : List Req} {k : Nat} {r : Req} (h : rs[k]? = some r) (hb : r.id ∈ (rs.take k).map Req.id) : qok1 lines rs k = false := by
  unfold qok1; rw [getReq h]; simp only [decide_not, hb, decide_true, Bool.not_true, Bool.and_false]
theorem qok1_first {lines : Int} {rs : List Req} {r : Req} (h : rs[0]? = some r) (h1 : r.ok lines = true) : qok1 lines rs 0 = true := by
  unfold qok1; rw [getReq h, h1]; simp
theorem qok1_next {lines : Int} {rs : List Req} {k : Nat} {r q : Req} (h : rs[k + 1]? = some r) (hq : rs[k]? = some q) (h1 : r.ok lines = true) (h2 : q.bef r = true) (h3 : r.id ∉ (rs.take (k + 1)).map Req.id) : qok1 lines rs (k + 1) = true := by
  unfold qok1; rw [getReq h, show k + 1 - 1 = k by omega, getReq hq, h1, h2]; simp only [Bool.or_true, Bool.true_and, decide_eq_true_eq]; exact h3
end Go.Proofs.Ytbapamfomfbmmaa
