/-
  Plain laws of the queue: what is added can be dropped again; exactly the first request of a line is not blocked.
-/
import Derived.Test.YtbapamfomfbmmaaReqI
namespace Go.Proofs.Ytbapamfomfbmmaa
open Go.RowKit
set_option linter.unusedSimpArgs false
set_option linter.unusedVariables false

theorem cntW_two (rs : List Req) : cntW rs true + cntW rs false = rs.length := by
  unfold cntW
  induction rs with
  | nil => rfl
  | cons r rs ih =>
    simp only [List.countP_cons, List.length_cons] at ih ⊢
    generalize List.countP (fun r : Req => r.wrt == true) rs = a at *
    generalize List.countP (fun r : Req => r.wrt == false) rs = b at *
    cases r.wrt <;> simp only [beq_self_eq_true, if_true, Bool.false_eq_true, if_false, show (true == false) = false from rfl, show (false == true) = false from rfl] <;> omega
/-- All that the law of the queue asks of a request that was added. -/
structure Queued (lines : Int) (rs : List Req) (r : Req) : Prop where
  q : queueOk lines (addQ lines rs r) = true
  ok : r.ok lines = true
  drop : dropQ (addQ lines rs r) r.id = rs
  dok : dropOk (addQ lines rs r) r.id = true
  cnt : cntW (addQ lines rs r) true + cntW (addQ lines rs r) false = rs.length + 1
theorem queueOk_mem {lines : Int} {rs : List Req} {r : Req} (h : queueOk lines rs = true) (hr : r ∈ rs) : r.ok lines = true := by
  obtain ⟨k, hk⟩ := List.getElem?_of_mem hr
  unfold queueOk qokTo at h
  rw [Bool.and_eq_true, List.all_eq_true] at h
  have h1 := h.2 k (List.mem_range.2 (lt_of_get hk))
  unfold qok1 at h1
  rw [getReq hk, Bool.and_eq_true] at h1
  exact h1.1
theorem queued {lines : Int} {rs : List Req} {r : Req} (h : addOk lines rs r = true) : Queued lines rs r := by
  have h' := h
  unfold addOk at h'
  rw [Bool.and_eq_true] at h'
  have e : addQ lines rs r = insI rs r := by unfold addQ; rw [if_pos h]
  have hids := insI_ids h'.2
  have hd : dropQ (insI rs r) r.id = rs ∧ dropOk (insI rs r) r.id = true := by
    have ht : ∀ q ∈ rs.takeWhile (fun q => q.bef r), q.id ≠ r.id := fun q hq => hids q (by
      have := List.mem_append_left (rs.dropWhile (fun q => q.bef r)) hq
      rwa [List.takeWhile_append_dropWhile] at this)
    have hk := drop_at (rs := insI rs r) (x := r.id) (k := (rs.takeWhile (fun q => q.bef r)).length) (by
      intro hm
      unfold insI at hm
      rw [← List.map_take, List.take_left, List.mem_map] at hm
      obtain ⟨q, hq, e⟩ := hm
      exact ht q hq e) (by
      unfold insI
      rw [List.getElem?_map, List.getElem?_append_right (Nat.le_refl _), Nat.sub_self]
      rfl)
    refine ⟨?_, hk.2⟩
    rw [hk.1]
    unfold insI
    rw [List.take_left, ← List.drop_drop, List.drop_left]
    show _ ++ rs.dropWhile (fun q => q.bef r) = rs
    rw [List.takeWhile_append_dropWhile]
  rw [← e] at hd
  refine ⟨by rw [e]; exact h'.2, queueOk_mem h'.2 (by unfold insI; simp), hd.1, hd.2, ?_⟩
  rw [cntW_two, e, insI_len]
  omega
theorem not_queued {lines : Int} {rs : List Req} {r : Req} (h : addOk lines rs r = false) : addQ lines rs r = rs := by unfold addQ; rw [if_neg (by rw [h]; simp)]

/-! FnBlocked -/
/-- The lines of the requests that are not blocked, among the first k. -/
def freeTo (rs : List Req) (k : Nat) : List Int := ((List.range k).filter fun (i : Nat) => !blkB rs (i : Int)).map fun i => (rs.getD i Req.zero).line
theorem freeTo_zero (rs : List Req) : freeTo rs 0 = [] := rfl
theorem freeTo_no {rs : List Req} {k : Nat} (h : blkB rs k = true) : freeTo rs (k + 1) = freeTo rs k := by
  unfold freeTo; rw [List.range_succ, List.filter_append]; simp [h]
theorem freeTo_yes {rs : List Req} {k : Nat} {r : Req} (h : blkB rs k = false) (hr : rs[k]? = some r) : freeTo rs (k + 1) = freeTo rs k ++ [r.line] := by
  unfold freeTo; rw [List.range_succ, List.filter_append, List.map_append]; simp [h, hr]
theorem freeTo_mem {rs : List Req} {k : Nat} {x : Int} (h : x ∈ freeTo rs k) : ∃ (i : Nat) (r : Req), i < k ∧ (i < rs.length → rs[i]? = some r) ∧ (rs.getD i Req.zero) = r ∧ r.line = x := by
  unfold freeTo at h
  rw [List.mem_map] at h
  obtain ⟨i, hi, e⟩ := h
  rw [List.mem_filter, List.mem_range] at hi
  refine ⟨i, rs.getD i Req.zero, hi.1, fun hl => ?_, rfl, e⟩
  rw [List.getD_eq_getElem?_getD, List.getElem?_eq_getElem hl]; rfl
theorem free_new {rs : List Req} {k : Nat} {r : Req} (h : blkB rs k = false) (hr : rs[k]? = some r) : r.line ∉ freeTo rs k := by
  intro hm
  obtain ⟨i, q, hi, hq, -, e⟩ := freeTo_mem hm
  have hk := lt_of_get hr
  have := blk_some' hr hi (hq (by omega)) (by simpa using e)
  rw [h] at this
  cases this
theorem freeTo_len (rs : List Req) (k : Nat) : (freeTo rs k).length ≤ k := by
  unfold freeTo
  rw [List.length_map]
  have := List.length_filter_le (fun (i : Nat) => !blkB rs (i : Int)) (List.range k)
  rw [List.length_range] at this
  exact this
theorem freeTo_some {rs : List Req} {k : Nat} (hk : 0 < k) (hr : 0 < rs.length) : 0 < (freeTo rs k).length := by
  induction k with
  | zero => omega
  | succ k ih =>
    by_cases h0 : k = 0
    · subst h0
      obtain ⟨r, h⟩ : ∃ r, rs[0]? = some r := ⟨_, List.getElem?_eq_getElem hr⟩
      rw [freeTo_yes (by exact blk_none h (by simp)) h]
      simp
    · have := ih (by omega)
      cases hb : blkB rs k
      · unfold freeTo at this ⊢
        rw [List.range_succ, List.filter_append, List.map_append, List.length_append]
        omega
      · rw [freeTo_no hb]; exact this
/-- The law's fixed example is blocked. -/
theorem blk_ex (a b : Req) (h : a.line = b.line) : blkB [a, b] 1 = true := blk_some' (k := 1) (j := 0) rfl (by omega) rfl (by simpa using h)
end Go.Proofs.Ytbapamfomfbmmaa
