/-
  Adding a request to a queue, in plain words: the program's place and the reference's place are one where it matters.
-/
import Derived.Test.YtbapamfomfbmmaaReqD
namespace Go.Proofs.Ytbapamfomfbmmaa
open Go.RowKit
set_option linter.unusedSimpArgs false
set_option linter.unusedVariables false

/-- The program's queue: the request stands before the first one that is not before it. -/
def insI (rs : List Req) (r : Req) : List Req := rs.takeWhile (fun q => q.bef r) ++ r :: rs.dropWhile (fun q => q.bef r)
/-- The reference's queue: the request stands before the first one that it is before. -/
def insS (rs : List Req) (r : Req) : List Req := rs.takeWhile (fun q => !r.bef q) ++ r :: rs.dropWhile (fun q => !r.bef q)
theorem bef_flip {q r : Req} (h : q.id ≠ r.id) : q.bef r = !r.bef q := by
  unfold Req.bef befB
  rw [Bool.eq_iff_iff]
  simp
  omega
theorem ins_same {rs : List Req} {r : Req} (h : ∀ q ∈ rs, q.id ≠ r.id) : insS rs r = insI rs r := by
  unfold insS insI
  induction rs with
  | nil => rfl
  | cons q rs ih =>
    have hq := bef_flip (h q (List.mem_cons_self ..))
    have ih := ih (fun x hx => h x (List.mem_cons_of_mem _ hx))
    simp only [List.takeWhile_cons, List.dropWhile_cons, hq]
    cases hb : r.bef q
    · simp only [Bool.not_false, if_true, List.cons_append]
      rw [ih]
    · simp
theorem queueOk_nodup {lines : Int} {l : List Req} (h : queueOk lines l = true) : (l.map Req.id).Nodup := by
  unfold queueOk qokTo at h
  rw [Bool.and_eq_true, List.all_eq_true] at h
  rw [List.Nodup, List.pairwise_iff_getElem]
  intro i j hi hj hij e
  rw [List.length_map] at hi hj
  have h1 := h.2 j (List.mem_range.2 hj)
  unfold qok1 at h1
  rw [getReq (List.getElem?_eq_getElem hj), Bool.and_eq_true, Bool.and_eq_true] at h1
  have h2 := h1.2.2
  simp only [decide_eq_true_eq] at h2
  apply h2
  have := mem_take_map hij (List.getElem?_eq_getElem hi)
  simp only [List.getElem_map] at e
  rw [← e]
  exact this
theorem nodup_mid {A B : List Req} {r : Req} (h : ((A ++ r :: B).map Req.id).Nodup) : ∀ q ∈ A ++ B, q.id ≠ r.id := by
  intro q hq e
  rw [List.map_append, List.map_cons, List.nodup_append] at h
  obtain ⟨_, h2, h3⟩ := h
  rw [List.nodup_cons] at h2
  rw [List.mem_append] at hq
  rcases hq with hq | hq
  · exact h3 q.id (List.mem_map.2 ⟨q, hq, rfl⟩) r.id (List.mem_cons_self ..) e
  · exact h2.1 (List.mem_map.2 ⟨q, hq, e⟩)
theorem insI_ids {lines : Int} {rs : List Req} {r : Req} (h : queueOk lines (insI rs r) = true) : ∀ q ∈ rs, q.id ≠ r.id := by
  have := nodup_mid (queueOk_nodup h)
  rwa [List.takeWhile_append_dropWhile] at this
theorem insS_ids {lines : Int} {rs : List Req} {r : Req} (h : queueOk lines (insS rs r) = true) : ∀ q ∈ rs, q.id ≠ r.id := by
  have := nodup_mid (queueOk_nodup h)
  rwa [List.takeWhile_append_dropWhile] at this
/-- What QueueAdd returns. -/
def addOk (lines : Int) (rs : List Req) (r : Req) : Bool := queueOk lines rs && queueOk lines (insI rs r)
def addQ (lines : Int) (rs : List Req) (r : Req) : List Req := if addOk lines rs r = true then insI rs r else rs
theorem queueOk_ins (lines : Int) (rs : List Req) (r : Req) : queueOk lines (insS rs r) = queueOk lines (insI rs r) := by
  rw [Bool.eq_iff_iff]
  exact ⟨fun h => by rw [← ins_same (insS_ids h)]; exact h, fun h => by rw [ins_same (insI_ids h)]; exact h⟩
theorem add_yes {lines : Int} {rs : List Req} {r : Req} (h1 : queueOk lines rs = true) (h2 : queueOk lines (insI rs r) = true) : addOk lines rs r = true ∧ addQ lines rs r = insI rs r ∧ insS rs r = insI rs r := by
  have h : addOk lines rs r = true := by unfold addOk; rw [h1, h2]; rfl
  exact ⟨h, by unfold addQ; rw [if_pos h], ins_same (insI_ids h2)⟩
theorem add_no {lines : Int} {rs : List Req} {r : Req} (h : queueOk lines rs = false ∨ queueOk lines (insI rs r) = false) : addOk lines rs r = false ∧ addQ lines rs r = rs := by
  have h : addOk lines rs r = false := by unfold addOk; rcases h with h | h <;> rw [h] <;> simp
  exact ⟨h, by unfold addQ; rw [if_neg (by rw [h]; simp)]⟩
theorem insI_len (rs : List Req) (r : Req) : (insI rs r).length = rs.length + 1 := by
  have := congrArg List.length (List.takeWhile_append_dropWhile (p := fun q => Req.bef q r) (l := rs))
  unfold insI
  simp only [List.length_append, List.length_cons] at this ⊢
  omega
theorem addQ_len (lines : Int) (rs : List Req) (r : Req) : (addQ lines rs r).length ≤ rs.length + 1 := by
  unfold addQ; split
  · rw [insI_len]; omega
  · omega
theorem addQ_len13 (lines : Int) (rs : List Req) (r : Req) : (addQ lines rs r).length ≤ max rs.length 13 := by
  unfold addQ
  split
  · rename_i h
    unfold addOk queueOk at h
    rw [Bool.and_eq_true, Bool.and_eq_true] at h
    have h1 : rs.length ≤ 12 := by simpa using h.1.1
    rw [insI_len]
    omega
  · omega
/-- The reference's loop. -/
def insStep (r : Req) (s : List Req × Bool) (q : Req) : List Req × Bool := if (!s.2 && r.bef q) = true then (s.1 ++ [r] ++ [q], true) else (s.1 ++ [q], s.2)
def insTo (rs : List Req) (r : Req) : List Req × Bool := rs.foldl (insStep r) ([], false)
theorem insStep_put (r q : Req) (acc : List Req) : insStep r (acc, true) q = (acc ++ [q], true) := by unfold insStep; simp
theorem insStep_yes {r q : Req} (acc : List Req) (h : r.bef q = true) : insStep r (acc, false) q = (acc ++ [r] ++ [q], true) := by unfold insStep; simp [h]
theorem insStep_no {r q : Req} (acc : List Req) (h : r.bef q = false) : insStep r (acc, false) q = (acc ++ [q], false) := by unfold insStep; simp [h]
theorem insTo_snoc {rs : List Req} {r q : Req} {k : Nat} (h : rs[k]? = some q) : insTo (rs.take (k + 1)) r = insStep r (insTo (rs.take k) r) q := by
  unfold insTo; rw [take_snoc h, List.foldl_append]; rfl
theorem fold_true (r : Req) (l acc : List Req) : l.foldl (insStep r) (acc, true) = (acc ++ l, true) := by
  induction l generalizing acc with
  | nil => simp
  | cons q l ih => rw [List.foldl_cons, insStep_put, ih]; simp
theorem fold_false (r : Req) (l acc : List Req) : l.foldl (insStep r) (acc, false) = if (l.any fun q => r.bef q) = true then (acc ++ insS l r, true) else (acc ++ l, false) := by
  induction l generalizing acc with
  | nil => simp
  | cons q l ih =>
    rw [List.foldl_cons]
    cases hb : r.bef q
    · rw [insStep_no _ hb, ih]
      unfold insS
      simp only [List.any_cons, List.takeWhile_cons, List.dropWhile_cons, hb, Bool.false_or, Bool.not_false, if_true]
      split <;> simp
    · rw [insStep_yes _ hb, fold_true]
      unfold insS
      simp only [List.any_cons, List.takeWhile_cons, List.dropWhile_cons, hb, Bool.true_or, Bool.not_true, Bool.false_eq_true, if_true, if_false]
      simp
theorem while_all {p : Req → Bool} {l : List Req} (h : ∀ q ∈ l, p q = true) : l.takeWhile p = l ∧ l.dropWhile p = [] := by
  induction l with
  | nil => simp
  | cons q l ih =>
    have hq := h q (List.mem_cons_self ..)
    obtain ⟨h1, h2⟩ := ih (fun x hx => h x (List.mem_cons_of_mem _ hx))
    simp only [List.takeWhile_cons, List.dropWhile_cons, hq, if_true, h1, h2, and_self]
theorem insTo_end (rs : List Req) (r : Req) : insS rs r = if (insTo rs r).2 = true then (insTo rs r).1 else (insTo rs r).1 ++ [r] := by
  unfold insTo
  rw [fold_false]
  by_cases h : (rs.any fun q => r.bef q) = true
  · rw [if_pos h]; simp
  · rw [if_neg h]
    have hall : ∀ q ∈ rs, (!r.bef q) = true := by
      intro q hq
      rw [Bool.not_eq_true, List.any_eq_false] at h
      simpa using h q hq
    unfold insS
    rw [(while_all hall).1, (while_all hall).2]
    simp
theorem insTo_len (rs : List Req) (r : Req) : (insTo rs r).1.length ≤ rs.length + 1 := by
  unfold insTo
  rw [fold_false]
  split
  · unfold insS
    have := congrArg List.length (List.takeWhile_append_dropWhile (p := fun q => !Req.bef r q) (l := rs))
    simp only [List.length_append, List.length_cons, List.nil_append] at this ⊢
    omega
  · simp
end Go.Proofs.Ytbapamfomfbmmaa
