/-
  Lists of records laid out cell by cell. Nothing here speaks of the program.
-/
import Derived.Test.YtkhbpfliobhmiaaKit3
namespace Go.Proofs.Ytkhbpfliobhmiaa
open Go.RowKit
set_option linter.unusedSimpArgs false
set_option linter.unusedVariables false

section
variable {α : Type} {enc : α → List Value} {m : Nat}
theorem flat_len (hm : ∀ a, (enc a).length = m) (rs : List α) : (rs.flatMap enc).length = rs.length * m := by
  induction rs with
  | nil => simp
  | cons a rs ih => rw [List.flatMap_cons, List.length_append, ih, hm, List.length_cons, Nat.add_mul]; omega
theorem flat_get (hm : ∀ a, (enc a).length = m) {rs : List α} {k : Nat} {r : α} (h : rs[k]? = some r) {j : Nat} (hj : j < m) : (rs.flatMap enc)[k * m + j]? = (enc r)[j]? := by
  induction rs generalizing k with
  | nil => simp at h
  | cons a rs ih =>
    rw [List.flatMap_cons]
    cases k with
    | zero =>
      simp only [List.getElem?_cons_zero, Option.some.injEq] at h
      subst h
      rw [Nat.zero_mul, Nat.zero_add, List.getElem?_append_left (by rw [hm]; exact hj)]
    | succ k =>
      rw [List.getElem?_cons_succ] at h
      rw [List.getElem?_append_right (by rw [hm, Nat.add_mul]; omega), hm, ← ih h]
      congr 1
      rw [Nat.add_mul]; omega
theorem flat_take (hm : ∀ a, (enc a).length = m) (rs : List α) (k : Nat) : (rs.flatMap enc).take (k * m) = (rs.take k).flatMap enc := by
  induction rs generalizing k with
  | nil => simp
  | cons a rs ih =>
    cases k with
    | zero => simp
    | succ k =>
      rw [List.flatMap_cons, List.take_succ_cons, List.flatMap_cons, ← ih, List.take_append, hm]
      rw [show (k + 1) * m - m = k * m by rw [Nat.add_mul]; omega, List.take_of_length_le (by rw [hm, Nat.add_mul]; omega)]
theorem flat_drop (hm : ∀ a, (enc a).length = m) (rs : List α) (k : Nat) : (rs.flatMap enc).drop (k * m) = (rs.drop k).flatMap enc := by
  induction rs generalizing k with
  | nil => simp
  | cons a rs ih =>
    cases k with
    | zero => simp
    | succ k =>
      rw [List.flatMap_cons, List.drop_succ_cons, ← ih, List.drop_append, hm]
      rw [show (k + 1) * m - m = k * m by rw [Nat.add_mul]; omega, List.drop_eq_nil_of_le (by rw [hm, Nat.add_mul]; omega), List.nil_append]
/-- The first k records of rs, then those of the list us from k on. -/
def upTo (rs us : List α) (k : Nat) : List α := rs.take k ++ us.drop k
theorem upTo_zero (rs us : List α) : upTo rs us 0 = us := by simp [upTo]
theorem upTo_all {rs us : List α} {k : Nat} (h : rs.length ≤ k) (h' : us.length ≤ k) : upTo rs us k = rs := by unfold upTo; rw [List.take_of_length_le h, List.drop_eq_nil_of_le h', List.append_nil]
theorem upTo_len {rs us : List α} {k : Nat} (h : rs.length = us.length) : (upTo rs us k).length = rs.length := by unfold upTo; simp; omega
theorem upTo_get {rs us : List α} {k : Nat} {u : α} (hl : rs.length = us.length) (hu : us[k]? = some u) : (upTo rs us k)[k]? = some u := by
  have := lt_of_get hu
  unfold upTo
  rw [List.getElem?_append_right (by simp; omega)]
  simp only [List.length_take, List.getElem?_drop]
  rw [show k + (k - min k rs.length) = k by omega, hu]
theorem upTo_set {rs us : List α} {k : Nat} {r : α} (hl : rs.length = us.length) (hr : rs[k]? = some r) : (upTo rs us k).set k r = upTo rs us (k + 1) := by
  have hk := lt_of_get hr
  unfold upTo
  rw [List.set_append_right _ _ (by simp; omega), take_snoc hr, List.drop_eq_getElem_cons (show k < us.length by omega)]
  simp only [List.length_take]
  rw [show k - min k rs.length = 0 by omega, List.set_cons_zero]
  simp
theorem flat_set (hm : ∀ a, (enc a).length = m) {rs : List α} {k : Nat} (hk : k < rs.length) (r : α) : (rs.set k r).flatMap enc = (rs.take k).flatMap enc ++ (enc r ++ (rs.drop (k + 1)).flatMap enc) := by
  rw [List.set_eq_take_append_cons_drop, if_pos hk, List.flatMap_append, List.flatMap_cons]
end
end Go.Proofs.Ytkhbpfliobhmiaa
