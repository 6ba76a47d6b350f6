/-
  Lists of records laid out cell by cell. Nothing here speaks of the program.
-/
import Derived.Test.YtbapamfomfbmmaaKit3
namespace Go.Proofs.Ytbapamfomfbmmaa
open Go.RowKit
set_option linter.unusedSimpArgs false
set_option linter.unusedVariables false

section
variable {α : Type} {enc : α → List Value} {m : Nat}
theorem flat_len (hm : ∀ a, (enc a).length = m) (rs : List α) : (rs.flatMap enc).length = rs.length * m := by
  induction rs with
  | nil => simp
  | cons a rs ih => rw [List.flatMap_cons, List.length_append, ih, hm, List.length_cons, Nat.add_mul]; omega
theorem flat_get (hm : ∀ a, (enc a).length = m) {rs : List α} {k : Nat} {r : α} (h : rs[k]? = some r) {j : Nat} (hj : j < m) : (rs.flatMap enc)[k * m + j]? = (enc r)[j]? := by
  induction rs generalizing k with
  | nil => simp at h
  | cons a rs ih =>
    rw [List.flatMap_cons]
    cases k with
    | zero =>
      simp only [List.getElem?_cons_zero, Option.some.injEq] at h
      subst h
      rw [Nat.zero_mul, Nat.zero_add, List.getElem?_append_left (by rw [hm]; exact hj)]
    | succ k =>
      rw [List.getElem?_cons_succ] at h
      rw [List.getElem?_append_right (by rw [hm, Nat.add_mul]; omega), hm, ← ih h]
      congr 1
      rw [Nat.add_mul]; omega
theorem flat_take (hm : ∀ a, (enc a).length = m) (rs : List α) (k : Nat) : (rs.flatMap enc).take (k * m) = (rs.take k).flatMap enc := by
  induction rs generalizing k with
  | nil => simp
  | cons a rs ih =>
    cases k with
    | zero => simp
    | succ k =>
      rw [List.flatMap_cons, List.take_succ_cons, List.flatMap_cons, ← ih, List.take_append, hm]
      rw [show (k + 1) * m - m = k * m by rw [Nat.add_mul]; omega, List.take_of_length_le (by rw [hm, Nat.add_mul]; omega)]
theorem flat_drop (hm : ∀ a, (enc a).length = m) (rs : List α) (k : Nat) : (rs.flatMap enc).drop (k * m) = (rs.drop k).flatMap enc := by
  induction rs generalizing k with
  | nil => simp
  | cons a rs ih =>
    cases k with
    | zero => simp
    | succ k =>
      rw [List.flatMap_cons, List.drop_succ_cons, ← ih, List.drop_append, hm]
      rw [show (k + 1) * m - m = k * m by rw [Nat.add_mul]; omega, List.drop_eq_nil_of_le (by rw [hm, Nat.add_mul]; omega), List.nil_append]
/-- The first k records of rs, then those of the list us from k on. -/
def upTo (rs us : List α) (k : Nat) : List α := rs.take k ++ us.drop k
theorem upTo_zero (rs us : List α) : upTo rs us 0 = us := by simp [upTo]
theorem upTo_all {rs us : List α} {k : Nat} (h : rs.length ≤ k) (h' : us.length ≤ k) : upTo rs us k = rs := by unfold upTo; rw [List.take_of_length_le h, List.drop_eq_nil_of_le h', List.append_nil]
theorem upTo_len {rs us : List α} {k : Nat} (h : rs.length = us.length) : (upTo rs us k).length = rs.length := by unfold upTo; simp; omega
theorem upTo_get {rs us : List α} {k : Nat} {u : α} (hl : rs.length = us.length) (hu : us[k]? = some u) : (upTo rs us k)[k]? = some u := by
  have := lt_of_get hu
  unfold upTo
  rw [List.getElem?_append_right (by simp; omega)]
  simp only [List.length_take, List.getElem?_drop]
  rw [show k + (k - min k rs.length) = k by omega, hu]
theorem upTo_set {rs us : List α} {k : Nat} {r : α} (hl : rs.length = us.length) (hr : rs[k]? = some r) : (upTo rs us k).set k r = upTo rs us (k + 1) := by
  have hk := lt_of_get hr
  unfold upTo
  rw [List.set_append_right _ _ (by simp; omega), take_snoc hr, List.drop_eq_getElem_cons (show k < us.length by omega)]
  simp only [List.length_take]
  rw [show k - min k rs.length = 0 by omega, List.set_cons_zero]
  simp
theorem flat_set (hm : ∀ a, (enc a).length = m) {rs : List α} {k : Nat} (hk : k < rs.length) (r : α) : (rs.set k r).flatMap enc = (rs.take k).flatMap enc ++ (enc r ++ (rs.drop (k + 1)).flatMap enc) := by
  rw [List.set_eq_take_append_cons_drop, if_pos hk, List.flatMap_append, List.flatMap_cons]
theorem made_flat (hs : 0 < m) (hm : ∀ a, (enc a).length = m) (r0 : α) (z : Array Value) (hz : z.toList = enc r0) (n : Nat) : (madeCells z (n * m)).toList = (List.replicate n r0).flatMap enc := by
  have hzs : z.size = m := by rw [← Array.length_toList, hz, hm]
  apply List.ext_getElem?
  intro j
  by_cases hj : j < n * m
  · have hq : j / m < n := Nat.div_lt_of_lt_mul (by rw [Nat.mul_comm]; exact hj)
    have hr : j % m < m := Nat.mod_lt _ hs
    have e : j / m * m + j % m = j := by rw [Nat.mul_comm]; exact Nat.div_add_mod j m
    have h1 := flat_get hm (show (List.replicate n r0)[j / m]? = some r0 from by simp [hq]) hr
    rw [e, ← hz] at h1
    rw [h1]
    simp [madeCells, hj, hzs, hr]
  · rw [List.getElem?_eq_none (by simp [size_madeCells]; omega), List.getElem?_eq_none (by rw [flat_len hm]; simp; omega)]
end
/-- 's[k:]' of a slice with capacity c. -/
def cutAt (A : Option Addr) (c k size : Nat) : Option Addr := if c = k then A else A.map (·.add (k * size))
theorem cutAt_eq (A : Option Addr) (c k size : Nat) : (if c = k then A else A.map (·.add (k * size))) = cutAt A c k size := rfl
theorem cutAt_some {n c k size : Nat} (hk : k < n) (hc : n ≤ c) (A : Option Addr) : ∀ g o, A = some ⟨g, o, none⟩ → cutAt A c k size = some ⟨g, o + k * size, none⟩ := by
  rintro g o rfl
  unfold cutAt
  rw [if_neg (by omega), Option.map_some, addr_add]

section
variable {P : Program} {w : World} {ops : Array Oper} {rest : List Oper} {o : Oper} {a : Act} {Q : Exit → Act → World → Prop}
theorem wpList_appG (hgd : o.guard = none) (s x : Operand) (t : TypeId) (ho : o.op = .call { callee := .builtin .append, args := #[s, x], argTypes := #[t, t] })
    (lo : Nat) (e : TypeId) (z : Value) (size bytes : Nat) (ht : P.underlying t = some (.slice e)) (hinf : (P.info? e).map (fun i => (i.zero, i.size, i.bytes)) = some (some z, size, bytes)) (hzs : z.cells.size = size) (hsz : 0 < size)
    (A : Option Addr) (n c : Nat) (xs : List Value) (hs : a.eval s = .slice A n c) (hown : OwnV w lo e size A n c xs) (B : Option Addr) (m d : Nat) (news : List Value) (hx : a.eval x = .slice B m d) (hsrc : Src w size B m news) (h1 : ∀ u ∈ news, u.oneCell' = true)
    (h63 : n + m ≤ maxLen) (hbytes : (n + m) * bytes ≤ 140737488355328) (hlo : lo ≤ w.heap.size)
    (h : ∀ A' c' w', OwnV w' lo e size A' (n + m) c' (xs ++ news) → w.grownBy w' (blk A c) → (blk A' c' = blk A c ∨ blk A' c' = some w.heap.size) → wpList P ops Q rest (a.put o.dst (.slice A' (n + m) c')) w') :
    wpList P ops Q (o :: rest) a w :=
  wpList_plain hgd fun K hK => wp_appV s x t ho lo e z size bytes ht hinf hzs hsz A n c xs hs hown B m d news hx hsrc h1 h63 hbytes hlo fun A' c' w' h2 h3 h4 => hK _ _ (h A' c' w' h2 h3 h4)
theorem step_appG {K : Act → World → Prop} {E : Prop} (hgd : o.guard = none) (s x : Operand) (t : TypeId) (ho : o.op = .call { callee := .builtin .append, args := #[s, x], argTypes := #[t, t] })
    (lo : Nat) (e : TypeId) (z : Value) (size bytes : Nat) (ht : P.underlying t = some (.slice e)) (hinf : (P.info? e).map (fun i => (i.zero, i.size, i.bytes)) = some (some z, size, bytes)) (hzs : z.cells.size = size) (hsz : 0 < size)
    (A : Option Addr) (n c : Nat) (xs : List Value) (hs : a.eval s = .slice A n c) (hown : OwnV w lo e size A n c xs) (B : Option Addr) (m d : Nat) (news : List Value) (hx : a.eval x = .slice B m d) (hsrc : Src w size B m news) (h1 : ∀ u ∈ news, u.oneCell' = true)
    (h63 : n + m ≤ maxLen) (hbytes : (n + m) * bytes ≤ 140737488355328) (hlo : lo ≤ w.heap.size)
    (h : ∀ A' c' w', OwnV w' lo e size A' (n + m) c' (xs ++ news) → w.grownBy w' (blk A c) → (blk A' c' = blk A c ∨ blk A' c' = some w.heap.size) → K (a.put o.dst (.slice A' (n + m) c')) w') :
    if Region.wanted o (yielded ops a.tmps) = true then Oper.wp P o a w K Q else E := by
  have hw : Region.wanted o (yielded ops a.tmps) = true := by simp [Region.wanted, hgd]
  rw [if_pos hw]
  exact wp_appV s x t ho lo e z size bytes ht hinf hzs hsz A n c xs hs hown B m d news hx hsrc h1 h63 hbytes hlo h
end
theorem Box.src {w : World} {g : Nat} {t : TypeId} {cs : Array Value} {m : Nat} (h : Box w g t cs) (hm : cs.size = m) : Src w m (some ⟨g, 0, none⟩) 1 cs.toList := by
  refine ⟨by simp [hm], fun _ => ⟨_, rfl, fun j u hu => ?_⟩⟩
  rw [addr_add, Nat.zero_add]
  exact h.cell j u (by rw [← hu]; simp)
end Go.Proofs.Ytbapamfomfbmmaa
