/-
  Contracts of OpenBanks and CloseBank, in the program and in the reference.
-/
import Derived.Test.YtbapamfomfbmmaaPagA
namespace Go.Proofs.Ytbapamfomfbmmaa
open Go.RowKit
set_option linter.unusedSimpArgs false
set_option linter.unusedVariables false

/-- The open banks among the first k. -/
def opensTo (ks : List Bnk) (k : Nat) : List Int := ((List.range k).filter fun i => (ks.getD i Bnk.zero).opn).map fun (i : Nat) => (i : Int)
def opens (ks : List Bnk) : List Int := opensTo ks ks.length
theorem opensTo_yes {ks : List Bnk} {k : Nat} {r : Bnk} (hr : ks[k]? = some r) (h : r.opn = true) : opensTo ks (k + 1) = opensTo ks k ++ [(k : Int)] := by
  unfold opensTo; rw [List.range_succ, List.filter_append, List.map_append]; simp only [List.filter_cons, List.filter_nil, getBnk hr, h, if_true, List.map_cons, List.map_nil]
theorem opensTo_no {ks : List Bnk} {k : Nat} {r : Bnk} (hr : ks[k]? = some r) (h : r.opn = false) : opensTo ks (k + 1) = opensTo ks k := by
  unfold opensTo; rw [List.range_succ, List.filter_append, List.map_append]; simp only [List.filter_cons, List.filter_nil, getBnk hr, h, Bool.false_eq_true, if_false, List.map_nil, List.append_nil]
theorem opensTo_len (ks : List Bnk) (k : Nat) : (opensTo ks k).length ≤ k := by
  unfold opensTo; rw [List.length_map]; have := List.length_filter_le (fun i => (ks.getD i Bnk.zero).opn) (List.range k); simpa using this
theorem opens_mem {ks : List Bnk} {x : Int} : x ∈ opens ks ↔ ∃ k : Nat, x = (k : Int) ∧ k < ks.length ∧ (ks.getD k Bnk.zero).opn = true := by
  unfold opens opensTo
  rw [List.mem_map]
  constructor
  · rintro ⟨k, hk, rfl⟩
    rw [List.mem_filter, List.mem_range] at hk
    exact ⟨k, rfl, hk.1, hk.2⟩
  · rintro ⟨k, rfl, h1, h2⟩
    exact ⟨k, by rw [List.mem_filter, List.mem_range]; exact ⟨h1, h2⟩, rfl⟩
theorem opens_lt (ks : List Bnk) : (opens ks).Pairwise (· < ·) := by
  unfold opens opensTo
  rw [List.pairwise_map]
  exact (List.pairwise_lt_range.filter _).imp (by intro a b h; omega)
theorem mem_take_of_lt {l : List Int} (hp : l.Pairwise (· < ·)) {m : Nat} {b x : Int} (hb : l[m]? = some b) (hx : x ∈ l) (hlt : x < b) : x ∈ l.take m := by
  obtain ⟨i, hi, rfl⟩ := List.getElem_of_mem hx
  have hm := lt_of_get hb
  rw [List.getElem?_eq_getElem hm] at hb
  injection hb with hb
  by_cases him : i < m
  · exact List.mem_of_getElem? (show (l.take m)[i]? = some l[i] by rw [List.getElem?_take, if_pos him, List.getElem?_eq_getElem hi])
  · exfalso
    rcases Nat.lt_or_eq_of_le (Nat.le_of_not_lt him) with h | h
    · have := List.pairwise_iff_getElem.1 hp m i hm hi h
      omega
    · subst h; omega
/-- Somebody waits for the row of a bank. -/
def wantB (ks : List Bnk) (ws : List Adr) (k : Nat) : Bool := ws.any fun a => (a.bank == (k : Int)) && (a.row == (ks.getD k Bnk.zero).row)
/-- A bank is not to be closed. -/
def keepB (ks : List Bnk) (ws : List Adr) (k : Nat) : Bool := !(ks.getD k Bnk.zero).opn || wantB ks ws k
/-- The bank to be closed, or -1. -/
def closeB (ks : List Bnk) (page : Int) (ws : List Adr) : Int := if page = 1 then (match (List.range ks.length).find? fun k => !keepB ks ws k with | some k => (k : Int) | none => -1) else -1
theorem close_at {ks : List Bnk} {ws : List Adr} {k : Nat} (hk : k < ks.length) (h : ∀ j, j < k → keepB ks ws j = true) (hn : keepB ks ws k = false) : closeB ks 1 ws = k := by
  unfold closeB
  rw [if_pos rfl]
  have : (List.range ks.length).find? (fun k => !keepB ks ws k) = some k := by
    rw [List.find?_range_eq_some]
    refine ⟨by simp [hn], List.mem_range.2 hk, fun j hj => ?_⟩
    simp [h j hj]
  rw [this]
theorem close_none {ks : List Bnk} {ws : List Adr} (h : ∀ j, j < ks.length → keepB ks ws j = true) : closeB ks 1 ws = -1 := by
  unfold closeB
  rw [if_pos rfl]
  have : (List.range ks.length).find? (fun k => !keepB ks ws k) = none := by
    rw [List.find?_eq_none]
    intro k hk
    simp [h k (List.mem_range.1 hk)]
  rw [this]
theorem close_off {ks : List Bnk} {ws : List Adr} {page : Int} (h : page ≠ 1) : closeB ks page ws = -1 := by unfold closeB; rw [if_neg h]
theorem want_snoc {ks : List Bnk} {ws : List Adr} {k j : Nat} {r : Bnk} {a : Adr} (hr : ks[k]? = some r) (ha : ws[j]? = some a) : wantB ks (ws.take (j + 1)) k = (wantB ks (ws.take j) k || ((a.bank == (k : Int)) && (a.row == r.row))) := by
  unfold wantB; rw [take_snoc ha, List.any_append, getBnk hr]; simp



end Go.Proofs.Ytbapamfomfbmmaa
