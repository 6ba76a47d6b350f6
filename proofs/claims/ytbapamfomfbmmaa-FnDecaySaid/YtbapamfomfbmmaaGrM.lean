/-
  Plain laws of guarded runs: the run as a function of lists; the bound of the exposure; the pattern is kept.
-/
import Derived.Test.YtbapamfomfbmmaaTkM
import Derived.Test.YtbapamfomfbmmaaExM
namespace Go.Proofs.Ytbapamfomfbmmaa
open Go.RowKit
set_option linter.unusedSimpArgs false
set_option linter.unusedVariables false

/-- The state of a guarded run: the tracker and the activations so far. -/
structure GSt where
  rs : List Int
  cs : List Int
  s : Int
  out : List Int
/-- The rows of a list that are not in the queue are appended to it. -/
def gNear (q near : List Int) : List Int := near.foldl (fun q x => if x ∈ q then q else q ++ [x]) q
def gStep (st : GSt) (row : Int) : GSt := ⟨trkR st.rs st.cs st.s row, trkC st.rs st.cs st.s row, trkS st.rs st.cs st.s row, st.out ++ [row]⟩
def gHit (limit : Int) (st : GSt) (row : Int) : Bool := decide (0 ≤ trkI st.rs st.cs st.s row) && ((trkC st.rs st.cs st.s row).getD (trkI st.rs st.cs st.s row).toNat 0).tmod limit == 0
def gNext (rows limit : Int) (st : GSt) (row : Int) (q : List Int) : List Int := if gHit limit st row = true then gNear q (nears rows row) else q
/-- The queue is worked off, with at most f activations. -/
def gIn (rows limit : Int) : Nat → GSt → List Int → Option GSt
  | 0, st, q => if q = [] then some st else none
  | f + 1, st, q => match q with
    | [] => some st
    | row :: q => gIn rows limit f (gStep st row) (gNext rows limit st row q)
def gOut (rows limit : Int) : List Int → GSt → Option GSt
  | [], st => some st
  | p :: ps, st => match gIn rows limit (1000 - st.out.length) st [p] with
    | none => none
    | some st' => gOut rows limit ps st'
def gZero (k : Nat) : GSt := ⟨List.replicate k (-1), List.replicate k 0, 0, []⟩
def gRun (rows k limit : Int) (pat : List Int) : Option GSt :=
  if inB k 1 16 = true ∧ patOk rows pat = true ∧ inB limit 3 1000 = true then gOut rows limit pat (gZero k.toNat) else none
def gList (rows k limit : Int) (pat : List Int) : List Int := match gRun rows k limit pat with
  | none => []
  | some st => st.out
def gOk (rows k limit : Int) (pat : List Int) : Bool := (gRun rows k limit pat).isSome

theorem gList_some {rows k limit : Int} {pat : List Int} {st : GSt} (h : gRun rows k limit pat = some st) : gList rows k limit pat = st.out := by unfold gList; rw [h]
theorem gIn_nil (rows limit : Int) (f : Nat) (st : GSt) : gIn rows limit f st [] = some st := by cases f <;> simp [gIn]
theorem gIn_zero (rows limit : Int) (st : GSt) (x : Int) (q : List Int) : gIn rows limit 0 st (x :: q) = none := by simp [gIn]
theorem gIn_cons (rows limit : Int) (f : Nat) (st : GSt) (x : Int) (q : List Int) : gIn rows limit (f + 1) st (x :: q) = gIn rows limit f (gStep st x) (gNext rows limit st x q) := by simp [gIn]

theorem gNear_snoc (q near : List Int) (x : Int) : gNear q (near ++ [x]) = if x ∈ gNear q near then gNear q near else gNear q near ++ [x] := by
  unfold gNear; rw [List.foldl_append]; rfl
theorem gNear_take {q near : List Int} {j : Nat} {x : Int} (h : near[j]? = some x) : gNear q (near.take (j + 1)) = if x ∈ gNear q (near.take j) then gNear q (near.take j) else gNear q (near.take j) ++ [x] := by
  rw [take_snoc h, gNear_snoc]
theorem gNear_ext (q near : List Int) : ∃ ext, gNear q near = q ++ ext ∧ (∀ z ∈ ext, z ∈ near) := by
  induction near using snoc_ind with
  | h0 => exact ⟨[], by simp [gNear], by simp⟩
  | h1 l x ih =>
    obtain ⟨ext, e, h⟩ := ih
    rw [gNear_snoc]
    split
    · exact ⟨ext, e, fun z hz => by simp [h z hz]⟩
    · refine ⟨ext ++ [x], by rw [e, List.append_assoc], fun z hz => ?_⟩
      rcases List.mem_append.1 hz with hz | hz
      · simp [h z hz]
      · simp at hz; simp [hz]
theorem gNear_mem {q near : List Int} {z : Int} (h : z ∈ near) : z ∈ gNear q near := by
  induction near using snoc_ind with
  | h0 => simp at h
  | h1 l x ih =>
    rw [gNear_snoc]
    rcases List.mem_append.1 h with h | h
    · split
      · exact ih h
      · exact List.mem_append.2 (.inl (ih h))
    · simp at h
      subst h
      split
      · assumption
      · simp
theorem gNear_nodup {q near : List Int} (h : q.Nodup) : (gNear q near).Nodup := by
  induction near using snoc_ind with
  | h0 => simpa [gNear] using h
  | h1 l x ih =>
    rw [gNear_snoc]
    split
    · exact ih
    · rw [List.nodup_append]
      refine ⟨ih, by simp, ?_⟩
      intro a ha b hb e
      simp at hb
      subst hb e
      contradiction
theorem gNear_len (q near : List Int) : (gNear q near).length ≤ q.length + near.length := by
  induction near using snoc_ind with
  | h0 => simp [gNear]
  | h1 l x ih =>
    rw [gNear_snoc]
    split <;> simp <;> omega
theorem nears_in {rows row z : Int} (h : z ∈ nears rows row) : 0 ≤ z ∧ z < rows ∧ z ≠ row := by
  unfold nears at h
  split at h
  · rename_i hh
    have h1 := inB_t hh.2
    rcases List.mem_append.1 h with h | h
    · split at h
      · simp at h; omega
      · simp at h
    · split at h
      · simp at h; omega
      · simp at h
  · simp at h
/-- Neighborhood goes both ways. -/
theorem nears_sym {rows row z : Int} (h : z ∈ nears rows row) : row ∈ nears rows z := by
  have h0 := nears_in h
  unfold nears at h ⊢
  split at h
  · rename_i hh
    have h1 := inB_t hh.2
    have h2 : inB z 0 (rows - 1) = true := inB_mk h0.1 (by omega)
    rw [if_pos ⟨hh.1, h2⟩]
    rcases List.mem_append.1 h with h | h
    · split at h
      · simp at h
        subst h
        rw [List.mem_append]
        right
        rw [if_pos (by omega)]
        simp
      · simp at h
    · split at h
      · simp at h
        subst h
        rw [List.mem_append]
        left
        rw [if_pos (by omega)]
        simp
      · simp at h
  · simp at h
theorem gNext_in {rows limit row : Int} {st : GSt} {q : List Int} (hq : ∀ x ∈ q, 0 ≤ x ∧ x < rows) : ∀ x ∈ gNext rows limit st row q, 0 ≤ x ∧ x < rows := by
  intro x hx
  unfold gNext at hx
  split at hx
  · obtain ⟨ext, e, h⟩ := gNear_ext q (nears rows row)
    rw [e] at hx
    rcases List.mem_append.1 hx with hx | hx
    · exact hq x hx
    · have := nears_in (h x hx); exact ⟨this.1, this.2.1⟩
  · exact hq x hx

/-- What the run keeps: the activations so far stay, and the head of the queue is the next one. -/
theorem gIn_ext {rows limit : Int} {f : Nat} {st st' : GSt} {q : List Int} (h : gIn rows limit f st q = some st') : ∃ ext, st'.out = st.out ++ ext ∧ (∀ p r, q = p :: r → ∃ e', ext = p :: e') := by
  induction f generalizing st q with
  | zero =>
    cases q with
    | nil => simp [gIn] at h; subst h; exact ⟨[], by simp, fun p r e => by cases e⟩
    | cons p q => simp [gIn] at h
  | succ f ih =>
    cases q with
    | nil => simp [gIn] at h; subst h; exact ⟨[], by simp, fun p r e => by cases e⟩
    | cons p q =>
      rw [gIn_cons] at h
      obtain ⟨ext, e, -⟩ := ih h
      refine ⟨p :: ext, by rw [e]; simp [gStep], fun p' r e' => ?_⟩
      injection e' with e1 e2
      subst e1
      exact ⟨ext, rfl⟩
theorem gOut_cons {rows limit p : Int} {ps : List Int} {st st' : GSt} (h : gOut rows limit (p :: ps) st = some st') : ∃ st1, gIn rows limit (1000 - st.out.length) st [p] = some st1 ∧ gOut rows limit ps st1 = some st' := by
  unfold gOut at h
  split at h
  · cases h
  · exact ⟨_, by assumption, h⟩
theorem gOut_ext {rows limit : Int} {ps : List Int} {st st' : GSt} (h : gOut rows limit ps st = some st') : ∃ ext, st'.out = st.out ++ ext ∧ ps.Sublist ext := by
  induction ps generalizing st with
  | nil => simp [gOut] at h; subst h; exact ⟨[], by simp, List.Sublist.refl _⟩
  | cons p ps ih =>
    obtain ⟨st1, h1, h2⟩ := gOut_cons h
    obtain ⟨e1, he1, hp⟩ := gIn_ext h1
    obtain ⟨e1', rfl⟩ := hp p [] rfl
    obtain ⟨e2, he2, hs⟩ := ih h2
    refine ⟨p :: e1' ++ e2, by rw [he2, he1]; simp, ?_⟩
    rw [List.cons_append]
    exact (hs.trans (List.sublist_append_right _ _)).cons_cons p
theorem gList_sub {rows k limit : Int} {pat : List Int} (h : gOk rows k limit pat = true) : pat.Sublist (gList rows k limit pat) := by
  unfold gOk at h
  obtain ⟨st, hst⟩ := Option.isSome_iff_exists.1 h
  rw [gList_some hst]
  unfold gRun at hst
  split at hst
  · obtain ⟨ext, e, hs⟩ := gOut_ext hst
    simp [gZero] at e
    rw [e]; exact hs
  · cases hst
theorem gIn_len {rows limit : Int} {f : Nat} {st st' : GSt} {q : List Int} (h : gIn rows limit f st q = some st') : st'.out.length ≤ st.out.length + f := by
  induction f generalizing st q with
  | zero =>
    cases q with
    | nil => simp [gIn] at h; subst h; omega
    | cons p q => simp [gIn] at h
  | succ f ih =>
    cases q with
    | nil => simp [gIn] at h; subst h; omega
    | cons p q =>
      rw [gIn_cons] at h
      have := ih h
      simp [gStep] at this
      omega
theorem gOut_len {rows limit : Int} {ps : List Int} {st st' : GSt} (h : gOut rows limit ps st = some st') (hl : st.out.length ≤ 1000) : st'.out.length ≤ 1000 := by
  induction ps generalizing st with
  | nil => simp [gOut] at h; subst h; exact hl
  | cons p ps ih =>
    obtain ⟨st1, h1, h2⟩ := gOut_cons h
    exact ih h2 (by have := gIn_len h1; omega)
theorem gList_len (rows k limit : Int) (pat : List Int) : (gList rows k limit pat).length ≤ 1000 := by
  unfold gList
  split
  · simp
  · rename_i st h
    unfold gRun at h
    split at h
    · exact gOut_len h (by simp [gZero])
    · cases h
theorem gIn_rows {rows limit : Int} {f : Nat} {st st' : GSt} {q : List Int} (h : gIn rows limit f st q = some st') (hq : ∀ x ∈ q, 0 ≤ x ∧ x < rows) (ho : ∀ x ∈ st.out, 0 ≤ x ∧ x < rows) : ∀ x ∈ st'.out, 0 ≤ x ∧ x < rows := by
  induction f generalizing st q with
  | zero =>
    cases q with
    | nil => simp [gIn] at h; subst h; exact ho
    | cons p q => simp [gIn] at h
  | succ f ih =>
    cases q with
    | nil => simp [gIn] at h; subst h; exact ho
    | cons p q =>
      rw [gIn_cons] at h
      refine ih h (gNext_in fun x hx => hq x (List.mem_cons_of_mem _ hx)) ?_
      intro x hx
      rcases List.mem_append.1 hx with hx | hx
      · exact ho x hx
      · simp at hx; subst hx; exact hq x (by simp)
theorem gOut_rows {rows limit : Int} {ps : List Int} {st st' : GSt} (h : gOut rows limit ps st = some st') (hq : ∀ x ∈ ps, 0 ≤ x ∧ x < rows) (ho : ∀ x ∈ st.out, 0 ≤ x ∧ x < rows) : ∀ x ∈ st'.out, 0 ≤ x ∧ x < rows := by
  induction ps generalizing st with
  | nil => simp [gOut] at h; subst h; exact ho
  | cons p ps ih =>
    obtain ⟨st1, h1, h2⟩ := gOut_cons h
    exact ih h2 (fun x hx => hq x (List.mem_cons_of_mem _ hx)) (gIn_rows h1 (fun x hx => by simp at hx; subst hx; exact hq x (by simp)) ho)

/-! The bound. -/
theorem tcount_of {rs cs zs : List Int} {s x v : Int} {k j : Nat} (h : Est rs cs s zs k) (hj : rs[j]? = some x) (hv : cs[j]? = some v) (hx : x ≠ -1) : tcount rs cs s x = v := by
  refine tcount_at (k := j) (fun hm => ?_) hj hv
  obtain ⟨i, hi⟩ := List.getElem?_of_mem hm
  have hi2 : i < j := by have := lt_of_get hi; simp at this; omega
  rw [List.getElem?_take, if_pos hi2] at hi
  have := h.dup i j x hi hj hx
  omega
theorem tcount_out {rs cs : List Int} {s x : Int} (hx : x ∉ rs) : tcount rs cs s x = s := by unfold tcount; rw [if_neg (fun h => hx h.1)]
theorem tcount_case {rs cs zs : List Int} {s x : Int} {k : Nat} (h : Est rs cs s zs k) (hx : 0 ≤ x) : (∃ (j : Nat) (v : Int), rs[j]? = some x ∧ cs[j]? = some v ∧ tcount rs cs s x = v) ∨ (x ∉ rs ∧ tcount rs cs s x = s) := by
  by_cases hm : x ∈ rs
  · obtain ⟨j, hj⟩ := mem_get hm
    have hjl := lt_of_get hj
    obtain ⟨v, hv⟩ := get_some (show j < cs.length by have := h.clen; have := h.rlen; omega)
    exact .inl ⟨j, v, hj, hv, tcount_of h hj hv (by omega)⟩
  · exact .inr ⟨hm, tcount_out hm⟩
theorem tcount_same {rs cs zs : List Int} {s x : Int} {k : Nat} (h : Est rs cs s zs k) (h0 : 0 ≤ x) (h1 : x ≤ 15) :
    tcount (trkR rs cs s x) (trkC rs cs s x) (trkS rs cs s x) x = tcount rs cs s x + 1 := by
  have hn := h.step h0 h1
  have hl : cs.length = rs.length := by rw [h.clen, h.rlen]
  by_cases hm : x ∈ rs
  · obtain ⟨j, ej, hj, hjl, -⟩ := mem_idx hm
    obtain ⟨v, hv⟩ := get_some (show j < cs.length by omega)
    have e1 : trkR rs cs s x = rs := by unfold trkR; rw [if_pos hm]
    have e2 : trkC rs cs s x = cs.set j (v + 1) := by unfold trkC; rw [if_pos hm, ej, getD_of hv]
    rw [tcount_of h hj hv (by omega)]
    exact tcount_of hn (by rw [e1]; exact hj) (by rw [e2]; exact List.getElem?_set_self (by omega)) (by omega)
  · rw [tcount_out hm]
    by_cases hs : s ∈ cs
    · obtain ⟨j, ej, hj, hjl, -⟩ := mem_idx hs
      have e1 : trkR rs cs s x = rs.set j x := by unfold trkR; rw [if_neg hm, if_pos hs, ej]
      have e2 : trkC rs cs s x = cs.set j (s + 1) := by unfold trkC; rw [if_neg hm, if_pos hs, ej]
      exact tcount_of hn (j := j) (by rw [e1]; exact List.getElem?_set_self (by omega)) (by rw [e2]; exact List.getElem?_set_self (by omega)) (by omega)
    · have e1 : trkR rs cs s x = rs := by unfold trkR; rw [if_neg hm, if_neg hs]
      have e3 : trkS rs cs s x = s + 1 := by unfold trkS; rw [if_neg hm, if_neg hs]
      rw [tcount_out (by rw [e1]; exact hm), e3]
theorem tcount_other {rs cs zs : List Int} {s x y : Int} {k : Nat} (h : Est rs cs s zs k) (h0 : 0 ≤ y) (h1 : y ≤ 15) (hx : 0 ≤ x) (hne : x ≠ y) :
    tcount (trkR rs cs s y) (trkC rs cs s y) (trkS rs cs s y) x = tcount rs cs s x ∨ (tcount rs cs s x = s ∧ tcount (trkR rs cs s y) (trkC rs cs s y) (trkS rs cs s y) x = s + 1 ∧ trkS rs cs s y = s + 1) := by
  have hn := h.step h0 h1
  have hl : cs.length = rs.length := by rw [h.clen, h.rlen]
  by_cases hm : y ∈ rs
  · left
    obtain ⟨i, ei, hi, hil, -⟩ := mem_idx hm
    have e1 : trkR rs cs s y = rs := by unfold trkR; rw [if_pos hm]
    have e2 : trkC rs cs s y = cs.set i (cs.getD i 0 + 1) := by unfold trkC; rw [if_pos hm, ei]
    have e3 : trkS rs cs s y = s := by unfold trkS; rw [if_pos hm]
    rcases tcount_case h hx with ⟨j, v, hj, hv, e⟩ | ⟨hxm, e⟩
    · rw [e]
      have hij : i ≠ j := by intro e; subst e; rw [hi] at hj; injection hj with hj; omega
      exact tcount_of hn (by rw [e1]; exact hj) (by rw [e2, List.getElem?_set_ne hij]; exact hv) (by omega)
    · rw [e, tcount_out (by rw [e1]; exact hxm), e3]
  · by_cases hs : s ∈ cs
    · left
      obtain ⟨i, ei, hi, hil, -⟩ := mem_idx hs
      have e1 : trkR rs cs s y = rs.set i y := by unfold trkR; rw [if_neg hm, if_pos hs, ei]
      have e2 : trkC rs cs s y = cs.set i (s + 1) := by unfold trkC; rw [if_neg hm, if_pos hs, ei]
      have e3 : trkS rs cs s y = s := by unfold trkS; rw [if_neg hm, if_pos hs]
      rcases tcount_case h hx with ⟨j, v, hj, hv, e⟩ | ⟨hxm, e⟩
      · rw [e]
        by_cases hij : i = j
        · subst hij
          rw [hi] at hv
          injection hv with hv
          rw [tcount_out, e3, hv]
          rw [e1]
          intro hc
          obtain ⟨a, ha⟩ := mem_get hc
          rcases get_set ha with ⟨-, e', -⟩ | ⟨hne', ha⟩
          · exact hne e'.symm
          · exact hne' (h.dup i a x hj ha (by omega))
        · exact tcount_of hn (by rw [e1, List.getElem?_set_ne hij]; exact hj) (by rw [e2, List.getElem?_set_ne hij]; exact hv) (by omega)
      · rw [e, tcount_out, e3]
        rw [e1]
        intro hc
        obtain ⟨a, ha⟩ := mem_get hc
        rcases get_set ha with ⟨-, e', -⟩ | ⟨-, ha⟩
        · exact hne e'.symm
        · exact hxm (get_mem ha)
    · have e1 : trkR rs cs s y = rs := by unfold trkR; rw [if_neg hm, if_neg hs]
      have e2 : trkC rs cs s y = cs := by unfold trkC; rw [if_neg hm, if_neg hs]
      have e3 : trkS rs cs s y = s + 1 := by unfold trkS; rw [if_neg hm, if_neg hs]
      rcases tcount_case h hx with ⟨j, v, hj, hv, e⟩ | ⟨hxm, e⟩
      · left
        rw [e]
        exact tcount_of hn (by rw [e1]; exact hj) (by rw [e2]; exact hv) (by omega)
      · right
        exact ⟨e, by rw [tcount_out (by rw [e1]; exact hxm), e3], e3⟩
/-- A count that reaches a multiple of the limit is seen. -/
theorem gHit_of {st : GSt} {limit x : Int} {k : Nat} (h : Est st.rs st.cs st.s st.out k) (h0 : 0 ≤ x) (h1 : x ≤ 15) (hl : 0 < limit)
    (hs : trkS st.rs st.cs st.s x < limit) (hz : (tcount st.rs st.cs st.s x + 1) % limit = 0) : gHit limit st x = true := by
  have hn := h.step h0 h1
  have hl' : st.cs.length = st.rs.length := by rw [h.clen, h.rlen]
  have hs0 := h.s0
  have hsame := tcount_same h h0 h1
  by_cases hm : x ∈ st.rs ∨ st.s ∈ st.cs
  · have key : ∃ (i : Nat) (y : Int), trkI st.rs st.cs st.s x = i ∧ (trkR st.rs st.cs st.s x)[i]? = some x ∧ (trkC st.rs st.cs st.s x)[i]? = some y := by
      by_cases hx : x ∈ st.rs
      · obtain ⟨i, ei, hi, hil, hI⟩ := mem_idx hx
        refine ⟨i, st.cs.getD i 0 + 1, by unfold trkI; rw [if_pos hx, hI], by unfold trkR; rw [if_pos hx]; exact hi, by unfold trkC; rw [if_pos hx, ei]; exact List.getElem?_set_self (by omega)⟩
      · have hc := hm.resolve_left hx
        obtain ⟨i, ei, hi, hil, hI⟩ := mem_idx hc
        refine ⟨i, st.s + 1, by unfold trkI; rw [if_neg hx, hI], by unfold trkR; rw [if_neg hx, if_pos hc, ei]; exact List.getElem?_set_self (by omega), by unfold trkC; rw [if_neg hx, if_pos hc, ei]; exact List.getElem?_set_self (by omega)⟩
    obtain ⟨i, y, hI, hr, hy⟩ := key
    have e := tcount_of hn hr hy (by omega)
    unfold gHit
    rw [hI, Int.toNat_natCast, getD_of hy, ← e, hsame]
    have hge : 0 ≤ tcount st.rs st.cs st.s x + 1 := by
      rw [← hsame, e]; have := hn.cge i y hy; have := hn.s0; omega
    rw [Int.tmod_eq_emod_of_nonneg hge, hz]
    simp
  · exfalso
    have hx : x ∉ st.rs := fun e => hm (.inl e)
    have hc : st.s ∉ st.cs := fun e => hm (.inr e)
    rw [tcount_out hx] at hz
    have e3 : trkS st.rs st.cs st.s x = st.s + 1 := by unfold trkS; rw [if_neg hx, if_neg hc]
    rw [e3] at hs
    rw [Int.emod_eq_of_lt (by omega) hs] at hz
    omega

/-- The activations of x since the last one of r. -/
def mStep (r x m y : Int) : Int := if y = r then 0 else if y = x then m + 1 else m
def mOf (r x : Int) (zs : List Int) : Int := zs.foldl (mStep r x) 0
theorem mOf_snoc (r x : Int) (zs : List Int) (y : Int) : mOf r x (zs ++ [y]) = mStep r x (mOf r x zs) y := by unfold mOf; rw [List.foldl_append]; rfl
theorem sum_bump (near : List Int) (f : Int → Int) (y : Int) : (near.map fun x => if y = x then f x + 1 else f x).sum = (near.map f).sum + cnt near y := by
  induction near with
  | nil => simp [cnt]
  | cons a l ih =>
    rw [cnt_cons]
    simp only [List.map_cons, List.sum_cons, ih]
    by_cases h : y = a
    · subst h; simp; omega
    · rw [if_neg h, if_neg (fun e => h e.symm)]; omega
theorem sum_zero (near : List Int) : (near.map fun _ => (0 : Int)).sum = 0 := by
  induction near with
  | nil => rfl
  | cons a l ih => simp only [List.map_cons, List.sum_cons, ih]; rfl
theorem expo_mOf {rows r : Int} (zs : List Int) : (expoTo (nears rows r) r zs).2 = ((nears rows r).map fun x => mOf r x zs).sum := by
  induction zs using snoc_ind with
  | h0 => simp only [expoTo, List.foldl_nil, mOf]; exact (sum_zero _).symm
  | h1 zs y ih =>
    rw [expoTo_app]
    unfold expoStep
    simp only [mOf_snoc, mStep]
    by_cases h : y = r
    · subst h
      simp only [if_true]
      rw [cnt_self, sum_zero]; rfl
    · simp only [if_neg h]
      rw [ih, ← sum_bump]
theorem sum_cap {near : List Int} {f : Int → Int} {c : Int} (h : ∀ x ∈ near, f x ≤ c) (hc : 0 ≤ c) (hl : near.length ≤ 2) : (near.map f).sum ≤ 2 * c := by
  match near, hl with
  | [], _ => simp; omega
  | [a], _ => have := h a (by simp); simp; omega
  | [a, b], _ => have := h a (by simp); have := h b (by simp); simp; omega

/-- What holds of a row r and its neighbors all along a run. -/
def gNb (rows limit r : Int) (st : GSt) (q : List Int) : Prop :=
  ∀ x ∈ nears rows r, mOf r x st.out ≤ tcount st.rs st.cs st.s x % limit ∨ (mOf r x st.out ≤ limit ∧ ∃ a b, q = a ++ r :: b ∧ x ∉ a)
structure GInv (rows limit r : Int) (k : Nat) (st : GSt) (q : List Int) : Prop where
  est : Est st.rs st.cs st.s st.out k
  nod : q.Nodup
  qin : ∀ x ∈ q, 0 ≤ x ∧ x < rows
  exp : (expoTo (nears rows r) r st.out).1 ≤ 2 * limit
  nb : gNb rows limit r st q
theorem GInv.cap {rows limit r : Int} {k : Nat} {st : GSt} {q : List Int} (h : gNb rows limit r st q) (hl : 0 < limit) : (expoTo (nears rows r) r st.out).2 ≤ 2 * limit := by
  rw [expo_mOf]
  refine sum_cap (fun x hx => ?_) (by omega) (nears_len rows r)
  rcases h x hx with h | ⟨h, -⟩
  · have := Int.emod_lt_of_pos (tcount st.rs st.cs st.s x) hl
    omega
  · exact h
theorem GInv.step {rows limit r row : Int} {k : Nat} {st : GSt} {q : List Int} (h : GInv rows limit r k st (row :: q)) (h2 : 2 ≤ rows) (h16 : rows ≤ 16) (hl : 2 ≤ limit)
    (hs : (gStep st row).s < limit) : GInv rows limit r k (gStep st row) (gNext rows limit st row q) := by
  obtain ⟨he, hnd, hq, hx, hnb⟩ := h
  have hrow := hq row (by simp)
  have hE := he.step (row := row) hrow.1 (by omega)
  have hnd' := List.nodup_cons.1 hnd
  have ht : ∀ x : Int, 0 ≤ x → 0 ≤ tcount st.rs st.cs st.s x := by
    intro x h0
    rcases tcount_case he h0 with ⟨j, v, hj, hv, e⟩ | ⟨-, e⟩
    · rw [e]; have := he.cge j v hv; have := he.s0; omega
    · rw [e]; exact he.s0
  have nb' : gNb rows limit r (gStep st row) (gNext rows limit st row q) := by
    intro x hxn
    have hxr := nears_in hxn
    show mOf r x (st.out ++ [row]) ≤ tcount (trkR st.rs st.cs st.s row) (trkC st.rs st.cs st.s row) (trkS st.rs st.cs st.s row) x % limit ∨ (mOf r x (st.out ++ [row]) ≤ limit ∧ _)
    rw [mOf_snoc]
    unfold mStep
    by_cases e1 : row = r
    · left
      rw [if_pos e1]
      exact Int.emod_nonneg _ (by omega)
    · rw [if_neg e1]
      by_cases e2 : row = x
      · subst e2
        rw [if_pos rfl]
        rcases hnb row hxn with hA | ⟨-, a, b, hab, hxa⟩
        · rw [tcount_same he hrow.1 (by omega)]
          by_cases hz : (tcount st.rs st.cs st.s row + 1) % limit = 0
          · right
            have hhit := gHit_of he hrow.1 (by omega) (by omega) hs hz
            have hlt := Int.emod_lt_of_pos (tcount st.rs st.cs st.s row) (show 0 < limit by omega)
            refine ⟨by omega, ?_⟩
            unfold gNext
            rw [if_pos hhit]
            obtain ⟨a, b, hab⟩ := List.append_of_mem (gNear_mem (q := q) (nears_sym hxn))
            refine ⟨a, b, hab, fun hc => ?_⟩
            have hmem : row ∈ gNear q (nears rows row) := by rw [hab]; exact List.mem_append.2 (.inl hc)
            obtain ⟨ext, ee, hext⟩ := gNear_ext q (nears rows row)
            rw [ee] at hmem
            rcases List.mem_append.1 hmem with hm | hm
            · exact hnd'.1 hm
            · exact (nears_in (hext row hm)).2.2 rfl
          · left
            have h0 := ht row hrow.1
            have : (tcount st.rs st.cs st.s row + 1) % limit = tcount st.rs st.cs st.s row % limit + 1 := by
              have hlt := Int.emod_lt_of_pos (tcount st.rs st.cs st.s row) (show 0 < limit by omega)
              have hge := Int.emod_nonneg (tcount st.rs st.cs st.s row) (show limit ≠ 0 by omega)
              rw [Int.add_emod, Int.emod_eq_of_lt (a := 1) (by omega) (by omega)] at hz ⊢
              by_cases hc : tcount st.rs st.cs st.s row % limit + 1 = limit
              · rw [hc, Int.emod_self] at hz; exact absurd rfl hz
              · exact Int.emod_eq_of_lt (by omega) (by omega)
            omega
        · exfalso
          cases a with
          | nil => injection hab with e _; exact e1 e
          | cons z a => injection hab with e _; subst e; exact hxa (by simp)
      · rw [if_neg e2]
        rcases hnb x hxn with hA | ⟨hm, a, b, hab, hxa⟩
        · left
          rcases tcount_other he hrow.1 (by omega) hxr.1 (fun e => e2 e.symm) with e | ⟨e3, e4, e5⟩
          · rw [e]; exact hA
          · rw [e4]
            have hs' : st.s + 1 < limit := by have : (gStep st row).s = st.s + 1 := e5; omega
            have := he.s0
            rw [e3, Int.emod_eq_of_lt (by omega) (by omega)] at hA
            rw [Int.emod_eq_of_lt (by omega) hs']
            omega
        · right
          refine ⟨hm, ?_⟩
          cases a with
          | nil => injection hab with e _; exact absurd e e1
          | cons z a =>
            injection hab with e hq'
            subst e
            have hxa' : x ∉ a := fun hc => hxa (List.mem_cons_of_mem _ hc)
            unfold gNext
            split
            · obtain ⟨ext, ee, -⟩ := gNear_ext q (nears rows row)
              exact ⟨a, b ++ ext, by rw [ee, hq']; simp, hxa'⟩
            · exact ⟨a, b, hq', hxa'⟩
  refine ⟨hE, ?_, gNext_in fun x hx => hq x (List.mem_cons_of_mem _ hx), ?_, nb'⟩
  · unfold gNext
    split
    · exact gNear_nodup hnd'.2
    · exact hnd'.2
  · have hc := GInv.cap (k := k) nb' (by omega)
    have e : (gStep st row).out = st.out ++ [row] := rfl
    rw [e] at hc ⊢
    rw [expoTo_app] at hc ⊢
    unfold expoStep at hc ⊢
    simp only at hc ⊢
    omega
theorem spill_lt {rs cs zs : List Int} {s limit : Int} {k : Nat} (h : Est rs cs s zs k) (hl : (zs.length : Int) < ((k : Int) + 1) * limit) : s < limit := by
  have h1 := h.sp
  refine Classical.byContradiction fun hc => ?_
  have h2 := Int.mul_le_mul_of_nonneg_right (show limit ≤ s by omega) (show (0 : Int) ≤ (k : Int) + 1 by omega)
  rw [Int.mul_comm] at hl
  omega
theorem gIn_inv {rows limit r : Int} {k f : Nat} {st st' : GSt} {q : List Int} (h : gIn rows limit f st q = some st') (hi : GInv rows limit r k st q) (h2 : 2 ≤ rows) (h16 : rows ≤ 16) (hl : 2 ≤ limit)
    (hlen : (st'.out.length : Int) < ((k : Int) + 1) * limit) : GInv rows limit r k st' [] := by
  induction f generalizing st q with
  | zero =>
    cases q with
    | nil => simp [gIn] at h; subst h; exact hi
    | cons p q => simp [gIn] at h
  | succ f ih =>
    cases q with
    | nil => simp [gIn] at h; subst h; exact hi
    | cons p q =>
      rw [gIn_cons] at h
      obtain ⟨ext, e, -⟩ := gIn_ext h
      have hrow := hi.qin p (by simp)
      have hE : Est (gStep st p).rs (gStep st p).cs (gStep st p).s (gStep st p).out k := hi.est.step hrow.1 (by omega)
      exact ih h (hi.step h2 h16 hl (spill_lt hE (by rw [e] at hlen; simp at hlen ⊢; omega)))
theorem gOut_inv {rows limit r : Int} {k : Nat} {st st' : GSt} {ps : List Int} (h : gOut rows limit ps st = some st') (hi : GInv rows limit r k st []) (hp : ∀ x ∈ ps, 0 ≤ x ∧ x < rows) (h2 : 2 ≤ rows) (h16 : rows ≤ 16) (hl : 2 ≤ limit)
    (hlen : (st'.out.length : Int) < ((k : Int) + 1) * limit) : GInv rows limit r k st' [] := by
  induction ps generalizing st with
  | nil => simp [gOut] at h; subst h; exact hi
  | cons p ps ih =>
    obtain ⟨st1, h1, h3⟩ := gOut_cons h
    obtain ⟨ext, e, -⟩ := gOut_ext h3
    refine ih h3 (gIn_inv h1 ⟨hi.est, by simp, fun x hx => ?_, hi.exp, fun x hx => ?_⟩ h2 h16 hl (by rw [e] at hlen; simp at hlen; omega)) (fun x hx => hp x (List.mem_cons_of_mem _ hx))
    · simp at hx; subst hx; exact hp x (by simp)
    · rcases hi.nb x hx with h | ⟨-, a, b, hab, -⟩
      · exact .inl h
      · simp at hab
theorem worst_le {rows c : Int} {zs : List Int} (hc : 0 ≤ c) (h : ∀ r, 0 ≤ r → r < rows → expo rows zs r ≤ c) : worst rows zs ≤ c := by
  unfold worst
  split
  · rename_i hp
    have key : ∀ n : Nat, (n : Int) ≤ rows → worstTo rows zs n ≤ c := by
      intro n
      induction n with
      | zero => intro _; simp [worstTo]; exact hc
      | succ n ih =>
        intro hn
        have h1 := ih (by omega)
        unfold worstTo at h1 ⊢
        rw [List.range_succ, List.foldl_append]
        have h2 := h n (by omega) (by omega)
        simp only [List.foldl_cons, List.foldl_nil]
        omega
    by_cases h0 : 0 ≤ rows
    · exact key _ (by omega)
    · have : rows.toNat = 0 := by omega
      rw [this]; simp [worstTo]; exact hc
  · exact hc
/-- The bound of a guarded run. -/
theorem guarded_worst {rows k limit : Int} {pat : List Int} (h : gOk rows k limit pat = true) (hlen : ((gList rows k limit pat).length : Int) < (k + 1) * limit) :
    worst rows (gList rows k limit pat) ≤ 2 * limit ∧ inB limit 3 1000 = true ∧ (∀ x ∈ gList rows k limit pat, 0 ≤ x ∧ x < rows) ∧ (gList rows k limit pat).length ≤ 1000 := by
  unfold gOk at h
  obtain ⟨st, hst⟩ := Option.isSome_iff_exists.1 h
  rw [gList_some hst] at hlen ⊢
  unfold gRun at hst
  split at hst
  · rename_i hg
    obtain ⟨hk, hp, hl⟩ := hg
    have k1 := inB_t hk
    have l1 := inB_t hl
    unfold patOk at hp
    simp only [Bool.and_eq_true, decide_eq_true_eq] at hp
    have r1 := inB_t hp.1
    have hin : ∀ x ∈ pat, 0 ≤ x ∧ x < rows := by
      intro x hx
      have h3 := hp.2.2
      unfold rowsIn at h3
      rw [List.all_eq_true] at h3
      have := inB_t (h3 x hx)
      omega
    have ho := gOut_rows hst hin (by simp [gZero])
    have hl2 := gOut_len hst (by simp [gZero])
    refine ⟨worst_le (by omega) fun r h0 h1 => ?_, hl, ho, hl2⟩
    have hi : GInv rows limit r k.toNat (gZero k.toNat) [] := by
      refine ⟨Est.new _, by simp, by simp, by simp [gZero, expoTo]; omega, fun x hx => .inl ?_⟩
      simp only [gZero, mOf, List.foldl_nil]
      exact Int.emod_nonneg _ (by omega)
    have hf := gOut_inv hst hi hin (by omega) (by omega) (by omega) (by rw [Int.toNat_of_nonneg (by omega)]; exact hlen)
    unfold expo
    split
    · exact hf.exp
    · omega
  · cases hst
end Go.Proofs.Ytbapamfomfbmmaa
