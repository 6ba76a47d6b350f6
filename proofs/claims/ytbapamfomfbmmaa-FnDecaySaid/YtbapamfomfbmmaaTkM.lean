/-
  Plain laws of the tracker: one row counted; the estimates; the sum; validity.
-/
import Derived.Test.YtbapamfomfbmmaaTrk2
import Derived.Test.YtbapamfomfbmmaaTrk3
import Derived.Test.YtbapamfomfbmmaaPat1
namespace Go.Proofs.Ytbapamfomfbmmaa
open Go.RowKit
set_option linter.unusedSimpArgs false
set_option linter.unusedVariables false

/-- The tracker after a row has been counted: rows, counts, spill, and the index of the count (or -1). -/
def trkR (rs cs : List Int) (s row : Int) : List Int := if row ∈ rs then rs else if s ∈ cs then rs.set (cs.idxOf s) row else rs
def trkC (rs cs : List Int) (s row : Int) : List Int := if row ∈ rs then cs.set (rs.idxOf row) (cs.getD (rs.idxOf row) 0 + 1) else if s ∈ cs then cs.set (cs.idxOf s) (s + 1) else cs
def trkS (rs cs : List Int) (s row : Int) : Int := if row ∈ rs then s else if s ∈ cs then s else s + 1
def trkI (rs cs : List Int) (s row : Int) : Int := if row ∈ rs then idxI rs row else idxI cs s
def trkIn (rs cs : List Int) (s row limit : Int) : Bool := tokOk rs cs s && (inB row 0 15 && inB limit 2 1000)
def trkOk (rs cs : List Int) (s row limit : Int) : Bool := trkIn rs cs s row limit && tokOk (trkR rs cs s row) (trkC rs cs s row) (trkS rs cs s row)
def trkFull (rs cs : List Int) (s row limit : Int) : Bool := trkOk rs cs s row limit && (decide (0 ≤ trkI rs cs s row) && ((trkC rs cs s row).getD (trkI rs cs s row).toNat 0).tmod limit == 0)
def trkR' (rs cs : List Int) (s row limit : Int) : List Int := if trkOk rs cs s row limit = true then trkR rs cs s row else rs
def trkC' (rs cs : List Int) (s row limit : Int) : List Int := if trkOk rs cs s row limit = true then trkC rs cs s row else cs
def trkS' (rs cs : List Int) (s row limit : Int) : Int := if trkOk rs cs s row limit = true then trkS rs cs s row else s

theorem mem_idx {l : List Int} {x : Int} (h : x ∈ l) : ∃ k : Nat, l.idxOf x = k ∧ l[k]? = some x ∧ k < l.length ∧ idxI l x = k := by
  have hk := List.idxOf_lt_length_of_mem h
  refine ⟨l.idxOf x, rfl, by rw [List.getElem?_eq_getElem hk, List.getElem_idxOf hk], hk, ?_⟩
  unfold idxI; rw [if_pos h]

/-- A tracker that has counted the rows of zs. -/
structure Est (rs cs : List Int) (s : Int) (zs : List Int) (k : Nat) : Prop where
  rlen : rs.length = k
  clen : cs.length = k
  s0 : 0 ≤ s
  rin : ∀ (i : Nat) (x : Int), rs[i]? = some x → -1 ≤ x ∧ x ≤ 15
  cge : ∀ (i : Nat) (y : Int), cs[i]? = some y → s ≤ y
  free : ∀ (i : Nat) (y : Int), rs[i]? = some (-1) → cs[i]? = some y → y = 0
  dup : ∀ (i j : Nat) (x : Int), rs[i]? = some x → rs[j]? = some x → x ≠ -1 → i = j
  sum : s + cs.sum = zs.length
  est : ∀ (i : Nat) (x y : Int), rs[i]? = some x → cs[i]? = some y → x ≠ -1 → cnt zs x ≤ y
  out : ∀ r, 0 ≤ r → r ∉ rs → cnt zs r ≤ s

theorem cnt_snoc' (zs : List Int) (x r : Int) : cnt (zs ++ [x]) r = cnt zs r + (if x = r then 1 else 0) := by
  unfold cnt
  rw [List.count_append, List.count_singleton]
  by_cases h : x = r
  · subst h; simp
  · simp [h]
theorem get_set {l : List Int} {i j : Nat} {v x : Int} (h : (l.set i v)[j]? = some x) : (i = j ∧ v = x ∧ i < l.length) ∨ (i ≠ j ∧ l[j]? = some x) := by
  rw [List.getElem?_set] at h
  by_cases e : i = j
  · rw [if_pos e] at h
    split at h
    · injection h with h; exact .inl ⟨e, h, by assumption⟩
    · cases h
  · rw [if_neg e] at h; exact .inr ⟨e, h⟩
theorem sum_set {l : List Int} {i : Nat} {x : Int} (v : Int) (h : l[i]? = some x) : (l.set i v).sum = l.sum - x + v := by
  induction l generalizing i with
  | nil => simp at h
  | cons a l ih =>
    cases i with
    | zero => simp at h; subst h; simp; omega
    | succ i => simp at h; simp [ih h]; omega
theorem get_mem {l : List Int} {i : Nat} {x : Int} (h : l[i]? = some x) : x ∈ l := List.mem_of_getElem? h
theorem mem_get {l : List Int} {x : Int} (h : x ∈ l) : ∃ i : Nat, l[i]? = some x := List.getElem?_of_mem h
theorem get_some {l : List Int} {i : Nat} (h : i < l.length) : ∃ x, l[i]? = some x := ⟨_, List.getElem?_eq_getElem h⟩
theorem not_set {l : List Int} {i : Nat} {v r : Int} (h : r ∉ l.set i v) (hi : i < l.length) : r ≠ v ∧ ∀ (j : Nat), j ≠ i → l[j]? ≠ some r := by
  refine ⟨fun e => h ?_, fun j hj e => h ?_⟩
  · subst e; exact get_mem (i := i) (List.getElem?_set_self hi)
  · exact get_mem (i := j) (by rw [List.getElem?_set_ne (by omega)]; exact e)

theorem Est.new (k : Nat) : Est (List.replicate k (-1)) (List.replicate k 0) 0 [] k := by
  have hr : ∀ (v : Int) (i : Nat) (x : Int), (List.replicate k v)[i]? = some x → x = v := fun v i x h => List.eq_of_mem_replicate (List.mem_of_getElem? h)
  refine ⟨by simp, by simp, by omega, ?_, ?_, ?_, ?_, by simp, ?_, ?_⟩
  · intro i x h; have := hr _ _ _ h; omega
  · intro i x h; have := hr _ _ _ h; omega
  · intro i x _ h; exact hr _ _ _ h
  · intro i j x h _ hn; exact absurd (hr _ _ _ h) hn
  · intro i x y h _ hn; exact absurd (hr _ _ _ h) hn
  · intro r _ _; simp [cnt]
theorem Est.step {rs cs zs : List Int} {s row : Int} {k : Nat} (h : Est rs cs s zs k) (h0 : 0 ≤ row) (h1 : row ≤ 15) : Est (trkR rs cs s row) (trkC rs cs s row) (trkS rs cs s row) (zs ++ [row]) k := by
  have hc := h.clen
  have hl := h.rlen
  by_cases hm : row ∈ rs
  · obtain ⟨i, ei, hi, hil, -⟩ := mem_idx hm
    obtain ⟨y, hy⟩ := get_some (show i < cs.length by omega)
    have e1 : trkR rs cs s row = rs := by unfold trkR; rw [if_pos hm]
    have e2 : trkC rs cs s row = cs.set i (y + 1) := by unfold trkC; rw [if_pos hm, ei, getD_of hy]
    have e3 : trkS rs cs s row = s := by unfold trkS; rw [if_pos hm]
    rw [e1, e2, e3]
    have hys := h.cge i y hy
    refine ⟨hl, by simp [hc], h.s0, h.rin, ?_, ?_, h.dup, ?_, ?_, ?_⟩
    · intro j z hj
      rcases get_set hj with ⟨rfl, rfl, -⟩ | ⟨-, hj⟩
      · omega
      · exact h.cge j z hj
    · intro j z hj hz
      rcases get_set hz with ⟨rfl, rfl, -⟩ | ⟨-, hz⟩
      · rw [hi] at hj; injection hj with hj; omega
      · exact h.free j z hj hz
    · rw [sum_set _ hy]
      have := h.sum
      simp; omega
    · intro j x z hj hz hx
      rw [cnt_snoc']
      rcases get_set hz with ⟨rfl, rfl, -⟩ | ⟨hne, hz⟩
      · have := h.est i x y hj hy hx
        split <;> omega
      · have := h.est j x z hj hz hx
        have hxr : row ≠ x := by
          intro e; subst e
          exact hne (h.dup i j row hi hj hx)
        rw [if_neg hxr]; omega
    · intro r hr hn
      rw [cnt_snoc', if_neg (fun e : row = r => hn (e ▸ hm))]
      have := h.out r hr hn
      omega
  · by_cases hs : s ∈ cs
    · obtain ⟨i, ei, hi, hil, -⟩ := mem_idx hs
      obtain ⟨x0, hx0⟩ := get_some (show i < rs.length by omega)
      have e1 : trkR rs cs s row = rs.set i row := by unfold trkR; rw [if_neg hm, if_pos hs, ei]
      have e2 : trkC rs cs s row = cs.set i (s + 1) := by unfold trkC; rw [if_neg hm, if_pos hs, ei]
      have e3 : trkS rs cs s row = s := by unfold trkS; rw [if_neg hm, if_pos hs]
      rw [e1, e2, e3]
      refine ⟨by simp [hl], by simp [hc], h.s0, ?_, ?_, ?_, ?_, ?_, ?_, ?_⟩
      · intro j z hj
        rcases get_set hj with ⟨rfl, rfl, -⟩ | ⟨-, hj⟩
        · omega
        · exact h.rin j z hj
      · intro j z hj
        rcases get_set hj with ⟨rfl, rfl, -⟩ | ⟨-, hj⟩
        · omega
        · exact h.cge j z hj
      · intro j z hj hz
        rcases get_set hj with ⟨rfl, e, -⟩ | ⟨hne, hj⟩
        · omega
        · rcases get_set hz with ⟨e, -, -⟩ | ⟨-, hz⟩
          · exact absurd e hne
          · exact h.free j z hj hz
      · intro a b x ha hb hx
        rcases get_set ha with ⟨rfl, rfl, -⟩ | ⟨ha', ha⟩
        · rcases get_set hb with ⟨e, -, -⟩ | ⟨-, hb⟩
          · exact e
          · exact absurd (get_mem hb) hm
        · rcases get_set hb with ⟨rfl, rfl, -⟩ | ⟨-, hb⟩
          · exact absurd (get_mem ha) hm
          · exact h.dup a b x ha hb hx
      · rw [sum_set _ hi]
        have := h.sum
        simp; omega
      · intro j x z hj hz hx
        rw [cnt_snoc']
        rcases get_set hj with ⟨rfl, rfl, -⟩ | ⟨hne, hj⟩
        · rcases get_set hz with ⟨-, rfl, -⟩ | ⟨e, -⟩
          · have := h.out row h0 hm
            rw [if_pos rfl]; omega
          · exact absurd rfl e
        · rcases get_set hz with ⟨e, -, -⟩ | ⟨-, hz⟩
          · exact absurd e hne
          · have := h.est j x z hj hz hx
            have hxr : row ≠ x := fun e => hm (e ▸ get_mem hj)
            rw [if_neg hxr]; omega
      · intro r hr hn
        obtain ⟨n1, n2⟩ := not_set hn (by omega)
        rw [cnt_snoc', if_neg (fun e => n1 e.symm)]
        by_cases hrr : r ∈ rs
        · obtain ⟨j, hj⟩ := mem_get hrr
          have hji : j = i := by
            refine Classical.byContradiction fun hne => n2 j hne hj
          subst hji
          have := h.est j r s hj hi (by omega)
          omega
        · have := h.out r hr hrr
          omega
    · have e1 : trkR rs cs s row = rs := by unfold trkR; rw [if_neg hm, if_neg hs]
      have e2 : trkC rs cs s row = cs := by unfold trkC; rw [if_neg hm, if_neg hs]
      have e3 : trkS rs cs s row = s + 1 := by unfold trkS; rw [if_neg hm, if_neg hs]
      rw [e1, e2, e3]
      have gt : ∀ (i : Nat) (y : Int), cs[i]? = some y → s + 1 ≤ y := by
        intro i y hy
        have h2 := h.cge i y hy
        have h3 : y ≠ s := fun e => hs (e ▸ get_mem hy)
        omega
      have hs0 := h.s0
      refine ⟨hl, hc, by omega, h.rin, gt, ?_, h.dup, ?_, ?_, ?_⟩
      · intro i y hi hy; exact h.free i y hi hy
      · have := h.sum
        simp; omega
      · intro j x z hj hz hx
        have := h.est j x z hj hz hx
        rw [cnt_snoc', if_neg (fun e : row = x => hm (e ▸ get_mem hj))]
        omega
      · intro r hr hn
        have := h.out r hr hn
        rw [cnt_snoc']
        split <;> omega
theorem sum_ge {l : List Int} {s : Int} (h : ∀ (i : Nat) (y : Int), l[i]? = some y → s ≤ y) : s * l.length ≤ l.sum := by
  induction l with
  | nil => simp
  | cons a l ih =>
    have h1 := h 0 a rfl
    have h2 := ih fun i y hy => h (i + 1) y hy
    simp only [List.sum_cons, List.length_cons]
    rw [show ((l.length + 1 : Nat) : Int) = (l.length : Int) + 1 by omega, Int.mul_add]
    omega
theorem le_sum {l : List Int} {i : Nat} {y : Int} (h : ∀ (i : Nat) (y : Int), l[i]? = some y → 0 ≤ y) (hy : l[i]? = some y) : y ≤ l.sum := by
  induction l generalizing i with
  | nil => simp at hy
  | cons a l ih =>
    have h1 := h 0 a rfl
    have h3 := sum_ge (l := l) (s := 0) fun i y hy => h (i + 1) y hy
    simp only [List.sum_cons]
    cases i with
    | zero => simp at hy; subst hy; omega
    | succ i =>
      simp at hy
      have := ih (fun i y hy => h (i + 1) y hy) hy
      omega
theorem Est.sp {rs cs zs : List Int} {s : Int} {k : Nat} (h : Est rs cs s zs k) : s * ((k : Int) + 1) ≤ zs.length := by
  have h1 := sum_ge h.cge
  rw [h.clen] at h1
  have h2 := h.sum
  rw [Int.mul_add]
  omega
theorem Est.cle {rs cs zs : List Int} {s : Int} {k : Nat} (h : Est rs cs s zs k) {i : Nat} {y : Int} (hy : cs[i]? = some y) : s ≤ y ∧ y ≤ zs.length := by
  have h1 := le_sum (fun i y hy => by have := h.cge i y hy; have := h.s0; omega) hy
  have h2 := h.sum
  have h3 := h.s0
  exact ⟨h.cge i y hy, by omega⟩
theorem Est.sle {rs cs zs : List Int} {s : Int} {k : Nat} (h : Est rs cs s zs k) : 0 ≤ s ∧ s ≤ zs.length := by
  have h1 := sum_ge (l := cs) (s := 0) fun i y hy => by have := h.cge i y hy; have := h.s0; omega
  have h2 := h.sum
  have h3 := h.s0
  omega
theorem Est.ok {rs cs zs : List Int} {s : Int} {k : Nat} (h : Est rs cs s zs k) (h1 : 1 ≤ k) (h2 : k ≤ 16) (hz : zs.length ≤ 100000) : tokOk rs cs s = true := by
  have hs := h.sle
  unfold tokOk
  rw [inB_mk (x := (rs.length : Int)) (by have := h.rlen; omega) (by have := h.rlen; omega), inB_mk hs.1 (by omega)]
  have e : decide (cs.length = rs.length) = true := by rw [h.clen, h.rlen]; simp
  rw [e]
  simp only [Bool.true_and]
  unfold tokTo
  rw [List.all_eq_true]
  intro i hi
  rw [List.mem_range] at hi
  obtain ⟨x, hx⟩ := get_some hi
  obtain ⟨y, hy⟩ := get_some (show i < cs.length by have := h.clen; have := h.rlen; omega)
  rw [tok1_eq hx hy]
  have hx1 := h.rin i x hx
  have hy1 := h.cle hy
  rw [inB_mk hx1.1 hx1.2, inB_mk hy1.1 (by omega)]
  by_cases hxm : x = -1
  · subst hxm
    have := h.free i y hx hy
    subst this
    rfl
  · have e1 : (x == -1) = false := by simpa using hxm
    rw [e1]
    obtain ⟨j, ej, hj, hjl, hI⟩ := mem_idx (get_mem hx)
    have := h.dup i j x hx hj hxm
    subst this
    rw [hI]
    simp
theorem Est.count {rs cs zs : List Int} {s r : Int} {k : Nat} (h : Est rs cs s zs k) (hr : 0 ≤ r) : cnt zs r ≤ tcount rs cs s r := by
  unfold tcount
  split
  · rename_i hm
    obtain ⟨i, ei, hi, hil, -⟩ := mem_idx hm.1
    rw [ei] at hm ⊢
    obtain ⟨y, hy⟩ := get_some hm.2
    rw [getD_of hy]
    exact h.est i r y hi hy (by omega)
  · rename_i hm
    by_cases hm1 : r ∈ rs
    · exfalso
      apply hm
      have := List.idxOf_lt_length_of_mem hm1
      exact ⟨hm1, by have := h.clen; have := h.rlen; omega⟩
    · exact h.out r hr hm1
/-- A step of a tracker that counts is taken. -/
theorem Est.took {rs cs zs : List Int} {s row limit : Int} {k : Nat} (h : Est rs cs s zs k) (h1 : 1 ≤ k) (h2 : k ≤ 16) (hz : zs.length < 100000) (r0 : 0 ≤ row) (r1 : row ≤ 15) (l0 : 2 ≤ limit) (l1 : limit ≤ 1000) : trkOk rs cs s row limit = true := by
  unfold trkOk trkIn
  rw [h.ok h1 h2 (by omega), (h.step r0 r1).ok h1 h2 (by simp; omega), inB_mk r0 r1, inB_mk l0 l1]
  rfl
theorem Est.next {rs cs zs : List Int} {s row limit : Int} {k : Nat} (h : Est rs cs s zs k) (h1 : 1 ≤ k) (h2 : k ≤ 16) (hz : zs.length < 100000) (r0 : 0 ≤ row) (r1 : row ≤ 15) (l0 : 2 ≤ limit) (l1 : limit ≤ 1000) :
    Est (trkR' rs cs s row limit) (trkC' rs cs s row limit) (trkS' rs cs s row limit) (zs ++ [row]) k := by
  unfold trkR' trkC' trkS'
  rw [if_pos (h.took h1 h2 hz r0 r1 l0 l1), if_pos (h.took h1 h2 hz r0 r1 l0 l1), if_pos (h.took h1 h2 hz r0 r1 l0 l1)]
  exact h.step r0 r1
end Go.Proofs.Ytbapamfomfbmmaa
