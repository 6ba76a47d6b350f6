/-
  Spare rows, in plain words: valid geometries, the fresh table, valid tables, where a row is stored. Nothing here walks code.
-/
import Derived.Test.YtbapamfomfbmmaaKit3
import Derived.Test.YtbapamfomfbmmaaPat1
namespace Go.Proofs.Ytbapamfomfbmmaa
open Go.RowKit
set_option linter.unusedSimpArgs false
set_option linter.unusedVariables false

/-- A geometry. -/
structure Geo where
  gg : Int
  gb : Int
  gr : Int
  gc : Int
def Geo.cs (r : Geo) : List Value := [.int .i64 r.gg, .int .i64 r.gb, .int .i64 r.gr, .int .i64 r.gc]
/-- A valid geometry. -/
def geoOk (gg gb gr gc : Int) : Bool := inB gg 1 2 && (inB gb 1 4 && (inB gr 2 16 && inB gc 1 8))
def bankCnt (gg gb gr gc : Int) : Int := if geoOk gg gb gr gc = true then gg * gb else 0
def addrOk (gg gb gr gc bank row col : Int) : Bool := geoOk gg gb gr gc && (inB bank 0 (bankCnt gg gb gr gc - 1) && (inB row 0 (gr - 1) && inB col 0 (gc - 1)))
theorem geo_parts {gg gb gr gc : Int} (h : geoOk gg gb gr gc = true) : (1 ≤ gg ∧ gg ≤ 2) ∧ (1 ≤ gb ∧ gb ≤ 4) ∧ (2 ≤ gr ∧ gr ≤ 16) ∧ (1 ≤ gc ∧ gc ≤ 8) := by
  unfold geoOk at h
  simp only [Bool.and_eq_true] at h
  exact ⟨inB_t h.1, inB_t h.2.1, inB_t h.2.2.1, inB_t h.2.2.2⟩
theorem geo_prod {gg gb : Int} (h1 : 1 ≤ gg ∧ gg ≤ 2) (h2 : 1 ≤ gb ∧ gb ≤ 4) : 1 ≤ gg * gb ∧ gg * gb ≤ 8 := by
  obtain rfl | rfl : gg = 1 ∨ gg = 2 := by omega
  all_goals omega
theorem bankCnt_yes {gg gb gr gc : Int} (h : geoOk gg gb gr gc = true) : bankCnt gg gb gr gc = gg * gb := by unfold bankCnt; rw [if_pos h]
theorem bankCnt_no {gg gb gr gc : Int} (h : geoOk gg gb gr gc = false) : bankCnt gg gb gr gc = 0 := by unfold bankCnt; rw [if_neg (by rw [h]; simp)]
theorem bankCnt_bd (gg gb gr gc : Int) : 0 ≤ bankCnt gg gb gr gc ∧ bankCnt gg gb gr gc ≤ 8 := by
  by_cases h : geoOk gg gb gr gc = true
  · have := geo_parts h
    have := geo_prod this.1 this.2.1
    rw [bankCnt_yes h]; omega
  · rw [bankCnt_no (by simpa using h)]; omega
theorem bankCnt_pos {gg gb gr gc : Int} (h : geoOk gg gb gr gc = true) : 1 ≤ bankCnt gg gb gr gc := by
  have := geo_parts h
  have := geo_prod this.1 this.2.1
  rw [bankCnt_yes h]; omega

/-- A table of spare rows may be made. -/
def spOk (gg gb gr gc s : Int) : Bool := geoOk gg gb gr gc && (inB s 0 2 && decide (2 ≤ gr - s))
/-- The first k places of the fresh table: row i mod n at place i. -/
def freshTo (n k : Nat) : List Int := (List.range k).map fun (i : Nat) => ((i % n : Nat) : Int)
theorem freshTo_len (n k : Nat) : (freshTo n k).length = k := by simp [freshTo]
theorem freshTo_succ (n k : Nat) : freshTo n (k + 1) = freshTo n k ++ [((k % n : Nat) : Int)] := by simp [freshTo, List.range_succ]
theorem freshTo_get {n k i : Nat} (h : i < k) : (freshTo n k)[i]? = some ((i % n : Nat) : Int) := by simp [freshTo, h]
def spN (gr s : Int) : Nat := (gr - s).toNat
def spB (gg gb gr gc : Int) : Nat := (bankCnt gg gb gr gc).toNat
def spMap (gg gb gr gc s : Int) : List Int := if spOk gg gb gr gc s = true then freshTo (spN gr s) (spB gg gb gr gc * spN gr s) else []
def spSp (gg gb gr gc s : Int) : Int := if spOk gg gb gr gc s = true then s else 0
theorem spOk_parts {gg gb gr gc s : Int} (h : spOk gg gb gr gc s = true) : geoOk gg gb gr gc = true ∧ (0 ≤ s ∧ s ≤ 2) ∧ 2 ≤ gr - s := by
  unfold spOk at h
  simp only [Bool.and_eq_true, decide_eq_true_eq] at h
  exact ⟨h.1, inB_t h.2.1, h.2.2⟩
/-- The numbers of a valid table: nb banks of n regular rows. -/
theorem spOk_nums {gg gb gr gc s : Int} (h : spOk gg gb gr gc s = true) : ∃ nb n : Nat, bankCnt gg gb gr gc = (nb : Int) ∧ gr - s = (n : Int) ∧ spB gg gb gr gc = nb ∧ spN gr s = n ∧ 1 ≤ nb ∧ nb ≤ 8 ∧ 2 ≤ n ∧ n ≤ 16 ∧ (0 ≤ s ∧ s ≤ 2) ∧ (2 ≤ gr ∧ gr ≤ 16) ∧ gg * gb = (nb : Int) := by
  obtain ⟨h1, h2, h3⟩ := spOk_parts h
  have h4 := bankCnt_bd gg gb gr gc
  have h5 := bankCnt_pos h1
  have h6 := geo_parts h1
  have h7 := bankCnt_yes h1
  refine ⟨spB gg gb gr gc, spN gr s, ?_, ?_, rfl, rfl, ?_, ?_, ?_, ?_, h2, h6.2.2.1, ?_⟩
  all_goals
    have d1 : spB gg gb gr gc = (bankCnt gg gb gr gc).toNat := rfl
    have d2 : spN gr s = (gr - s).toNat := rfl
    omega
theorem sp_yes {gg gb gr gc s : Int} (h : spOk gg gb gr gc s = true) : spMap gg gb gr gc s = freshTo (spN gr s) (spB gg gb gr gc * spN gr s) ∧ spSp gg gb gr gc s = s := by
  unfold spMap spSp; rw [if_pos h, if_pos h]; exact ⟨rfl, rfl⟩
theorem sp_no {gg gb gr gc s : Int} (h : spOk gg gb gr gc s = false) : spMap gg gb gr gc s = [] ∧ spSp gg gb gr gc s = 0 := by
  unfold spMap spSp; rw [if_neg (by rw [h]; simp), if_neg (by rw [h]; simp)]; exact ⟨rfl, rfl⟩

theorem le_mul8 {nb n : Nat} (h1 : nb ≤ 8) (h2 : n ≤ 16) : nb * n ≤ 128 := Nat.le_trans (Nat.mul_le_mul h1 h2) (by omega)
theorem row_lt {nb n b r : Nat} (hb : b < nb) (hr : r < n) : b * n + r < nb * n := by
  have := Nat.mul_le_mul_right n (show b + 1 ≤ nb by omega)
  rw [Nat.add_mul] at this
  omega
theorem row_div {n b r : Nat} (hr : r < n) : (b * n + r) / n = b ∧ (b * n + r) % n = r := by
  have hn : 0 < n := by omega
  rw [Nat.mul_comm, Nat.mul_add_div hn, Nat.div_eq_of_lt hr, Nat.mul_add_mod, Nat.mod_eq_of_lt hr]
  exact ⟨rfl, rfl⟩

/-- The rows of a bank. -/
def bankRow (zs : List Int) (n b : Nat) : List Int := (zs.drop (b * n)).take n
theorem bankRow_len {zs : List Int} {nb n b : Nat} (hl : zs.length = nb * n) (hb : b < nb) : (bankRow zs n b).length = n := by
  have := row_lt (n := n) (r := 0) hb
  have h2 := Nat.mul_le_mul_right n (show b + 1 ≤ nb by omega)
  rw [Nat.add_mul] at h2
  unfold bankRow; simp; omega
theorem bankRow_get {zs : List Int} {n b r : Nat} (hr : r < n) : (bankRow zs n b)[r]? = zs[b * n + r]? := by
  unfold bankRow
  rw [List.getElem?_take, if_pos hr, List.getElem?_drop]

/-- A place of the table is right: its own row, or a spare row that stands nowhere before in its bank. -/
def goodS (n : Nat) (gr : Int) (zs : List Int) (i : Nat) : Bool :=
  (zs.getD i 0 == ((i % n : Nat) : Int)) || (inB (zs.getD i 0) n (gr - 1) && !decide (zs.getD i 0 ∈ (zs.take i).drop (i / n * n)))
/-- The same as the program asks it: a spare row that stands but once in its bank. -/
def goodI (n : Nat) (gr : Int) (zs : List Int) (i : Nat) : Bool :=
  (zs.getD i 0 == ((i % n : Nat) : Int)) || (inB (zs.getD i 0) n (gr - 1) && decide (cnt (bankRow zs n (i / n)) (zs.getD i 0) ≤ 1))
def spareOk (gg gb gr gc s : Int) (zs : List Int) : Bool :=
  spOk gg gb gr gc s && (decide (zs.length = spB gg gb gr gc * spN gr s) && (List.range zs.length).all (goodS (spN gr s) gr zs))

theorem two_count {l : List Int} {a : Int} {j k : Nat} (hj : l[j]? = some a) (hk : l[k]? = some a) (hjk : j < k) : 2 ≤ l.count a := by
  have hkl := lt_of_get hk
  have e : l = l.take k ++ l.drop k := (List.take_append_drop k l).symm
  have h1 : a ∈ l.take k := by
    apply List.mem_of_getElem? (i := j)
    rw [List.getElem?_take, if_pos hjk]; exact hj
  have h2 : a ∈ l.drop k := by
    apply List.mem_of_getElem? (i := 0)
    rw [List.getElem?_drop]; exact hk
  have c1 := List.count_pos_iff.2 h1
  have c2 := List.count_pos_iff.2 h2
  rw [e, List.count_append]
  omega
theorem count_two {l : List Int} {a : Int} (h : 2 ≤ l.count a) : ∃ j k : Nat, j < k ∧ l[j]? = some a ∧ l[k]? = some a := by
  induction l with
  | nil => simp at h
  | cons x l ih =>
    by_cases hx : x = a
    · subst hx
      rw [List.count_cons_self] at h
      have : x ∈ l := List.count_pos_iff.1 (by omega)
      obtain ⟨k, hk, e⟩ := List.getElem_of_mem this
      exact ⟨0, k + 1, by omega, by simp, by rw [List.getElem?_cons_succ, List.getElem?_eq_getElem hk, e]⟩
    · rw [List.count_cons_of_ne (by simpa using hx)] at h
      obtain ⟨j, k, h1, h2, h3⟩ := ih h
      exact ⟨j + 1, k + 1, by omega, by simpa using h2, by simpa using h3⟩
theorem mem_range_drop {zs : List Int} {i m : Nat} {a : Int} (hm : m ≤ i) : a ∈ (zs.take i).drop m ↔ ∃ j, m ≤ j ∧ j < i ∧ zs[j]? = some a := by
  constructor
  · intro h
    obtain ⟨j, hj, e⟩ := List.getElem_of_mem h
    have h2 : ((zs.take i).drop m)[j]? = some a := by rw [List.getElem?_eq_getElem hj, e]
    rw [List.getElem?_drop, List.getElem?_take] at h2
    split at h2
    · exact ⟨m + j, by omega, by assumption, h2⟩
    · cases h2
  · rintro ⟨j, h1, h2, h3⟩
    apply List.mem_of_getElem? (i := j - m)
    rw [List.getElem?_drop, List.getElem?_take, show m + (j - m) = j by omega, if_pos h2]
    exact h3
theorem div_le_self {i n : Nat} : i / n * n ≤ i := Nat.div_mul_le_self i n

theorem good_iff {n nb : Nat} {gr : Int} {zs : List Int} (hn : 0 < n) (hl : zs.length = nb * n) : (∀ i, i < zs.length → goodS n gr zs i = true) ↔ (∀ i, i < zs.length → goodI n gr zs i = true) := by
  constructor
  · intro h i hi
    have hS := h i hi
    unfold goodS at hS
    unfold goodI
    rw [Bool.or_eq_true] at hS ⊢
    rcases hS with hS | hS
    · exact .inl hS
    · right
      rw [Bool.and_eq_true] at hS ⊢
      refine ⟨hS.1, ?_⟩
      simp only [decide_eq_true_eq]
      by_cases hc : cnt (bankRow zs n (i / n)) (zs.getD i 0) ≤ 1
      · exact hc
      · exfalso
        obtain ⟨j, k, hjk, hj, hk⟩ := count_two (l := bankRow zs n (i / n)) (a := zs.getD i 0) (by unfold cnt at hc; omega)
        have hkn : k < n := by
          have := lt_of_get hk
          unfold bankRow at this
          simp at this
          omega
        have hjn : j < n := by omega
        rw [bankRow_get hjn] at hj
        rw [bankRow_get hkn] at hk
        have hkl := lt_of_get hk
        have hK := h _ hkl
        unfold goodS at hK
        rw [getD_of hk, (row_div hkn).1, (row_div hkn).2, Bool.or_eq_true] at hK
        have b1 := inB_t hS.1
        rcases hK with hK | hK
        · have := eq_of_beq hK
          omega
        · rw [Bool.and_eq_true] at hK
          have h2 := hK.2
          simp only [Bool.not_eq_true', decide_eq_false_iff_not] at h2
          exact h2 ((mem_range_drop (by omega)).2 ⟨i / n * n + j, by omega, by omega, hj⟩)
  · intro h i hi
    have hI := h i hi
    unfold goodI at hI
    unfold goodS
    rw [Bool.or_eq_true] at hI ⊢
    rcases hI with hI | hI
    · exact .inl hI
    · right
      rw [Bool.and_eq_true] at hI ⊢
      refine ⟨hI.1, ?_⟩
      simp only [Bool.not_eq_true', decide_eq_false_iff_not]
      intro hm
      obtain ⟨j, h1, h2, h3⟩ := (mem_range_drop div_le_self).1 hm
      have hc := hI.2
      simp only [decide_eq_true_eq] at hc
      have e1 : i = i / n * n + i % n := by rw [Nat.mul_comm]; exact (Nat.div_add_mod i n).symm
      have hin := Nat.mod_lt i hn
      have t1 : (bankRow zs n (i / n))[j - i / n * n]? = some (zs.getD i 0) := by
        rw [bankRow_get (by omega), show i / n * n + (j - i / n * n) = j by omega]; exact h3
      have t2 : (bankRow zs n (i / n))[i % n]? = some (zs.getD i 0) := by
        rw [bankRow_get hin, ← e1, List.getElem?_eq_getElem hi, List.getD_eq_getElem?_getD, List.getElem?_eq_getElem hi]; rfl
      have := two_count t1 t2 (by omega)
      unfold cnt at hc
      omega

theorem spareOk_parts {gg gb gr gc s : Int} {zs : List Int} (h : spareOk gg gb gr gc s zs = true) : spOk gg gb gr gc s = true ∧ zs.length = spB gg gb gr gc * spN gr s ∧ ∀ i, i < zs.length → goodS (spN gr s) gr zs i = true := by
  unfold spareOk at h
  simp only [Bool.and_eq_true, decide_eq_true_eq, List.all_eq_true, List.mem_range] at h
  exact h
theorem spareOk_no1 {gg gb gr gc s : Int} {zs : List Int} (h : spOk gg gb gr gc s = false) : spareOk gg gb gr gc s zs = false := by unfold spareOk; rw [h]; rfl
theorem spareOk_no2 {gg gb gr gc s : Int} {zs : List Int} (h : zs.length ≠ spB gg gb gr gc * spN gr s) : spareOk gg gb gr gc s zs = false := by
  unfold spareOk
  have : decide (zs.length = spB gg gb gr gc * spN gr s) = false := by simpa using h
  rw [this]; simp
theorem spareOk_noS {gg gb gr gc s : Int} {zs : List Int} {i : Nat} (hi : i < zs.length) (h : goodS (spN gr s) gr zs i = false) : spareOk gg gb gr gc s zs = false := by
  rw [Bool.eq_false_iff]
  intro hc
  have := (spareOk_parts hc).2.2 i hi
  rw [h] at this
  cases this
theorem spareOk_noI {gg gb gr gc s : Int} {zs : List Int} {i : Nat} (hi : i < zs.length) (hn : 0 < spN gr s) (h : goodI (spN gr s) gr zs i = false) : spareOk gg gb gr gc s zs = false := by
  rw [Bool.eq_false_iff]
  intro hc
  obtain ⟨_, h2, h3⟩ := spareOk_parts hc
  have := (good_iff hn h2).1 h3 i hi
  rw [h] at this
  cases this
theorem spareOk_yesS {gg gb gr gc s : Int} {zs : List Int} (h1 : spOk gg gb gr gc s = true) (h2 : zs.length = spB gg gb gr gc * spN gr s) (h3 : ∀ i, i < zs.length → goodS (spN gr s) gr zs i = true) : spareOk gg gb gr gc s zs = true := by
  unfold spareOk
  simp only [Bool.and_eq_true, decide_eq_true_eq, List.all_eq_true, List.mem_range]
  exact ⟨h1, h2, h3⟩
theorem spareOk_yesI {gg gb gr gc s : Int} {zs : List Int} (h1 : spOk gg gb gr gc s = true) (h2 : zs.length = spB gg gb gr gc * spN gr s) (hn : 0 < spN gr s) (h3 : ∀ i, i < zs.length → goodI (spN gr s) gr zs i = true) : spareOk gg gb gr gc s zs = true :=
  spareOk_yesS h1 h2 ((good_iff hn h2).2 h3)
/-- Every row of a valid table exists. -/
theorem spareOk_rows {gg gb gr gc s : Int} {zs : List Int} (h : spareOk gg gb gr gc s zs = true) : ∀ z ∈ zs, 0 ≤ z ∧ z < gr := by
  obtain ⟨h1, h2, h3⟩ := spareOk_parts h
  obtain ⟨nb, n, e1, e2, e3, e4, b1, b2, b3, b4, b5, b6, -⟩ := spOk_nums h1
  intro z hz
  obtain ⟨i, hi, rfl⟩ := List.getElem_of_mem hz
  have hg := h3 i hi
  unfold goodS at hg
  have ez : zs.getD i 0 = zs[i] := by rw [List.getD_eq_getElem?_getD, List.getElem?_eq_getElem hi]; rfl
  rw [ez, e4, Bool.or_eq_true] at hg
  rcases hg with hg | hg
  · have := eq_of_beq hg
    have h5 := Nat.mod_lt i (show 0 < n by omega)
    omega
  · rw [Bool.and_eq_true] at hg
    have := inB_t hg.1
    omega
/-- The geometry without its spare rows. -/
def rgG (gg gb gr gc s : Int) (zs : List Int) : Int := if spareOk gg gb gr gc s zs = true then gg else 0
def rgB (gg gb gr gc s : Int) (zs : List Int) : Int := if spareOk gg gb gr gc s zs = true then gb else 0
def rgR (gg gb gr gc s : Int) (zs : List Int) : Int := if spareOk gg gb gr gc s zs = true then gr - s else 0
def rgC (gg gb gr gc s : Int) (zs : List Int) : Int := if spareOk gg gb gr gc s zs = true then gc else 0
theorem rg_yes {gg gb gr gc s : Int} {zs : List Int} (h : spareOk gg gb gr gc s zs = true) : rgG gg gb gr gc s zs = gg ∧ rgB gg gb gr gc s zs = gb ∧ rgR gg gb gr gc s zs = gr - s ∧ rgC gg gb gr gc s zs = gc := by
  unfold rgG rgB rgR rgC; rw [if_pos h, if_pos h, if_pos h, if_pos h]; exact ⟨rfl, rfl, rfl, rfl⟩
theorem rg_no {gg gb gr gc s : Int} {zs : List Int} (h : spareOk gg gb gr gc s zs = false) : rgG gg gb gr gc s zs = 0 ∧ rgB gg gb gr gc s zs = 0 ∧ rgR gg gb gr gc s zs = 0 ∧ rgC gg gb gr gc s zs = 0 := by
  have h' : ¬ spareOk gg gb gr gc s zs = true := by rw [h]; simp
  unfold rgG rgB rgR rgC; rw [if_neg h', if_neg h', if_neg h', if_neg h']; exact ⟨rfl, rfl, rfl, rfl⟩
theorem geoOk_rg {gg gb gr gc s : Int} (h : spOk gg gb gr gc s = true) : geoOk gg gb (gr - s) gc = true ∧ bankCnt gg gb (gr - s) gc = bankCnt gg gb gr gc := by
  obtain ⟨h1, h2, h3⟩ := spOk_parts h
  have h4 := geo_parts h1
  have h5 : geoOk gg gb (gr - s) gc = true := by
    unfold geoOk
    rw [inB_mk h4.1.1 h4.1.2, inB_mk h4.2.1.1 h4.2.1.2, inB_mk (x := gr - s) (by omega) (by omega), inB_mk h4.2.2.2.1 h4.2.2.2.2]
    rfl
  exact ⟨h5, by rw [bankCnt_yes h5, bankCnt_yes h1]⟩
/-- A regular row of a bank of a valid table. -/
def inSp (gg gb gr gc s : Int) (zs : List Int) (bank row : Int) : Bool := spareOk gg gb gr gc s zs && (inB bank 0 (bankCnt gg gb gr gc - 1) && inB row 0 (gr - s - 1))
theorem addrOk_rg (gg gb gr gc s : Int) (zs : List Int) (bank row : Int) :
    addrOk (rgG gg gb gr gc s zs) (rgB gg gb gr gc s zs) (rgR gg gb gr gc s zs) (rgC gg gb gr gc s zs) bank row 0 = inSp gg gb gr gc s zs bank row := by
  unfold inSp
  by_cases h : spareOk gg gb gr gc s zs = true
  · obtain ⟨e1, e2, e3, e4⟩ := rg_yes h
    obtain ⟨h1, h2⟩ := geoOk_rg (spareOk_parts h).1
    have h4 := geo_parts h1
    unfold addrOk
    rw [e1, e2, e3, e4, h1, h2, h, inB_mk (x := 0) (lo := 0) (hi := gc - 1) (by omega) (by omega)]
    simp
  · have h' : spareOk gg gb gr gc s zs = false := by simpa using h
    obtain ⟨e1, e2, e3, e4⟩ := rg_no h'
    unfold addrOk
    rw [e1, e2, e3, e4, h']
    rfl
/-- The place of a regular row in the table, or -1. -/
def spAt (gg gb gr gc s : Int) (zs : List Int) (bank row : Int) : Int := if inSp gg gb gr gc s zs bank row = true then bank * (gr - s) + row else -1
/-- Where a regular row is stored, or -1. -/
def spStored (gg gb gr gc s : Int) (zs : List Int) (bank row : Int) : Int := if inSp gg gb gr gc s zs bank row = true then zs.getD (bank * (gr - s) + row).toNat 0 else -1
/-- The regular row that is stored in a row, or -1. -/
def spRegular (gg gb gr gc s : Int) (zs : List Int) (bank row : Int) : Int := if inSp gg gb gr gc s zs bank 0 = true then idxI (bankRow zs (spN gr s) bank.toNat) row else -1
theorem inSp_parts {gg gb gr gc s : Int} {zs : List Int} {bank row : Int} (h : inSp gg gb gr gc s zs bank row = true) :
    spareOk gg gb gr gc s zs = true ∧ ∃ nb n b r : Nat, bankCnt gg gb gr gc = (nb : Int) ∧ gr - s = (n : Int) ∧ spN gr s = n ∧ zs.length = nb * n ∧ bank = (b : Int) ∧ row = (r : Int) ∧ b < nb ∧ r < n ∧ nb ≤ 8 ∧ n ≤ 16 ∧ 2 ≤ n ∧ (0 ≤ s ∧ s ≤ 2) ∧ (2 ≤ gr ∧ gr ≤ 16) ∧ b * n + r < zs.length ∧ bank * (gr - s) + row = ((b * n + r : Nat) : Int) := by
  unfold inSp at h
  simp only [Bool.and_eq_true] at h
  obtain ⟨h1, h2, h3⟩ := h
  obtain ⟨p1, p2, p3⟩ := spareOk_parts h1
  obtain ⟨nb, n, e1, e2, e3, e4, b1, b2, b3, b4, b5, b6, -⟩ := spOk_nums p1
  rw [e3, e4] at p2
  rw [e1] at h2
  rw [e2] at h3
  obtain ⟨q1, q2⟩ := inB_t h2
  obtain ⟨q3, q4⟩ := inB_t h3
  obtain ⟨b, rfl⟩ := Int.eq_ofNat_of_zero_le q1
  obtain ⟨r, rfl⟩ := Int.eq_ofNat_of_zero_le q3
  have hb : b < nb := by omega
  have hr : r < n := by omega
  refine ⟨h1, nb, n, b, r, e1, e2, e4, p2, rfl, rfl, hb, hr, b2, b4, b3, b5, b6, by rw [p2]; exact row_lt hb hr, ?_⟩
  rw [e2]; simp
theorem spAt_lo (gg gb gr gc s : Int) (zs : List Int) (bank row : Int) : -1 ≤ spAt gg gb gr gc s zs bank row := by
  unfold spAt
  split
  · rename_i h
    obtain ⟨-, nb, n, b, r, -, -, -, -, -, -, -, -, -, -, -, -, -, -, e⟩ := inSp_parts h
    rw [e]; omega
  · omega
theorem spStored_bd (gg gb gr gc s : Int) (zs : List Int) (bank row : Int) : -1 ≤ spStored gg gb gr gc s zs bank row ∧ spStored gg gb gr gc s zs bank row ≤ 15 := by
  unfold spStored
  split
  · rename_i h
    obtain ⟨h1, nb, n, b, r, -, -, -, -, -, -, -, -, -, -, -, -, hgr, hl, e⟩ := inSp_parts h
    rw [e, Int.toNat_natCast, List.getD_eq_getElem?_getD, List.getElem?_eq_getElem hl]
    have := spareOk_rows h1 _ (List.getElem_mem hl)
    simp only [Option.getD_some]
    omega
  · omega
theorem spRegular_bd (gg gb gr gc s : Int) (zs : List Int) (bank row : Int) : -1 ≤ spRegular gg gb gr gc s zs bank row ∧ spRegular gg gb gr gc s zs bank row ≤ 15 := by
  unfold spRegular
  split
  · rename_i h
    obtain ⟨h1, nb, n, b, r, -, -, en, hl, rfl, -, hb, -, -, hn, -⟩ := inSp_parts h
    have := idxI_lo (bankRow zs (spN gr s) ((b : Int)).toNat) row
    rw [en, Int.toNat_natCast, bankRow_len hl hb] at this
    rw [en, Int.toNat_natCast]
    omega
  · omega
/-- The reference's search: the first regular row that is stored there. -/
theorem spRegular_at {gg gb gr gc s : Int} {zs : List Int} {bank row : Int} {r : Nat} (h0 : 0 ≤ row) (hr : spStored gg gb gr gc s zs bank r = row) (hno : ∀ j : Nat, j < r → spStored gg gb gr gc s zs bank j ≠ row) : spRegular gg gb gr gc s zs bank row = r := by
  have hin : inSp gg gb gr gc s zs bank r = true := by
    by_cases h : inSp gg gb gr gc s zs bank r = true
    · exact h
    · unfold spStored at hr
      rw [if_neg h] at hr
      omega
  obtain ⟨h1, nb, n, b, r', e1, e2, en, hl, rfl, er, hb, hrn, hnb, hn, hn2, hs, hgr, hlt, e⟩ := inSp_parts hin
  obtain rfl : r = r' := by omega
  have hin' : ∀ j : Nat, j < n → inSp gg gb gr gc s zs (b : Int) (j : Int) = true := by
    intro j hj
    unfold inSp
    rw [h1, inB_mk (x := (b : Int)) (by omega) (by omega), inB_mk (x := (j : Int)) (by omega) (by omega)]
    rfl
  have val : ∀ j : Nat, j < n → (bankRow zs n b)[j]? = some (spStored gg gb gr gc s zs b j) := by
    intro j hj
    have hjl : b * n + j < zs.length := by rw [hl]; exact row_lt hb hj
    rw [bankRow_get hj]
    unfold spStored
    rw [if_pos (hin' j hj), e2, show (b : Int) * (n : Int) + (j : Int) = ((b * n + j : Nat) : Int) by simp, Int.toNat_natCast, List.getD_eq_getElem?_getD, List.getElem?_eq_getElem hjl]
    rfl
  unfold spRegular
  have h0' := hin' 0 (by omega)
  rw [if_pos (by simpa using h0'), en, Int.toNat_natCast]
  refine idxI_at ?_ (by rw [val r hrn, hr])
  intro hm
  obtain ⟨j, hj, ej⟩ := List.getElem_of_mem hm
  have hj' : j < r := by simp at hj; omega
  have : ((bankRow zs n b).take r)[j]? = some row := by rw [List.getElem?_eq_getElem hj, ej]
  rw [List.getElem?_take, if_pos hj', val j (by omega)] at this
  injection this with this
  exact hno j hj' this
theorem spRegular_none {gg gb gr gc s : Int} {zs : List Int} {bank row : Int} (hno : row < 0 ∨ ∀ j : Nat, j < 16 → spStored gg gb gr gc s zs bank j ≠ row) : spRegular gg gb gr gc s zs bank row = -1 := by
  unfold spRegular
  split
  · rename_i hin
    obtain ⟨h1, nb, n, b, r', e1, e2, en, hl, rfl, er, hb, hrn, hnb, hn, hn2, hs, hgr, hlt, e⟩ := inSp_parts hin
    rw [en, Int.toNat_natCast]
    refine idxI_none ?_
    intro hm
    obtain ⟨j, hj, ej⟩ := List.getElem_of_mem hm
    rw [bankRow_len hl hb] at hj
    have hjl : b * n + j < zs.length := by rw [hl]; exact row_lt hb hj
    have hv : (bankRow zs n b)[j]? = some row := by rw [← ej]; exact List.getElem?_eq_getElem _
    rw [bankRow_get hj] at hv
    rcases hno with hno | hno
    · have := spareOk_rows h1 row (List.mem_of_getElem? hv)
      omega
    · refine hno j (by omega) ?_
      have hin' : inSp gg gb gr gc s zs (b : Int) (j : Int) = true := by
        unfold inSp
        rw [h1, inB_mk (x := (b : Int)) (by omega) (by omega), inB_mk (x := (j : Int)) (by omega) (by omega)]
        rfl
      unfold spStored
      rw [if_pos hin', e2, show (b : Int) * (n : Int) + (j : Int) = ((b * n + j : Nat) : Int) by simp, Int.toNat_natCast, getD_of hv]
  · rfl
/-- A spare row of a bank is free. -/
def spFree (gg gb gr gc s : Int) (zs : List Int) (bank to : Int) : Bool := decide (spRegular gg gb gr gc s zs bank to < 0)
/-- The first free spare row, counted from the first spare row on. -/
def spFind (gg gb gr gc s : Int) (zs : List Int) (bank : Int) : Option Nat := (List.range s.toNat).find? fun (j : Nat) => spFree gg gb gr gc s zs bank (gr - s + (j : Int))
def retOk (gg gb gr gc s : Int) (zs : List Int) (bank row : Int) : Bool := inSp gg gb gr gc s zs bank row && (spFind gg gb gr gc s zs bank).isSome
def retMap (gg gb gr gc s : Int) (zs : List Int) (bank row : Int) : List Int :=
  if inSp gg gb gr gc s zs bank row = true then (match spFind gg gb gr gc s zs bank with | some j => zs.set (bank * (gr - s) + row).toNat (gr - s + (j : Int)) | none => zs) else zs
theorem ret_no {gg gb gr gc s : Int} {zs : List Int} {bank row : Int} (h : inSp gg gb gr gc s zs bank row = false) : retOk gg gb gr gc s zs bank row = false ∧ retMap gg gb gr gc s zs bank row = zs := by
  unfold retOk retMap; rw [h]; exact ⟨rfl, by rw [if_neg (by simp)]⟩
theorem ret_none {gg gb gr gc s : Int} {zs : List Int} {bank row : Int} (h : inSp gg gb gr gc s zs bank row = true) (hf : ∀ j : Nat, (j : Int) < s → spFree gg gb gr gc s zs bank (gr - s + (j : Int)) = false) :
    retOk gg gb gr gc s zs bank row = false ∧ retMap gg gb gr gc s zs bank row = zs := by
  have hn : spFind gg gb gr gc s zs bank = none := by
    unfold spFind
    rw [List.find?_eq_none]
    intro j hj
    rw [List.mem_range] at hj
    rw [hf j (by omega)]; simp
  unfold retOk retMap
  rw [h, hn]
  exact ⟨rfl, by rw [if_pos rfl]⟩
theorem ret_at {gg gb gr gc s : Int} {zs : List Int} {bank row : Int} {j : Nat} (h : inSp gg gb gr gc s zs bank row = true) (hj : (j : Int) < s) (hf : spFree gg gb gr gc s zs bank (gr - s + (j : Int)) = true)
    (hno : ∀ i : Nat, i < j → spFree gg gb gr gc s zs bank (gr - s + (i : Int)) = false) :
    retOk gg gb gr gc s zs bank row = true ∧ retMap gg gb gr gc s zs bank row = zs.set (bank * (gr - s) + row).toNat (gr - s + (j : Int)) := by
  have hn : spFind gg gb gr gc s zs bank = some j := by
    unfold spFind
    rw [List.find?_range_eq_some]
    refine ⟨hf, by rw [List.mem_range]; omega, fun i hi => ?_⟩
    rw [hno i hi]; rfl
  unfold retOk retMap
  rw [h, hn]
  exact ⟨rfl, by rw [if_pos rfl]⟩
theorem retMap_len (gg gb gr gc s : Int) (zs : List Int) (bank row : Int) : (retMap gg gb gr gc s zs bank row).length = zs.length := by
  unfold retMap
  split
  · split <;> simp
  · rfl
/-- How many of the first k spare rows are free. -/
def leftTo (gg gb gr gc s : Int) (zs : List Int) (bank : Int) (k : Nat) : Int := ((List.range k).countP fun (j : Nat) => spFree gg gb gr gc s zs bank (gr - s + (j : Int)) : Nat)
/-- The same from the last row down. -/
def leftDn (gg gb gr gc s : Int) (zs : List Int) (bank : Int) (k : Nat) : Int := ((List.range k).countP fun (j : Nat) => spFree gg gb gr gc s zs bank (gr - 1 - (j : Int)) : Nat)
theorem leftTo_succ (gg gb gr gc s : Int) (zs : List Int) (bank : Int) (k : Nat) : leftTo gg gb gr gc s zs bank (k + 1) = leftTo gg gb gr gc s zs bank k + if spFree gg gb gr gc s zs bank (gr - s + (k : Int)) = true then 1 else 0 := by
  unfold leftTo
  rw [List.range_succ, List.countP_append, List.countP_singleton]
  split <;> simp
theorem leftDn_succ (gg gb gr gc s : Int) (zs : List Int) (bank : Int) (k : Nat) : leftDn gg gb gr gc s zs bank (k + 1) = leftDn gg gb gr gc s zs bank k + if spFree gg gb gr gc s zs bank (gr - 1 - (k : Int)) = true then 1 else 0 := by
  unfold leftDn
  rw [List.range_succ, List.countP_append, List.countP_singleton]
  split <;> simp
theorem leftTo_bd (gg gb gr gc s : Int) (zs : List Int) (bank : Int) (k : Nat) : 0 ≤ leftTo gg gb gr gc s zs bank k ∧ leftTo gg gb gr gc s zs bank k ≤ k := by
  unfold leftTo
  have := List.countP_le_length (p := fun j : Nat => spFree gg gb gr gc s zs bank (gr - s + (j : Int))) (l := List.range k)
  rw [List.length_range] at this
  omega
theorem leftDn_bd (gg gb gr gc s : Int) (zs : List Int) (bank : Int) (k : Nat) : 0 ≤ leftDn gg gb gr gc s zs bank k ∧ leftDn gg gb gr gc s zs bank k ≤ k := by
  unfold leftDn
  have := List.countP_le_length (p := fun j : Nat => spFree gg gb gr gc s zs bank (gr - 1 - (j : Int))) (l := List.range k)
  rw [List.length_range] at this
  omega
def spLeft (gg gb gr gc s : Int) (zs : List Int) (bank : Int) : Int := if inSp gg gb gr gc s zs bank 0 = true then leftTo gg gb gr gc s zs bank s.toNat else 0
theorem left_same {gg gb gr gc s : Int} {zs : List Int} {bank : Int} (h1 : 0 ≤ s) (h2 : s ≤ 2) : leftDn gg gb gr gc s zs bank s.toNat = leftTo gg gb gr gc s zs bank s.toNat := by
  obtain rfl | rfl | rfl : s = 0 ∨ s = 1 ∨ s = 2 := by omega
  · rfl
  · show leftDn gg gb gr gc 1 zs bank 1 = leftTo gg gb gr gc 1 zs bank 1
    rw [leftDn_succ, leftTo_succ]
    rw [show gr - 1 - ((0 : Nat) : Int) = gr - 1 + ((0 : Nat) : Int) by omega]
    rfl
  · show leftDn gg gb gr gc 2 zs bank 2 = leftTo gg gb gr gc 2 zs bank 2
    rw [leftDn_succ, leftTo_succ, leftDn_succ, leftTo_succ]
    rw [show gr - 1 - ((0 : Nat) : Int) = gr - 2 + ((1 : Nat) : Int) by omega, show gr - 1 - ((1 : Nat) : Int) = gr - 2 + ((0 : Nat) : Int) by omega]
    have e1 : leftDn gg gb gr gc 2 zs bank 0 = 0 := rfl
    have e2 : leftTo gg gb gr gc 2 zs bank 0 = 0 := rfl
    rw [e1, e2]
    try omega
end Go.Proofs.Ytbapamfomfbmmaa
