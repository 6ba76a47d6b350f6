/-
  Retiring a row moves only this row and uses a spare row: the law in plain words. Nothing here walks code.
-/
import Derived.Test.YtbapamfomfbmmaaSpM
namespace Go.Proofs.Ytbapamfomfbmmaa
open Go.RowKit
set_option linter.unusedSimpArgs false
set_option linter.unusedVariables false

theorem bankRow_set {zs : List Int} {n b r : Nat} {v : Int} (hr : r < n) : bankRow (zs.set (b * n + r) v) n b = (bankRow zs n b).set r v := by
  apply List.ext_getElem?
  intro i
  by_cases hi : i < n
  · rw [bankRow_get hi, List.getElem?_set, List.getElem?_set]
    by_cases h : r = i
    · subst h
      rw [if_pos rfl, if_pos rfl]
      have e : (r < (bankRow zs n b).length) ↔ (b * n + r < zs.length) := by unfold bankRow; simp; omega
      by_cases hl : b * n + r < zs.length
      · rw [if_pos hl, if_pos (e.2 hl)]
      · rw [if_neg hl, if_neg (fun h => hl (e.1 h))]
    · rw [if_neg (by omega), if_neg h, bankRow_get hi]
  · rw [List.getElem?_eq_none (by unfold bankRow; simp; omega), List.getElem?_eq_none (by unfold bankRow; simp; omega)]
theorem idxI_neg {zs : List Int} {x : Int} : idxI zs x < 0 ↔ x ∉ zs := by
  unfold idxI
  split
  · rename_i h; exact ⟨fun h' => by omega, fun h' => absurd h h'⟩
  · rename_i h; exact ⟨fun _ => h, fun _ => by omega⟩
theorem mem_set_row {zs : List Int} {r : Nat} {v x : Int} (h : x ∈ zs.set r v) : x ∈ zs ∨ x = v := List.mem_or_eq_of_mem_set h
theorem free_iff {gg gb gr gc s : Int} {zs : List Int} {n b : Nat} {to : Int} (h : inSp gg gb gr gc s zs b 0 = true) (hn : spN gr s = n) : spFree gg gb gr gc s zs b to = !decide (to ∈ bankRow zs n b) := by
  unfold spFree spRegular
  rw [if_pos h, hn, Int.toNat_natCast]
  by_cases hm : to ∈ bankRow zs n b
  · have : ¬ idxI (bankRow zs n b) to < 0 := fun h' => (idxI_neg.1 h') hm
    simp [hm, this]
  · have : idxI (bankRow zs n b) to < 0 := idxI_neg.2 hm
    simp [hm, this]
/-- A spare row that stands nowhere in the bank may be put at any place of it. -/
theorem spareOk_set {gg gb gr gc s : Int} {zs : List Int} {nb n b r : Nat} {v : Int} (h : spareOk gg gb gr gc s zs = true) (e3 : spB gg gb gr gc = nb) (e4 : spN gr s = n) (hb : b < nb) (hr : r < n) (hv : inB v n (gr - 1) = true) (hnew : v ∉ bankRow zs n b) :
    spareOk gg gb gr gc s (zs.set (b * n + r) v) = true := by
  obtain ⟨h1, h2, h3⟩ := spareOk_parts h
  refine spareOk_yesS h1 (by simpa using h2) fun i hi => ?_
  rw [List.length_set] at hi
  have hg := h3 i hi
  rw [e4] at hg ⊢
  rw [e3, e4] at h2
  have hidx : b * n + r < zs.length := by rw [h2]; exact row_lt hb hr
  have hbank : ∀ j, j / n = b → ∀ x, zs[j]? = some x → x ∈ bankRow zs n b := by
    intro j hj x hx
    have ej : j = b * n + j % n := by rw [← hj, Nat.mul_comm]; exact (Nat.div_add_mod j n).symm
    have hlt : j % n < n := Nat.mod_lt _ (by omega)
    apply List.mem_of_getElem? (i := j % n)
    rw [bankRow_get hlt, ← ej, hx]
  by_cases hi2 : i = b * n + r
  · subst hi2
    unfold goodS
    have ez : (zs.set (b * n + r) v).getD (b * n + r) 0 = v := by rw [List.getD_eq_getElem?_getD, List.getElem?_set_self hidx]; rfl
    rw [ez, hv]
    have hno : v ∉ ((zs.set (b * n + r) v).take (b * n + r)).drop ((b * n + r) / n * n) := by
      intro hm
      obtain ⟨j, h5, h6, h7⟩ := (mem_range_drop div_le_self).1 hm
      rw [List.getElem?_set_ne (by omega)] at h7
      rw [(row_div hr).1] at h5
      refine hnew (hbank j ?_ v h7)
      have : j = b * n + (j - b * n) := by omega
      rw [this]; exact (row_div (by omega)).1
    simp [hno]
  · have ez : (zs.set (b * n + r) v).getD i 0 = zs.getD i 0 := by rw [List.getD_eq_getElem?_getD, List.getElem?_set_ne (by omega), ← List.getD_eq_getElem?_getD]
    unfold goodS at hg ⊢
    rw [ez]
    rw [Bool.or_eq_true] at hg ⊢
    rcases hg with hg | hg
    · exact .inl hg
    · right
      rw [Bool.and_eq_true] at hg ⊢
      refine ⟨hg.1, ?_⟩
      have hn2 := hg.2
      simp only [Bool.not_eq_true', decide_eq_false_iff_not] at hn2 ⊢
      intro hm
      obtain ⟨j, h5, h6, h7⟩ := (mem_range_drop div_le_self).1 hm
      by_cases hj : j = b * n + r
      · subst hj
        rw [List.getElem?_set_self hidx] at h7
        injection h7 with h7
        have hid : i / n = b := by
          have a1 : i / n ≤ b := by
            have := (Nat.div_le_div_right (c := n) h5)
            rw [Nat.mul_div_cancel _ (by omega), (row_div hr).1] at this
            exact this
          have a2 : b ≤ i / n := by
            have := Nat.div_le_div_right (c := n) (Nat.le_of_lt h6)
            rw [(row_div hr).1] at this
            exact this
          omega
        refine hnew ?_
        rw [h7]
        exact hbank i hid _ (by rw [List.getD_eq_getElem?_getD, List.getElem?_eq_getElem hi]; rfl)
      · rw [List.getElem?_set_ne (by omega)] at h7
        exact hn2 ((mem_range_drop div_le_self).2 ⟨j, h5, h6, h7⟩)
/-- The fresh table is valid. -/
theorem spareOk_fresh {gg gb gr gc s : Int} (h : spOk gg gb gr gc s = true) : spareOk gg gb gr gc s (freshTo (spN gr s) (spB gg gb gr gc * spN gr s)) = true := by
  refine spareOk_yesS h (freshTo_len _ _) fun i hi => ?_
  rw [freshTo_len] at hi
  unfold goodS
  rw [getD_of (freshTo_get hi)]
  simp
theorem fresh_row {nb n b : Nat} {x : Int} (hb : b < nb) (h : x ∈ bankRow (freshTo n (nb * n)) n b) : 0 ≤ x ∧ x < n := by
  obtain ⟨i, hi, e⟩ := List.getElem_of_mem h
  rw [bankRow_len (freshTo_len _ _) hb] at hi
  have h2 : (bankRow (freshTo n (nb * n)) n b)[i]? = some x := by rw [← e]; exact List.getElem?_eq_getElem _
  rw [bankRow_get hi, freshTo_get (row_lt hb hi), (row_div hi).2] at h2
  injection h2 with h2
  omega
theorem inSp_mk {gg gb gr gc s : Int} {zs : List Int} {nb n b r : Nat} (h : spareOk gg gb gr gc s zs = true) (e1 : bankCnt gg gb gr gc = (nb : Int)) (e2 : gr - s = (n : Int)) (hb : b < nb) (hr : r < n) : inSp gg gb gr gc s zs b r = true := by
  unfold inSp
  rw [h, inB_mk (x := (b : Int)) (by omega) (by omega), inB_mk (x := (r : Int)) (by omega) (by omega)]
  rfl
/-- All that the law of retired rows asks. -/
structure Retired (gg gb gr gc : Int) (nb n b r r2 : Nat) : Prop where
  ok0 : spOk gg gb gr gc 2 = true
  map0 : spMap gg gb gr gc 2 = freshTo n (nb * n)
  ok1 : retOk gg gb gr gc 2 (freshTo n (nb * n)) b r = true
  map1 : retMap gg gb gr gc 2 (freshTo n (nb * n)) b r = (freshTo n (nb * n)).set (b * n + r) n
  ok2 : retOk gg gb gr gc 2 ((freshTo n (nb * n)).set (b * n + r) n) b r2 = true
  map2 : retMap gg gb gr gc 2 ((freshTo n (nb * n)).set (b * n + r) n) b r2 = ((freshTo n (nb * n)).set (b * n + r) n).set (b * n + r2) ((n : Int) + 1)
  ok3 : retOk gg gb gr gc 2 (((freshTo n (nb * n)).set (b * n + r) n).set (b * n + r2) ((n : Int) + 1)) b r = false
  st1 : spStored gg gb gr gc 2 ((freshTo n (nb * n)).set (b * n + r) n) b r = n
  st2 : spStored gg gb gr gc 2 (((freshTo n (nb * n)).set (b * n + r) n).set (b * n + r2) ((n : Int) + 1)) b r2 = (n : Int) + 1
  lf0 : spLeft gg gb gr gc 2 (freshTo n (nb * n)) b = 2
  lf2 : spLeft gg gb gr gc 2 (((freshTo n (nb * n)).set (b * n + r) n).set (b * n + r2) ((n : Int) + 1)) b = 0
theorem left_two {gg gb gr gc : Int} {zs : List Int} {b : Int} {f0 f1 : Bool} (h : inSp gg gb gr gc 2 zs b 0 = true) (h0 : spFree gg gb gr gc 2 zs b (gr - 2 + ((0 : Nat) : Int)) = f0) (h1 : spFree gg gb gr gc 2 zs b (gr - 2 + ((1 : Nat) : Int)) = f1) :
    spLeft gg gb gr gc 2 zs b = (if f0 = true then 1 else 0) + (if f1 = true then 1 else 0) := by
  unfold spLeft
  rw [if_pos h]
  show leftTo gg gb gr gc 2 zs b 2 = _
  rw [leftTo_succ, leftTo_succ, h0, h1]
  have e : leftTo gg gb gr gc 2 zs b 0 = 0 := rfl
  rw [e]; omega
theorem retired {gg gb gr gc : Int} {nb n b r r2 : Nat} (hg : geoOk gg gb gr gc = true) (e1 : bankCnt gg gb gr gc = (nb : Int)) (e2 : gr - 2 = (n : Int)) (hn : 2 ≤ n) (hb : b < nb) (hr : r < n) (hr2 : r2 < n) (hne : r ≠ r2) : Retired gg gb gr gc nb n b r r2 := by
  have hok : spOk gg gb gr gc 2 = true := by
    unfold spOk
    rw [hg]
    have : decide (2 ≤ gr - 2) = true := by simp; omega
    rw [this]; rfl
  have d3 : spB gg gb gr gc = nb := by unfold spB; omega
  have d4 : spN gr 2 = n := by unfold spN; omega
  have k0 := spareOk_fresh hok
  rw [d3, d4] at k0
  have hl : (freshTo n (nb * n)).length = nb * n := freshTo_len _ _
  have i0 : b * n + r < nb * n := row_lt hb hr
  have i2 : b * n + r2 < nb * n := row_lt hb hr2
  have hv1 : inB (n : Int) n (gr - 1) = true := inB_mk (by omega) (by omega)
  have hv2 : inB ((n : Int) + 1) n (gr - 1) = true := inB_mk (by omega) (by omega)
  have a0 : (n : Int) ∉ bankRow (freshTo n (nb * n)) n b := fun h => by have := fresh_row hb h; omega
  have a1 : (n : Int) + 1 ∉ bankRow (freshTo n (nb * n)) n b := fun h => by have := fresh_row hb h; omega
  have k1 := spareOk_set k0 d3 d4 hb hr hv1 a0
  have blen : (bankRow (freshTo n (nb * n)) n b).length = n := bankRow_len hl hb
  have c0 : (n : Int) ∈ bankRow ((freshTo n (nb * n)).set (b * n + r) n) n b := by
    rw [bankRow_set hr]
    exact List.mem_of_getElem? (i := r) (List.getElem?_set_self (by omega))
  have c1 : (n : Int) + 1 ∉ bankRow ((freshTo n (nb * n)).set (b * n + r) n) n b := by
    rw [bankRow_set hr]
    intro h
    rcases mem_set_row h with h | h
    · exact a1 h
    · omega
  have k2 := spareOk_set k1 d3 d4 hb hr2 hv2 c1
  have f0 : (n : Int) ∈ bankRow (((freshTo n (nb * n)).set (b * n + r) n).set (b * n + r2) ((n : Int) + 1)) n b := by
    rw [bankRow_set hr2, bankRow_set hr]
    apply List.mem_of_getElem? (i := r)
    rw [List.getElem?_set_ne (by omega)]
    exact List.getElem?_set_self (by omega)
  have f1 : (n : Int) + 1 ∈ bankRow (((freshTo n (nb * n)).set (b * n + r) n).set (b * n + r2) ((n : Int) + 1)) n b := by
    rw [bankRow_set hr2]
    exact List.mem_of_getElem? (i := r2) (List.getElem?_set_self (by rw [bankRow_set hr]; simp; omega))
  have s0 := inSp_mk (r := 0) k0 e1 e2 hb (by omega)
  have s1 := inSp_mk (r := 0) k1 e1 e2 hb (by omega)
  have s2 := inSp_mk (r := 0) k2 e1 e2 hb (by omega)
  have w0 : gr - 2 + ((0 : Nat) : Int) = (n : Int) := by omega
  have w1 : gr - 2 + ((1 : Nat) : Int) = (n : Int) + 1 := by omega
  have g00 : spFree gg gb gr gc 2 (freshTo n (nb * n)) b (gr - 2 + ((0 : Nat) : Int)) = true := by rw [w0, free_iff s0 d4]; simpa using a0
  have g01 : spFree gg gb gr gc 2 (freshTo n (nb * n)) b (gr - 2 + ((1 : Nat) : Int)) = true := by rw [w1, free_iff s0 d4]; simpa using a1
  have g10 : spFree gg gb gr gc 2 ((freshTo n (nb * n)).set (b * n + r) n) b (gr - 2 + ((0 : Nat) : Int)) = false := by rw [w0, free_iff s1 d4]; simpa using c0
  have g11 : spFree gg gb gr gc 2 ((freshTo n (nb * n)).set (b * n + r) n) b (gr - 2 + ((1 : Nat) : Int)) = true := by rw [w1, free_iff s1 d4]; simpa using c1
  have g20 : spFree gg gb gr gc 2 (((freshTo n (nb * n)).set (b * n + r) n).set (b * n + r2) ((n : Int) + 1)) b (gr - 2 + ((0 : Nat) : Int)) = false := by rw [w0, free_iff s2 d4]; simpa using f0
  have g21 : spFree gg gb gr gc 2 (((freshTo n (nb * n)).set (b * n + r) n).set (b * n + r2) ((n : Int) + 1)) b (gr - 2 + ((1 : Nat) : Int)) = false := by rw [w1, free_iff s2 d4]; simpa using f1
  have x1 : ((b : Int) * (gr - 2) + (r : Int)).toNat = b * n + r := by rw [e2, show (b : Int) * (n : Int) + (r : Int) = ((b * n + r : Nat) : Int) by simp, Int.toNat_natCast]
  have x2 : ((b : Int) * (gr - 2) + (r2 : Int)).toNat = b * n + r2 := by rw [e2, show (b : Int) * (n : Int) + (r2 : Int) = ((b * n + r2 : Nat) : Int) by simp, Int.toNat_natCast]
  have R1 := ret_at (j := 0) (inSp_mk k0 e1 e2 hb hr) (by omega) g00 (by intro i hi; omega)
  have R2 := ret_at (j := 1) (inSp_mk k1 e1 e2 hb hr2) (by omega) g11 (fun i hi => by
    have h0 : i = 0 := by omega
    subst h0
    exact g10)
  have R3 := ret_none (inSp_mk k2 e1 e2 hb hr) (by
    intro j hj
    obtain rfl | rfl : j = 0 ∨ j = 1 := by omega
    · exact g20
    · exact g21)
  rw [x1, w0] at R1
  rw [x2, w1] at R2
  refine ⟨hok, by rw [(sp_yes hok).1, d3, d4], R1.1, R1.2, R2.1, R2.2, R3.1, ?_, ?_, ?_, ?_⟩
  · unfold spStored
    rw [if_pos (inSp_mk k1 e1 e2 hb hr), x1]
    exact getD_of (List.getElem?_set_self (by omega))
  · unfold spStored
    rw [if_pos (inSp_mk k2 e1 e2 hb hr2), x2]
    exact getD_of (List.getElem?_set_self (by simp; omega))
  · rw [left_two s0 g00 g01]; rfl
  · rw [left_two s2 g20 g21]; rfl
end Go.Proofs.Ytbapamfomfbmmaa
