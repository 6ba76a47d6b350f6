/-
  All that the walk of the retired rows needs, in letters.
-/
import Derived.Test.YtbcbgdomjefdhaaSpR
import Derived.Test.YtbcbgdomjefdhaaGeoD
namespace Go.Proofs.Ytbcbgdomjefdhaa
open Go.RowKit
set_option linter.unusedSimpArgs false
set_option linter.unusedVariables false

structure RetL (gg gb gr gc : Int) (N b r r2 : Nat) (L0 L1 L2 : List Int) (k M : Nat) : Prop where
  ok0 : spOk gg gb gr gc 2 = true
  map0 : spMap gg gb gr gc 2 = L0
  sp0 : spSp gg gb gr gc 2 = 2
  ok1 : retOk gg gb gr gc 2 L0 b r = true
  map1 : retMap gg gb gr gc 2 L0 b r = L1
  ok2 : retOk gg gb gr gc 2 L1 b r2 = true
  map2 : retMap gg gb gr gc 2 L1 b r2 = L2
  ok3 : retOk gg gb gr gc 2 L2 b r = false
  st1 : spStored gg gb gr gc 2 L1 b r = N
  st2 : spStored gg gb gr gc 2 L2 b r2 = (N : Int) + 1
  lf0 : spLeft gg gb gr gc 2 L0 b = 2
  lf2 : spLeft gg gb gr gc 2 L2 b = 0
  len0 : L0.length = M
  len1 : L1.length = M
  len2 : L2.length = M
  hM : M ≤ 128
  hk : k < M
  eqv : ∀ (i : Nat) (x y : Int), i ≠ k → L0[i]? = some x → L1[i]? = some y → x = y
  nev : ∀ (x y : Int), L0[k]? = some x → L1[k]? = some y → x ≠ y
theorem retL {gg gb gc : Int} {N nb b r r2 : Nat} (hg : geoOk gg gb ((N : Int) + 2) gc = true) (e1 : bankCnt gg gb ((N : Int) + 2) gc = (nb : Int)) (hnb : nb ≤ 8) (hN : 2 ≤ N) (hN2 : N ≤ 14) (hb : b < nb) (hr : r < N) (hr2 : r2 < N) (hne : r ≠ r2) :
    ∃ L0 L1 L2 k M, RetL gg gb ((N : Int) + 2) gc N b r r2 L0 L1 L2 k M := by
  have R := retired (n := N) hg e1 (by omega) hN hb hr hr2 hne
  have hl : (freshTo N (nb * N)).length = nb * N := freshTo_len _ _
  have i0 : b * N + r < nb * N := row_lt hb hr
  have hM : nb * N ≤ 8 * 14 := Nat.mul_le_mul hnb hN2
  refine ⟨_, _, _, b * N + r, nb * N, R.ok0, R.map0, (sp_yes R.ok0).2, R.ok1, R.map1, R.ok2, R.map2, R.ok3, R.st1, R.st2, R.lf0, R.lf2, hl, by simp [hl], by simp [hl], by omega, i0, ?_, ?_⟩
  · intro i x y hi hx hy
    rw [List.getElem?_set_ne (by omega), hx] at hy
    injection hy
  · intro x y hx hy
    rw [List.getElem?_set_self (by omega)] at hy
    injection hy with hy
    rw [freshTo_get i0, (row_div hr).2] at hx
    injection hx with hx
    omega
theorem geo_plus {gg gb gc : Int} {N : Nat} (h : GeoIn gg gb ((N : Int) - 1) gc) : geoOk gg gb ((N : Int) + 2) gc = true := by
  obtain ⟨⟨a1, a2⟩, ⟨b1, b2⟩, ⟨c1, c2⟩, d1, d2⟩ := h
  unfold geoOk
  rw [inB_mk a1 a2, inB_mk b1 b2, inB_mk (x := (N : Int) + 2) (by omega) (by omega), inB_mk d1 (show gc ≤ 8 by omega)]
  rfl
theorem geo_banks {gg gb gr gc : Int} (h : geoOk gg gb gr gc = true) : ∃ nb : Nat, bankCnt gg gb gr gc = (nb : Int) ∧ 1 ≤ nb ∧ nb ≤ 8 := by
  have h4 := bankCnt_bd gg gb gr gc
  have h5 := bankCnt_pos h
  obtain ⟨nb, e⟩ := Int.eq_ofNat_of_zero_le (show 0 ≤ bankCnt gg gb gr gc by omega)
  exact ⟨nb, e, by omega, by omega⟩
end Go.Proofs.Ytbcbgdomjefdhaa
