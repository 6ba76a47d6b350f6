/-
  Plain facts on refresh states over many ticks.
-/
import Derived.Test.YtbolpanfgbhbnaaRefP
import Derived.Test.YtbolpanfgbhbnaaRefT
namespace Go.Proofs.Ytbolpanfgbhbnaa
set_option linter.unusedVariables false

theorem refOk_mk {zs : List Int} {s : Int} (h1 : ∀ x ∈ zs, -2 ≤ x ∧ x ≤ 5) (h2 : 1 ≤ zs.length) (h3 : zs.length ≤ 8) (h4 : 1 ≤ s) (h5 : s ≤ 10000) : refOk zs s = true := by
  unfold refOk debtsIn
  rw [inB_mk (by omega) (by omega), inB_mk h4 h5]
  simp only [Bool.and_true, List.all_eq_true]
  intro x hx
  exact inB_mk (h1 x hx).1 (h1 x hx).2
theorem refOk_rep {m : Nat} {d s : Int} (h1 : -2 ≤ d) (h2 : d ≤ 5) (h3 : 1 ≤ m) (h4 : m ≤ 8) (h5 : 1 ≤ s) (h6 : s ≤ 10000) : refOk (List.replicate m d) s = true :=
  refOk_mk (by intro x hx; have := List.eq_of_mem_replicate hx; omega) (by simpa using h3) (by simpa using h4) h5 h6
/-- The state after i ticks: m banks, a period p, at most d0 whole periods. -/
theorem tick_rep {m i : Nat} {p k : Int} {t : Bool} {q r : Nat} (hm1 : 1 ≤ m) (hm2 : m ≤ 8) (hp : 1 ≤ p) (hp2 : p ≤ 10000) (hk : 2 ≤ k) (hk2 : k ≤ 10000) (ht : (if t = true then k / 2 else k) = p) (hr : (r : Int) < p) (hq : q ≤ 4) :
    tickZ (List.replicate m (q : Int)) (p - r) k = List.replicate m (((if (r : Int) + 1 = p then q + 1 else q : Nat)) : Int) ∧ tickS (List.replicate m (q : Int)) (p - r) t k = p - ((if (r : Int) + 1 = p then 0 else r + 1 : Nat) : Int) := by
  obtain ⟨h1, h2⟩ := tick_on (t := t) (refOk_rep (m := m) (d := q) (s := p - r) (by omega) (by omega) hm1 hm2 (by omega) (by omega)) (inB_mk (x := k) (lo := 2) (hi := 10000) hk hk2)
  rw [h1, h2, ht]
  by_cases hc : (r : Int) + 1 = p
  · have hcc : p - (r : Int) ≤ 1 := by omega
    simp only [if_pos hcc, if_pos hc, List.map_replicate]
    refine ⟨?_, by omega⟩
    congr 1
    unfold bump
    omega
  · have hcc : ¬ p - (r : Int) ≤ 1 := by omega
    simp only [if_neg hcc, if_neg hc]
    exact ⟨trivial, by omega⟩
/-- i ticks over a period p: i / p whole periods. -/
theorem divstep (i p : Nat) (hp : 0 < p) : (i + 1) / p = (if (((i % p : Nat) : Int) + 1 = (p : Int)) then i / p + 1 else i / p) ∧ (i + 1) % p = (if (((i % p : Nat) : Int) + 1 = (p : Int)) then 0 else i % p + 1) := by
  have h1 := Nat.div_add_mod i p
  have h2 := Nat.mod_lt i hp
  split
  · rename_i h
    have e : i + 1 = p * (i / p + 1) := by rw [Nat.mul_add, Nat.mul_one]; omega
    rw [e]
    exact ⟨Nat.mul_div_cancel_left _ hp, Nat.mul_mod_right _ _⟩
  · rename_i h
    have e : i + 1 = (i % p + 1) + p * (i / p) := by omega
    rw [e]
    constructor
    · rw [Nat.add_mul_div_left _ _ hp, Nat.div_eq_of_lt (by omega)]
      rw [show ((i % p + 1) + p * (i / p)) = i + 1 from by omega] at *
      omega
    · rw [Nat.add_mul_mod_self_left, Nat.mod_eq_of_lt (by omega)]
      rw [show ((i % p + 1) + p * (i / p)) = i + 1 from by omega] at *
theorem tick_i {m i p : Nat} {k : Int} {t : Bool} (hm1 : 1 ≤ m) (hm2 : m ≤ 8) (hp : 1 ≤ p) (hp2 : p ≤ 10000) (hk : 2 ≤ k) (hk2 : k ≤ 10000) (ht : (if t = true then k / 2 else k) = p) (hq : i / p ≤ 4) :
    tickZ (List.replicate m ((i / p : Nat) : Int)) ((p : Int) - ((i % p : Nat) : Int)) k = List.replicate m (((i + 1) / p : Nat) : Int) ∧ tickS (List.replicate m ((i / p : Nat) : Int)) ((p : Int) - ((i % p : Nat) : Int)) t k = (p : Int) - (((i + 1) % p : Nat) : Int) := by
  obtain ⟨e1, e2⟩ := divstep i p hp
  rw [e1, e2]
  have := Nat.mod_lt i hp
  exact tick_rep (i := i) hm1 hm2 (by omega) (by omega) hk hk2 ht (by omega) hq
end Go.Proofs.Ytbolpanfgbhbnaa
