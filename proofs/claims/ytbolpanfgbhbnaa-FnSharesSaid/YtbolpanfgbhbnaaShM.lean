/-
  Credits and weights in plain words: whom the selection takes, and that each is taken as often as its weight. Nothing here walks code.
-/
import Derived.Test.YtbolpanfgbhbnaaShrA
namespace Go.Proofs.Ytbolpanfgbhbnaa
open Go.RowKit
set_option linter.unusedSimpArgs false
set_option linter.unusedVariables false

def Shr.zero : Shr := ⟨0, 0⟩
theorem getShr {rs : List Shr} {i : Nat} {r : Shr} (h : rs[i]? = some r) : rs.getD i Shr.zero = r := by rw [List.getD_eq_getElem?_getD, h]; rfl
/-- The richest of the first k shares. -/
def richStep (rs : List Shr) (b : Int) (i : Nat) : Int := if b < 0 ∨ (rs.getD b.toNat Shr.zero).cr < (rs.getD i Shr.zero).cr then (i : Int) else b
def richTo (rs : List Shr) (k : Nat) : Int := (List.range k).foldl (richStep rs) (-1)
theorem richTo_succ (rs : List Shr) (k : Nat) : richTo rs (k + 1) = richStep rs (richTo rs k) k := by unfold richTo; rw [List.range_succ, List.foldl_append]; rfl
theorem richTo_next {rs : List Shr} {k : Nat} {x b0 : Int} {y wt : Int} (hx : rs[k]? = some ⟨wt, x⟩) (hb : richTo rs k = b0) (hy : b0 < 0 ∨ ∃ v, rs[b0.toNat]? = some ⟨v, y⟩) :
    richTo rs (k + 1) = if b0 < 0 ∨ y < x then (k : Int) else b0 := by
  rw [richTo_succ, hb]
  unfold richStep
  rw [getShr hx]
  rcases hy with hy | ⟨v, hy⟩
  · simp [hy]
  · rw [getShr hy]
theorem richTo_max (rs : List Shr) (k : Nat) (hk : 0 < k) : ∃ b : Nat, b < k ∧ richTo rs k = (b : Int) ∧ ∀ i, i < k → (rs.getD i Shr.zero).cr ≤ (rs.getD b Shr.zero).cr := by
  induction k with
  | zero => omega
  | succ k ih =>
    rw [richTo_succ]
    by_cases h0 : k = 0
    · subst h0
      exact ⟨0, by omega, rfl, fun i hi => by (have h0 : i = 0 := by omega); subst h0; exact Int.le_refl _⟩
    · obtain ⟨b, h1, h2, h3⟩ := ih (by omega)
      rw [h2]
      unfold richStep
      by_cases hc : (b : Int) < 0 ∨ (rs.getD (b : Int).toNat Shr.zero).cr < (rs.getD k Shr.zero).cr
      · rw [if_pos hc]
        rw [Int.toNat_natCast] at hc
        refine ⟨k, by omega, rfl, fun i hi => ?_⟩
        by_cases hik : i = k
        · subst hik; exact Int.le_refl _
        · have := h3 i (by omega); omega
      · rw [if_neg hc]
        rw [Int.toNat_natCast] at hc
        refine ⟨b, by omega, rfl, fun i hi => ?_⟩
        by_cases hik : i = k
        · subst hik; omega
        · exact h3 i (by omega)
theorem richTo_bd (rs : List Shr) (k : Nat) : -1 ≤ richTo rs k ∧ richTo rs k < max k 0 := by
  by_cases hk : 0 < k
  · obtain ⟨b, h1, h2, _⟩ := richTo_max rs k hk
    rw [h2]; omega
  · obtain rfl : k = 0 := by omega
    have e : richTo rs 0 = -1 := rfl
    rw [e]; omega

/-- All credits are given anew. -/
def refill (rs : List Shr) : List Shr := rs.map fun r => ⟨r.wt, r.wt⟩
/-- A selection where all wait: the k-th share gives a credit; where no credit is left, all are given anew before. -/
def Picked (rs rs' : List Shr) (k : Nat) : Prop :=
  ∃ (base : List Shr) (r : Shr), (((∀ x ∈ rs, x.cr = 0) ∧ base = refill rs) ∨ base = rs) ∧ base[k]? = some r ∧ 0 < r.cr ∧ rs' = base.set k ⟨r.wt, r.cr - 1⟩
theorem shrsOk_parts {rs : List Shr} (h : shrsOk rs = true) : (∀ r ∈ rs, (1 ≤ r.wt ∧ r.wt ≤ 9) ∧ 0 ≤ r.cr ∧ r.cr ≤ r.wt) ∧ 1 ≤ rs.length ∧ rs.length ≤ 4 := by
  unfold shrsOk shrsIn at h
  rw [Bool.and_eq_true, List.all_eq_true] at h
  refine ⟨fun r hr => ?_, by have := inB_t h.2; omega⟩
  have := h.1 r hr
  unfold Shr.ok at this
  rw [Bool.and_eq_true] at this
  exact ⟨inB_t this.1, inB_t this.2⟩
theorem shrsOk_mk {rs : List Shr} (h : ∀ r ∈ rs, (1 ≤ r.wt ∧ r.wt ≤ 9) ∧ 0 ≤ r.cr ∧ r.cr ≤ r.wt) (h1 : 1 ≤ rs.length) (h2 : rs.length ≤ 4) : shrsOk rs = true := by
  unfold shrsOk shrsIn
  rw [Bool.and_eq_true, List.all_eq_true]
  refine ⟨fun r hr => ?_, inB_mk (by omega) (by omega)⟩
  have := h r hr
  unfold Shr.ok
  rw [inB_mk this.1.1 this.1.2, inB_mk this.2.1 this.2.2]
  rfl
theorem refill_len (rs : List Shr) : (refill rs).length = rs.length := by simp [refill]
theorem refill_get {rs : List Shr} {k : Nat} {wt cr : Int} (h : rs[k]? = some ⟨wt, cr⟩) : (refill rs)[k]? = some ⟨wt, wt⟩ := by simp [refill, h]

/-- A share and how often it was selected. -/
structure Tri where
  wt : Int
  cr : Int
  cn : Int
def Tri.shr (t : Tri) : Shr := ⟨t.wt, t.cr⟩
def sumOf (f : Tri → Int) : List Tri → Int
  | [] => 0
  | t :: ts => f t + sumOf f ts
theorem sumOf_set (f : Tri → Int) : ∀ (ts : List Tri) (k : Nat) (t u : Tri), ts[k]? = some t → sumOf f (ts.set k u) = sumOf f ts - f t + f u
  | [], k, t, u, h => by simp at h
  | x :: ts, 0, t, u, h => by
    simp only [List.getElem?_cons_zero, Option.some.injEq] at h
    subst h
    simp only [List.set_cons_zero, sumOf]; omega
  | x :: ts, k + 1, t, u, h => by
    rw [List.getElem?_cons_succ] at h
    have := sumOf_set f ts k t u h
    simp only [List.set_cons_succ, sumOf, this]; omega
theorem sumOf_map (f : Tri → Int) (g : Tri → Tri) (h : ∀ t, f (g t) = f t) : ∀ ts : List Tri, sumOf f (ts.map g) = sumOf f ts
  | [] => rfl
  | t :: ts => by simp only [List.map_cons, sumOf, h, sumOf_map f g h ts]
structure Fair (q : Int) (ts : List Tri) : Prop where
  each : ∀ t ∈ ts, (1 ≤ t.wt ∧ t.wt ≤ 9) ∧ (0 ≤ t.cr ∧ t.cr ≤ t.wt) ∧ t.cn + t.cr = (q + 1) * t.wt
theorem Fair.sum {q : Int} : ∀ {ts : List Tri}, Fair q ts → sumOf Tri.cn ts + sumOf Tri.cr ts = (q + 1) * sumOf Tri.wt ts
  | [], _ => by simp [sumOf]
  | t :: ts, h => by
    have h1 := (h.each t (List.mem_cons_self ..)).2.2
    have h2 := Fair.sum (ts := ts) ⟨fun t ht => h.each t (List.mem_cons_of_mem _ ht)⟩
    simp only [sumOf, Int.mul_add]
    omega
theorem sum_le : ∀ {ts : List Tri} {q : Int}, Fair q ts → 0 ≤ sumOf Tri.cr ts ∧ sumOf Tri.cr ts ≤ sumOf Tri.wt ts ∧ (sumOf Tri.cr ts = 0 → ∀ t ∈ ts, t.cr = 0) ∧ (sumOf Tri.cr ts = sumOf Tri.wt ts → ∀ t ∈ ts, t.cr = t.wt) ∧ (ts.length : Int) ≤ sumOf Tri.wt ts
  | [], _, _ => by simp [sumOf]
  | t :: ts, q, h => by
    have h1 := h.each t (List.mem_cons_self ..)
    obtain ⟨a1, a2, a3, a4, a5⟩ := sum_le (ts := ts) (q := q) ⟨fun t ht => h.each t (List.mem_cons_of_mem _ ht)⟩
    simp only [sumOf, List.length_cons]
    refine ⟨by omega, by omega, fun e => ?_, fun e => ?_, by omega⟩
    · intro u hu
      rcases List.mem_cons.1 hu with rfl | hu
      · omega
      · exact a3 (by omega) u hu
    · intro u hu
      rcases List.mem_cons.1 hu with rfl | hu
      · omega
      · exact a4 (by omega) u hu
theorem fair_step {q : Int} {ts : List Tri} {rs' : List Shr} {k : Nat} (h : Fair q ts) (hp : Picked (ts.map Tri.shr) rs' k) :
    ∃ (q' : Int) (ts' : List Tri) (t : Tri), ts[k]? = some t ∧ Fair q' ts' ∧ rs' = ts'.map Tri.shr ∧ ts'.map Tri.cn = (ts.map Tri.cn).set k (t.cn + 1) ∧ ts'.map Tri.wt = ts.map Tri.wt ∧ sumOf Tri.cn ts' = sumOf Tri.cn ts + 1 ∧ sumOf Tri.wt ts' = sumOf Tri.wt ts := by
  obtain ⟨base, r, hb, hr, hr0, rfl⟩ := hp
  have main : ∀ (q : Int) (us : List Tri), Fair q us → base = us.map Tri.shr → us.map Tri.cn = ts.map Tri.cn → us.map Tri.wt = ts.map Tri.wt → sumOf Tri.cn us = sumOf Tri.cn ts → sumOf Tri.wt us = sumOf Tri.wt ts →
      ∃ (q' : Int) (ts' : List Tri) (t : Tri), ts[k]? = some t ∧ Fair q' ts' ∧ base.set k ⟨r.wt, r.cr - 1⟩ = ts'.map Tri.shr ∧ ts'.map Tri.cn = (ts.map Tri.cn).set k (t.cn + 1) ∧ ts'.map Tri.wt = ts.map Tri.wt ∧ sumOf Tri.cn ts' = sumOf Tri.cn ts + 1 ∧ sumOf Tri.wt ts' = sumOf Tri.wt ts := by
    intro q us hF e1 e2 e3 e4 e5
    subst e1
    rw [List.getElem?_map] at hr
    obtain ⟨u, hu, hur⟩ := Option.map_eq_some_iff.1 hr
    subst hur
    have hcr : 0 < u.cr := hr0
    have hl : us.length = ts.length := by have := congrArg List.length e2; simpa using this
    have hk : k < ts.length := by rw [← hl]; exact lt_of_get hu
    have hcn : (us.map Tri.cn)[k]? = some u.cn := by rw [List.getElem?_map, hu]; rfl
    rw [e2, List.getElem?_map, List.getElem?_eq_getElem hk] at hcn
    simp only [Option.map_some, Option.some.injEq] at hcn
    have hm := hF.each u (List.mem_of_getElem? hu)
    refine ⟨q, us.set k ⟨u.wt, u.cr - 1, u.cn + 1⟩, ts[k], List.getElem?_eq_getElem hk, ⟨fun t ht => ?_⟩, ?_, ?_, ?_, ?_, ?_⟩
    · rcases List.mem_or_eq_of_mem_set ht with ht | ht
      · exact hF.each t ht
      · subst ht
        dsimp only
        omega
    · rw [List.map_set]; rfl
    · rw [List.map_set, e2, hcn]
    · rw [List.map_set, ← e3]
      apply List.ext_getElem?
      intro i
      rw [List.getElem?_set]
      split
      · rename_i hi
        subst hi
        rw [List.getElem?_map, hu]
        simp [lt_of_get hu]
      · rfl
    · rw [sumOf_set _ _ _ _ _ hu, e4]; dsimp only; omega
    · rw [sumOf_set _ _ _ _ _ hu, e5]; dsimp only; omega
  rcases hb with ⟨h0, hb⟩ | hb
  · refine main (q + 1) (ts.map fun t => ⟨t.wt, t.wt, t.cn⟩) ⟨fun t ht => ?_⟩ ?_ ?_ ?_ ?_ ?_
    · rw [List.mem_map] at ht
      obtain ⟨u, hu, rfl⟩ := ht
      have h1 := h.each u hu
      have h2 : u.cr = 0 := h0 u.shr (List.mem_map_of_mem hu)
      dsimp only
      rw [Int.add_mul (q + 1) 1 u.wt]
      omega
    · rw [hb]; unfold refill; rw [List.map_map, List.map_map]; rfl
    · rw [List.map_map]; rfl
    · rw [List.map_map]; rfl
    · exact sumOf_map _ (fun t : Tri => (⟨t.wt, t.wt, t.cn⟩ : Tri)) (fun _ => rfl) ts
    · exact sumOf_map _ (fun t : Tri => (⟨t.wt, t.wt, t.cn⟩ : Tri)) (fun _ => rfl) ts
  · exact main q ts h hb rfl rfl rfl rfl
theorem fair_end {q : Int} {ts : List Tri} (h : Fair q ts) (hn : 0 < ts.length) (hs : sumOf Tri.cn ts = 2 * sumOf Tri.wt ts) : ∀ t ∈ ts, t.cn = 2 * t.wt := by
  have e := h.sum
  obtain ⟨a1, a2, a3, a4, a5⟩ := sum_le h
  have hw : 1 ≤ sumOf Tri.wt ts := by omega
  have e2 : sumOf Tri.cr ts = (q - 1) * sumOf Tri.wt ts := by rw [Int.sub_mul]; rw [Int.add_mul] at e; omega
  have q1 : 1 ≤ q := by
    by_cases hq : 1 ≤ q
    · exact hq
    · have := Int.mul_le_mul_of_nonneg_right (show q - 1 ≤ -1 by omega) (show 0 ≤ sumOf Tri.wt ts by omega)
      omega
  have q2 : q ≤ 2 := by
    by_cases hq : q ≤ 2
    · exact hq
    · have := Int.mul_le_mul_of_nonneg_right (show 2 ≤ q - 1 by omega) (show 0 ≤ sumOf Tri.wt ts by omega)
      omega
  intro t ht
  have h1 := (h.each t ht).2.2
  obtain rfl | rfl : q = 1 ∨ q = 2 := by omega
  · have := a3 (by omega) t ht
    omega
  · have := a4 (by omega) t ht
    omega
end Go.Proofs.Ytbolpanfgbhbnaa
