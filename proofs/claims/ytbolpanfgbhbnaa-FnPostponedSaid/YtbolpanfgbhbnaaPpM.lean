/-
  If urgent refreshes are performed within each interval, no debt exceeds the limit: the law in plain words. Nothing here walks code.
-/
import Derived.Test.YtbolpanfgbhbnaaPlR
import Derived.Test.YtbolpanfgbhbnaaRefD
namespace Go.Proofs.Ytbolpanfgbhbnaa
set_option linter.unusedVariables false

theorem pickTo_may (zs : List Int) (u : Bool) (bs : List Bool) (k : Nat) : pickTo zs u bs k = -1 ∨ ∃ i : Nat, pickTo zs u bs k = (i : Int) ∧ i < k ∧ mayP zs u bs i = true := by
  induction k with
  | zero => exact .inl rfl
  | succ k ih =>
    rw [pickTo_succ]
    unfold pickStep
    split
    · rename_i h
      exact .inr ⟨k, rfl, by omega, h.1⟩
    · rcases ih with ih | ⟨i, h1, h2, h3⟩
      · exact .inl ih
      · exact .inr ⟨i, h1, by omega, h3⟩
theorem pickTo_some {zs : List Int} {u : Bool} {bs : List Bool} {k i : Nat} (hi : i < k) (h : mayP zs u bs i = true) : 0 ≤ pickTo zs u bs k := by
  induction k with
  | zero => omega
  | succ k ih =>
    have bd := pickTo_bd zs u bs k
    rw [pickTo_succ]
    unfold pickStep
    split
    · omega
    · rename_i hn
      by_cases hik : i = k
      · subst hik
        rw [h] at hn
        simp only [true_and, not_or] at hn
        omega
      · exact ih (by omega)
/-- What a pick among debts from 0 to 4 takes: an urgent bank if there is one. -/
theorem post_pick {zs : List Int} {s : Int} {bs : List Bool} (hr : refOk zs s = true) (hz : ∀ z ∈ zs, 0 ≤ z ∧ z ≤ 4) :
    (pick zs s bs = -1 ∧ zs.count 4 = 0) ∨ ∃ (k : Nat) (x : Int), pick zs s bs = (k : Int) ∧ zs[k]? = some x ∧ 0 < x ∧ (x = 4 ∨ zs.count 4 = 0) := by
  unfold pick
  rw [if_pos hr]
  have eu : urg zs s = urgTo zs zs.length := by unfold urg; rw [if_pos hr]
  by_cases hu : 0 < (urg zs s).length
  · have hd : decide (0 < (urg zs s).length) = true := by simpa using hu
    rw [hd]
    have hex : ∃ i, i < zs.length ∧ 4 ≤ zs.getD i 0 := by
      rw [eu] at hu
      obtain ⟨v, hv⟩ := List.exists_mem_of_length_pos hu
      unfold urgTo at hv
      rw [List.mem_filterMap] at hv
      obtain ⟨i, hi, h⟩ := hv
      rw [List.mem_range] at hi
      split at h
      · exact ⟨i, hi, by assumption⟩
      · cases h
    obtain ⟨i, hi, h4⟩ := hex
    have h0 := pickTo_some (u := true) (bs := bs) hi (by unfold mayP; rw [if_pos rfl]; simpa using h4)
    rcases pickTo_may zs true bs zs.length with h | ⟨j, h1, h2, h3⟩
    · omega
    · right
      unfold mayP at h3
      rw [if_pos rfl] at h3
      have e : zs[j]? = some (zs.getD j 0) := by rw [List.getD_eq_getElem?_getD, List.getElem?_eq_getElem h2]; rfl
      have hb := hz _ (List.mem_of_getElem? e)
      have h3' : 4 ≤ zs.getD j 0 := by simpa using h3
      exact ⟨j, _, h1, e, by omega, .inl (by omega)⟩
  · have hd : decide (0 < (urg zs s).length) = false := by simpa using hu
    rw [hd]
    have hc : zs.count 4 = 0 := by
      rw [List.count_eq_zero]
      intro hm
      obtain ⟨i, hi, e⟩ := List.getElem_of_mem hm
      apply hu
      rw [eu]
      apply List.length_pos_of_mem (a := (i : Int))
      unfold urgTo
      rw [List.mem_filterMap]
      refine ⟨i, List.mem_range.2 hi, ?_⟩
      have e2 : zs.getD i 0 = 4 := by rw [List.getD_eq_getElem?_getD, List.getElem?_eq_getElem hi, e]; rfl
      rw [e2, if_pos (by omega)]
    rcases pickTo_may zs false bs zs.length with h | ⟨j, h1, h2, h3⟩
    · exact .inl ⟨h, hc⟩
    · right
      unfold mayP at h3
      simp only [Bool.false_eq_true, if_false, Bool.and_eq_true, decide_eq_true_eq] at h3
      have e : zs[j]? = some (zs.getD j 0) := by rw [List.getD_eq_getElem?_getD, List.getElem?_eq_getElem h2]; rfl
      exact ⟨j, _, h1, e, h3.1, .inr hc⟩

/-- How the debts stand ahead of a round: few banks are urgent, and none while the interval ends. -/
structure Post (ev : Nat) (n : Nat) (zs : List Int) (s : Int) : Prop where
  len : zs.length = n
  bd : ∀ z ∈ zs, 0 ≤ z ∧ z ≤ 4
  urg : zs.count 4 = 0 ∨ ((zs.count 4 : Nat) : Int) + ev ≤ s + 4
  lo : 1 ≤ s
  hi : s ≤ ev
theorem Post.ok {ev n : Nat} {zs : List Int} {s : Int} (h : Post ev n zs s) (h1 : 1 ≤ n) (h2 : n ≤ 4) (he : ev ≤ 10000) : refOk zs s = true := by
  obtain ⟨l, b, u, lo, hi⟩ := h
  exact refOk_mk (fun x hx => by have := b x hx; omega) (by omega) (by omega) lo (by omega)
theorem Post.new {ev n : Nat} (h : 1 ≤ ev) : Post ev n (List.replicate n 0) ev :=
  ⟨by simp, fun z hz => by have := List.eq_of_mem_replicate hz; omega, .inl (by rw [List.count_eq_zero]; intro hm; have := List.eq_of_mem_replicate hm; omega), by omega, by omega⟩
/-- One tick. -/
theorem post_tick {ev n : Nat} {zs : List Int} {s : Int} (h : Post ev n zs s) (h1 : 1 ≤ n) (h2 : n ≤ 4) (h3 : 9 ≤ ev) (h4 : ev ≤ 14) :
    (tickZ zs s ev).length = n ∧ (∀ z ∈ tickZ zs s ev, 0 ≤ z ∧ z ≤ 4) ∧ ((tickZ zs s ev).count 4 = 0 ∨ (((tickZ zs s ev).count 4 : Nat) : Int) + ev ≤ tickS zs s false ev + 5 ∧ (tickZ zs s ev).count 4 ≤ 4) ∧ 1 ≤ tickS zs s false ev ∧ tickS zs s false ev ≤ ev := by
  have hr := h.ok h1 h2 (by omega)
  obtain ⟨l, b, u, lo, hi⟩ := h
  obtain ⟨t1, t2⟩ := tick_on (t := false) hr (inB_mk (x := (ev : Int)) (lo := 2) (hi := 10000) (by omega) (by omega))
  rw [t1, t2]
  simp only [Bool.false_eq_true, if_false]
  have hlen : zs.count 4 ≤ zs.length := List.count_le_length
  by_cases hs : s ≤ 1
  · simp only [if_pos hs]
    have h0 : zs.count 4 = 0 := by rcases u with u | u <;> omega
    have hb : ∀ z ∈ zs.map bump, 0 ≤ z ∧ z ≤ 4 := by
      intro z hz
      rw [List.mem_map] at hz
      obtain ⟨y, hy, rfl⟩ := hz
      have := b y hy
      have hne : y ≠ 4 := fun e => (List.count_eq_zero.1 h0) (e ▸ hy)
      unfold bump
      omega
    have hc : (zs.map bump).count 4 ≤ (zs.map bump).length := List.count_le_length
    rw [List.length_map] at hc
    refine ⟨by rw [List.length_map]; exact l, hb, .inr ⟨by omega, by omega⟩, by omega, by omega⟩
  · simp only [if_neg hs]
    refine ⟨l, b, ?_, by omega, by omega⟩
    rcases u with u | u
    · exact .inl u
    · exact .inr ⟨by omega, by omega⟩
/-- One round: a tick, then the picked bank is refreshed. -/
theorem post_round {ev n : Nat} {zs : List Int} {s : Int} {bs : List Bool} (h : Post ev n zs s) (h1 : 1 ≤ n) (h2 : n ≤ 4) (h3 : 9 ≤ ev) (h4 : ev ≤ 14) :
    (pick (tickZ zs s ev) (tickS zs s false ev) bs = -1 ∧ Post ev n (tickZ zs s ev) (tickS zs s false ev)) ∨
    ∃ k : Nat, k < n ∧ pick (tickZ zs s ev) (tickS zs s false ev) bs = (k : Int) ∧ doneOk (tickZ zs s ev) (tickS zs s false ev) k = true ∧ Post ev n (doneZ (tickZ zs s ev) (tickS zs s false ev) k) (tickS zs s false ev) := by
  obtain ⟨l, b, u, lo, hi⟩ := post_tick h h1 h2 h3 h4
  generalize tickZ zs s ev = ys at *
  generalize tickS zs s false ev = r at *
  have hr : refOk ys r = true := refOk_mk (fun x hx => by have := b x hx; omega) (by omega) (by omega) lo (by omega)
  rcases post_pick (bs := bs) hr b with ⟨e, hc⟩ | ⟨k, x, e, hx, x0, hc⟩
  · exact .inl ⟨e, ⟨l, b, .inl hc, lo, hi⟩⟩
  · right
    have hk := lt_of_get hx
    obtain ⟨d1, d2⟩ := doneOk_t (s := r) hr (inB_mk (x := (k : Int)) (lo := 0) (hi := (ys.length : Int) - 1) (by omega) (by omega)) hx (by omega)
    have hxb := b x (List.mem_of_getElem? hx)
    refine ⟨k, by omega, e, d1, ?_⟩
    rw [d2]
    have hset : (ys.set k (x - 1)).count 4 = ys.count 4 - (if x = 4 then 1 else 0) := by
      rw [List.count_set hk]
      have hxk : ys[k] = x := by rw [List.getElem?_eq_getElem hk] at hx; injection hx
      rw [hxk, if_neg (c := (x - 1 == 4) = true) (by simp; omega)]
      by_cases h4 : x = 4
      · simp [h4]
      · simp [h4]
    refine ⟨by simpa using l, ?_, ?_, lo, hi⟩
    · intro z hz
      rcases List.mem_or_eq_of_mem_set hz with h | h
      · exact b z h
      · omega
    · rw [hset]
      by_cases h4 : x = 4
      · rw [if_pos h4]
        rcases u with u | ⟨u1, u2⟩
        · left; omega
        · by_cases h0 : ys.count 4 - 1 = 0
          · exact .inl h0
          · right; omega
      · rw [if_neg h4]
        rcases hc with hc | hc
        · exact absurd hc h4
        · left; omega
end Go.Proofs.Ytbolpanfgbhbnaa
