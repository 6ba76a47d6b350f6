/-
  A slice of integers in a block of the call's own, from any cell on; what the program's guarded run holds in memory; the contract of its closure.
-/
import Derived.Test.YtbapamfomfbmmaaGr2
import Derived.Test.YtbapamfomfbmmaaTkA
import Derived.Test.YtbapamfomfbmmaaTrk1
import Derived.Deep.DeepCutAuto
namespace Go.Proofs.Ytbapamfomfbmmaa
open Go.RowKit
set_option linter.unusedSimpArgs false
set_option linter.unusedVariables false

def OffI (w : World) (lo : Nat) (A : Option Addr) (n c : Nat) (zs : List Int) : Prop :=
  zs.length = n ∧ n ≤ c ∧ c ≤ maxLen ∧ (c ≠ 0 → ∃ (g o : Nat) (cs : Array Value), A = some ⟨g, o, none⟩ ∧ lo ≤ g ∧ w.heap[g]? = some (.cells cs 3 (0, 0)) ∧ o + c ≤ cs.size ∧ ∀ i, i < n → cs[o + i]? = some (.int .i64 (zs.getD i 0)))
section
variable {w w' : World} {lo n c : Nat} {A : Option Addr} {zs : List Int}
theorem blk_of {g o c : Nat} (h : c ≠ 0) : blk (some ⟨g, o, none⟩) c = some g := blk_at h
theorem hp_lt {w : World} {g : Nat} {x : Obj} (h : w.heap[g]? = some x) : g < w.heap.size := (Array.getElem?_eq_some_iff.1 h).1
theorem OffI.lt (h : OffI w lo A n c zs) : ∀ k, blk A c = some k → lo ≤ k ∧ k < w.heap.size := by
  intro k hk
  obtain ⟨hc, a, rfl, rfl⟩ := blk_some hk
  obtain ⟨g, o, cs, e, h1, h2, -⟩ := h.2.2.2 hc
  injection e with e
  subst e
  exact ⟨h1, hp_lt h2⟩
theorem OffI.keep (h : OffI w lo A n c zs) (hk : ∀ g, blk A c = some g → w'.heap[g]? = w.heap[g]?) : OffI w' lo A n c zs := by
  refine ⟨h.1, h.2.1, h.2.2.1, fun hc => ?_⟩
  obtain ⟨g, o, cs, rfl, h1, h2, h3⟩ := h.2.2.2 hc
  exact ⟨g, o, cs, rfl, h1, by rw [hk g (blk_of hc)]; exact h2, h3⟩
theorem OffI.kept {row : Option Nat} (h : OffI w lo A n c zs) (hg : w.grownBy w' row) (hne : ∀ k, blk A c = some k → some k ≠ row) : OffI w' lo A n c zs :=
  h.keep fun g hb => hg.block g (h.lt g hb).2 (hne g hb)
theorem OffI.below (h : OffI w lo A n c zs) (hb : Below w.heap.size w w') : OffI w' lo A n c zs := h.keep fun g hg => hb.block g (h.lt g hg).2
theorem OffI.alloc (h : OffI w lo A n c zs) (o : Obj) : OffI (w.alloc o) lo A n c zs := h.keep fun g hg => Below.heap_alloc w o g (h.lt g hg).2
theorem OffI.setCell (h : OffI w lo A n c zs) (p : Addr) (u : Value) (hne : ∀ k, blk A c = some k → k ≠ p.block) : OffI (w.setCell p u) lo A n c zs := h.keep fun g hg => Below.heap_setCell w p u g (hne g hg)
theorem OffI.ints (h : OffI w lo A n c zs) : Ints w A n zs := by
  refine ⟨h.1, fun hn => ?_⟩
  obtain ⟨g, o, cs, rfl, h1, h2, h3, h4⟩ := h.2.2.2 (by have := h.2.1; omega)
  exact ⟨g, o, rfl, hp_lt h2, fun i hi => (cell_of_row w g (o + i) cs _ (0, 0) h2).trans (h4 i hi)⟩
theorem OffI.nil (w : World) (lo : Nat) (A : Option Addr) : OffI w lo A 0 0 [] := ⟨rfl, Nat.le_refl _, by unfold maxLen; omega, fun h => absurd rfl h⟩
theorem OffI.of_own (h : OwnI w lo A n c zs) : OffI w lo A n c zs := by
  have hl := h.len
  have hc := OwnV.cap h
  refine ⟨hl, hc.1, hc.2, fun h0 => ?_⟩
  have hr := OwnV.row h h0
  rcases hr.2 with ⟨h', _⟩ | ⟨g, cap, cur, e1, e2, e3, e4, e5, e6, e7⟩
  · injection h' with a b c'
    exact absurd c' h0
  · injection e1 with a b c'
    subst a c'
    refine ⟨g, 0, cur, rfl, e2, e3, by omega, fun i hi => ?_⟩
    rw [Nat.zero_add]
    have h1 := mapI_get zs i (by omega)
    rw [← e7, List.getElem?_take, if_pos (by omega)] at h1
    rw [← Array.getElem?_toList]
    exact h1
theorem OffI.cut {x : Int} (h : OffI w lo A n c (x :: zs)) : OffI w lo (cutAt A c 1 1) (n - 1) (c - 1) zs := by
  obtain ⟨h1, h2, h3, h4⟩ := h
  simp only [List.length_cons] at h1
  refine ⟨by omega, by omega, by omega, fun hc => ?_⟩
  obtain ⟨g, o, cs, rfl, e1, e2, e3, e4⟩ := h4 (by omega)
  refine ⟨g, o + 1, cs, ?_, e1, e2, by omega, fun i hi => ?_⟩
  · unfold cutAt
    rw [if_neg (by omega), Option.map_some, addr_add]
  · have := e4 (i + 1) (by omega)
    rw [show o + 1 + i = o + (i + 1) by omega, this]
    simp
theorem cut_blk {k : Nat} (h : blk (cutAt A c 1 1) (c - 1) = some k) : blk A c = some k := by
  obtain ⟨hc, a, ha, hk⟩ := blk_some h
  unfold cutAt at ha
  rw [if_neg (by omega)] at ha
  cases A with
  | none => simp at ha
  | some b =>
    simp only [Option.map_some, Option.some.injEq] at ha
    unfold blk
    rw [if_neg (by omega)]
    subst ha hk
    simp [Addr.add]
end
theorem own_of_row {w' : World} {lo m : Nat} {v' : Value} {xs : List Int} (h : w'.ownsRow lo 3 1 v' m (mapI xs)) (hm : 0 < m) : ∃ g c', v' = .slice (some ⟨g, 0, none⟩) m c' ∧ c' ≠ 0 ∧ OwnI w' lo (some ⟨g, 0, none⟩) m c' xs := by
  have h0 := h
  rcases h.2 with ⟨_, hz⟩ | ⟨g, cap, cur, e1, e2, e3, e4, e5, e6, e7⟩
  · omega
  · subst e1
    exact ⟨g, cap, rfl, by omega, .inl h0⟩
theorem run_appOff {P : Program} (w : World) (lo : Nat) (t ty : TypeId) (ht : P.underlying t = some (.slice 3)) (hinf : (P.info? 3).map (fun i => (i.zero, i.size, i.bytes)) = some (some (.int .i64 0), 1, 8))
    (A : Option Addr) (n c : Nat) (zs : List Int) (hown : OffI w lo A n c zs) (g1 : Nat) (y : Int) (hc : w.cell? ⟨g1, 0, none⟩ = some (.int .i64 y)) (h63 : n + 1 ≤ 1099511627776) (hlo : lo ≤ w.heap.size) :
    ∃ A' c' w', (Builtin.append_ #[t, t] ty #[.slice A n c, .slice (some ⟨g1, 0, none⟩) 1 1]).run P w = .ok (.slice A' (n + 1) c') w' ∧ OffI w' lo A' (n + 1) c' (zs ++ [y]) ∧ w.grownBy w' (blk A c) ∧ (blk A' c' = blk A c ∨ ∀ k, blk A' c' = some k → w.heap.size ≤ k) := by
  obtain ⟨i, hi, hz, hs, hby⟩ := info_parts hinf
  obtain ⟨hl, hnc, hcm, hrow⟩ := hown
  have hsrc : ∀ j u, ([Value.int .i64 y] : List Value)[j]? = some u → w.cell? ((⟨g1, 0, none⟩ : Addr).add j) = some u := by
    intro j u hu
    match j, hu with
    | 0, hu => simp only [List.getElem?_cons_zero, Option.some.injEq] at hu; subst hu; simpa [Addr.add] using hc
    | j + 1, hu => simp at hu
  by_cases h0 : c = 0
  · subst h0
    obtain rfl : n = 0 := by omega
    obtain rfl : zs = [] := List.eq_nil_of_length_eq_zero hl
    obtain ⟨A', c', w', e1, e2, e3, e4⟩ := run_appV (P := P) w lo t ty 3 (.int .i64 0) 1 8 ht hinf rfl (by omega) A 0 0 (mapI []) (OwnI.nil w lo A) (some ⟨g1, 0, none⟩) 1 1 [.int .i64 y] (Src.one hc) (by intro u hu; simp at hu; subst hu; rfl) (by unfold maxLen; omega) (by omega) hlo
    refine ⟨A', c', w', e1, OffI.of_own (zs := [y]) e2, e3, ?_⟩
    rcases e4 with e4 | e4
    · exact .inl e4
    · exact .inr fun k hk => by rw [e4] at hk; injection hk with hk; omega
  · obtain ⟨g, o, cs, rfl, f1, f2, f3, f4⟩ := hrow h0
    by_cases hr : n + 1 ≤ c
    · have hcell : w.cell? ⟨g, o + n, none⟩ = cs[o + n]? := cell_of_row w g (o + n) cs _ (0, 0) f2
      have hin : o + n < cs.size := by omega
      have hrun := run_append_room_cells (P := P) w t ty 3 i ht hi g o n c ⟨g1, 0, none⟩ 1 1 [.int .i64 y] (by rw [hs]; rfl) hsrc (by intro u hu; simp at hu; subst hu; rfl) hr
        (by
          intro j hj
          have : j = 0 := by simpa using hj
          subst this
          rw [hs, Nat.mul_one, Nat.add_zero, hcell, Array.getElem?_eq_getElem hin]
          rfl)
        (by
          intro j hj
          simp [World.frozen?, f2])
      rw [hs, Nat.mul_one] at hrun
      have ew : w.setCells g (o + n) [.int .i64 y] = w.setCell ⟨g, o + n, none⟩ (.int .i64 y) := rfl
      rw [ew] at hrun
      refine ⟨_, _, _, hrun, ⟨by simp [hl], hr, hcm, fun _ => ⟨g, o, cs.setIfInBounds (o + n) (.int .i64 y), rfl, f1, ?_, by simpa using f3, fun k hk => ?_⟩⟩, ?_, .inl rfl⟩
      · simp [World.setCell, Array.getElem?_modify, f2]
      · rw [Array.getElem?_setIfInBounds]
        by_cases hkn : k = n
        · subst hkn
          rw [if_pos rfl, if_pos hin]
          simp [← hl]
        · rw [if_neg (by omega), f4 k (by omega)]
          have : k < zs.length := by omega
          simp [List.getD_eq_getElem?_getD, List.getElem?_append_left this]
      · rw [blk_of h0]
        exact grown_setCell w _ _
    · obtain rfl : n = c := by omega
      have hlen : (mapI zs).length = n * 1 := by rw [mapI_len, hl, Nat.mul_one]
      obtain ⟨v', w', e1, e2, e3⟩ := run_append_arg_grows (P := P) w t ty 3 i (.int .i64 0) 1 8 ht hi hz hs hby rfl (by omega) ⟨g, o, none⟩ n n (mapI zs) hlen
        (fun j u hj => by
          have hj' : j < zs.length := by have := lt_of_get hj; rwa [mapI_len] at this
          rw [addr_add, cell_of_row w g (o + j) cs _ (0, 0) f2, f4 j (by omega), ← hj, mapI_get _ _ hj'])
        ⟨g1, 0, none⟩ 1 1 [.int .i64 y] rfl hsrc (by omega) (by unfold maxLen; omega) (by omega)
      have e2' : w'.ownsRow w.heap.size 3 1 v' (n + 1) (mapI (zs ++ [y])) := by rw [mapI_append]; exact e2
      obtain ⟨g', c', rfl, hc', ho⟩ := own_of_row e2' (by omega)
      refine ⟨_, c', w', e1, OffI.of_own (OwnI.mono ho hlo), ⟨e3.os, e3.tape, e3.output, e3.size, fun k hk _ => e3.block k hk (by simp)⟩, .inr fun k hk => (ho.lt k hk).1⟩
section
variable {P : Program} {w : World} {ops : Array Oper} {rest : List Oper} {o : Oper} {a : Act} {Q : Exit → Act → World → Prop}
/-- 'append(q, y)' onto a slice that may begin behind its block's first cell. -/
theorem wpList_appOff (hgd : o.guard = none) (s x : Operand) (t : TypeId) (ho : o.op = .call { callee := .builtin .append, args := #[s, x], argTypes := #[t, t] }) (ht : P.underlying t = some (.slice 3))
    (hinf : (P.info? 3).map (fun i => (i.zero, i.size, i.bytes)) = some (some (.int .i64 0), 1, 8))
    (A : Option Addr) (n c lo : Nat) (zs : List Int) (hs : a.eval s = .slice A n c) (hown : OffI w lo A n c zs) (g1 : Nat) (y : Int) (hx : a.eval x = .slice (some ⟨g1, 0, none⟩) 1 1)
    (hcell : w.cell? ⟨g1, 0, none⟩ = some (.int .i64 y)) (hlen : n + 1 ≤ 1099511627776) (hlo : lo ≤ w.heap.size)
    (h : ∀ A' c' w', OffI w' lo A' (n + 1) c' (zs ++ [y]) → w.grownBy w' (blk A c) → (blk A' c' = blk A c ∨ ∀ k, blk A' c' = some k → w.heap.size ≤ k) → wpList P ops Q rest (a.put o.dst (.slice A' (n + 1) c')) w') :
    wpList P ops Q (o :: rest) a w := by
  refine wpList_plain hgd fun K hK => ?_
  obtain ⟨A', c', w', hrun, h2, h3, h4⟩ := run_appOff (P := P) w lo t o.type ht hinf A n c zs hown g1 y hcell hlen hlo
  unfold Oper.wp execOp
  simp only [ho, resolve, invoke, builtin, Sem.run_bind, Sem.run_pure, Result.andThen_ok, List.map_toArray, List.map_cons, List.map_nil, hs, hx, hrun]
  exact hK _ _ (h A' c' w' h2 h3 h4)
end
end Go.Proofs.Ytbapamfomfbmmaa
