/-
  Records Share: how they lie in memory, and the contracts of the laws' helpers on them.
-/
import Derived.Test.YtbolpanfgbhbnaaCommon
import Derived.Test.YtbolpanfgbhbnaaFlat
import Derived.Deep.RegionHeld3
namespace Go.Proofs.Ytbolpanfgbhbnaa
open Go.RowKit
set_option linter.unusedSimpArgs false
set_option linter.unusedVariables false


/-- A record Share. -/
structure Shr where
  wt : Int
  cr : Int
deriving DecidableEq
def Shr.cs (r : Shr) : List Value := [.int .i64 r.wt, .int .i64 r.cr]
theorem Shr.cs_len (r : Shr) : r.cs.length = 2 := rfl
/-- A slice of records that reads as the list rs. -/
def Shrs (w : World) (A : Option Addr) (n : Nat) (rs : List Shr) : Prop := Cells w 2 A n (rs.flatMap Shr.cs)
section
variable {w w' : World} {n : Nat} {A : Option Addr} {rs : List Shr}
theorem Shrs.len (h : Shrs w A n rs) : rs.length = n := by have := h.1; rw [flat_len Shr.cs_len] at this; omega
theorem Shrs.below (h : Shrs w A n rs) (hb : Below w.heap.size w w') : Shrs w' A n rs := Cells.below h hb
theorem Shrs.drewN (h : Shrs w A n rs) (k : Nat) : Shrs (w.drewN k) A n rs := h
theorem Shrs.take (h : Shrs w A n rs) {k : Nat} (hk : k ≤ n) : Shrs w A k (rs.take k) := by
  have := Cells.take h hk
  rw [flat_take Shr.cs_len] at this
  exact this
theorem Shrs.drop (h : Shrs w A n rs) {k : Nat} (hk : k ≤ n) {B : Option Addr} (hB : k < n → ∀ g o, A = some ⟨g, o, none⟩ → B = some ⟨g, o + k * 2, none⟩) : Shrs w B (n - k) (rs.drop k) := by
  have := Cells.drop h hk hB
  rw [flat_drop Shr.cs_len] at this
  exact this
theorem Shrs.at_ (h : Shrs w A n rs) {k : Nat} (hk : k < n) : ∃ (g o : Nat) (wt : Int) (cr : Int), A = some ⟨g, o, none⟩ ∧ g < w.heap.size ∧ w.cell? ⟨g, o + k * 2, none⟩ = some (.int .i64 wt) ∧ w.cell? ⟨g, o + k * 2 + 1, none⟩ = some (.int .i64 cr) ∧ Hid (rs[k]? = some ⟨wt, cr⟩) := by
  have hl := h.len
  obtain ⟨g, o, e, hg, hc⟩ := h.2 (by omega)
  obtain ⟨r, hr⟩ : ∃ r, rs[k]? = some r := ⟨_, List.getElem?_eq_getElem (by omega)⟩
  have hle : k * 2 + 2 ≤ n * 2 := by have := Nat.mul_le_mul_right 2 (show k + 1 ≤ n by omega); omega
  refine ⟨g, o, r.wt, r.cr, e, hg, ?_, ?_, hr⟩
  · have h1 := hc (k * 2 + 0) (by omega)
    rw [flat_get Shr.cs_len hr (show 0 < 2 by omega), ← Nat.add_assoc] at h1
    exact h1
  · have h1 := hc (k * 2 + 1) (by omega)
    rw [flat_get Shr.cs_len hr (show 1 < 2 by omega), ← Nat.add_assoc] at h1
    exact h1
end
/-- A slice of records in a row of the call's own. -/
def OwnShr (w : World) (lo hi : Nat) (A : Option Addr) (n c : Nat) (rs : List Shr) : Prop := OwnG w lo hi 119 2 A n c (rs.flatMap Shr.cs)
section
variable {w w' : World} {lo hi n c : Nat} {A : Option Addr} {rs : List Shr}
theorem OwnShr.recs (h : OwnShr w lo hi A n c rs) : Shrs w A n rs := OwnG.cells h
theorem OwnShr.len (h : OwnShr w lo hi A n c rs) : rs.length = n := h.recs.len
theorem OwnShr.below (h : OwnShr w lo hi A n c rs) (hb : Below w.heap.size w w') : OwnShr w' lo hi A n c rs := OwnG.below h hb
theorem OwnShr.alloc (h : OwnShr w lo hi A n c rs) (o : Obj) : OwnShr (w.alloc o) lo hi A n c rs := OwnG.alloc h o
theorem OwnShr.drewN (h : OwnShr w lo hi A n c rs) (k : Nat) : OwnShr (w.drewN k) lo hi A n c rs := h
theorem OwnShr.chg {lo' hi' : Nat} (h : OwnShr w lo hi A n c rs) (hc : Chg lo' hi' w w') (hne : hi ≤ lo' ∨ hi' ≤ lo) : OwnShr w' lo hi A n c rs := OwnG.chg h hc hne
theorem OwnShr.mono {lo' hi' : Nat} (h : OwnShr w lo hi A n c rs) (h1 : lo' ≤ lo) (h2 : hi ≤ hi') : OwnShr w lo' hi' A n c rs := OwnG.mono h h1 h2
theorem OwnShr.setCell (h : OwnShr w lo hi A n c rs) (p : Addr) (u : Value) (hne : p.block < lo ∨ hi ≤ p.block) : OwnShr (w.setCell p u) lo hi A n c rs := OwnG.setCell h p u hne
theorem OwnShr.nil (w : World) (lo hi : Nat) (A : Option Addr) : OwnShr w lo hi A 0 0 [] := OwnG.nil _ _ _ _ _ _
end
/-- A new slice of records, in new memory; all that was there is as it was. -/
def NewShr (rs : List Shr) (w : World) (e : Ending) (w' : World) : Prop :=
  ∃ A n c, e = .returned (.slice A n c) ∧ OwnShr w' w.heap.size w'.heap.size A n c rs ∧ Below w.heap.size w w'
/-- The same, with no bound above. -/
def RowShr (w : World) (lo : Nat) (A : Option Addr) (n c : Nat) (rs : List Shr) : Prop := OwnV w lo 119 2 A n c (rs.flatMap Shr.cs)
section
variable {w w' : World} {lo n c : Nat} {A : Option Addr} {rs : List Shr}
theorem RowShr.recs (h : RowShr w lo A n c rs) : Shrs w A n rs := OwnV.cells h
theorem RowShr.len (h : RowShr w lo A n c rs) : rs.length = n := h.recs.len
theorem RowShr.below (h : RowShr w lo A n c rs) (hb : Below w.heap.size w w') : RowShr w' lo A n c rs := OwnV.below h hb
theorem RowShr.alloc (h : RowShr w lo A n c rs) (o : Obj) : RowShr (w.alloc o) lo A n c rs := OwnV.alloc h o
theorem RowShr.mono {lo' : Nat} (h : RowShr w lo A n c rs) (hl : lo' ≤ lo) : RowShr w lo' A n c rs := OwnV.mono h hl
theorem RowShr.lt (h : RowShr w lo A n c rs) : ∀ k, blk A c = some k → lo ≤ k ∧ k < w.heap.size := OwnV.lt h
theorem RowShr.nil (w : World) (lo : Nat) (A : Option Addr) : RowShr w lo A 0 0 [] := OwnV.nil _ _ _ _ _
theorem RowShr.own (h : RowShr w lo A n c rs) : OwnShr w lo w.heap.size A n c rs := OwnG.mk' h
end
theorem Shr.one (rs : List Shr) : ∀ u ∈ rs.flatMap Shr.cs, u.oneCell' = true := by
  intro u hu
  rw [List.mem_flatMap] at hu
  obtain ⟨r, _, hu⟩ := hu
  unfold Shr.cs at hu
  simp only [List.mem_cons, List.not_mem_nil, or_false] at hu
  rcases hu with hu | hu <;> (subst hu; rfl)
section
variable {P : Program} {w : World} {ops : Array Oper} {rest : List Oper} {o : Oper} {a : Act} {Q : Exit → Act → World → Prop}
/-- append(out, us...) -/
theorem wpList_appShr (hgd : o.guard = none) (s x : Operand) (t : TypeId) (ho : o.op = .call { callee := .builtin .append, args := #[s, x], argTypes := #[t, t] }) (ht : P.underlying t = some (.slice 119)) (hinf : (P.info? 119).map (fun i => (i.zero, i.size, i.bytes)) = some (some (.agg #[.int .i64 0, .int .i64 0]), 2, 16))
    (A : Option Addr) (n c lo : Nat) (rs : List Shr) (hs : a.eval s = .slice A n c) (hown : RowShr w lo A n c rs) (B : Option Addr) (k d : Nat) (us : List Shr) (hx : a.eval x = .slice B k d) (hsrc : Shrs w B k us) (hlen : n + k ≤ 4194304) (hlo : lo ≤ w.heap.size)
    (h : ∀ A' c' w', RowShr w' lo A' (n + k) c' (rs ++ us) → w.grownBy w' (blk A c) → (blk A' c' = blk A c ∨ blk A' c' = some w.heap.size) → wpList P ops Q rest (a.put o.dst (.slice A' (n + k) c')) w') :
    wpList P ops Q (o :: rest) a w := by
  refine wpList_appG hgd s x t ho lo 119 _ 2 16 ht hinf rfl (by omega) A n c (rs.flatMap Shr.cs) hs hown B k d (us.flatMap Shr.cs) hx (Cells.src hsrc) (Shr.one us) (by unfold maxLen; omega) (by omega) hlo ?_
  intro A' c' w' h2 h3 h4
  exact h A' c' w' (by unfold RowShr; rw [List.flatMap_append]; exact h2) h3 h4
/-- append(out, r) -/
theorem wpList_appShr1 (hgd : o.guard = none) (s x : Operand) (t : TypeId) (ho : o.op = .call { callee := .builtin .append, args := #[s, x], argTypes := #[t, t] }) (ht : P.underlying t = some (.slice 119)) (hinf : (P.info? 119).map (fun i => (i.zero, i.size, i.bytes)) = some (some (.agg #[.int .i64 0, .int .i64 0]), 2, 16))
    (A : Option Addr) (n c lo : Nat) (rs : List Shr) (hs : a.eval s = .slice A n c) (hown : RowShr w lo A n c rs) (g1 : Nat) (r : Shr) (hx : a.eval x = .slice (some ⟨g1, 0, none⟩) 1 1) (hbox : Box w g1 119 #[.int .i64 r.wt, .int .i64 r.cr]) (hlen : n + 1 ≤ 4194304) (hlo : lo ≤ w.heap.size)
    (h : ∀ A' c' w', RowShr w' lo A' (n + 1) c' (rs ++ [r]) → w.grownBy w' (blk A c) → (blk A' c' = blk A c ∨ blk A' c' = some w.heap.size) → wpList P ops Q rest (a.put o.dst (.slice A' (n + 1) c')) w') :
    wpList P ops Q (o :: rest) a w := by
  refine wpList_appG hgd s x t ho lo 119 _ 2 16 ht hinf rfl (by omega) A n c (rs.flatMap Shr.cs) hs hown _ 1 1 r.cs hx (hbox.src rfl) (by have := Shr.one [r]; rwa [List.flatMap_cons, List.flatMap_nil, List.append_nil] at this) (by unfold maxLen; omega) (by omega) hlo ?_
  intro A' c' w' h2 h3 h4
  exact h A' c' w' (by unfold RowShr; rw [List.flatMap_append, List.flatMap_cons, List.flatMap_nil, List.append_nil]; exact h2) h3 h4
/-- append(out, us...) inside a statement that leaves its order open. -/
theorem step_appShr {K : Act → World → Prop} {E : Prop} (hgd : o.guard = none) (s x : Operand) (t : TypeId) (ho : o.op = .call { callee := .builtin .append, args := #[s, x], argTypes := #[t, t] }) (ht : P.underlying t = some (.slice 119)) (hinf : (P.info? 119).map (fun i => (i.zero, i.size, i.bytes)) = some (some (.agg #[.int .i64 0, .int .i64 0]), 2, 16))
    (A : Option Addr) (n c lo : Nat) (rs : List Shr) (hs : a.eval s = .slice A n c) (hown : RowShr w lo A n c rs) (B : Option Addr) (k d : Nat) (us : List Shr) (hx : a.eval x = .slice B k d) (hsrc : Shrs w B k us) (hlen : n + k ≤ 4194304) (hlo : lo ≤ w.heap.size)
    (h : ∀ A' c' w', RowShr w' lo A' (n + k) c' (rs ++ us) → w.grownBy w' (blk A c) → (blk A' c' = blk A c ∨ blk A' c' = some w.heap.size) → K (a.put o.dst (.slice A' (n + k) c')) w') :
    if Region.wanted o (yielded ops a.tmps) = true then Oper.wp P o a w K Q else E := by
  refine step_appG hgd s x t ho lo 119 _ 2 16 ht hinf rfl (by omega) A n c (rs.flatMap Shr.cs) hs hown B k d (us.flatMap Shr.cs) hx (Cells.src hsrc) (Shr.one us) (by unfold maxLen; omega) (by omega) hlo ?_
  intro A' c' w' h2 h3 h4
  exact h A' c' w' (by unfold RowShr; rw [List.flatMap_append]; exact h2) h3 h4
theorem step_appShr1 {K : Act → World → Prop} {E : Prop} (hgd : o.guard = none) (s x : Operand) (t : TypeId) (ho : o.op = .call { callee := .builtin .append, args := #[s, x], argTypes := #[t, t] }) (ht : P.underlying t = some (.slice 119)) (hinf : (P.info? 119).map (fun i => (i.zero, i.size, i.bytes)) = some (some (.agg #[.int .i64 0, .int .i64 0]), 2, 16))
    (A : Option Addr) (n c lo : Nat) (rs : List Shr) (hs : a.eval s = .slice A n c) (hown : RowShr w lo A n c rs) (g1 : Nat) (r : Shr) (hx : a.eval x = .slice (some ⟨g1, 0, none⟩) 1 1) (hbox : Box w g1 119 #[.int .i64 r.wt, .int .i64 r.cr]) (hlen : n + 1 ≤ 4194304) (hlo : lo ≤ w.heap.size)
    (h : ∀ A' c' w', RowShr w' lo A' (n + 1) c' (rs ++ [r]) → w.grownBy w' (blk A c) → (blk A' c' = blk A c ∨ blk A' c' = some w.heap.size) → K (a.put o.dst (.slice A' (n + 1) c')) w') :
    if Region.wanted o (yielded ops a.tmps) = true then Oper.wp P o a w K Q else E := by
  refine step_appG hgd s x t ho lo 119 _ 2 16 ht hinf rfl (by omega) A n c (rs.flatMap Shr.cs) hs hown _ 1 1 r.cs hx (hbox.src rfl) (by have := Shr.one [r]; rwa [List.flatMap_cons, List.flatMap_nil, List.append_nil] at this) (by unfold maxLen; omega) (by omega) hlo ?_
  intro A' c' w' h2 h3 h4
  exact h A' c' w' (by unfold RowShr; rw [List.flatMap_append, List.flatMap_cons, List.flatMap_nil, List.append_nil]; exact h2) h3 h4
end
theorem Shr.setAll {rs : List Shr} {k : Nat} {r0 : Shr} (h : rs[k]? = some r0) (r : Shr) : ((rs.flatMap Shr.cs).set (k * 2) (.int .i64 r.wt)).set (k * 2 + 1) (.int .i64 r.cr) = (rs.set k r).flatMap Shr.cs := by
  have hk := lt_of_get h
  have e : rs.flatMap Shr.cs = (rs.take k).flatMap Shr.cs ++ (r0.cs ++ (rs.drop (k + 1)).flatMap Shr.cs) := by
    rw [← flat_set Shr.cs_len hk r0]
    congr 1
    obtain ⟨_, rfl⟩ := List.getElem?_eq_some_iff.1 h
    rw [List.set_getElem_self]
  have hP : ((rs.take k).flatMap Shr.cs).length = k * 2 := by rw [flat_len Shr.cs_len, List.length_take]; congr 1; omega
  rw [flat_set Shr.cs_len hk r, e]
  generalize (rs.take k).flatMap Shr.cs = P at *
  generalize (rs.drop (k + 1)).flatMap Shr.cs = S at *
  rw [List.set_append_right _ _ (by omega), hP, show k * 2 - k * 2 = 0 by omega]
  rw [List.set_append_right _ _ (by omega), hP, show k * 2 + 1 - k * 2 = 1 by omega]
  rfl
section
variable {w : World} {lo hi n c : Nat} {A : Option Addr} {rs : List Shr}
theorem OwnShr.stored (h : OwnShr w lo hi A n c rs) {g : Nat} (hA : A = some ⟨g, 0, none⟩) {k : Nat} (hk : k < n) (r : Shr) :
    OwnShr (((w).setCell ⟨g, k * 2, none⟩ (.int .i64 r.wt)).setCell ⟨g, k * 2 + 1, none⟩ (.int .i64 r.cr)) lo hi A n c (rs.set k r) ∧ Chg lo hi w (((w).setCell ⟨g, k * 2, none⟩ (.int .i64 r.wt)).setCell ⟨g, k * 2 + 1, none⟩ (.int .i64 r.cr)) := by
  have hl := h.len
  obtain ⟨r0, hr⟩ : ∃ r, rs[k]? = some r := ⟨_, List.getElem?_eq_getElem (by omega)⟩
  obtain ⟨s0, c0⟩ := OwnG.stored h hA (by omega) (k * 2) (.int .i64 r.wt)
  obtain ⟨s1, c1⟩ := OwnG.stored s0 hA (by omega) (k * 2 + 1) (.int .i64 r.cr)
  rw [Shr.setAll hr r] at s1
  exact ⟨s1, (c0.trans c1)⟩
theorem OwnShr.at_ (h : OwnShr w lo hi A n c rs) {k : Nat} (hk : k < n) : ∃ (g : Nat) (wt : Int) (cr : Int), A = some ⟨g, 0, none⟩ ∧ lo ≤ g ∧ g < hi ∧ (∀ j, w.frozen? ⟨g, j, none⟩ = false) ∧ w.cell? ⟨g, k * 2, none⟩ = some (.int .i64 wt) ∧ w.cell? ⟨g, k * 2 + 1, none⟩ = some (.int .i64 cr) ∧ Hid (rs[k]? = some ⟨wt, cr⟩) := by
  obtain ⟨_, g, e, h1, h2, h3⟩ := OwnG.form h (by omega)
  obtain ⟨g', o, wt, cr, e', -, q0, q1, hr⟩ := h.recs.at_ hk
  rw [e] at e'
  injection e' with e'
  injection e' with e1 e2
  subst e1 e2
  simp only [Nat.zero_add] at q0 q1
  exact ⟨g, wt, cr, e, h1, h2, fun j => OwnG.frozenAt h e (by omega) j, q0, q1, hr⟩
end






end Go.Proofs.Ytbolpanfgbhbnaa
