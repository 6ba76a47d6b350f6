/-
  Records Bank: how they lie in memory, and the contracts of the laws' helpers on them.
-/
import Derived.Test.YtbapamfomfbmmaaCommon
import Derived.Test.YtbapamfomfbmmaaFlat
import Derived.Deep.RegionHeld3
namespace Go.Proofs.Ytbapamfomfbmmaa
open Go.RowKit
set_option linter.unusedSimpArgs false
set_option linter.unusedVariables false


/-- A record Bank. -/
structure Bnk where
  opn : Bool
  row : Int
deriving DecidableEq
def Bnk.cs (r : Bnk) : List Value := [.bool r.opn, .int .i64 r.row]
theorem Bnk.cs_len (r : Bnk) : r.cs.length = 2 := rfl
/-- A slice of records that reads as the list rs. -/
def Bnks (w : World) (A : Option Addr) (n : Nat) (rs : List Bnk) : Prop := Cells w 2 A n (rs.flatMap Bnk.cs)
section
variable {w w' : World} {n : Nat} {A : Option Addr} {rs : List Bnk}
theorem Bnks.len (h : Bnks w A n rs) : rs.length = n := by have := h.1; rw [flat_len Bnk.cs_len] at this; omega
theorem Bnks.below (h : Bnks w A n rs) (hb : Below w.heap.size w w') : Bnks w' A n rs := Cells.below h hb
theorem Bnks.drewN (h : Bnks w A n rs) (k : Nat) : Bnks (w.drewN k) A n rs := h
theorem Bnks.take (h : Bnks w A n rs) {k : Nat} (hk : k ≤ n) : Bnks w A k (rs.take k) := by
  have := Cells.take h hk
  rw [flat_take Bnk.cs_len] at this
  exact this
theorem Bnks.drop (h : Bnks w A n rs) {k : Nat} (hk : k ≤ n) {B : Option Addr} (hB : k < n → ∀ g o, A = some ⟨g, o, none⟩ → B = some ⟨g, o + k * 2, none⟩) : Bnks w B (n - k) (rs.drop k) := by
  have := Cells.drop h hk hB
  rw [flat_drop Bnk.cs_len] at this
  exact this
theorem Bnks.at_ (h : Bnks w A n rs) {k : Nat} (hk : k < n) : ∃ (g o : Nat) (opn : Bool) (row : Int), A = some ⟨g, o, none⟩ ∧ g < w.heap.size ∧ w.cell? ⟨g, o + k * 2, none⟩ = some (.bool opn) ∧ w.cell? ⟨g, o + k * 2 + 1, none⟩ = some (.int .i64 row) ∧ Hid (rs[k]? = some ⟨opn, row⟩) := by
  have hl := h.len
  obtain ⟨g, o, e, hg, hc⟩ := h.2 (by omega)
  obtain ⟨r, hr⟩ : ∃ r, rs[k]? = some r := ⟨_, List.getElem?_eq_getElem (by omega)⟩
  have hle : k * 2 + 2 ≤ n * 2 := by have := Nat.mul_le_mul_right 2 (show k + 1 ≤ n by omega); omega
  refine ⟨g, o, r.opn, r.row, e, hg, ?_, ?_, hr⟩
  · have h1 := hc (k * 2 + 0) (by omega)
    rw [flat_get Bnk.cs_len hr (show 0 < 2 by omega), ← Nat.add_assoc] at h1
    exact h1
  · have h1 := hc (k * 2 + 1) (by omega)
    rw [flat_get Bnk.cs_len hr (show 1 < 2 by omega), ← Nat.add_assoc] at h1
    exact h1
end
/-- A slice of records in a row of the call's own. -/
def OwnBnk (w : World) (lo hi : Nat) (A : Option Addr) (n c : Nat) (rs : List Bnk) : Prop := OwnG w lo hi 46 2 A n c (rs.flatMap Bnk.cs)
section
variable {w w' : World} {lo hi n c : Nat} {A : Option Addr} {rs : List Bnk}
theorem OwnBnk.recs (h : OwnBnk w lo hi A n c rs) : Bnks w A n rs := OwnG.cells h
theorem OwnBnk.len (h : OwnBnk w lo hi A n c rs) : rs.length = n := h.recs.len
theorem OwnBnk.below (h : OwnBnk w lo hi A n c rs) (hb : Below w.heap.size w w') : OwnBnk w' lo hi A n c rs := OwnG.below h hb
theorem OwnBnk.alloc (h : OwnBnk w lo hi A n c rs) (o : Obj) : OwnBnk (w.alloc o) lo hi A n c rs := OwnG.alloc h o
theorem OwnBnk.drewN (h : OwnBnk w lo hi A n c rs) (k : Nat) : OwnBnk (w.drewN k) lo hi A n c rs := h
theorem OwnBnk.chg {lo' hi' : Nat} (h : OwnBnk w lo hi A n c rs) (hc : Chg lo' hi' w w') (hne : hi ≤ lo' ∨ hi' ≤ lo) : OwnBnk w' lo hi A n c rs := OwnG.chg h hc hne
theorem OwnBnk.mono {lo' hi' : Nat} (h : OwnBnk w lo hi A n c rs) (h1 : lo' ≤ lo) (h2 : hi ≤ hi') : OwnBnk w lo' hi' A n c rs := OwnG.mono h h1 h2
theorem OwnBnk.setCell (h : OwnBnk w lo hi A n c rs) (p : Addr) (u : Value) (hne : p.block < lo ∨ hi ≤ p.block) : OwnBnk (w.setCell p u) lo hi A n c rs := OwnG.setCell h p u hne
theorem OwnBnk.nil (w : World) (lo hi : Nat) (A : Option Addr) : OwnBnk w lo hi A 0 0 [] := OwnG.nil _ _ _ _ _ _
end
/-- A new slice of records, in new memory; all that was there is as it was. -/
def NewBnk (rs : List Bnk) (w : World) (e : Ending) (w' : World) : Prop :=
  ∃ A n c, e = .returned (.slice A n c) ∧ OwnBnk w' w.heap.size w'.heap.size A n c rs ∧ Below w.heap.size w w'
/-- The same, with no bound above. -/
def RowBnk (w : World) (lo : Nat) (A : Option Addr) (n c : Nat) (rs : List Bnk) : Prop := OwnV w lo 46 2 A n c (rs.flatMap Bnk.cs)
section
variable {w w' : World} {lo n c : Nat} {A : Option Addr} {rs : List Bnk}
theorem RowBnk.recs (h : RowBnk w lo A n c rs) : Bnks w A n rs := OwnV.cells h
theorem RowBnk.len (h : RowBnk w lo A n c rs) : rs.length = n := h.recs.len
theorem RowBnk.below (h : RowBnk w lo A n c rs) (hb : Below w.heap.size w w') : RowBnk w' lo A n c rs := OwnV.below h hb
theorem RowBnk.alloc (h : RowBnk w lo A n c rs) (o : Obj) : RowBnk (w.alloc o) lo A n c rs := OwnV.alloc h o
theorem RowBnk.mono {lo' : Nat} (h : RowBnk w lo A n c rs) (hl : lo' ≤ lo) : RowBnk w lo' A n c rs := OwnV.mono h hl
theorem RowBnk.lt (h : RowBnk w lo A n c rs) : ∀ k, blk A c = some k → lo ≤ k ∧ k < w.heap.size := OwnV.lt h
theorem RowBnk.nil (w : World) (lo : Nat) (A : Option Addr) : RowBnk w lo A 0 0 [] := OwnV.nil _ _ _ _ _
theorem RowBnk.own (h : RowBnk w lo A n c rs) : OwnBnk w lo w.heap.size A n c rs := OwnG.mk' h
end
theorem Bnk.one (rs : List Bnk) : ∀ u ∈ rs.flatMap Bnk.cs, u.oneCell' = true := by
  intro u hu
  rw [List.mem_flatMap] at hu
  obtain ⟨r, _, hu⟩ := hu
  unfold Bnk.cs at hu
  simp only [List.mem_cons, List.not_mem_nil, or_false] at hu
  rcases hu with hu | hu <;> (subst hu; rfl)
section
variable {P : Program} {w : World} {ops : Array Oper} {rest : List Oper} {o : Oper} {a : Act} {Q : Exit → Act → World → Prop}
/-- append(out, us...) -/
theorem wpList_appBnk (hgd : o.guard = none) (s x : Operand) (t : TypeId) (ho : o.op = .call { callee := .builtin .append, args := #[s, x], argTypes := #[t, t] }) (ht : P.underlying t = some (.slice 46)) (hinf : (P.info? 46).map (fun i => (i.zero, i.size, i.bytes)) = some (some (.agg #[.bool false, .int .i64 0]), 2, 16))
    (A : Option Addr) (n c lo : Nat) (rs : List Bnk) (hs : a.eval s = .slice A n c) (hown : RowBnk w lo A n c rs) (B : Option Addr) (k d : Nat) (us : List Bnk) (hx : a.eval x = .slice B k d) (hsrc : Bnks w B k us) (hlen : n + k ≤ 4194304) (hlo : lo ≤ w.heap.size)
    (h : ∀ A' c' w', RowBnk w' lo A' (n + k) c' (rs ++ us) → w.grownBy w' (blk A c) → (blk A' c' = blk A c ∨ blk A' c' = some w.heap.size) → wpList P ops Q rest (a.put o.dst (.slice A' (n + k) c')) w') :
    wpList P ops Q (o :: rest) a w := by
  refine wpList_appG hgd s x t ho lo 46 _ 2 16 ht hinf rfl (by omega) A n c (rs.flatMap Bnk.cs) hs hown B k d (us.flatMap Bnk.cs) hx (Cells.src hsrc) (Bnk.one us) (by unfold maxLen; omega) (by omega) hlo ?_
  intro A' c' w' h2 h3 h4
  exact h A' c' w' (by unfold RowBnk; rw [List.flatMap_append]; exact h2) h3 h4
/-- append(out, r) -/
theorem wpList_appBnk1 (hgd : o.guard = none) (s x : Operand) (t : TypeId) (ho : o.op = .call { callee := .builtin .append, args := #[s, x], argTypes := #[t, t] }) (ht : P.underlying t = some (.slice 46)) (hinf : (P.info? 46).map (fun i => (i.zero, i.size, i.bytes)) = some (some (.agg #[.bool false, .int .i64 0]), 2, 16))
    (A : Option Addr) (n c lo : Nat) (rs : List Bnk) (hs : a.eval s = .slice A n c) (hown : RowBnk w lo A n c rs) (g1 : Nat) (r : Bnk) (hx : a.eval x = .slice (some ⟨g1, 0, none⟩) 1 1) (hbox : Box w g1 46 #[.bool r.opn, .int .i64 r.row]) (hlen : n + 1 ≤ 4194304) (hlo : lo ≤ w.heap.size)
    (h : ∀ A' c' w', RowBnk w' lo A' (n + 1) c' (rs ++ [r]) → w.grownBy w' (blk A c) → (blk A' c' = blk A c ∨ blk A' c' = some w.heap.size) → wpList P ops Q rest (a.put o.dst (.slice A' (n + 1) c')) w') :
    wpList P ops Q (o :: rest) a w := by
  refine wpList_appG hgd s x t ho lo 46 _ 2 16 ht hinf rfl (by omega) A n c (rs.flatMap Bnk.cs) hs hown _ 1 1 r.cs hx (hbox.src rfl) (by have := Bnk.one [r]; rwa [List.flatMap_cons, List.flatMap_nil, List.append_nil] at this) (by unfold maxLen; omega) (by omega) hlo ?_
  intro A' c' w' h2 h3 h4
  exact h A' c' w' (by unfold RowBnk; rw [List.flatMap_append, List.flatMap_cons, List.flatMap_nil, List.append_nil]; exact h2) h3 h4
/-- append(out, us...) inside a statement that leaves its order open. -/
theorem step_appBnk {K : Act → World → Prop} {E : Prop} (hgd : o.guard = none) (s x : Operand) (t : TypeId) (ho : o.op = .call { callee := .builtin .append, args := #[s, x], argTypes := #[t, t] }) (ht : P.underlying t = some (.slice 46)) (hinf : (P.info? 46).map (fun i => (i.zero, i.size, i.bytes)) = some (some (.agg #[.bool false, .int .i64 0]), 2, 16))
    (A : Option Addr) (n c lo : Nat) (rs : List Bnk) (hs : a.eval s = .slice A n c) (hown : RowBnk w lo A n c rs) (B : Option Addr) (k d : Nat) (us : List Bnk) (hx : a.eval x = .slice B k d) (hsrc : Bnks w B k us) (hlen : n + k ≤ 4194304) (hlo : lo ≤ w.heap.size)
    (h : ∀ A' c' w', RowBnk w' lo A' (n + k) c' (rs ++ us) → w.grownBy w' (blk A c) → (blk A' c' = blk A c ∨ blk A' c' = some w.heap.size) → K (a.put o.dst (.slice A' (n + k) c')) w') :
    if Region.wanted o (yielded ops a.tmps) = true then Oper.wp P o a w K Q else E := by
  refine step_appG hgd s x t ho lo 46 _ 2 16 ht hinf rfl (by omega) A n c (rs.flatMap Bnk.cs) hs hown B k d (us.flatMap Bnk.cs) hx (Cells.src hsrc) (Bnk.one us) (by unfold maxLen; omega) (by omega) hlo ?_
  intro A' c' w' h2 h3 h4
  exact h A' c' w' (by unfold RowBnk; rw [List.flatMap_append]; exact h2) h3 h4
theorem step_appBnk1 {K : Act → World → Prop} {E : Prop} (hgd : o.guard = none) (s x : Operand) (t : TypeId) (ho : o.op = .call { callee := .builtin .append, args := #[s, x], argTypes := #[t, t] }) (ht : P.underlying t = some (.slice 46)) (hinf : (P.info? 46).map (fun i => (i.zero, i.size, i.bytes)) = some (some (.agg #[.bool false, .int .i64 0]), 2, 16))
    (A : Option Addr) (n c lo : Nat) (rs : List Bnk) (hs : a.eval s = .slice A n c) (hown : RowBnk w lo A n c rs) (g1 : Nat) (r : Bnk) (hx : a.eval x = .slice (some ⟨g1, 0, none⟩) 1 1) (hbox : Box w g1 46 #[.bool r.opn, .int .i64 r.row]) (hlen : n + 1 ≤ 4194304) (hlo : lo ≤ w.heap.size)
    (h : ∀ A' c' w', RowBnk w' lo A' (n + 1) c' (rs ++ [r]) → w.grownBy w' (blk A c) → (blk A' c' = blk A c ∨ blk A' c' = some w.heap.size) → K (a.put o.dst (.slice A' (n + 1) c')) w') :
    if Region.wanted o (yielded ops a.tmps) = true then Oper.wp P o a w K Q else E := by
  refine step_appG hgd s x t ho lo 46 _ 2 16 ht hinf rfl (by omega) A n c (rs.flatMap Bnk.cs) hs hown _ 1 1 r.cs hx (hbox.src rfl) (by have := Bnk.one [r]; rwa [List.flatMap_cons, List.flatMap_nil, List.append_nil] at this) (by unfold maxLen; omega) (by omega) hlo ?_
  intro A' c' w' h2 h3 h4
  exact h A' c' w' (by unfold RowBnk; rw [List.flatMap_append, List.flatMap_cons, List.flatMap_nil, List.append_nil]; exact h2) h3 h4
end
theorem Bnk.setAll {rs : List Bnk} {k : Nat} {r0 : Bnk} (h : rs[k]? = some r0) (r : Bnk) : ((rs.flatMap Bnk.cs).set (k * 2) (.bool r.opn)).set (k * 2 + 1) (.int .i64 r.row) = (rs.set k r).flatMap Bnk.cs := by
  have hk := lt_of_get h
  have e : rs.flatMap Bnk.cs = (rs.take k).flatMap Bnk.cs ++ (r0.cs ++ (rs.drop (k + 1)).flatMap Bnk.cs) := by
    rw [← flat_set Bnk.cs_len hk r0]
    congr 1
    obtain ⟨_, rfl⟩ := List.getElem?_eq_some_iff.1 h
    rw [List.set_getElem_self]
  have hP : ((rs.take k).flatMap Bnk.cs).length = k * 2 := by rw [flat_len Bnk.cs_len, List.length_take]; congr 1; omega
  rw [flat_set Bnk.cs_len hk r, e]
  generalize (rs.take k).flatMap Bnk.cs = P at *
  generalize (rs.drop (k + 1)).flatMap Bnk.cs = S at *
  rw [List.set_append_right _ _ (by omega), hP, show k * 2 - k * 2 = 0 by omega]
  rw [List.set_append_right _ _ (by omega), hP, show k * 2 + 1 - k * 2 = 1 by omega]
  rfl
section
variable {w : World} {lo hi n c : Nat} {A : Option Addr} {rs : List Bnk}
theorem OwnBnk.stored (h : OwnBnk w lo hi A n c rs) {g : Nat} (hA : A = some ⟨g, 0, none⟩) {k : Nat} (hk : k < n) (r : Bnk) :
    OwnBnk (((w).setCell ⟨g, k * 2, none⟩ (.bool r.opn)).setCell ⟨g, k * 2 + 1, none⟩ (.int .i64 r.row)) lo hi A n c (rs.set k r) ∧ Chg lo hi w (((w).setCell ⟨g, k * 2, none⟩ (.bool r.opn)).setCell ⟨g, k * 2 + 1, none⟩ (.int .i64 r.row)) := by
  have hl := h.len
  obtain ⟨r0, hr⟩ : ∃ r, rs[k]? = some r := ⟨_, List.getElem?_eq_getElem (by omega)⟩
  obtain ⟨s0, c0⟩ := OwnG.stored h hA (by omega) (k * 2) (.bool r.opn)
  obtain ⟨s1, c1⟩ := OwnG.stored s0 hA (by omega) (k * 2 + 1) (.int .i64 r.row)
  rw [Bnk.setAll hr r] at s1
  exact ⟨s1, (c0.trans c1)⟩
theorem OwnBnk.at_ (h : OwnBnk w lo hi A n c rs) {k : Nat} (hk : k < n) : ∃ (g : Nat) (opn : Bool) (row : Int), A = some ⟨g, 0, none⟩ ∧ lo ≤ g ∧ g < hi ∧ (∀ j, w.frozen? ⟨g, j, none⟩ = false) ∧ w.cell? ⟨g, k * 2, none⟩ = some (.bool opn) ∧ w.cell? ⟨g, k * 2 + 1, none⟩ = some (.int .i64 row) ∧ Hid (rs[k]? = some ⟨opn, row⟩) := by
  obtain ⟨_, g, e, h1, h2, h3⟩ := OwnG.form h (by omega)
  obtain ⟨g', o, opn, row, e', -, q0, q1, hr⟩ := h.recs.at_ hk
  rw [e] at e'
  injection e' with e'
  injection e' with e1 e2
  subst e1 e2
  simp only [Nat.zero_add] at q0 q1
  exact ⟨g, opn, row, e, h1, h2, fun j => OwnG.frozenAt h e (by omega) j, q0, q1, hr⟩
end






end Go.Proofs.Ytbapamfomfbmmaa
