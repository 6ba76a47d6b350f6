/-
  Records Addr: how they lie in memory, and the contracts of the laws' helpers on them.
-/
import Derived.Test.YtbapamfomfbmmaaCommon
import Derived.Test.YtbapamfomfbmmaaFlat
import Derived.Deep.RegionHeld3
namespace Go.Proofs.Ytbapamfomfbmmaa
open Go.RowKit
set_option linter.unusedSimpArgs false
set_option linter.unusedVariables false


/-- A record Addr. -/
structure Adr where
  bank : Int
  row : Int
  col : Int
deriving DecidableEq
def Adr.cs (r : Adr) : List Value := [.int .i64 r.bank, .int .i64 r.row, .int .i64 r.col]
theorem Adr.cs_len (r : Adr) : r.cs.length = 3 := rfl
/-- A slice of records that reads as the list rs. -/
def Adrs (w : World) (A : Option Addr) (n : Nat) (rs : List Adr) : Prop := Cells w 3 A n (rs.flatMap Adr.cs)
section
variable {w w' : World} {n : Nat} {A : Option Addr} {rs : List Adr}
theorem Adrs.len (h : Adrs w A n rs) : rs.length = n := by have := h.1; rw [flat_len Adr.cs_len] at this; omega
theorem Adrs.below (h : Adrs w A n rs) (hb : Below w.heap.size w w') : Adrs w' A n rs := Cells.below h hb
theorem Adrs.drewN (h : Adrs w A n rs) (k : Nat) : Adrs (w.drewN k) A n rs := h
theorem Adrs.take (h : Adrs w A n rs) {k : Nat} (hk : k ≤ n) : Adrs w A k (rs.take k) := by
  have := Cells.take h hk
  rw [flat_take Adr.cs_len] at this
  exact this
theorem Adrs.drop (h : Adrs w A n rs) {k : Nat} (hk : k ≤ n) {B : Option Addr} (hB : k < n → ∀ g o, A = some ⟨g, o, none⟩ → B = some ⟨g, o + k * 3, none⟩) : Adrs w B (n - k) (rs.drop k) := by
  have := Cells.drop h hk hB
  rw [flat_drop Adr.cs_len] at this
  exact this
theorem Adrs.at_ (h : Adrs w A n rs) {k : Nat} (hk : k < n) : ∃ (g o : Nat) (bank : Int) (row : Int) (col : Int), A = some ⟨g, o, none⟩ ∧ g < w.heap.size ∧ w.cell? ⟨g, o + k * 3, none⟩ = some (.int .i64 bank) ∧ w.cell? ⟨g, o + k * 3 + 1, none⟩ = some (.int .i64 row) ∧ w.cell? ⟨g, o + k * 3 + 2, none⟩ = some (.int .i64 col) ∧ Hid (rs[k]? = some ⟨bank, row, col⟩) := by
  have hl := h.len
  obtain ⟨g, o, e, hg, hc⟩ := h.2 (by omega)
  obtain ⟨r, hr⟩ : ∃ r, rs[k]? = some r := ⟨_, List.getElem?_eq_getElem (by omega)⟩
  have hle : k * 3 + 3 ≤ n * 3 := by have := Nat.mul_le_mul_right 3 (show k + 1 ≤ n by omega); omega
  refine ⟨g, o, r.bank, r.row, r.col, e, hg, ?_, ?_, ?_, hr⟩
  · have h1 := hc (k * 3 + 0) (by omega)
    rw [flat_get Adr.cs_len hr (show 0 < 3 by omega), ← Nat.add_assoc] at h1
    exact h1
  · have h1 := hc (k * 3 + 1) (by omega)
    rw [flat_get Adr.cs_len hr (show 1 < 3 by omega), ← Nat.add_assoc] at h1
    exact h1
  · have h1 := hc (k * 3 + 2) (by omega)
    rw [flat_get Adr.cs_len hr (show 2 < 3 by omega), ← Nat.add_assoc] at h1
    exact h1
end
/-- A slice of records in a row of the call's own. -/
def OwnAdr (w : World) (lo hi : Nat) (A : Option Addr) (n c : Nat) (rs : List Adr) : Prop := OwnG w lo hi 38 3 A n c (rs.flatMap Adr.cs)
section
variable {w w' : World} {lo hi n c : Nat} {A : Option Addr} {rs : List Adr}
theorem OwnAdr.recs (h : OwnAdr w lo hi A n c rs) : Adrs w A n rs := OwnG.cells h
theorem OwnAdr.len (h : OwnAdr w lo hi A n c rs) : rs.length = n := h.recs.len
theorem OwnAdr.below (h : OwnAdr w lo hi A n c rs) (hb : Below w.heap.size w w') : OwnAdr w' lo hi A n c rs := OwnG.below h hb
theorem OwnAdr.alloc (h : OwnAdr w lo hi A n c rs) (o : Obj) : OwnAdr (w.alloc o) lo hi A n c rs := OwnG.alloc h o
theorem OwnAdr.drewN (h : OwnAdr w lo hi A n c rs) (k : Nat) : OwnAdr (w.drewN k) lo hi A n c rs := h
theorem OwnAdr.chg {lo' hi' : Nat} (h : OwnAdr w lo hi A n c rs) (hc : Chg lo' hi' w w') (hne : hi ≤ lo' ∨ hi' ≤ lo) : OwnAdr w' lo hi A n c rs := OwnG.chg h hc hne
theorem OwnAdr.mono {lo' hi' : Nat} (h : OwnAdr w lo hi A n c rs) (h1 : lo' ≤ lo) (h2 : hi ≤ hi') : OwnAdr w lo' hi' A n c rs := OwnG.mono h h1 h2
theorem OwnAdr.setCell (h : OwnAdr w lo hi A n c rs) (p : Addr) (u : Value) (hne : p.block < lo ∨ hi ≤ p.block) : OwnAdr (w.setCell p u) lo hi A n c rs := OwnG.setCell h p u hne
theorem OwnAdr.nil (w : World) (lo hi : Nat) (A : Option Addr) : OwnAdr w lo hi A 0 0 [] := OwnG.nil _ _ _ _ _ _
end
/-- A new slice of records, in new memory; all that was there is as it was. -/
def NewAdr (rs : List Adr) (w : World) (e : Ending) (w' : World) : Prop :=
  ∃ A n c, e = .returned (.slice A n c) ∧ OwnAdr w' w.heap.size w'.heap.size A n c rs ∧ Below w.heap.size w w'
/-- The same, with no bound above. -/
def RowAdr (w : World) (lo : Nat) (A : Option Addr) (n c : Nat) (rs : List Adr) : Prop := OwnV w lo 38 3 A n c (rs.flatMap Adr.cs)
section
variable {w w' : World} {lo n c : Nat} {A : Option Addr} {rs : List Adr}
theorem RowAdr.recs (h : RowAdr w lo A n c rs) : Adrs w A n rs := OwnV.cells h
theorem RowAdr.len (h : RowAdr w lo A n c rs) : rs.length = n := h.recs.len
theorem RowAdr.below (h : RowAdr w lo A n c rs) (hb : Below w.heap.size w w') : RowAdr w' lo A n c rs := OwnV.below h hb
theorem RowAdr.alloc (h : RowAdr w lo A n c rs) (o : Obj) : RowAdr (w.alloc o) lo A n c rs := OwnV.alloc h o
theorem RowAdr.mono {lo' : Nat} (h : RowAdr w lo A n c rs) (hl : lo' ≤ lo) : RowAdr w lo' A n c rs := OwnV.mono h hl
theorem RowAdr.lt (h : RowAdr w lo A n c rs) : ∀ k, blk A c = some k → lo ≤ k ∧ k < w.heap.size := OwnV.lt h
theorem RowAdr.nil (w : World) (lo : Nat) (A : Option Addr) : RowAdr w lo A 0 0 [] := OwnV.nil _ _ _ _ _
theorem RowAdr.own (h : RowAdr w lo A n c rs) : OwnAdr w lo w.heap.size A n c rs := OwnG.mk' h
end
theorem Adr.one (rs : List Adr) : ∀ u ∈ rs.flatMap Adr.cs, u.oneCell' = true := by
  intro u hu
  rw [List.mem_flatMap] at hu
  obtain ⟨r, _, hu⟩ := hu
  unfold Adr.cs at hu
  simp only [List.mem_cons, List.not_mem_nil, or_false] at hu
  rcases hu with hu | hu | hu <;> (subst hu; rfl)
section
variable {P : Program} {w : World} {ops : Array Oper} {rest : List Oper} {o : Oper} {a : Act} {Q : Exit → Act → World → Prop}
/-- append(out, us...) -/
theorem wpList_appAdr (hgd : o.guard = none) (s x : Operand) (t : TypeId) (ho : o.op = .call { callee := .builtin .append, args := #[s, x], argTypes := #[t, t] }) (ht : P.underlying t = some (.slice 38)) (hinf : (P.info? 38).map (fun i => (i.zero, i.size, i.bytes)) = some (some (.agg #[.int .i64 0, .int .i64 0, .int .i64 0]), 3, 24))
    (A : Option Addr) (n c lo : Nat) (rs : List Adr) (hs : a.eval s = .slice A n c) (hown : RowAdr w lo A n c rs) (B : Option Addr) (k d : Nat) (us : List Adr) (hx : a.eval x = .slice B k d) (hsrc : Adrs w B k us) (hlen : n + k ≤ 4194304) (hlo : lo ≤ w.heap.size)
    (h : ∀ A' c' w', RowAdr w' lo A' (n + k) c' (rs ++ us) → w.grownBy w' (blk A c) → (blk A' c' = blk A c ∨ blk A' c' = some w.heap.size) → wpList P ops Q rest (a.put o.dst (.slice A' (n + k) c')) w') :
    wpList P ops Q (o :: rest) a w := by
  refine wpList_appG hgd s x t ho lo 38 _ 3 24 ht hinf rfl (by omega) A n c (rs.flatMap Adr.cs) hs hown B k d (us.flatMap Adr.cs) hx (Cells.src hsrc) (Adr.one us) (by unfold maxLen; omega) (by omega) hlo ?_
  intro A' c' w' h2 h3 h4
  exact h A' c' w' (by unfold RowAdr; rw [List.flatMap_append]; exact h2) h3 h4
/-- append(out, r) -/
theorem wpList_appAdr1 (hgd : o.guard = none) (s x : Operand) (t : TypeId) (ho : o.op = .call { callee := .builtin .append, args := #[s, x], argTypes := #[t, t] }) (ht : P.underlying t = some (.slice 38)) (hinf : (P.info? 38).map (fun i => (i.zero, i.size, i.bytes)) = some (some (.agg #[.int .i64 0, .int .i64 0, .int .i64 0]), 3, 24))
    (A : Option Addr) (n c lo : Nat) (rs : List Adr) (hs : a.eval s = .slice A n c) (hown : RowAdr w lo A n c rs) (g1 : Nat) (r : Adr) (hx : a.eval x = .slice (some ⟨g1, 0, none⟩) 1 1) (hbox : Box w g1 38 #[.int .i64 r.bank, .int .i64 r.row, .int .i64 r.col]) (hlen : n + 1 ≤ 4194304) (hlo : lo ≤ w.heap.size)
    (h : ∀ A' c' w', RowAdr w' lo A' (n + 1) c' (rs ++ [r]) → w.grownBy w' (blk A c) → (blk A' c' = blk A c ∨ blk A' c' = some w.heap.size) → wpList P ops Q rest (a.put o.dst (.slice A' (n + 1) c')) w') :
    wpList P ops Q (o :: rest) a w := by
  refine wpList_appG hgd s x t ho lo 38 _ 3 24 ht hinf rfl (by omega) A n c (rs.flatMap Adr.cs) hs hown _ 1 1 r.cs hx (hbox.src rfl) (by have := Adr.one [r]; rwa [List.flatMap_cons, List.flatMap_nil, List.append_nil] at this) (by unfold maxLen; omega) (by omega) hlo ?_
  intro A' c' w' h2 h3 h4
  exact h A' c' w' (by unfold RowAdr; rw [List.flatMap_append, List.flatMap_cons, List.flatMap_nil, List.append_nil]; exact h2) h3 h4
/-- append(out, us...) inside a statement that leaves its order open. -/
theorem step_appAdr {K : Act → World → Prop} {E : Prop} (hgd : o.guard = none) (s x : Operand) (t : TypeId) (ho : o.op = .call { callee := .builtin .append, args := #[s, x], argTypes := #[t, t] }) (ht : P.underlying t = some (.slice 38)) (hinf : (P.info? 38).map (fun i => (i.zero, i.size, i.bytes)) = some (some (.agg #[.int .i64 0, .int .i64 0, .int .i64 0]), 3, 24))
    (A : Option Addr) (n c lo : Nat) (rs : List Adr) (hs : a.eval s = .slice A n c) (hown : RowAdr w lo A n c rs) (B : Option Addr) (k d : Nat) (us : List Adr) (hx : a.eval x = .slice B k d) (hsrc : Adrs w B k us) (hlen : n + k ≤ 4194304) (hlo : lo ≤ w.heap.size)
    (h : ∀ A' c' w', RowAdr w' lo A' (n + k) c' (rs ++ us) → w.grownBy w' (blk A c) → (blk A' c' = blk A c ∨ blk A' c' = some w.heap.size) → K (a.put o.dst (.slice A' (n + k) c')) w') :
    if Region.wanted o (yielded ops a.tmps) = true then Oper.wp P o a w K Q else E := by
  refine step_appG hgd s x t ho lo 38 _ 3 24 ht hinf rfl (by omega) A n c (rs.flatMap Adr.cs) hs hown B k d (us.flatMap Adr.cs) hx (Cells.src hsrc) (Adr.one us) (by unfold maxLen; omega) (by omega) hlo ?_
  intro A' c' w' h2 h3 h4
  exact h A' c' w' (by unfold RowAdr; rw [List.flatMap_append]; exact h2) h3 h4
theorem step_appAdr1 {K : Act → World → Prop} {E : Prop} (hgd : o.guard = none) (s x : Operand) (t : TypeId) (ho : o.op = .call { callee := .builtin .append, args := #[s, x], argTypes := #[t, t] }) (ht : P.underlying t = some (.slice 38)) (hinf : (P.info? 38).map (fun i => (i.zero, i.size, i.bytes)) = some (some (.agg #[.int .i64 0, .int .i64 0, .int .i64 0]), 3, 24))
    (A : Option Addr) (n c lo : Nat) (rs : List Adr) (hs : a.eval s = .slice A n c) (hown : RowAdr w lo A n c rs) (g1 : Nat) (r : Adr) (hx : a.eval x = .slice (some ⟨g1, 0, none⟩) 1 1) (hbox : Box w g1 38 #[.int .i64 r.bank, .int .i64 r.row, .int .i64 r.col]) (hlen : n + 1 ≤ 4194304) (hlo : lo ≤ w.heap.size)
    (h : ∀ A' c' w', RowAdr w' lo A' (n + 1) c' (rs ++ [r]) → w.grownBy w' (blk A c) → (blk A' c' = blk A c ∨ blk A' c' = some w.heap.size) → K (a.put o.dst (.slice A' (n + 1) c')) w') :
    if Region.wanted o (yielded ops a.tmps) = true then Oper.wp P o a w K Q else E := by
  refine step_appG hgd s x t ho lo 38 _ 3 24 ht hinf rfl (by omega) A n c (rs.flatMap Adr.cs) hs hown _ 1 1 r.cs hx (hbox.src rfl) (by have := Adr.one [r]; rwa [List.flatMap_cons, List.flatMap_nil, List.append_nil] at this) (by unfold maxLen; omega) (by omega) hlo ?_
  intro A' c' w' h2 h3 h4
  exact h A' c' w' (by unfold RowAdr; rw [List.flatMap_append, List.flatMap_cons, List.flatMap_nil, List.append_nil]; exact h2) h3 h4
end
theorem Adr.setAll {rs : List Adr} {k : Nat} {r0 : Adr} (h : rs[k]? = some r0) (r : Adr) : (((rs.flatMap Adr.cs).set (k * 3) (.int .i64 r.bank)).set (k * 3 + 1) (.int .i64 r.row)).set (k * 3 + 2) (.int .i64 r.col) = (rs.set k r).flatMap Adr.cs := by
  have hk := lt_of_get h
  have e : rs.flatMap Adr.cs = (rs.take k).flatMap Adr.cs ++ (r0.cs ++ (rs.drop (k + 1)).flatMap Adr.cs) := by
    rw [← flat_set Adr.cs_len hk r0]
    congr 1
    obtain ⟨_, rfl⟩ := List.getElem?_eq_some_iff.1 h
    rw [List.set_getElem_self]
  have hP : ((rs.take k).flatMap Adr.cs).length = k * 3 := by rw [flat_len Adr.cs_len, List.length_take]; congr 1; omega
  rw [flat_set Adr.cs_len hk r, e]
  generalize (rs.take k).flatMap Adr.cs = P at *
  generalize (rs.drop (k + 1)).flatMap Adr.cs = S at *
  rw [List.set_append_right _ _ (by omega), hP, show k * 3 - k * 3 = 0 by omega]
  rw [List.set_append_right _ _ (by omega), hP, show k * 3 + 1 - k * 3 = 1 by omega]
  rw [List.set_append_right _ _ (by omega), hP, show k * 3 + 2 - k * 3 = 2 by omega]
  rfl
section
variable {w : World} {lo hi n c : Nat} {A : Option Addr} {rs : List Adr}
theorem OwnAdr.stored (h : OwnAdr w lo hi A n c rs) {g : Nat} (hA : A = some ⟨g, 0, none⟩) {k : Nat} (hk : k < n) (r : Adr) :
    OwnAdr ((((w).setCell ⟨g, k * 3, none⟩ (.int .i64 r.bank)).setCell ⟨g, k * 3 + 1, none⟩ (.int .i64 r.row)).setCell ⟨g, k * 3 + 2, none⟩ (.int .i64 r.col)) lo hi A n c (rs.set k r) ∧ Chg lo hi w ((((w).setCell ⟨g, k * 3, none⟩ (.int .i64 r.bank)).setCell ⟨g, k * 3 + 1, none⟩ (.int .i64 r.row)).setCell ⟨g, k * 3 + 2, none⟩ (.int .i64 r.col)) := by
  have hl := h.len
  obtain ⟨r0, hr⟩ : ∃ r, rs[k]? = some r := ⟨_, List.getElem?_eq_getElem (by omega)⟩
  obtain ⟨s0, c0⟩ := OwnG.stored h hA (by omega) (k * 3) (.int .i64 r.bank)
  obtain ⟨s1, c1⟩ := OwnG.stored s0 hA (by omega) (k * 3 + 1) (.int .i64 r.row)
  obtain ⟨s2, c2⟩ := OwnG.stored s1 hA (by omega) (k * 3 + 2) (.int .i64 r.col)
  rw [Adr.setAll hr r] at s2
  exact ⟨s2, ((c0.trans c1).trans c2)⟩
theorem OwnAdr.at_ (h : OwnAdr w lo hi A n c rs) {k : Nat} (hk : k < n) : ∃ (g : Nat) (bank : Int) (row : Int) (col : Int), A = some ⟨g, 0, none⟩ ∧ lo ≤ g ∧ g < hi ∧ (∀ j, w.frozen? ⟨g, j, none⟩ = false) ∧ w.cell? ⟨g, k * 3, none⟩ = some (.int .i64 bank) ∧ w.cell? ⟨g, k * 3 + 1, none⟩ = some (.int .i64 row) ∧ w.cell? ⟨g, k * 3 + 2, none⟩ = some (.int .i64 col) ∧ Hid (rs[k]? = some ⟨bank, row, col⟩) := by
  obtain ⟨_, g, e, h1, h2, h3⟩ := OwnG.form h (by omega)
  obtain ⟨g', o, bank, row, col, e', -, q0, q1, q2, hr⟩ := h.recs.at_ hk
  rw [e] at e'
  injection e' with e'
  injection e' with e1 e2
  subst e1 e2
  simp only [Nat.zero_add] at q0 q1 q2
  exact ⟨g, bank, row, col, e, h1, h2, fun j => OwnG.frozenAt h e (by omega) j, q0, q1, q2, hr⟩
end






end Go.Proofs.Ytbapamfomfbmmaa
