/-
  Records Cell: how they lie in memory, and the contracts of the laws' helpers on them.
-/
import Derived.Test.YtbapamfomfbmmaaCommon
import Derived.Test.YtbapamfomfbmmaaFlat
import Derived.Deep.RegionHeld3
namespace Go.Proofs.Ytbapamfomfbmmaa
open Go.RowKit
set_option linter.unusedSimpArgs false
set_option linter.unusedVariables false


/-- A record Cell. -/
structure Cel where
  sa : Option Addr
  sn : Nat
  sc : Nat
  psn : Bool
def Cel.cs (r : Cel) : List Value := [.slice r.sa r.sn r.sc, .bool r.psn]
theorem Cel.cs_len (r : Cel) : r.cs.length = 2 := rfl
/-- A slice of records that reads as the list rs. -/
def Cels (w : World) (A : Option Addr) (n : Nat) (rs : List Cel) : Prop := Cells w 2 A n (rs.flatMap Cel.cs)
section
variable {w w' : World} {n : Nat} {A : Option Addr} {rs : List Cel}
theorem Cels.len (h : Cels w A n rs) : rs.length = n := by have := h.1; rw [flat_len Cel.cs_len] at this; omega
theorem Cels.below (h : Cels w A n rs) (hb : Below w.heap.size w w') : Cels w' A n rs := Cells.below h hb
theorem Cels.drewN (h : Cels w A n rs) (k : Nat) : Cels (w.drewN k) A n rs := h
theorem Cels.take (h : Cels w A n rs) {k : Nat} (hk : k ≤ n) : Cels w A k (rs.take k) := by
  have := Cells.take h hk
  rw [flat_take Cel.cs_len] at this
  exact this
theorem Cels.drop (h : Cels w A n rs) {k : Nat} (hk : k ≤ n) {B : Option Addr} (hB : k < n → ∀ g o, A = some ⟨g, o, none⟩ → B = some ⟨g, o + k * 2, none⟩) : Cels w B (n - k) (rs.drop k) := by
  have := Cells.drop h hk hB
  rw [flat_drop Cel.cs_len] at this
  exact this
theorem Cels.at_ (h : Cels w A n rs) {k : Nat} (hk : k < n) : ∃ (g o : Nat) (sa : Option Addr) (sn sc : Nat) (psn : Bool), A = some ⟨g, o, none⟩ ∧ g < w.heap.size ∧ w.cell? ⟨g, o + k * 2, none⟩ = some (.slice sa sn sc) ∧ w.cell? ⟨g, o + k * 2 + 1, none⟩ = some (.bool psn) ∧ Hid (rs[k]? = some ⟨sa, sn, sc, psn⟩) := by
  have hl := h.len
  obtain ⟨g, o, e, hg, hc⟩ := h.2 (by omega)
  obtain ⟨r, hr⟩ : ∃ r, rs[k]? = some r := ⟨_, List.getElem?_eq_getElem (by omega)⟩
  have hle : k * 2 + 2 ≤ n * 2 := by have := Nat.mul_le_mul_right 2 (show k + 1 ≤ n by omega); omega
  refine ⟨g, o, r.sa, r.sn, r.sc, r.psn, e, hg, ?_, ?_, hr⟩
  · have h1 := hc (k * 2 + 0) (by omega)
    rw [flat_get Cel.cs_len hr (show 0 < 2 by omega), ← Nat.add_assoc] at h1
    exact h1
  · have h1 := hc (k * 2 + 1) (by omega)
    rw [flat_get Cel.cs_len hr (show 1 < 2 by omega), ← Nat.add_assoc] at h1
    exact h1
end
/-- A slice of records in a row of the call's own. -/
def OwnCel (w : World) (lo hi : Nat) (A : Option Addr) (n c : Nat) (rs : List Cel) : Prop := OwnG w lo hi 104 2 A n c (rs.flatMap Cel.cs)
section
variable {w w' : World} {lo hi n c : Nat} {A : Option Addr} {rs : List Cel}
theorem OwnCel.recs (h : OwnCel w lo hi A n c rs) : Cels w A n rs := OwnG.cells h
theorem OwnCel.len (h : OwnCel w lo hi A n c rs) : rs.length = n := h.recs.len
theorem OwnCel.below (h : OwnCel w lo hi A n c rs) (hb : Below w.heap.size w w') : OwnCel w' lo hi A n c rs := OwnG.below h hb
theorem OwnCel.alloc (h : OwnCel w lo hi A n c rs) (o : Obj) : OwnCel (w.alloc o) lo hi A n c rs := OwnG.alloc h o
theorem OwnCel.drewN (h : OwnCel w lo hi A n c rs) (k : Nat) : OwnCel (w.drewN k) lo hi A n c rs := h
theorem OwnCel.chg {lo' hi' : Nat} (h : OwnCel w lo hi A n c rs) (hc : Chg lo' hi' w w') (hne : hi ≤ lo' ∨ hi' ≤ lo) : OwnCel w' lo hi A n c rs := OwnG.chg h hc hne
theorem OwnCel.mono {lo' hi' : Nat} (h : OwnCel w lo hi A n c rs) (h1 : lo' ≤ lo) (h2 : hi ≤ hi') : OwnCel w lo' hi' A n c rs := OwnG.mono h h1 h2
theorem OwnCel.setCell (h : OwnCel w lo hi A n c rs) (p : Addr) (u : Value) (hne : p.block < lo ∨ hi ≤ p.block) : OwnCel (w.setCell p u) lo hi A n c rs := OwnG.setCell h p u hne
theorem OwnCel.nil (w : World) (lo hi : Nat) (A : Option Addr) : OwnCel w lo hi A 0 0 [] := OwnG.nil _ _ _ _ _ _
end
/-- A new slice of records, in new memory; all that was there is as it was. -/
def NewCel (rs : List Cel) (w : World) (e : Ending) (w' : World) : Prop :=
  ∃ A n c, e = .returned (.slice A n c) ∧ OwnCel w' w.heap.size w'.heap.size A n c rs ∧ Below w.heap.size w w'
/-- The same, with no bound above. -/
def RowCel (w : World) (lo : Nat) (A : Option Addr) (n c : Nat) (rs : List Cel) : Prop := OwnV w lo 104 2 A n c (rs.flatMap Cel.cs)
section
variable {w w' : World} {lo n c : Nat} {A : Option Addr} {rs : List Cel}
theorem RowCel.recs (h : RowCel w lo A n c rs) : Cels w A n rs := OwnV.cells h
theorem RowCel.len (h : RowCel w lo A n c rs) : rs.length = n := h.recs.len
theorem RowCel.below (h : RowCel w lo A n c rs) (hb : Below w.heap.size w w') : RowCel w' lo A n c rs := OwnV.below h hb
theorem RowCel.alloc (h : RowCel w lo A n c rs) (o : Obj) : RowCel (w.alloc o) lo A n c rs := OwnV.alloc h o
theorem RowCel.mono {lo' : Nat} (h : RowCel w lo A n c rs) (hl : lo' ≤ lo) : RowCel w lo' A n c rs := OwnV.mono h hl
theorem RowCel.lt (h : RowCel w lo A n c rs) : ∀ k, blk A c = some k → lo ≤ k ∧ k < w.heap.size := OwnV.lt h
theorem RowCel.nil (w : World) (lo : Nat) (A : Option Addr) : RowCel w lo A 0 0 [] := OwnV.nil _ _ _ _ _
theorem RowCel.own (h : RowCel w lo A n c rs) : OwnCel w lo w.heap.size A n c rs := OwnG.mk' h
end
theorem Cel.one (rs : List Cel) : ∀ u ∈ rs.flatMap Cel.cs, u.oneCell' = true := by
  intro u hu
  rw [List.mem_flatMap] at hu
  obtain ⟨r, _, hu⟩ := hu
  unfold Cel.cs at hu
  simp only [List.mem_cons, List.not_mem_nil, or_false] at hu
  rcases hu with hu | hu <;> (subst hu; rfl)
section
variable {P : Program} {w : World} {ops : Array Oper} {rest : List Oper} {o : Oper} {a : Act} {Q : Exit → Act → World → Prop}
/-- append(out, us...) -/
theorem wpList_appCel (hgd : o.guard = none) (s x : Operand) (t : TypeId) (ho : o.op = .call { callee := .builtin .append, args := #[s, x], argTypes := #[t, t] }) (ht : P.underlying t = some (.slice 104)) (hinf : (P.info? 104).map (fun i => (i.zero, i.size, i.bytes)) = some (some (.agg #[.slice none 0 0, .bool false]), 2, 32))
    (A : Option Addr) (n c lo : Nat) (rs : List Cel) (hs : a.eval s = .slice A n c) (hown : RowCel w lo A n c rs) (B : Option Addr) (k d : Nat) (us : List Cel) (hx : a.eval x = .slice B k d) (hsrc : Cels w B k us) (hlen : n + k ≤ 4194304) (hlo : lo ≤ w.heap.size)
    (h : ∀ A' c' w', RowCel w' lo A' (n + k) c' (rs ++ us) → w.grownBy w' (blk A c) → (blk A' c' = blk A c ∨ blk A' c' = some w.heap.size) → wpList P ops Q rest (a.put o.dst (.slice A' (n + k) c')) w') :
    wpList P ops Q (o :: rest) a w := by
  refine wpList_appG hgd s x t ho lo 104 _ 2 32 ht hinf rfl (by omega) A n c (rs.flatMap Cel.cs) hs hown B k d (us.flatMap Cel.cs) hx (Cells.src hsrc) (Cel.one us) (by unfold maxLen; omega) (by omega) hlo ?_
  intro A' c' w' h2 h3 h4
  exact h A' c' w' (by unfold RowCel; rw [List.flatMap_append]; exact h2) h3 h4
/-- append(out, r) -/
theorem wpList_appCel1 (hgd : o.guard = none) (s x : Operand) (t : TypeId) (ho : o.op = .call { callee := .builtin .append, args := #[s, x], argTypes := #[t, t] }) (ht : P.underlying t = some (.slice 104)) (hinf : (P.info? 104).map (fun i => (i.zero, i.size, i.bytes)) = some (some (.agg #[.slice none 0 0, .bool false]), 2, 32))
    (A : Option Addr) (n c lo : Nat) (rs : List Cel) (hs : a.eval s = .slice A n c) (hown : RowCel w lo A n c rs) (g1 : Nat) (r : Cel) (hx : a.eval x = .slice (some ⟨g1, 0, none⟩) 1 1) (hbox : Box w g1 104 #[.slice r.sa r.sn r.sc, .bool r.psn]) (hlen : n + 1 ≤ 4194304) (hlo : lo ≤ w.heap.size)
    (h : ∀ A' c' w', RowCel w' lo A' (n + 1) c' (rs ++ [r]) → w.grownBy w' (blk A c) → (blk A' c' = blk A c ∨ blk A' c' = some w.heap.size) → wpList P ops Q rest (a.put o.dst (.slice A' (n + 1) c')) w') :
    wpList P ops Q (o :: rest) a w := by
  refine wpList_appG hgd s x t ho lo 104 _ 2 32 ht hinf rfl (by omega) A n c (rs.flatMap Cel.cs) hs hown _ 1 1 r.cs hx (hbox.src rfl) (by have := Cel.one [r]; rwa [List.flatMap_cons, List.flatMap_nil, List.append_nil] at this) (by unfold maxLen; omega) (by omega) hlo ?_
  intro A' c' w' h2 h3 h4
  exact h A' c' w' (by unfold RowCel; rw [List.flatMap_append, List.flatMap_cons, List.flatMap_nil, List.append_nil]; exact h2) h3 h4
/-- append(out, us...) inside a statement that leaves its order open. -/
theorem step_appCel {K : Act → World → Prop} {E : Prop} (hgd : o.guard = none) (s x : Operand) (t : TypeId) (ho : o.op = .call { callee := .builtin .append, args := #[s, x], argTypes := #[t, t] }) (ht : P.underlying t = some (.slice 104)) (hinf : (P.info? 104).map (fun i => (i.zero, i.size, i.bytes)) = some (some (.agg #[.slice none 0 0, .bool false]), 2, 32))
    (A : Option Addr) (n c lo : Nat) (rs : List Cel) (hs : a.eval s = .slice A n c) (hown : RowCel w lo A n c rs) (B : Option Addr) (k d : Nat) (us : List Cel) (hx : a.eval x = .slice B k d) (hsrc : Cels w B k us) (hlen : n + k ≤ 4194304) (hlo : lo ≤ w.heap.size)
    (h : ∀ A' c' w', RowCel w' lo A' (n + k) c' (rs ++ us) → w.grownBy w' (blk A c) → (blk A' c' = blk A c ∨ blk A' c' = some w.heap.size) → K (a.put o.dst (.slice A' (n + k) c')) w') :
    if Region.wanted o (yielded ops a.tmps) = true then Oper.wp P o a w K Q else E := by
  refine step_appG hgd s x t ho lo 104 _ 2 32 ht hinf rfl (by omega) A n c (rs.flatMap Cel.cs) hs hown B k d (us.flatMap Cel.cs) hx (Cells.src hsrc) (Cel.one us) (by unfold maxLen; omega) (by omega) hlo ?_
  intro A' c' w' h2 h3 h4
  exact h A' c' w' (by unfold RowCel; rw [List.flatMap_append]; exact h2) h3 h4
theorem step_appCel1 {K : Act → World → Prop} {E : Prop} (hgd : o.guard = none) (s x : Operand) (t : TypeId) (ho : o.op = .call { callee := .builtin .append, args := #[s, x], argTypes := #[t, t] }) (ht : P.underlying t = some (.slice 104)) (hinf : (P.info? 104).map (fun i => (i.zero, i.size, i.bytes)) = some (some (.agg #[.slice none 0 0, .bool false]), 2, 32))
    (A : Option Addr) (n c lo : Nat) (rs : List Cel) (hs : a.eval s = .slice A n c) (hown : RowCel w lo A n c rs) (g1 : Nat) (r : Cel) (hx : a.eval x = .slice (some ⟨g1, 0, none⟩) 1 1) (hbox : Box w g1 104 #[.slice r.sa r.sn r.sc, .bool r.psn]) (hlen : n + 1 ≤ 4194304) (hlo : lo ≤ w.heap.size)
    (h : ∀ A' c' w', RowCel w' lo A' (n + 1) c' (rs ++ [r]) → w.grownBy w' (blk A c) → (blk A' c' = blk A c ∨ blk A' c' = some w.heap.size) → K (a.put o.dst (.slice A' (n + 1) c')) w') :
    if Region.wanted o (yielded ops a.tmps) = true then Oper.wp P o a w K Q else E := by
  refine step_appG hgd s x t ho lo 104 _ 2 32 ht hinf rfl (by omega) A n c (rs.flatMap Cel.cs) hs hown _ 1 1 r.cs hx (hbox.src rfl) (by have := Cel.one [r]; rwa [List.flatMap_cons, List.flatMap_nil, List.append_nil] at this) (by unfold maxLen; omega) (by omega) hlo ?_
  intro A' c' w' h2 h3 h4
  exact h A' c' w' (by unfold RowCel; rw [List.flatMap_append, List.flatMap_cons, List.flatMap_nil, List.append_nil]; exact h2) h3 h4
end
theorem Cel.setAll {rs : List Cel} {k : Nat} {r0 : Cel} (h : rs[k]? = some r0) (r : Cel) : ((rs.flatMap Cel.cs).set (k * 2) (.slice r.sa r.sn r.sc)).set (k * 2 + 1) (.bool r.psn) = (rs.set k r).flatMap Cel.cs := by
  have hk := lt_of_get h
  have e : rs.flatMap Cel.cs = (rs.take k).flatMap Cel.cs ++ (r0.cs ++ (rs.drop (k + 1)).flatMap Cel.cs) := by
    rw [← flat_set Cel.cs_len hk r0]
    congr 1
    obtain ⟨_, rfl⟩ := List.getElem?_eq_some_iff.1 h
    rw [List.set_getElem_self]
  have hP : ((rs.take k).flatMap Cel.cs).length = k * 2 := by rw [flat_len Cel.cs_len, List.length_take]; congr 1; omega
  rw [flat_set Cel.cs_len hk r, e]
  generalize (rs.take k).flatMap Cel.cs = P at *
  generalize (rs.drop (k + 1)).flatMap Cel.cs = S at *
  rw [List.set_append_right _ _ (by omega), hP, show k * 2 - k * 2 = 0 by omega]
  rw [List.set_append_right _ _ (by omega), hP, show k * 2 + 1 - k * 2 = 1 by omega]
  rfl
section
variable {w : World} {lo hi n c : Nat} {A : Option Addr} {rs : List Cel}
theorem OwnCel.stored (h : OwnCel w lo hi A n c rs) {g : Nat} (hA : A = some ⟨g, 0, none⟩) {k : Nat} (hk : k < n) (r : Cel) :
    OwnCel (((w).setCell ⟨g, k * 2, none⟩ (.slice r.sa r.sn r.sc)).setCell ⟨g, k * 2 + 1, none⟩ (.bool r.psn)) lo hi A n c (rs.set k r) ∧ Chg lo hi w (((w).setCell ⟨g, k * 2, none⟩ (.slice r.sa r.sn r.sc)).setCell ⟨g, k * 2 + 1, none⟩ (.bool r.psn)) := by
  have hl := h.len
  obtain ⟨r0, hr⟩ : ∃ r, rs[k]? = some r := ⟨_, List.getElem?_eq_getElem (by omega)⟩
  obtain ⟨s0, c0⟩ := OwnG.stored h hA (by omega) (k * 2) (.slice r.sa r.sn r.sc)
  obtain ⟨s1, c1⟩ := OwnG.stored s0 hA (by omega) (k * 2 + 1) (.bool r.psn)
  rw [Cel.setAll hr r] at s1
  exact ⟨s1, (c0.trans c1)⟩
theorem OwnCel.at_ (h : OwnCel w lo hi A n c rs) {k : Nat} (hk : k < n) : ∃ (g : Nat) (sa : Option Addr) (sn sc : Nat) (psn : Bool), A = some ⟨g, 0, none⟩ ∧ lo ≤ g ∧ g < hi ∧ (∀ j, w.frozen? ⟨g, j, none⟩ = false) ∧ w.cell? ⟨g, k * 2, none⟩ = some (.slice sa sn sc) ∧ w.cell? ⟨g, k * 2 + 1, none⟩ = some (.bool psn) ∧ Hid (rs[k]? = some ⟨sa, sn, sc, psn⟩) := by
  obtain ⟨_, g, e, h1, h2, h3⟩ := OwnG.form h (by omega)
  obtain ⟨g', o, sa, sn, sc, psn, e', -, q0, q1, hr⟩ := h.recs.at_ hk
  rw [e] at e'
  injection e' with e'
  injection e' with e1 e2
  subst e1 e2
  simp only [Nat.zero_add] at q0 q1
  exact ⟨g, sa, sn, sc, psn, e, h1, h2, fun j => OwnG.frozenAt h e (by omega) j, q0, q1, hr⟩
end

end Go.Proofs.Ytbapamfomfbmmaa
