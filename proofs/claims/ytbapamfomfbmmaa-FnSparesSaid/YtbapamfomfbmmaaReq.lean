/-
  Records Request: how they lie in memory, and the contracts of the laws' helpers on them.
-/
import Derived.Test.YtbapamfomfbmmaaCommon
import Derived.Test.YtbapamfomfbmmaaFlat
import Derived.Deep.RegionHeld3
namespace Go.Proofs.Ytbapamfomfbmmaa
open Go.RowKit
set_option linter.unusedSimpArgs false
set_option linter.unusedVariables false


/-- A record Request. -/
structure Req where
  id : Int
  ten : Int
  line : Int
  wrt : Bool
  dat : Int
  att : Int
deriving DecidableEq
def Req.cs (r : Req) : List Value := [.int .i64 r.id, .int .i64 r.ten, .int .i64 r.line, .bool r.wrt, .int .i64 r.dat, .int .i64 r.att]
theorem Req.cs_len (r : Req) : r.cs.length = 6 := rfl
/-- A slice of records that reads as the list rs. -/
def Reqs (w : World) (A : Option Addr) (n : Nat) (rs : List Req) : Prop := Cells w 6 A n (rs.flatMap Req.cs)
section
variable {w w' : World} {n : Nat} {A : Option Addr} {rs : List Req}
theorem Reqs.len (h : Reqs w A n rs) : rs.length = n := by have := h.1; rw [flat_len Req.cs_len] at this; omega
theorem Reqs.below (h : Reqs w A n rs) (hb : Below w.heap.size w w') : Reqs w' A n rs := Cells.below h hb
theorem Reqs.drewN (h : Reqs w A n rs) (k : Nat) : Reqs (w.drewN k) A n rs := h
theorem Reqs.take (h : Reqs w A n rs) {k : Nat} (hk : k ≤ n) : Reqs w A k (rs.take k) := by
  have := Cells.take h hk
  rw [flat_take Req.cs_len] at this
  exact this
theorem Reqs.drop (h : Reqs w A n rs) {k : Nat} (hk : k ≤ n) {B : Option Addr} (hB : k < n → ∀ g o, A = some ⟨g, o, none⟩ → B = some ⟨g, o + k * 6, none⟩) : Reqs w B (n - k) (rs.drop k) := by
  have := Cells.drop h hk hB
  rw [flat_drop Req.cs_len] at this
  exact this
theorem Reqs.at_ (h : Reqs w A n rs) {k : Nat} (hk : k < n) : ∃ (g o : Nat) (id : Int) (ten : Int) (line : Int) (wrt : Bool) (dat : Int) (att : Int), A = some ⟨g, o, none⟩ ∧ g < w.heap.size ∧ w.cell? ⟨g, o + k * 6, none⟩ = some (.int .i64 id) ∧ w.cell? ⟨g, o + k * 6 + 1, none⟩ = some (.int .i64 ten) ∧ w.cell? ⟨g, o + k * 6 + 2, none⟩ = some (.int .i64 line) ∧ w.cell? ⟨g, o + k * 6 + 3, none⟩ = some (.bool wrt) ∧ w.cell? ⟨g, o + k * 6 + 4, none⟩ = some (.int .i64 dat) ∧ w.cell? ⟨g, o + k * 6 + 5, none⟩ = some (.int .i64 att) ∧ Hid (rs[k]? = some ⟨id, ten, line, wrt, dat, att⟩) := by
  have hl := h.len
  obtain ⟨g, o, e, hg, hc⟩ := h.2 (by omega)
  obtain ⟨r, hr⟩ : ∃ r, rs[k]? = some r := ⟨_, List.getElem?_eq_getElem (by omega)⟩
  have hle : k * 6 + 6 ≤ n * 6 := by have := Nat.mul_le_mul_right 6 (show k + 1 ≤ n by omega); omega
  refine ⟨g, o, r.id, r.ten, r.line, r.wrt, r.dat, r.att, e, hg, ?_, ?_, ?_, ?_, ?_, ?_, hr⟩
  · have h1 := hc (k * 6 + 0) (by omega)
    rw [flat_get Req.cs_len hr (show 0 < 6 by omega), ← Nat.add_assoc] at h1
    exact h1
  · have h1 := hc (k * 6 + 1) (by omega)
    rw [flat_get Req.cs_len hr (show 1 < 6 by omega), ← Nat.add_assoc] at h1
    exact h1
  · have h1 := hc (k * 6 + 2) (by omega)
    rw [flat_get Req.cs_len hr (show 2 < 6 by omega), ← Nat.add_assoc] at h1
    exact h1
  · have h1 := hc (k * 6 + 3) (by omega)
    rw [flat_get Req.cs_len hr (show 3 < 6 by omega), ← Nat.add_assoc] at h1
    exact h1
  · have h1 := hc (k * 6 + 4) (by omega)
    rw [flat_get Req.cs_len hr (show 4 < 6 by omega), ← Nat.add_assoc] at h1
    exact h1
  · have h1 := hc (k * 6 + 5) (by omega)
    rw [flat_get Req.cs_len hr (show 5 < 6 by omega), ← Nat.add_assoc] at h1
    exact h1
end
/-- A slice of records in a row of the call's own. -/
def OwnReq (w : World) (lo hi : Nat) (A : Option Addr) (n c : Nat) (rs : List Req) : Prop := OwnG w lo hi 58 6 A n c (rs.flatMap Req.cs)
section
variable {w w' : World} {lo hi n c : Nat} {A : Option Addr} {rs : List Req}
theorem OwnReq.recs (h : OwnReq w lo hi A n c rs) : Reqs w A n rs := OwnG.cells h
theorem OwnReq.len (h : OwnReq w lo hi A n c rs) : rs.length = n := h.recs.len
theorem OwnReq.below (h : OwnReq w lo hi A n c rs) (hb : Below w.heap.size w w') : OwnReq w' lo hi A n c rs := OwnG.below h hb
theorem OwnReq.alloc (h : OwnReq w lo hi A n c rs) (o : Obj) : OwnReq (w.alloc o) lo hi A n c rs := OwnG.alloc h o
theorem OwnReq.drewN (h : OwnReq w lo hi A n c rs) (k : Nat) : OwnReq (w.drewN k) lo hi A n c rs := h
theorem OwnReq.chg {lo' hi' : Nat} (h : OwnReq w lo hi A n c rs) (hc : Chg lo' hi' w w') (hne : hi ≤ lo' ∨ hi' ≤ lo) : OwnReq w' lo hi A n c rs := OwnG.chg h hc hne
theorem OwnReq.mono {lo' hi' : Nat} (h : OwnReq w lo hi A n c rs) (h1 : lo' ≤ lo) (h2 : hi ≤ hi') : OwnReq w lo' hi' A n c rs := OwnG.mono h h1 h2
theorem OwnReq.setCell (h : OwnReq w lo hi A n c rs) (p : Addr) (u : Value) (hne : p.block < lo ∨ hi ≤ p.block) : OwnReq (w.setCell p u) lo hi A n c rs := OwnG.setCell h p u hne
theorem OwnReq.nil (w : World) (lo hi : Nat) (A : Option Addr) : OwnReq w lo hi A 0 0 [] := OwnG.nil _ _ _ _ _ _
end
/-- A new slice of records, in new memory; all that was there is as it was. -/
def NewReq (rs : List Req) (w : World) (e : Ending) (w' : World) : Prop :=
  ∃ A n c, e = .returned (.slice A n c) ∧ OwnReq w' w.heap.size w'.heap.size A n c rs ∧ Below w.heap.size w w'
/-- The same, with no bound above. -/
def RowReq (w : World) (lo : Nat) (A : Option Addr) (n c : Nat) (rs : List Req) : Prop := OwnV w lo 58 6 A n c (rs.flatMap Req.cs)
section
variable {w w' : World} {lo n c : Nat} {A : Option Addr} {rs : List Req}
theorem RowReq.recs (h : RowReq w lo A n c rs) : Reqs w A n rs := OwnV.cells h
theorem RowReq.len (h : RowReq w lo A n c rs) : rs.length = n := h.recs.len
theorem RowReq.below (h : RowReq w lo A n c rs) (hb : Below w.heap.size w w') : RowReq w' lo A n c rs := OwnV.below h hb
theorem RowReq.alloc (h : RowReq w lo A n c rs) (o : Obj) : RowReq (w.alloc o) lo A n c rs := OwnV.alloc h o
theorem RowReq.mono {lo' : Nat} (h : RowReq w lo A n c rs) (hl : lo' ≤ lo) : RowReq w lo' A n c rs := OwnV.mono h hl
theorem RowReq.lt (h : RowReq w lo A n c rs) : ∀ k, blk A c = some k → lo ≤ k ∧ k < w.heap.size := OwnV.lt h
theorem RowReq.nil (w : World) (lo : Nat) (A : Option Addr) : RowReq w lo A 0 0 [] := OwnV.nil _ _ _ _ _
theorem RowReq.own (h : RowReq w lo A n c rs) : OwnReq w lo w.heap.size A n c rs := OwnG.mk' h
end
theorem Req.one (rs : List Req) : ∀ u ∈ rs.flatMap Req.cs, u.oneCell' = true := by
  intro u hu
  rw [List.mem_flatMap] at hu
  obtain ⟨r, _, hu⟩ := hu
  unfold Req.cs at hu
  simp only [List.mem_cons, List.not_mem_nil, or_false] at hu
  rcases hu with hu | hu | hu | hu | hu | hu <;> (subst hu; rfl)
section
variable {P : Program} {w : World} {ops : Array Oper} {rest : List Oper} {o : Oper} {a : Act} {Q : Exit → Act → World → Prop}
/-- append(out, us...) -/
theorem wpList_appReq (hgd : o.guard = none) (s x : Operand) (t : TypeId) (ho : o.op = .call { callee := .builtin .append, args := #[s, x], argTypes := #[t, t] }) (ht : P.underlying t = some (.slice 58)) (hinf : (P.info? 58).map (fun i => (i.zero, i.size, i.bytes)) = some (some (.agg #[.int .i64 0, .int .i64 0, .int .i64 0, .bool false, .int .i64 0, .int .i64 0]), 6, 48))
    (A : Option Addr) (n c lo : Nat) (rs : List Req) (hs : a.eval s = .slice A n c) (hown : RowReq w lo A n c rs) (B : Option Addr) (k d : Nat) (us : List Req) (hx : a.eval x = .slice B k d) (hsrc : Reqs w B k us) (hlen : n + k ≤ 4194304) (hlo : lo ≤ w.heap.size)
    (h : ∀ A' c' w', RowReq w' lo A' (n + k) c' (rs ++ us) → w.grownBy w' (blk A c) → (blk A' c' = blk A c ∨ blk A' c' = some w.heap.size) → wpList P ops Q rest (a.put o.dst (.slice A' (n + k) c')) w') :
    wpList P ops Q (o :: rest) a w := by
  refine wpList_appG hgd s x t ho lo 58 _ 6 48 ht hinf rfl (by omega) A n c (rs.flatMap Req.cs) hs hown B k d (us.flatMap Req.cs) hx (Cells.src hsrc) (Req.one us) (by unfold maxLen; omega) (by omega) hlo ?_
  intro A' c' w' h2 h3 h4
  exact h A' c' w' (by unfold RowReq; rw [List.flatMap_append]; exact h2) h3 h4
/-- append(out, r) -/
theorem wpList_appReq1 (hgd : o.guard = none) (s x : Operand) (t : TypeId) (ho : o.op = .call { callee := .builtin .append, args := #[s, x], argTypes := #[t, t] }) (ht : P.underlying t = some (.slice 58)) (hinf : (P.info? 58).map (fun i => (i.zero, i.size, i.bytes)) = some (some (.agg #[.int .i64 0, .int .i64 0, .int .i64 0, .bool false, .int .i64 0, .int .i64 0]), 6, 48))
    (A : Option Addr) (n c lo : Nat) (rs : List Req) (hs : a.eval s = .slice A n c) (hown : RowReq w lo A n c rs) (g1 : Nat) (r : Req) (hx : a.eval x = .slice (some ⟨g1, 0, none⟩) 1 1) (hbox : Box w g1 58 #[.int .i64 r.id, .int .i64 r.ten, .int .i64 r.line, .bool r.wrt, .int .i64 r.dat, .int .i64 r.att]) (hlen : n + 1 ≤ 4194304) (hlo : lo ≤ w.heap.size)
    (h : ∀ A' c' w', RowReq w' lo A' (n + 1) c' (rs ++ [r]) → w.grownBy w' (blk A c) → (blk A' c' = blk A c ∨ blk A' c' = some w.heap.size) → wpList P ops Q rest (a.put o.dst (.slice A' (n + 1) c')) w') :
    wpList P ops Q (o :: rest) a w := by
  refine wpList_appG hgd s x t ho lo 58 _ 6 48 ht hinf rfl (by omega) A n c (rs.flatMap Req.cs) hs hown _ 1 1 r.cs hx (hbox.src rfl) (by have := Req.one [r]; rwa [List.flatMap_cons, List.flatMap_nil, List.append_nil] at this) (by unfold maxLen; omega) (by omega) hlo ?_
  intro A' c' w' h2 h3 h4
  exact h A' c' w' (by unfold RowReq; rw [List.flatMap_append, List.flatMap_cons, List.flatMap_nil, List.append_nil]; exact h2) h3 h4
/-- append(out, us...) inside a statement that leaves its order open. -/
theorem step_appReq {K : Act → World → Prop} {E : Prop} (hgd : o.guard = none) (s x : Operand) (t : TypeId) (ho : o.op = .call { callee := .builtin .append, args := #[s, x], argTypes := #[t, t] }) (ht : P.underlying t = some (.slice 58)) (hinf : (P.info? 58).map (fun i => (i.zero, i.size, i.bytes)) = some (some (.agg #[.int .i64 0, .int .i64 0, .int .i64 0, .bool false, .int .i64 0, .int .i64 0]), 6, 48))
    (A : Option Addr) (n c lo : Nat) (rs : List Req) (hs : a.eval s = .slice A n c) (hown : RowReq w lo A n c rs) (B : Option Addr) (k d : Nat) (us : List Req) (hx : a.eval x = .slice B k d) (hsrc : Reqs w B k us) (hlen : n + k ≤ 4194304) (hlo : lo ≤ w.heap.size)
    (h : ∀ A' c' w', RowReq w' lo A' (n + k) c' (rs ++ us) → w.grownBy w' (blk A c) → (blk A' c' = blk A c ∨ blk A' c' = some w.heap.size) → K (a.put o.dst (.slice A' (n + k) c')) w') :
    if Region.wanted o (yielded ops a.tmps) = true then Oper.wp P o a w K Q else E := by
  refine step_appG hgd s x t ho lo 58 _ 6 48 ht hinf rfl (by omega) A n c (rs.flatMap Req.cs) hs hown B k d (us.flatMap Req.cs) hx (Cells.src hsrc) (Req.one us) (by unfold maxLen; omega) (by omega) hlo ?_
  intro A' c' w' h2 h3 h4
  exact h A' c' w' (by unfold RowReq; rw [List.flatMap_append]; exact h2) h3 h4
theorem step_appReq1 {K : Act → World → Prop} {E : Prop} (hgd : o.guard = none) (s x : Operand) (t : TypeId) (ho : o.op = .call { callee := .builtin .append, args := #[s, x], argTypes := #[t, t] }) (ht : P.underlying t = some (.slice 58)) (hinf : (P.info? 58).map (fun i => (i.zero, i.size, i.bytes)) = some (some (.agg #[.int .i64 0, .int .i64 0, .int .i64 0, .bool false, .int .i64 0, .int .i64 0]), 6, 48))
    (A : Option Addr) (n c lo : Nat) (rs : List Req) (hs : a.eval s = .slice A n c) (hown : RowReq w lo A n c rs) (g1 : Nat) (r : Req) (hx : a.eval x = .slice (some ⟨g1, 0, none⟩) 1 1) (hbox : Box w g1 58 #[.int .i64 r.id, .int .i64 r.ten, .int .i64 r.line, .bool r.wrt, .int .i64 r.dat, .int .i64 r.att]) (hlen : n + 1 ≤ 4194304) (hlo : lo ≤ w.heap.size)
    (h : ∀ A' c' w', RowReq w' lo A' (n + 1) c' (rs ++ [r]) → w.grownBy w' (blk A c) → (blk A' c' = blk A c ∨ blk A' c' = some w.heap.size) → K (a.put o.dst (.slice A' (n + 1) c')) w') :
    if Region.wanted o (yielded ops a.tmps) = true then Oper.wp P o a w K Q else E := by
  refine step_appG hgd s x t ho lo 58 _ 6 48 ht hinf rfl (by omega) A n c (rs.flatMap Req.cs) hs hown _ 1 1 r.cs hx (hbox.src rfl) (by have := Req.one [r]; rwa [List.flatMap_cons, List.flatMap_nil, List.append_nil] at this) (by unfold maxLen; omega) (by omega) hlo ?_
  intro A' c' w' h2 h3 h4
  exact h A' c' w' (by unfold RowReq; rw [List.flatMap_append, List.flatMap_cons, List.flatMap_nil, List.append_nil]; exact h2) h3 h4
end
theorem Req.setAll {rs : List Req} {k : Nat} {r0 : Req} (h : rs[k]? = some r0) (r : Req) : ((((((rs.flatMap Req.cs).set (k * 6) (.int .i64 r.id)).set (k * 6 + 1) (.int .i64 r.ten)).set (k * 6 + 2) (.int .i64 r.line)).set (k * 6 + 3) (.bool r.wrt)).set (k * 6 + 4) (.int .i64 r.dat)).set (k * 6 + 5) (.int .i64 r.att) = (rs.set k r).flatMap Req.cs := by
  have hk := lt_of_get h
  have e : rs.flatMap Req.cs = (rs.take k).flatMap Req.cs ++ (r0.cs ++ (rs.drop (k + 1)).flatMap Req.cs) := by
    rw [← flat_set Req.cs_len hk r0]
    congr 1
    obtain ⟨_, rfl⟩ := List.getElem?_eq_some_iff.1 h
    rw [List.set_getElem_self]
  have hP : ((rs.take k).flatMap Req.cs).length = k * 6 := by rw [flat_len Req.cs_len, List.length_take]; congr 1; omega
  rw [flat_set Req.cs_len hk r, e]
  generalize (rs.take k).flatMap Req.cs = P at *
  generalize (rs.drop (k + 1)).flatMap Req.cs = S at *
  rw [List.set_append_right _ _ (by omega), hP, show k * 6 - k * 6 = 0 by omega]
  rw [List.set_append_right _ _ (by omega), hP, show k * 6 + 1 - k * 6 = 1 by omega]
  rw [List.set_append_right _ _ (by omega), hP, show k * 6 + 2 - k * 6 = 2 by omega]
  rw [List.set_append_right _ _ (by omega), hP, show k * 6 + 3 - k * 6 = 3 by omega]
  rw [List.set_append_right _ _ (by omega), hP, show k * 6 + 4 - k * 6 = 4 by omega]
  rw [List.set_append_right _ _ (by omega), hP, show k * 6 + 5 - k * 6 = 5 by omega]
  rfl
section
variable {w : World} {lo hi n c : Nat} {A : Option Addr} {rs : List Req}
theorem OwnReq.stored (h : OwnReq w lo hi A n c rs) {g : Nat} (hA : A = some ⟨g, 0, none⟩) {k : Nat} (hk : k < n) (r : Req) :
    OwnReq (((((((w).setCell ⟨g, k * 6, none⟩ (.int .i64 r.id)).setCell ⟨g, k * 6 + 1, none⟩ (.int .i64 r.ten)).setCell ⟨g, k * 6 + 2, none⟩ (.int .i64 r.line)).setCell ⟨g, k * 6 + 3, none⟩ (.bool r.wrt)).setCell ⟨g, k * 6 + 4, none⟩ (.int .i64 r.dat)).setCell ⟨g, k * 6 + 5, none⟩ (.int .i64 r.att)) lo hi A n c (rs.set k r) ∧ Chg lo hi w (((((((w).setCell ⟨g, k * 6, none⟩ (.int .i64 r.id)).setCell ⟨g, k * 6 + 1, none⟩ (.int .i64 r.ten)).setCell ⟨g, k * 6 + 2, none⟩ (.int .i64 r.line)).setCell ⟨g, k * 6 + 3, none⟩ (.bool r.wrt)).setCell ⟨g, k * 6 + 4, none⟩ (.int .i64 r.dat)).setCell ⟨g, k * 6 + 5, none⟩ (.int .i64 r.att)) := by
  have hl := h.len
  obtain ⟨r0, hr⟩ : ∃ r, rs[k]? = some r := ⟨_, List.getElem?_eq_getElem (by omega)⟩
  obtain ⟨s0, c0⟩ := OwnG.stored h hA (by omega) (k * 6) (.int .i64 r.id)
  obtain ⟨s1, c1⟩ := OwnG.stored s0 hA (by omega) (k * 6 + 1) (.int .i64 r.ten)
  obtain ⟨s2, c2⟩ := OwnG.stored s1 hA (by omega) (k * 6 + 2) (.int .i64 r.line)
  obtain ⟨s3, c3⟩ := OwnG.stored s2 hA (by omega) (k * 6 + 3) (.bool r.wrt)
  obtain ⟨s4, c4⟩ := OwnG.stored s3 hA (by omega) (k * 6 + 4) (.int .i64 r.dat)
  obtain ⟨s5, c5⟩ := OwnG.stored s4 hA (by omega) (k * 6 + 5) (.int .i64 r.att)
  rw [Req.setAll hr r] at s5
  exact ⟨s5, (((((c0.trans c1).trans c2).trans c3).trans c4).trans c5)⟩
theorem OwnReq.at_ (h : OwnReq w lo hi A n c rs) {k : Nat} (hk : k < n) : ∃ (g : Nat) (id : Int) (ten : Int) (line : Int) (wrt : Bool) (dat : Int) (att : Int), A = some ⟨g, 0, none⟩ ∧ lo ≤ g ∧ g < hi ∧ (∀ j, w.frozen? ⟨g, j, none⟩ = false) ∧ w.cell? ⟨g, k * 6, none⟩ = some (.int .i64 id) ∧ w.cell? ⟨g, k * 6 + 1, none⟩ = some (.int .i64 ten) ∧ w.cell? ⟨g, k * 6 + 2, none⟩ = some (.int .i64 line) ∧ w.cell? ⟨g, k * 6 + 3, none⟩ = some (.bool wrt) ∧ w.cell? ⟨g, k * 6 + 4, none⟩ = some (.int .i64 dat) ∧ w.cell? ⟨g, k * 6 + 5, none⟩ = some (.int .i64 att) ∧ Hid (rs[k]? = some ⟨id, ten, line, wrt, dat, att⟩) := by
  obtain ⟨_, g, e, h1, h2, h3⟩ := OwnG.form h (by omega)
  obtain ⟨g', o, id, ten, line, wrt, dat, att, e', -, q0, q1, q2, q3, q4, q5, hr⟩ := h.recs.at_ hk
  rw [e] at e'
  injection e' with e'
  injection e' with e1 e2
  subst e1 e2
  simp only [Nat.zero_add] at q0 q1 q2 q3 q4 q5
  exact ⟨g, id, ten, line, wrt, dat, att, e, h1, h2, fun j => OwnG.frozenAt h e (by omega) j, q0, q1, q2, q3, q4, q5, hr⟩
end




theorem infoReq : (Try.prog.info? 58).map (fun i => (i.zero, i.size, i.bytes)) = some (some (.agg #[.int .i64 0, .int .i64 0, .int .i64 0, .bool false, .int .i64 0, .int .i64 0]), 6, 48) := by kernel_rfl
theorem madeReq (m : Nat) : (madeCells (Value.agg #[.int .i64 0, .int .i64 0, .int .i64 0, .bool false, .int .i64 0, .int .i64 0]).cells (m * 6)).toList = (List.replicate m (⟨0, 0, 0, false, 0, 0⟩ : Req)).flatMap Req.cs :=
  made_flat (by omega) Req.cs_len ⟨0, 0, 0, false, 0, 0⟩ _ rfl m


/-- The record that marks count from k on. -/
def markReq (k : Int) : Req := ⟨k, k + 1, k + 1 + 1, ((k + 1 + 1 + 1) % 3 == 0), k + 1 + 1 + 1 + 1, k + 1 + 1 + 1 + 1 + 1⟩
def marksReq (k : Int) (n : Nat) : List Req := (List.range n).map fun (i : Nat) => markReq (k + 6 * (i : Int))
theorem marksReq_len (k : Int) (n : Nat) : (marksReq k n).length = n := by simp [marksReq]
theorem marksReq_get (k : Int) {n i : Nat} (h : i < n) : (marksReq k n)[i]? = some (markReq (k + 6 * (i : Int))) := by simp [marksReq, h]


end Go.Proofs.Ytbapamfomfbmmaa
