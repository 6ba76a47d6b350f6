/-
  Records Request: how they lie in memory, and the contracts of the laws' helpers on them.
-/
import Derived.Test.YtmkkimpljnmpoaaCommon
import Derived.Test.YtmkkimpljnmpoaaFlat
import Derived.Deep.RegionHeld3
namespace Go.Proofs.Ytmkkimpljnmpoaa
open Go.RowKit
set_option linter.unusedSimpArgs false
set_option linter.unusedVariables false


/-- A record Request. -/
structure Req where
  id : Int
  ten : Int
  line : Int
  wrt : Bool
  dat : Int
  att : Int
deriving DecidableEq
def Req.cs (r : Req) : List Value := [.int .i64 r.id, .int .i64 r.ten, .int .i64 r.line, .bool r.wrt, .int .i64 r.dat, .int .i64 r.att]
theorem Req.cs_len (r : Req) : r.cs.length = 6 := rfl
/-- A slice of records that reads as the list rs. -/
def Reqs (w : World) (A : Option Addr) (n : Nat) (rs : List Req) : Prop := Cells w 6 A n (rs.flatMap Req.cs)
section
variable {w w' : World} {n : Nat} {A : Option Addr} {rs : List Req}
theorem Reqs.len (h : Reqs w A n rs) : rs.length = n := by have := h.1; rw [flat_len Req.cs_len] at this; omega
theorem Reqs.below (h : Reqs w A n rs) (hb : Below w.heap.size w w') : Reqs w' A n rs := Cells.below h hb
theorem Reqs.drewN (h : Reqs w A n rs) (k : Nat) : Reqs (w.drewN k) A n rs := h
theorem Reqs.take (h : Reqs w A n rs) {k : Nat} (hk : k ≤ n) : Reqs w A k (rs.take k) := by
  have := Cells.take h hk
  rw [flat_take Req.cs_len] at this
  exact this
theorem Reqs.drop (h : Reqs w A n rs) {k : Nat} (hk : k ≤ n) {B : Option Addr} (hB : k < n → ∀ g o, A = some ⟨g, o, none⟩ → B = some ⟨g, o + k * 6, none⟩) : Reqs w B (n - k) (rs.drop k) := by
  have := Cells.drop h hk hB
  rw [flat_drop Req.cs_len] at this
  exact this
theorem Reqs.at_ (h : Reqs w A n rs) {k : Nat} (hk : k < n) : ∃ (g o : Nat) (id : Int) (ten : Int) (line : Int) (wrt : Bool) (dat : Int) (att : Int), A = some ⟨g, o, none⟩ ∧ g < w.heap.size ∧ w.cell? ⟨g, o + k * 6, none⟩ = some (.int .i64 id) ∧ w.cell? ⟨g, o + k * 6 + 1, none⟩ = some (.int .i64 ten) ∧ w.cell? ⟨g, o + k * 6 + 2, none⟩ = some (.int .i64 line) ∧ w.cell? ⟨g, o + k * 6 + 3, none⟩ = some (.bool wrt) ∧ w.cell? ⟨g, o + k * 6 + 4, none⟩ = some (.int .i64 dat) ∧ w.cell? ⟨g, o + k * 6 + 5, none⟩ = some (.int .i64 att) ∧ Hid (rs[k]? = some ⟨id, ten, line, wrt, dat, att⟩) := by
  have hl := h.len
  obtain ⟨g, o, e, hg, hc⟩ := h.2 (by omega)
  obtain ⟨r, hr⟩ : ∃ r, rs[k]? = some r := ⟨_, List.getElem?_eq_getElem (by omega)⟩
  have hle : k * 6 + 6 ≤ n * 6 := by have := Nat.mul_le_mul_right 6 (show k + 1 ≤ n by omega); omega
  refine ⟨g, o, r.id, r.ten, r.line, r.wrt, r.dat, r.att, e, hg, ?_, ?_, ?_, ?_, ?_, ?_, hr⟩
  · have h1 := hc (k * 6 + 0) (by omega)
    rw [flat_get Req.cs_len hr (show 0 < 6 by omega), ← Nat.add_assoc] at h1
    exact h1
  · have h1 := hc (k * 6 + 1) (by omega)
    rw [flat_get Req.cs_len hr (show 1 < 6 by omega), ← Nat.add_assoc] at h1
    exact h1
  · have h1 := hc (k * 6 + 2) (by omega)
    rw [flat_get Req.cs_len hr (show 2 < 6 by omega), ← Nat.add_assoc] at h1
    exact h1
  · have h1 := hc (k * 6 + 3) (by omega)
    rw [flat_get Req.cs_len hr (show 3 < 6 by omega), ← Nat.add_assoc] at h1
    exact h1
  · have h1 := hc (k * 6 + 4) (by omega)
    rw [flat_get Req.cs_len hr (show 4 < 6 by omega), ← Nat.add_assoc] at h1
    exact h1
  · have h1 := hc (k * 6 + 5) (by omega)
    rw [flat_get Req.cs_len hr (show 5 < 6 by omega), ← Nat.add_assoc] at h1
    exact h1
end
/-- A slice of records in a row of the call's own. -/
def OwnReq (w : World) (lo hi : Nat) (A : Option Addr) (n c : Nat) (rs : List Req) : Prop := OwnG w lo hi 25 6 A n c (rs.flatMap Req.cs)
section
variable {w w' : World} {lo hi n c : Nat} {A : Option Addr} {rs : List Req}
theorem OwnReq.recs (h : OwnReq w lo hi A n c rs) : Reqs w A n rs := OwnG.cells h
theorem OwnReq.len (h : OwnReq w lo hi A n c rs) : rs.length = n := h.recs.len
theorem OwnReq.below (h : OwnReq w lo hi A n c rs) (hb : Below w.heap.size w w') : OwnReq w' lo hi A n c rs := OwnG.below h hb
theorem OwnReq.alloc (h : OwnReq w lo hi A n c rs) (o : Obj) : OwnReq (w.alloc o) lo hi A n c rs := OwnG.alloc h o
theorem OwnReq.drewN (h : OwnReq w lo hi A n c rs) (k : Nat) : OwnReq (w.drewN k) lo hi A n c rs := h
theorem OwnReq.chg {lo' hi' : Nat} (h : OwnReq w lo hi A n c rs) (hc : Chg lo' hi' w w') (hne : hi ≤ lo' ∨ hi' ≤ lo) : OwnReq w' lo hi A n c rs := OwnG.chg h hc hne
theorem OwnReq.mono {lo' hi' : Nat} (h : OwnReq w lo hi A n c rs) (h1 : lo' ≤ lo) (h2 : hi ≤ hi') : OwnReq w lo' hi' A n c rs := OwnG.mono h h1 h2
theorem OwnReq.setCell (h : OwnReq w lo hi A n c rs) (p : Addr) (u : Value) (hne : p.block < lo ∨ hi ≤ p.block) : OwnReq (w.setCell p u) lo hi A n c rs := OwnG.setCell h p u hne
theorem OwnReq.nil (w : World) (lo hi : Nat) (A : Option Addr) : OwnReq w lo hi A 0 0 [] := OwnG.nil _ _ _ _ _ _
end
/-- A new slice of records, in new memory; all that was there is as it was. -/
def NewReq (rs : List Req) (w : World) (e : Ending) (w' : World) : Prop :=
  ∃ A n c, e = .returned (.slice A n c) ∧ OwnReq w' w.heap.size w'.heap.size A n c rs ∧ Below w.heap.size w w'
/-- The same, with no bound above. -/
def RowReq (w : World) (lo : Nat) (A : Option Addr) (n c : Nat) (rs : List Req) : Prop := OwnV w lo 25 6 A n c (rs.flatMap Req.cs)
section
variable {w w' : World} {lo n c : Nat} {A : Option Addr} {rs : List Req}
theorem RowReq.recs (h : RowReq w lo A n c rs) : Reqs w A n rs := OwnV.cells h
theorem RowReq.len (h : RowReq w lo A n c rs) : rs.length = n := h.recs.len
theorem RowReq.below (h : RowReq w lo A n c rs) (hb : Below w.heap.size w w') : RowReq w' lo A n c rs := OwnV.below h hb
theorem RowReq.alloc (h : RowReq w lo A n c rs) (o : Obj) : RowReq (w.alloc o) lo A n c rs := OwnV.alloc h o
theorem RowReq.mono {lo' : Nat} (h : RowReq w lo A n c rs) (hl : lo' ≤ lo) : RowReq w lo' A n c rs := OwnV.mono h hl
theorem RowReq.lt (h : RowReq w lo A n c rs) : ∀ k, blk A c = some k → lo ≤ k ∧ k < w.heap.size := OwnV.lt h
theorem RowReq.nil (w : World) (lo : Nat) (A : Option Addr) : RowReq w lo A 0 0 [] := OwnV.nil _ _ _ _ _
theorem RowReq.own (h : RowReq w lo A n c rs) : OwnReq w lo w.heap.size A n c rs := OwnG.mk' h
end
theorem Req.one (rs : List Req) : ∀ u ∈ rs.flatMap Req.cs, u.oneCell' = true := by
  intro u hu
  rw [List.mem_flatMap] at hu
  obtain ⟨r, _, hu⟩ := hu
  unfold Req.cs at hu
  simp only [List.mem_cons, List.not_mem_nil, or_false] at hu
  rcases hu with hu | hu | hu | hu | hu | hu <;> (subst hu; rfl)
section
variable {P : Program} {w : World} {ops : Array Oper} {rest : List Oper} {o : Oper} {a : Act} {Q : Exit → Act → World → Prop}
/-- append(out, us...) -/
theorem wpList_appReq (hgd : o.guard = none) (s x : Operand) (t : TypeId) (ho : o.op = .call { callee := .builtin .append, args := #[s, x], argTypes := #[t, t] }) (ht : P.underlying t = some (.slice 25)) (hinf : (P.info? 25).map (fun i => (i.zero, i.size, i.bytes)) = some (some (.agg #[.int .i64 0, .int .i64 0, .int .i64 0, .bool false, .int .i64 0, .int .i64 0]), 6, 48))
    (A : Option Addr) (n c lo : Nat) (rs : List Req) (hs : a.eval s = .slice A n c) (hown : RowReq w lo A n c rs) (B : Option Addr) (k d : Nat) (us : List Req) (hx : a.eval x = .slice B k d) (hsrc : Reqs w B k us) (hlen : n + k ≤ 4194304) (hlo : lo ≤ w.heap.size)
    (h : ∀ A' c' w', RowReq w' lo A' (n + k) c' (rs ++ us) → w.grownBy w' (blk A c) → (blk A' c' = blk A c ∨ blk A' c' = some w.heap.size) → wpList P ops Q rest (a.put o.dst (.slice A' (n + k) c')) w') :
    wpList P ops Q (o :: rest) a w := by
  refine wpList_appG hgd s x t ho lo 25 _ 6 48 ht hinf rfl (by omega) A n c (rs.flatMap Req.cs) hs hown B k d (us.flatMap Req.cs) hx (Cells.src hsrc) (Req.one us) (by unfold maxLen; omega) (by omega) hlo ?_
  intro A' c' w' h2 h3 h4
  exact h A' c' w' (by unfold RowReq; rw [List.flatMap_append]; exact h2) h3 h4
/-- append(out, r) -/
theorem wpList_appReq1 (hgd : o.guard = none) (s x : Operand) (t : TypeId) (ho : o.op = .call { callee := .builtin .append, args := #[s, x], argTypes := #[t, t] }) (ht : P.underlying t = some (.slice 25)) (hinf : (P.info? 25).map (fun i => (i.zero, i.size, i.bytes)) = some (some (.agg #[.int .i64 0, .int .i64 0, .int .i64 0, .bool false, .int .i64 0, .int .i64 0]), 6, 48))
    (A : Option Addr) (n c lo : Nat) (rs : List Req) (hs : a.eval s = .slice A n c) (hown : RowReq w lo A n c rs) (g1 : Nat) (r : Req) (hx : a.eval x = .slice (some ⟨g1, 0, none⟩) 1 1) (hbox : Box w g1 25 #[.int .i64 r.id, .int .i64 r.ten, .int .i64 r.line, .bool r.wrt, .int .i64 r.dat, .int .i64 r.att]) (hlen : n + 1 ≤ 4194304) (hlo : lo ≤ w.heap.size)
    (h : ∀ A' c' w', RowReq w' lo A' (n + 1) c' (rs ++ [r]) → w.grownBy w' (blk A c) → (blk A' c' = blk A c ∨ blk A' c' = some w.heap.size) → wpList P ops Q rest (a.put o.dst (.slice A' (n + 1) c')) w') :
    wpList P ops Q (o :: rest) a w := by
  refine wpList_appG hgd s x t ho lo 25 _ 6 48 ht hinf rfl (by omega) A n c (rs.flatMap Req.cs) hs hown _ 1 1 r.cs hx (hbox.src rfl) (by have := Req.one [r]; rwa [List.flatMap_cons, List.flatMap_nil, List.append_nil] at this) (by unfold maxLen; omega) (by omega) hlo ?_
  intro A' c' w' h2 h3 h4
  exact h A' c' w' (by unfold RowReq; rw [List.flatMap_append, List.flatMap_cons, List.flatMap_nil, List.append_nil]; exact h2) h3 h4
/-- append(out, us...) inside a statement that leaves its order open. -/
theorem step_appReq {K : Act → World → Prop} {E : Prop} (hgd : o.guard = none) (s x : Operand) (t : TypeId) (ho : o.op = .call { callee := .builtin .append, args := #[s, x], argTypes := #[t, t] }) (ht : P.underlying t = some (.slice 25)) (hinf : (P.info? 25).map (fun i => (i.zero, i.size, i.bytes)) = some (some (.agg #[.int .i64 0, .int .i64 0, .int .i64 0, .bool false, .int .i64 0, .int .i64 0]), 6, 48))
    (A : Option Addr) (n c lo : Nat) (rs : List Req) (hs : a.eval s = .slice A n c) (hown : RowReq w lo A n c rs) (B : Option Addr) (k d : Nat) (us : List Req) (hx : a.eval x = .slice B k d) (hsrc : Reqs w B k us) (hlen : n + k ≤ 4194304) (hlo : lo ≤ w.heap.size)
    (h : ∀ A' c' w', RowReq w' lo A' (n + k) c' (rs ++ us) → w.grownBy w' (blk A c) → (blk A' c' = blk A c ∨ blk A' c' = some w.heap.size) → K (a.put o.dst (.slice A' (n + k) c')) w') :
    if Region.wanted o (yielded ops a.tmps) = true then Oper.wp P o a w K Q else E := by
  refine step_appG hgd s x t ho lo 25 _ 6 48 ht hinf rfl (by omega) A n c (rs.flatMap Req.cs) hs hown B k d (us.flatMap Req.cs) hx (Cells.src hsrc) (Req.one us) (by unfold maxLen; omega) (by omega) hlo ?_
  intro A' c' w' h2 h3 h4
  exact h A' c' w' (by unfold RowReq; rw [List.flatMap_append]; exact h2) h3 h4
theorem step_appReq1 {K : Act → World → Prop} {E : Prop} (hgd : o.guard = none) (s x : Operand) (t : TypeId) (ho : o.op = .call { callee := .builtin .append, args := #[s, x], argTypes := #[t, t] }) (ht : P.underlying t = some (.slice 25)) (hinf : (P.info? 25).map (fun i => (i.zero, i.size, i.bytes)) = some (some (.agg #[.int .i64 0, .int .i64 0, .int .i64 0, .bool false, .int .i64 0, .int .i64 0]), 6, 48))
    (A : Option Addr) (n c lo : Nat) (rs : List Req) (hs : a.eval s = .slice A n c) (hown : RowReq w lo A n c rs) (g1 : Nat) (r : Req) (hx : a.eval x = .slice (some ⟨g1, 0, none⟩) 1 1) (hbox : Box w g1 25 #[.int .i64 r.id, .int .i64 r.ten, .int .i64 r.line, .bool r.wrt, .int .i64 r.dat, .int .i64 r.att]) (hlen : n + 1 ≤ 4194304) (hlo : lo ≤ w.heap.size)
    (h : ∀ A' c' w', RowReq w' lo A' (n + 1) c' (rs ++ [r]) → w.grownBy w' (blk A c) → (blk A' c' = blk A c ∨ blk A' c' = some w.heap.size) → K (a.put o.dst (.slice A' (n + 1) c')) w') :
    if Region.wanted o (yielded ops a.tmps) = true then Oper.wp P o a w K Q else E := by
  refine step_appG hgd s x t ho lo 25 _ 6 48 ht hinf rfl (by omega) A n c (rs.flatMap Req.cs) hs hown _ 1 1 r.cs hx (hbox.src rfl) (by have := Req.one [r]; rwa [List.flatMap_cons, List.flatMap_nil, List.append_nil] at this) (by unfold maxLen; omega) (by omega) hlo ?_
  intro A' c' w' h2 h3 h4
  exact h A' c' w' (by unfold RowReq; rw [List.flatMap_append, List.flatMap_cons, List.flatMap_nil, List.append_nil]; exact h2) h3 h4
end
theorem Req.setAll {rs : List Req} {k : Nat} {r0 : Req} (h : rs[k]? = some r0) (r : Req) : ((((((rs.flatMap Req.cs).set (k * 6) (.int .i64 r.id)).set (k * 6 + 1) (.int .i64 r.ten)).set (k * 6 + 2) (.int .i64 r.line)).set (k * 6 + 3) (.bool r.wrt)).set (k * 6 + 4) (.int .i64 r.dat)).set (k * 6 + 5) (.int .i64 r.att) = (rs.set k r).flatMap Req.cs := by
  have hk := lt_of_get h
  have e : rs.flatMap Req.cs = (rs.take k).flatMap Req.cs ++ (r0.cs ++ (rs.drop (k + 1)).flatMap Req.cs) := by
    rw [← flat_set Req.cs_len hk r0]
    congr 1
    obtain ⟨_, rfl⟩ := List.getElem?_eq_some_iff.1 h
    rw [List.set_getElem_self]
  have hP : ((rs.take k).flatMap Req.cs).length = k * 6 := by rw [flat_len Req.cs_len, List.length_take]; congr 1; omega
  rw [flat_set Req.cs_len hk r, e]
  generalize (rs.take k).flatMap Req.cs = P at *
  generalize (rs.drop (k + 1)).flatMap Req.cs = S at *
  rw [List.set_append_right _ _ (by omega), hP, show k * 6 - k * 6 = 0 by omega]
  rw [List.set_append_right _ _ (by omega), hP, show k * 6 + 1 - k * 6 = 1 by omega]
  rw [List.set_append_right _ _ (by omega), hP, show k * 6 + 2 - k * 6 = 2 by omega]
  rw [List.set_append_right _ _ (by omega), hP, show k * 6 + 3 - k * 6 = 3 by omega]
  rw [List.set_append_right _ _ (by omega), hP, show k * 6 + 4 - k * 6 = 4 by omega]
  rw [List.set_append_right _ _ (by omega), hP, show k * 6 + 5 - k * 6 = 5 by omega]
  rfl
section
variable {w : World} {lo hi n c : Nat} {A : Option Addr} {rs : List Req}
theorem OwnReq.stored (h : OwnReq w lo hi A n c rs) {g : Nat} (hA : A = some ⟨g, 0, none⟩) {k : Nat} (hk : k < n) (r : Req) :
    OwnReq (((((((w).setCell ⟨g, k * 6, none⟩ (.int .i64 r.id)).setCell ⟨g, k * 6 + 1, none⟩ (.int .i64 r.ten)).setCell ⟨g, k * 6 + 2, none⟩ (.int .i64 r.line)).setCell ⟨g, k * 6 + 3, none⟩ (.bool r.wrt)).setCell ⟨g, k * 6 + 4, none⟩ (.int .i64 r.dat)).setCell ⟨g, k * 6 + 5, none⟩ (.int .i64 r.att)) lo hi A n c (rs.set k r) ∧ Chg lo hi w (((((((w).setCell ⟨g, k * 6, none⟩ (.int .i64 r.id)).setCell ⟨g, k * 6 + 1, none⟩ (.int .i64 r.ten)).setCell ⟨g, k * 6 + 2, none⟩ (.int .i64 r.line)).setCell ⟨g, k * 6 + 3, none⟩ (.bool r.wrt)).setCell ⟨g, k * 6 + 4, none⟩ (.int .i64 r.dat)).setCell ⟨g, k * 6 + 5, none⟩ (.int .i64 r.att)) := by
  have hl := h.len
  obtain ⟨r0, hr⟩ : ∃ r, rs[k]? = some r := ⟨_, List.getElem?_eq_getElem (by omega)⟩
  obtain ⟨s0, c0⟩ := OwnG.stored h hA (by omega) (k * 6) (.int .i64 r.id)
  obtain ⟨s1, c1⟩ := OwnG.stored s0 hA (by omega) (k * 6 + 1) (.int .i64 r.ten)
  obtain ⟨s2, c2⟩ := OwnG.stored s1 hA (by omega) (k * 6 + 2) (.int .i64 r.line)
  obtain ⟨s3, c3⟩ := OwnG.stored s2 hA (by omega) (k * 6 + 3) (.bool r.wrt)
  obtain ⟨s4, c4⟩ := OwnG.stored s3 hA (by omega) (k * 6 + 4) (.int .i64 r.dat)
  obtain ⟨s5, c5⟩ := OwnG.stored s4 hA (by omega) (k * 6 + 5) (.int .i64 r.att)
  rw [Req.setAll hr r] at s5
  exact ⟨s5, (((((c0.trans c1).trans c2).trans c3).trans c4).trans c5)⟩
theorem OwnReq.at_ (h : OwnReq w lo hi A n c rs) {k : Nat} (hk : k < n) : ∃ (g : Nat) (id : Int) (ten : Int) (line : Int) (wrt : Bool) (dat : Int) (att : Int), A = some ⟨g, 0, none⟩ ∧ lo ≤ g ∧ g < hi ∧ (∀ j, w.frozen? ⟨g, j, none⟩ = false) ∧ w.cell? ⟨g, k * 6, none⟩ = some (.int .i64 id) ∧ w.cell? ⟨g, k * 6 + 1, none⟩ = some (.int .i64 ten) ∧ w.cell? ⟨g, k * 6 + 2, none⟩ = some (.int .i64 line) ∧ w.cell? ⟨g, k * 6 + 3, none⟩ = some (.bool wrt) ∧ w.cell? ⟨g, k * 6 + 4, none⟩ = some (.int .i64 dat) ∧ w.cell? ⟨g, k * 6 + 5, none⟩ = some (.int .i64 att) ∧ Hid (rs[k]? = some ⟨id, ten, line, wrt, dat, att⟩) := by
  obtain ⟨_, g, e, h1, h2, h3⟩ := OwnG.form h (by omega)
  obtain ⟨g', o, id, ten, line, wrt, dat, att, e', -, q0, q1, q2, q3, q4, q5, hr⟩ := h.recs.at_ hk
  rw [e] at e'
  injection e' with e'
  injection e' with e1 e2
  subst e1 e2
  simp only [Nat.zero_add] at q0 q1 q2 q3 q4 q5
  exact ⟨g, id, ten, line, wrt, dat, att, e, h1, h2, fun j => OwnG.frozenAt h e (by omega) j, q0, q1, q2, q3, q4, q5, hr⟩
end

set_option maxHeartbeats 400000 in
theorem toRequest_h (id : Int) (ten : Int) (line : Int) (wrt : Bool) (dat : Int) (att : Int) (w : World) :
    Calls Try.prog 14 #[.agg #[.int .i64 id, .int .i64 ten, .int .i64 line, .bool wrt, .int .i64 dat, .int .i64 att]] w fun x w' => x = .returned (.agg #[.int .i64 id, .int .i64 ten, .int .i64 line, .bool wrt, .int .i64 dat, .int .i64 att]) ∧ Below w.heap.size w w' := by
  go_enter Try.func14, Try.ntmps14
  go_wp2
  exact bodyPost_ret (v := .agg #[.int .i64 id, .int .i64 ten, .int .i64 line, .bool wrt, .int .i64 dat, .int .i64 att]) (by simp [results, Try.results14, go_sem]) rfl ⟨rfl, (((Below.refl _ _).alloc (Nat.le_refl _) _).alloc (by simp) _).alloc (by simp; omega) _⟩

set_option maxHeartbeats 400000 in
theorem eqRequest_h (id : Int) (ten : Int) (line : Int) (wrt : Bool) (dat : Int) (att : Int) (w : World) :
    Calls Try.prog 49 #[.agg #[.int .i64 id, .int .i64 ten, .int .i64 line, .bool wrt, .int .i64 dat, .int .i64 att], .agg #[.int .i64 id, .int .i64 ten, .int .i64 line, .bool wrt, .int .i64 dat, .int .i64 att]] w fun x w' => x = .returned (.bool true) ∧ Below w.heap.size w w' := by
  have ne0 : (id != id) = false := by simp
  have ne1 : (ten != ten) = false := by simp
  have ne2 : (line != line) = false := by simp
  have ne3 : (wrt != wrt) = false := by simp
  have ne4 : (dat != dat) = false := by simp
  have ne5 : (att != att) = false := by simp
  go_enter Try.func49, Try.ntmps49
  go_wp2
  go_ret
  exact ⟨rfl, ((Below.refl _ _).alloc (Nat.le_refl _) _).alloc (by simp) _⟩

set_option maxHeartbeats 400000 in
theorem szRequestS_y (A : Option Addr) (n c : Nat) (left : Int) (w : World) (h1 : left ≤ 1048576) (hn : (n : Int) ≤ left) :
    Calls Try.prog 21 #[.slice A n c, .int .i64 left] w fun e w' => e = .returned (.int .i64 (left - n)) ∧ Below w.heap.size w w' := by
  go_enter Try.func21, Try.ntmps21
  go_wp2
  go_ret
  exact ⟨rfl, Below.refl _ _⟩
set_option maxHeartbeats 400000 in
theorem szRequestS_n (A : Option Addr) (n c : Nat) (left : Int) (w : World) (h0 : 0 ≤ left) (h1 : left ≤ 1048576) (hm : n ≤ maxLen) (hn : left < (n : Int)) :
    Calls Try.prog 21 #[.slice A n c, .int .i64 left] w fun e w' => e = .returned (.int .i64 (-1)) ∧ Below w.heap.size w w' := by
  unfold maxLen at hm
  go_enter Try.func21, Try.ntmps21
  go_wp2
  go_ret
  exact ⟨rfl, Below.refl _ _⟩

theorem infoReq : (Try.prog.info? 25).map (fun i => (i.zero, i.size, i.bytes)) = some (some (.agg #[.int .i64 0, .int .i64 0, .int .i64 0, .bool false, .int .i64 0, .int .i64 0]), 6, 48) := by kernel_rfl
theorem madeReq (m : Nat) : (madeCells (Value.agg #[.int .i64 0, .int .i64 0, .int .i64 0, .bool false, .int .i64 0, .int .i64 0]).cells (m * 6)).toList = (List.replicate m (⟨0, 0, 0, false, 0, 0⟩ : Req)).flatMap Req.cs :=
  made_flat (by omega) Req.cs_len ⟨0, 0, 0, false, 0, 0⟩ _ rfl m
set_option maxHeartbeats 1000000 in
theorem toRequestS_h (A : Option Addr) (n c : Nat) (rs : List Req) (w : World) (h : Reqs w A n rs) (hn : n ≤ 1048576) :
    Calls Try.prog 23 #[.slice A n c] w (NewReq rs w) := by
  obtain ⟨i0, hi0, hz0, hz1, hz2⟩ := info_parts infoReq
  have hl := Lib.hid h.len
  go_enter Try.func23, Try.ntmps23
  go_wp2_with (at_make; refine wpList_make_full _ rfl (.tmp 6) (.tmp 6) 38 rfl w.heap.size 25 i0 _ 6 Try.underlying38 hi0 hz0 hz1 .i64 .i64 n n n rfl rfl rfl rfl (by rw [hz2]; omega) (by unfold maxLen; omega) (Nat.le_refl _) ?_; intro w1 ho1 hg1)
  have o1 : OwnReq w1 w.heap.size w1.heap.size (some ⟨w.heap.size, 0, none⟩) n n (List.replicate n ⟨0, 0, 0, false, 0, 0⟩) := by
    rw [madeReq] at ho1
    exact OwnG.mk' (.inl ho1)
  have b1 : Below w.heap.size w w1 := (Below.refl _ _).grown hg1 (Nat.le_refl _) (by simp)
  clear ho1 hg1
  go_loopw [4] (fun i wr => ∃ k : Nat, k ≤ n ∧ i = .int .i64 k ∧ OwnReq wr w.heap.size w1.heap.size (some ⟨w.heap.size, 0, none⟩) n n (upTo rs (List.replicate n ⟨0, 0, 0, false, 0, 0⟩) k) ∧ Below w.heap.size w wr) (fun i _ => n - (intOf i).toNat)
  case atStart => exact ⟨0, Nat.zero_le _, rfl, by rw [upTo_zero]; exact o1, b1⟩
  case round =>
    obtain ⟨k, hk, rfl, ok, bk⟩ := hrel
    by_cases hlt : k < n
    · obtain ⟨g, o, id, ten, line, wrt, dat, att, rfl, hg, h0, h1, h2, h3, h4, h5, hr⟩ := (h.below bk).at_ hlt
      go_wp2_with fail
      refine (toRequest_h id ten line wrt dat att _).mono ?_
      rintro x w2 ⟨rfl, b2⟩
      replace ok := ok.below b2
      replace bk := bk.trans (b2.mono bk.size)
      obtain ⟨g2, y0, y1, y2, y3, y4, y5, e2, gl, gh, hf, z0, z1, z2, z3, z4, z5, hr2⟩ := ok.at_ hlt
      injection e2 with e2
      injection e2 with e2 _
      subst e2
      have HO := Lib.hid ok
      have HB := Lib.hid bk
      clear ok bk b2 h0 h1 h2 h3 h4 h5
      go_wp2
      go_roundw
      case rel =>
        refine ⟨k + 1, by omega, by go_num, ?_, ((((((HB.out.setCell (Nat.le_refl _) _).setCell (Nat.le_refl _) _).setCell (Nat.le_refl _) _).setCell (Nat.le_refl _) _).setCell (Nat.le_refl _) _).setCell (Nat.le_refl _) _)⟩
        have h1 := (HO.out.stored rfl hlt ⟨id, ten, line, wrt, dat, att⟩).1
        rw [upTo_set (by simp [hl.out]) hr.out] at h1
        exact h1
      case measure => simp [intOf]; omega
    · go_wp2
      go_ret
      rw [upTo_all (by rw [hl.out]; omega) (by simp; omega)] at ok
      exact ⟨_, _, _, rfl, OwnG.mk' ok.1, bk⟩

set_option maxHeartbeats 1000000 in
theorem eqRequestS_h (A : Option Addr) (n c : Nat) (B : Option Addr) (m d : Nat) (rs : List Req) (w : World) (h : Reqs w A n rs) (h' : Reqs w B m rs) (hn : n ≤ 1048576) :
    Calls Try.prog 25 #[.slice A n c, .slice B m d] w fun e w' => e = .returned (.bool true) ∧ Below w.heap.size w w' := by
  obtain rfl : n = m := h.len.symm.trans h'.len
  have hne : ((n : Int) != (n : Int)) = false := by simp
  go_enter Try.func25, Try.ntmps25
  go_wp2
  go_loopw [5] (fun i wr => ∃ k : Nat, k ≤ n ∧ i = .int .i64 k ∧ Below w.heap.size w wr) (fun i _ => n - (intOf i).toNat)
  case atStart => exact ⟨0, Nat.zero_le _, rfl, Below.refl _ _⟩
  case round =>
    obtain ⟨k, hk, rfl, bk⟩ := hrel
    by_cases hlt : k < n
    · obtain ⟨g, o, id, ten, line, wrt, dat, att, rfl, hg, h0, h1, h2, h3, h4, h5, hr⟩ := (h.below bk).at_ hlt
      obtain ⟨g', o', y0, y1, y2, y3, y4, y5, rfl, hg', z0, z1, z2, z3, z4, z5, hr'⟩ := (h'.below bk).at_ hlt
      have er := hr.out.symm.trans hr'.out
      injection er with er
      injection er with e0 e1 e2 e3 e4 e5
      subst e0 e1 e2 e3 e4 e5
      have i1 : (0 : Int) ≤ (k : Int) := by omega
      have i2 : (k : Int) < (n : Int) := by omega
      go_wp2
      go_region_held3 (fun W' => W'.cell? ⟨g, o + k * 6, none⟩ = some (.int .i64 id) ∧ W'.cell? ⟨g, o + k * 6 + 1, none⟩ = some (.int .i64 ten) ∧ W'.cell? ⟨g, o + k * 6 + 2, none⟩ = some (.int .i64 line) ∧ W'.cell? ⟨g, o + k * 6 + 3, none⟩ = some (.bool wrt) ∧ W'.cell? ⟨g, o + k * 6 + 4, none⟩ = some (.int .i64 dat) ∧ W'.cell? ⟨g, o + k * 6 + 5, none⟩ = some (.int .i64 att) ∧ W'.cell? ⟨g', o' + k * 6, none⟩ = some (.int .i64 id) ∧ W'.cell? ⟨g', o' + k * 6 + 1, none⟩ = some (.int .i64 ten) ∧ W'.cell? ⟨g', o' + k * 6 + 2, none⟩ = some (.int .i64 line) ∧ W'.cell? ⟨g', o' + k * 6 + 3, none⟩ = some (.bool wrt) ∧ W'.cell? ⟨g', o' + k * 6 + 4, none⟩ = some (.int .i64 dat) ∧ W'.cell? ⟨g', o' + k * 6 + 5, none⟩ = some (.int .i64 att)) (first | exact ⟨h0, h1, h2, h3, h4, h5, z0, z1, z2, z3, z4, z5⟩ | exact ⟨k0, k1, k2, k3, k4, k5, l0, l1, l2, l3, l4, l5⟩) ((go_at_call 49; refine (eqRequest_h id ten line wrt dat att _).mono ?_; rintro x w2 ⟨rfl, b2'⟩; have b2 : Below wr.heap.size wr w2 := ⟨b2'.os, b2'.tape, b2'.output, b2'.size, b2'.block⟩; have k0 := (b2.cell (p := ⟨g, o + k * 6, none⟩) hg).trans h0; have l0 := (b2.cell (p := ⟨g', o' + k * 6, none⟩) hg').trans z0; have k1 := (b2.cell (p := ⟨g, o + k * 6 + 1, none⟩) hg).trans h1; have l1 := (b2.cell (p := ⟨g', o' + k * 6 + 1, none⟩) hg').trans z1; have k2 := (b2.cell (p := ⟨g, o + k * 6 + 2, none⟩) hg).trans h2; have l2 := (b2.cell (p := ⟨g', o' + k * 6 + 2, none⟩) hg').trans z2; have k3 := (b2.cell (p := ⟨g, o + k * 6 + 3, none⟩) hg).trans h3; have l3 := (b2.cell (p := ⟨g', o' + k * 6 + 3, none⟩) hg').trans z3; have k4 := (b2.cell (p := ⟨g, o + k * 6 + 4, none⟩) hg).trans h4; have l4 := (b2.cell (p := ⟨g', o' + k * 6 + 4, none⟩) hg').trans z4; have k5 := (b2.cell (p := ⟨g, o + k * 6 + 5, none⟩) hg).trans h5; have l5 := (b2.cell (p := ⟨g', o' + k * 6 + 5, none⟩) hg').trans z5))
      clear b2' h0 h1 h2 h3 h4 h5 z0 z1 z2 z3 z4 z5 k0 k1 k2 k3 k4 k5 l0 l1 l2 l3 l4 l5
      go_wp2
      go_roundw
      case rel => exact ⟨k + 1, by omega, by go_num, bk.trans (b2.mono bk.size)⟩
      case measure => simp [intOf]; omega
    · go_wp2
      go_ret
      exact ⟨rfl, bk⟩

/-- The record that marks count from k on. -/
def markReq (k : Int) : Req := ⟨k, k + 1, k + 1 + 1, ((k + 1 + 1 + 1) % 3 == 0), k + 1 + 1 + 1 + 1, k + 1 + 1 + 1 + 1 + 1⟩
def marksReq (k : Int) (n : Nat) : List Req := (List.range n).map fun (i : Nat) => markReq (k + 6 * (i : Int))
theorem marksReq_len (k : Int) (n : Nat) : (marksReq k n).length = n := by simp [marksReq]
theorem marksReq_get (k : Int) {n i : Nat} (h : i < n) : (marksReq k n)[i]? = some (markReq (k + 6 * (i : Int))) := by simp [marksReq, h]
set_option maxHeartbeats 1000000 in
theorem markRequestS_h (A : Option Addr) (n c lo hi : Nat) (rs : List Req) (k : Int) (w : World) (h : OwnReq w lo hi A n c rs) (hn : n ≤ 1048576) (h0 : 0 ≤ k) (hk : k ≤ 100000000) :
    Calls Try.prog 32 #[.slice A n c, .int .i64 k] w fun e w' => e = .returned (.int .i64 (k + 6 * n)) ∧ OwnReq w' lo hi A n c (marksReq k n) ∧ Chg lo hi w w' := by
  have hl := Lib.hid h.len
  go_enter Try.func32, Try.ntmps32
  go_wp2
  go_loopw [1, 5] (fun q i wr => ∃ j : Nat, j ≤ n ∧ i = .int .i64 j ∧ q = .int .i64 (k + 6 * j) ∧ OwnReq wr lo hi A n c (upTo (marksReq k n) rs j) ∧ Chg lo hi w wr) (fun _ i _ => n - (intOf i).toNat)
  case atStart => exact ⟨0, Nat.zero_le _, rfl, by simp, by rw [upTo_zero]; exact h, Chg.refl _ _ _⟩
  case round =>
    obtain ⟨j, hj, rfl, rfl, oj, Cj⟩ := hrel
    by_cases hlt : j < n
    · obtain ⟨g, id, ten, line, wrt, dat, att, rfl, gl, gh, hf, h0, h1, h2, h3, h4, h5, hr⟩ := oj.at_ hlt
      have HO := Lib.hid oj
      have HC := Lib.hid Cj
      have HM := Lib.hid (marksReq_get k hlt)
      clear oj Cj
      go_wp2
      go_roundw
      case rel =>
        obtain ⟨s1, s2⟩ := HO.out.stored rfl hlt (markReq (k + 6 * (j : Int)))
        rw [upTo_set (by simp [hl.out, marksReq_len]) HM.out] at s1
        refine ⟨j + 1, by omega, by go_num, ?_, ?_, ?_⟩
        · congr 1; omega
        · exact s1
        · exact HC.out.trans s2
      case measure => simp [intOf]; omega
    · obtain rfl : n = j := by omega
      go_wp2
      go_ret
      rw [upTo_all (by rw [marksReq_len]; omega) (by rw [hl.out]; omega)] at oj
      exact ⟨rfl, oj, Cj⟩

set_option maxHeartbeats 1000000 in
theorem heldRequestS_h (A : Option Addr) (n c : Nat) (k : Int) (w : World) (h : Reqs w A n (marksReq k n)) (hn : n ≤ 1048576) (h0 : 0 ≤ k) (hk : k ≤ 100000000) :
    Calls Try.prog 33 #[.slice A n c, .int .i64 k] w fun e w' => e = .returned (.int .i64 (k + 6 * n)) ∧ Below w.heap.size w w' := by
  have bel : Below w.heap.size w w := Below.refl _ _
  go_enter Try.func33, Try.ntmps33
  go_wp2
  go_loop [1, 5] (fun q i => ∃ j : Nat, j ≤ n ∧ i = .int .i64 j ∧ q = .int .i64 (k + 6 * j)) (fun _ i => n - (intOf i).toNat)
  case atStart => exact ⟨0, Nat.zero_le _, rfl, by simp⟩
  case round =>
    obtain ⟨j, hj, rfl, rfl⟩ := hrel
    by_cases hlt : j < n
    · obtain ⟨g, o, id, ten, line, wrt, dat, att, rfl, hg, h0, h1, h2, h3, h4, h5, hr⟩ := h.at_ hlt
      have er := hr.out.symm.trans (marksReq_get k hlt)
      injection er with er
      unfold markReq at er
      injection er with e0 e1 e2 e3 e4 e5
      subst e0 e1 e2 e3 e4 e5
      have ne0 : ((k + 6 * (j : Int)) != (k + 6 * (j : Int))) = false := by simp
      have ne1 : ((k + 6 * (j : Int) + 1) != (k + 6 * (j : Int) + 1)) = false := by simp
      have ne2 : ((k + 6 * (j : Int) + 1 + 1) != (k + 6 * (j : Int) + 1 + 1)) = false := by simp
      have ne3 : (((k + 6 * (j : Int) + 1 + 1 + 1) % 3 == 0) != ((k + 6 * (j : Int) + 1 + 1 + 1) % 3 == 0)) = false := by simp
      have ne4 : ((k + 6 * (j : Int) + 1 + 1 + 1 + 1) != (k + 6 * (j : Int) + 1 + 1 + 1 + 1)) = false := by simp
      have ne5 : ((k + 6 * (j : Int) + 1 + 1 + 1 + 1 + 1) != (k + 6 * (j : Int) + 1 + 1 + 1 + 1 + 1)) = false := by simp
      go_wp2
      go_round
      case rel => exact ⟨j + 1, by omega, by go_num, by congr 1; omega⟩
      case measure => simp [intOf]; omega
    · obtain rfl : n = j := by omega
      go_wp2
      go_ret
      exact ⟨rfl, bel⟩

end Go.Proofs.Ytmkkimpljnmpoaa
