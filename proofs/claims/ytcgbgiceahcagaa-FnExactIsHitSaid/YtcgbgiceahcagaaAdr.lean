/-
  Records Addr: how they lie in memory, and the contracts of the laws' helpers on them.
-/
import Derived.Test.YtcgbgiceahcagaaCommon
import Derived.Test.YtcgbgiceahcagaaFlat
import Derived.Deep.RegionHeld3
namespace Go.Proofs.Ytcgbgiceahcagaa
open Go.RowKit
set_option linter.unusedSimpArgs false
set_option linter.unusedVariables false


/-- A record Addr. -/
structure Adr where
  bank : Int
  row : Int
  col : Int
deriving DecidableEq
def Adr.cs (r : Adr) : List Value := [.int .i64 r.bank, .int .i64 r.row, .int .i64 r.col]
theorem Adr.cs_len (r : Adr) : r.cs.length = 3 := rfl
/-- A slice of records that reads as the list rs. -/
def Adrs (w : World) (A : Option Addr) (n : Nat) (rs : List Adr) : Prop := Cells w 3 A n (rs.flatMap Adr.cs)
section
variable {w w' : World} {n : Nat} {A : Option Addr} {rs : List Adr}
theorem Adrs.len (h : Adrs w A n rs) : rs.length = n := by have := h.1; rw [flat_len Adr.cs_len] at this; omega
theorem Adrs.below (h : Adrs w A n rs) (hb : Below w.heap.size w w') : Adrs w' A n rs := Cells.below h hb
theorem Adrs.drewN (h : Adrs w A n rs) (k : Nat) : Adrs (w.drewN k) A n rs := h
theorem Adrs.take (h : Adrs w A n rs) {k : Nat} (hk : k ≤ n) : Adrs w A k (rs.take k) := by
  have := Cells.take h hk
  rw [flat_take Adr.cs_len] at this
  exact this
theorem Adrs.drop (h : Adrs w A n rs) {k : Nat} (hk : k ≤ n) {B : Option Addr} (hB : k < n → ∀ g o, A = some ⟨g, o, none⟩ → B = some ⟨g, o + k * 3, none⟩) : Adrs w B (n - k) (rs.drop k) := by
  have := Cells.drop h hk hB
  rw [flat_drop Adr.cs_len] at this
  exact this
theorem Adrs.at_ (h : Adrs w A n rs) {k : Nat} (hk : k < n) : ∃ (g o : Nat) (bank : Int) (row : Int) (col : Int), A = some ⟨g, o, none⟩ ∧ g < w.heap.size ∧ w.cell? ⟨g, o + k * 3, none⟩ = some (.int .i64 bank) ∧ w.cell? ⟨g, o + k * 3 + 1, none⟩ = some (.int .i64 row) ∧ w.cell? ⟨g, o + k * 3 + 2, none⟩ = some (.int .i64 col) ∧ Hid (rs[k]? = some ⟨bank, row, col⟩) := by
  have hl := h.len
  obtain ⟨g, o, e, hg, hc⟩ := h.2 (by omega)
  obtain ⟨r, hr⟩ : ∃ r, rs[k]? = some r := ⟨_, List.getElem?_eq_getElem (by omega)⟩
  have hle : k * 3 + 3 ≤ n * 3 := by have := Nat.mul_le_mul_right 3 (show k + 1 ≤ n by omega); omega
  refine ⟨g, o, r.bank, r.row, r.col, e, hg, ?_, ?_, ?_, hr⟩
  · have h1 := hc (k * 3 + 0) (by omega)
    rw [flat_get Adr.cs_len hr (show 0 < 3 by omega), ← Nat.add_assoc] at h1
    exact h1
  · have h1 := hc (k * 3 + 1) (by omega)
    rw [flat_get Adr.cs_len hr (show 1 < 3 by omega), ← Nat.add_assoc] at h1
    exact h1
  · have h1 := hc (k * 3 + 2) (by omega)
    rw [flat_get Adr.cs_len hr (show 2 < 3 by omega), ← Nat.add_assoc] at h1
    exact h1
end
/-- A slice of records in a row of the call's own. -/
def OwnAdr (w : World) (lo hi : Nat) (A : Option Addr) (n c : Nat) (rs : List Adr) : Prop := OwnG w lo hi 33 3 A n c (rs.flatMap Adr.cs)
section
variable {w w' : World} {lo hi n c : Nat} {A : Option Addr} {rs : List Adr}
theorem OwnAdr.recs (h : OwnAdr w lo hi A n c rs) : Adrs w A n rs := OwnG.cells h
theorem OwnAdr.len (h : OwnAdr w lo hi A n c rs) : rs.length = n := h.recs.len
theorem OwnAdr.below (h : OwnAdr w lo hi A n c rs) (hb : Below w.heap.size w w') : OwnAdr w' lo hi A n c rs := OwnG.below h hb
theorem OwnAdr.alloc (h : OwnAdr w lo hi A n c rs) (o : Obj) : OwnAdr (w.alloc o) lo hi A n c rs := OwnG.alloc h o
theorem OwnAdr.drewN (h : OwnAdr w lo hi A n c rs) (k : Nat) : OwnAdr (w.drewN k) lo hi A n c rs := h
theorem OwnAdr.chg {lo' hi' : Nat} (h : OwnAdr w lo hi A n c rs) (hc : Chg lo' hi' w w') (hne : hi ≤ lo' ∨ hi' ≤ lo) : OwnAdr w' lo hi A n c rs := OwnG.chg h hc hne
theorem OwnAdr.mono {lo' hi' : Nat} (h : OwnAdr w lo hi A n c rs) (h1 : lo' ≤ lo) (h2 : hi ≤ hi') : OwnAdr w lo' hi' A n c rs := OwnG.mono h h1 h2
theorem OwnAdr.setCell (h : OwnAdr w lo hi A n c rs) (p : Addr) (u : Value) (hne : p.block < lo ∨ hi ≤ p.block) : OwnAdr (w.setCell p u) lo hi A n c rs := OwnG.setCell h p u hne
theorem OwnAdr.nil (w : World) (lo hi : Nat) (A : Option Addr) : OwnAdr w lo hi A 0 0 [] := OwnG.nil _ _ _ _ _ _
end
/-- A new slice of records, in new memory; all that was there is as it was. -/
def NewAdr (rs : List Adr) (w : World) (e : Ending) (w' : World) : Prop :=
  ∃ A n c, e = .returned (.slice A n c) ∧ OwnAdr w' w.heap.size w'.heap.size A n c rs ∧ Below w.heap.size w w'
/-- The same, with no bound above. -/
def RowAdr (w : World) (lo : Nat) (A : Option Addr) (n c : Nat) (rs : List Adr) : Prop := OwnV w lo 33 3 A n c (rs.flatMap Adr.cs)
section
variable {w w' : World} {lo n c : Nat} {A : Option Addr} {rs : List Adr}
theorem RowAdr.recs (h : RowAdr w lo A n c rs) : Adrs w A n rs := OwnV.cells h
theorem RowAdr.len (h : RowAdr w lo A n c rs) : rs.length = n := h.recs.len
theorem RowAdr.below (h : RowAdr w lo A n c rs) (hb : Below w.heap.size w w') : RowAdr w' lo A n c rs := OwnV.below h hb
theorem RowAdr.alloc (h : RowAdr w lo A n c rs) (o : Obj) : RowAdr (w.alloc o) lo A n c rs := OwnV.alloc h o
theorem RowAdr.mono {lo' : Nat} (h : RowAdr w lo A n c rs) (hl : lo' ≤ lo) : RowAdr w lo' A n c rs := OwnV.mono h hl
theorem RowAdr.lt (h : RowAdr w lo A n c rs) : ∀ k, blk A c = some k → lo ≤ k ∧ k < w.heap.size := OwnV.lt h
theorem RowAdr.nil (w : World) (lo : Nat) (A : Option Addr) : RowAdr w lo A 0 0 [] := OwnV.nil _ _ _ _ _
theorem RowAdr.own (h : RowAdr w lo A n c rs) : OwnAdr w lo w.heap.size A n c rs := OwnG.mk' h
end
theorem Adr.one (rs : List Adr) : ∀ u ∈ rs.flatMap Adr.cs, u.oneCell' = true := by
  intro u hu
  rw [List.mem_flatMap] at hu
  obtain ⟨r, _, hu⟩ := hu
  unfold Adr.cs at hu
  simp only [List.mem_cons, List.not_mem_nil, or_false] at hu
  rcases hu with hu | hu | hu <;> (subst hu; rfl)
section
variable {P : Program} {w : World} {ops : Array Oper} {rest : List Oper} {o : Oper} {a : Act} {Q : Exit → Act → World → Prop}
/-- append(out, us...) -/
theorem wpList_appAdr (hgd : o.guard = none) (s x : Operand) (t : TypeId) (ho : o.op = .call { callee := .builtin .append, args := #[s, x], argTypes := #[t, t] }) (ht : P.underlying t = some (.slice 33)) (hinf : (P.info? 33).map (fun i => (i.zero, i.size, i.bytes)) = some (some (.agg #[.int .i64 0, .int .i64 0, .int .i64 0]), 3, 24))
    (A : Option Addr) (n c lo : Nat) (rs : List Adr) (hs : a.eval s = .slice A n c) (hown : RowAdr w lo A n c rs) (B : Option Addr) (k d : Nat) (us : List Adr) (hx : a.eval x = .slice B k d) (hsrc : Adrs w B k us) (hlen : n + k ≤ 4194304) (hlo : lo ≤ w.heap.size)
    (h : ∀ A' c' w', RowAdr w' lo A' (n + k) c' (rs ++ us) → w.grownBy w' (blk A c) → (blk A' c' = blk A c ∨ blk A' c' = some w.heap.size) → wpList P ops Q rest (a.put o.dst (.slice A' (n + k) c')) w') :
    wpList P ops Q (o :: rest) a w := by
  refine wpList_appG hgd s x t ho lo 33 _ 3 24 ht hinf rfl (by omega) A n c (rs.flatMap Adr.cs) hs hown B k d (us.flatMap Adr.cs) hx (Cells.src hsrc) (Adr.one us) (by unfold maxLen; omega) (by omega) hlo ?_
  intro A' c' w' h2 h3 h4
  exact h A' c' w' (by unfold RowAdr; rw [List.flatMap_append]; exact h2) h3 h4
/-- append(out, r) -/
theorem wpList_appAdr1 (hgd : o.guard = none) (s x : Operand) (t : TypeId) (ho : o.op = .call { callee := .builtin .append, args := #[s, x], argTypes := #[t, t] }) (ht : P.underlying t = some (.slice 33)) (hinf : (P.info? 33).map (fun i => (i.zero, i.size, i.bytes)) = some (some (.agg #[.int .i64 0, .int .i64 0, .int .i64 0]), 3, 24))
    (A : Option Addr) (n c lo : Nat) (rs : List Adr) (hs : a.eval s = .slice A n c) (hown : RowAdr w lo A n c rs) (g1 : Nat) (r : Adr) (hx : a.eval x = .slice (some ⟨g1, 0, none⟩) 1 1) (hbox : Box w g1 33 #[.int .i64 r.bank, .int .i64 r.row, .int .i64 r.col]) (hlen : n + 1 ≤ 4194304) (hlo : lo ≤ w.heap.size)
    (h : ∀ A' c' w', RowAdr w' lo A' (n + 1) c' (rs ++ [r]) → w.grownBy w' (blk A c) → (blk A' c' = blk A c ∨ blk A' c' = some w.heap.size) → wpList P ops Q rest (a.put o.dst (.slice A' (n + 1) c')) w') :
    wpList P ops Q (o :: rest) a w := by
  refine wpList_appG hgd s x t ho lo 33 _ 3 24 ht hinf rfl (by omega) A n c (rs.flatMap Adr.cs) hs hown _ 1 1 r.cs hx (hbox.src rfl) (by have := Adr.one [r]; rwa [List.flatMap_cons, List.flatMap_nil, List.append_nil] at this) (by unfold maxLen; omega) (by omega) hlo ?_
  intro A' c' w' h2 h3 h4
  exact h A' c' w' (by unfold RowAdr; rw [List.flatMap_append, List.flatMap_cons, List.flatMap_nil, List.append_nil]; exact h2) h3 h4
/-- append(out, us...) inside a statement that leaves its order open. -/
theorem step_appAdr {K : Act → World → Prop} {E : Prop} (hgd : o.guard = none) (s x : Operand) (t : TypeId) (ho : o.op = .call { callee := .builtin .append, args := #[s, x], argTypes := #[t, t] }) (ht : P.underlying t = some (.slice 33)) (hinf : (P.info? 33).map (fun i => (i.zero, i.size, i.bytes)) = some (some (.agg #[.int .i64 0, .int .i64 0, .int .i64 0]), 3, 24))
    (A : Option Addr) (n c lo : Nat) (rs : List Adr) (hs : a.eval s = .slice A n c) (hown : RowAdr w lo A n c rs) (B : Option Addr) (k d : Nat) (us : List Adr) (hx : a.eval x = .slice B k d) (hsrc : Adrs w B k us) (hlen : n + k ≤ 4194304) (hlo : lo ≤ w.heap.size)
    (h : ∀ A' c' w', RowAdr w' lo A' (n + k) c' (rs ++ us) → w.grownBy w' (blk A c) → (blk A' c' = blk A c ∨ blk A' c' = some w.heap.size) → K (a.put o.dst (.slice A' (n + k) c')) w') :
    if Region.wanted o (yielded ops a.tmps) = true then Oper.wp P o a w K Q else E := by
  refine step_appG hgd s x t ho lo 33 _ 3 24 ht hinf rfl (by omega) A n c (rs.flatMap Adr.cs) hs hown B k d (us.flatMap Adr.cs) hx (Cells.src hsrc) (Adr.one us) (by unfold maxLen; omega) (by omega) hlo ?_
  intro A' c' w' h2 h3 h4
  exact h A' c' w' (by unfold RowAdr; rw [List.flatMap_append]; exact h2) h3 h4
theorem step_appAdr1 {K : Act → World → Prop} {E : Prop} (hgd : o.guard = none) (s x : Operand) (t : TypeId) (ho : o.op = .call { callee := .builtin .append, args := #[s, x], argTypes := #[t, t] }) (ht : P.underlying t = some (.slice 33)) (hinf : (P.info? 33).map (fun i => (i.zero, i.size, i.bytes)) = some (some (.agg #[.int .i64 0, .int .i64 0, .int .i64 0]), 3, 24))
    (A : Option Addr) (n c lo : Nat) (rs : List Adr) (hs : a.eval s = .slice A n c) (hown : RowAdr w lo A n c rs) (g1 : Nat) (r : Adr) (hx : a.eval x = .slice (some ⟨g1, 0, none⟩) 1 1) (hbox : Box w g1 33 #[.int .i64 r.bank, .int .i64 r.row, .int .i64 r.col]) (hlen : n + 1 ≤ 4194304) (hlo : lo ≤ w.heap.size)
    (h : ∀ A' c' w', RowAdr w' lo A' (n + 1) c' (rs ++ [r]) → w.grownBy w' (blk A c) → (blk A' c' = blk A c ∨ blk A' c' = some w.heap.size) → K (a.put o.dst (.slice A' (n + 1) c')) w') :
    if Region.wanted o (yielded ops a.tmps) = true then Oper.wp P o a w K Q else E := by
  refine step_appG hgd s x t ho lo 33 _ 3 24 ht hinf rfl (by omega) A n c (rs.flatMap Adr.cs) hs hown _ 1 1 r.cs hx (hbox.src rfl) (by have := Adr.one [r]; rwa [List.flatMap_cons, List.flatMap_nil, List.append_nil] at this) (by unfold maxLen; omega) (by omega) hlo ?_
  intro A' c' w' h2 h3 h4
  exact h A' c' w' (by unfold RowAdr; rw [List.flatMap_append, List.flatMap_cons, List.flatMap_nil, List.append_nil]; exact h2) h3 h4
end
theorem Adr.setAll {rs : List Adr} {k : Nat} {r0 : Adr} (h : rs[k]? = some r0) (r : Adr) : (((rs.flatMap Adr.cs).set (k * 3) (.int .i64 r.bank)).set (k * 3 + 1) (.int .i64 r.row)).set (k * 3 + 2) (.int .i64 r.col) = (rs.set k r).flatMap Adr.cs := by
  have hk := lt_of_get h
  have e : rs.flatMap Adr.cs = (rs.take k).flatMap Adr.cs ++ (r0.cs ++ (rs.drop (k + 1)).flatMap Adr.cs) := by
    rw [← flat_set Adr.cs_len hk r0]
    congr 1
    obtain ⟨_, rfl⟩ := List.getElem?_eq_some_iff.1 h
    rw [List.set_getElem_self]
  have hP : ((rs.take k).flatMap Adr.cs).length = k * 3 := by rw [flat_len Adr.cs_len, List.length_take]; congr 1; omega
  rw [flat_set Adr.cs_len hk r, e]
  generalize (rs.take k).flatMap Adr.cs = P at *
  generalize (rs.drop (k + 1)).flatMap Adr.cs = S at *
  rw [List.set_append_right _ _ (by omega), hP, show k * 3 - k * 3 = 0 by omega]
  rw [List.set_append_right _ _ (by omega), hP, show k * 3 + 1 - k * 3 = 1 by omega]
  rw [List.set_append_right _ _ (by omega), hP, show k * 3 + 2 - k * 3 = 2 by omega]
  rfl
section
variable {w : World} {lo hi n c : Nat} {A : Option Addr} {rs : List Adr}
theorem OwnAdr.stored (h : OwnAdr w lo hi A n c rs) {g : Nat} (hA : A = some ⟨g, 0, none⟩) {k : Nat} (hk : k < n) (r : Adr) :
    OwnAdr ((((w).setCell ⟨g, k * 3, none⟩ (.int .i64 r.bank)).setCell ⟨g, k * 3 + 1, none⟩ (.int .i64 r.row)).setCell ⟨g, k * 3 + 2, none⟩ (.int .i64 r.col)) lo hi A n c (rs.set k r) ∧ Chg lo hi w ((((w).setCell ⟨g, k * 3, none⟩ (.int .i64 r.bank)).setCell ⟨g, k * 3 + 1, none⟩ (.int .i64 r.row)).setCell ⟨g, k * 3 + 2, none⟩ (.int .i64 r.col)) := by
  have hl := h.len
  obtain ⟨r0, hr⟩ : ∃ r, rs[k]? = some r := ⟨_, List.getElem?_eq_getElem (by omega)⟩
  obtain ⟨s0, c0⟩ := OwnG.stored h hA (by omega) (k * 3) (.int .i64 r.bank)
  obtain ⟨s1, c1⟩ := OwnG.stored s0 hA (by omega) (k * 3 + 1) (.int .i64 r.row)
  obtain ⟨s2, c2⟩ := OwnG.stored s1 hA (by omega) (k * 3 + 2) (.int .i64 r.col)
  rw [Adr.setAll hr r] at s2
  exact ⟨s2, ((c0.trans c1).trans c2)⟩
theorem OwnAdr.at_ (h : OwnAdr w lo hi A n c rs) {k : Nat} (hk : k < n) : ∃ (g : Nat) (bank : Int) (row : Int) (col : Int), A = some ⟨g, 0, none⟩ ∧ lo ≤ g ∧ g < hi ∧ (∀ j, w.frozen? ⟨g, j, none⟩ = false) ∧ w.cell? ⟨g, k * 3, none⟩ = some (.int .i64 bank) ∧ w.cell? ⟨g, k * 3 + 1, none⟩ = some (.int .i64 row) ∧ w.cell? ⟨g, k * 3 + 2, none⟩ = some (.int .i64 col) ∧ Hid (rs[k]? = some ⟨bank, row, col⟩) := by
  obtain ⟨_, g, e, h1, h2, h3⟩ := OwnG.form h (by omega)
  obtain ⟨g', o, bank, row, col, e', -, q0, q1, q2, hr⟩ := h.recs.at_ hk
  rw [e] at e'
  injection e' with e'
  injection e' with e1 e2
  subst e1 e2
  simp only [Nat.zero_add] at q0 q1 q2
  exact ⟨g, bank, row, col, e, h1, h2, fun j => OwnG.frozenAt h e (by omega) j, q0, q1, q2, hr⟩
end

set_option maxHeartbeats 400000 in
theorem toAddr_h (bank : Int) (row : Int) (col : Int) (w : World) :
    Calls Try.prog 11 #[.agg #[.int .i64 bank, .int .i64 row, .int .i64 col]] w fun x w' => x = .returned (.agg #[.int .i64 bank, .int .i64 row, .int .i64 col]) ∧ Below w.heap.size w w' := by
  go_enter Try.func11, Try.ntmps11
  go_wp2
  exact bodyPost_ret (v := .agg #[.int .i64 bank, .int .i64 row, .int .i64 col]) (by simp [results, Try.results11, go_sem]) rfl ⟨rfl, (((Below.refl _ _).alloc (Nat.le_refl _) _).alloc (by simp) _).alloc (by simp; omega) _⟩

set_option maxHeartbeats 400000 in
theorem eqAddr_h (bank : Int) (row : Int) (col : Int) (w : World) :
    Calls Try.prog 38 #[.agg #[.int .i64 bank, .int .i64 row, .int .i64 col], .agg #[.int .i64 bank, .int .i64 row, .int .i64 col]] w fun x w' => x = .returned (.bool true) ∧ Below w.heap.size w w' := by
  have ne0 : (bank != bank) = false := by simp
  have ne1 : (row != row) = false := by simp
  have ne2 : (col != col) = false := by simp
  go_enter Try.func38, Try.ntmps38
  go_wp2
  go_ret
  exact ⟨rfl, ((Below.refl _ _).alloc (Nat.le_refl _) _).alloc (by simp) _⟩

set_option maxHeartbeats 400000 in
theorem szAddrS_y (A : Option Addr) (n c : Nat) (left : Int) (w : World) (h1 : left ≤ 1048576) (hn : (n : Int) ≤ left) :
    Calls Try.prog 17 #[.slice A n c, .int .i64 left] w fun e w' => e = .returned (.int .i64 (left - n)) ∧ Below w.heap.size w w' := by
  go_enter Try.func17, Try.ntmps17
  go_wp2
  go_ret
  exact ⟨rfl, Below.refl _ _⟩
set_option maxHeartbeats 400000 in
theorem szAddrS_n (A : Option Addr) (n c : Nat) (left : Int) (w : World) (h0 : 0 ≤ left) (h1 : left ≤ 1048576) (hm : n ≤ maxLen) (hn : left < (n : Int)) :
    Calls Try.prog 17 #[.slice A n c, .int .i64 left] w fun e w' => e = .returned (.int .i64 (-1)) ∧ Below w.heap.size w w' := by
  unfold maxLen at hm
  go_enter Try.func17, Try.ntmps17
  go_wp2
  go_ret
  exact ⟨rfl, Below.refl _ _⟩

theorem infoAdr : (Try.prog.info? 33).map (fun i => (i.zero, i.size, i.bytes)) = some (some (.agg #[.int .i64 0, .int .i64 0, .int .i64 0]), 3, 24) := by kernel_rfl
theorem madeAdr (m : Nat) : (madeCells (Value.agg #[.int .i64 0, .int .i64 0, .int .i64 0]).cells (m * 3)).toList = (List.replicate m (⟨0, 0, 0⟩ : Adr)).flatMap Adr.cs :=
  made_flat (by omega) Adr.cs_len ⟨0, 0, 0⟩ _ rfl m
set_option maxHeartbeats 1000000 in
theorem toAddrS_h (A : Option Addr) (n c : Nat) (rs : List Adr) (w : World) (h : Adrs w A n rs) (hn : n ≤ 1048576) :
    Calls Try.prog 19 #[.slice A n c] w (NewAdr rs w) := by
  obtain ⟨i0, hi0, hz0, hz1, hz2⟩ := info_parts infoAdr
  have hl := Lib.hid h.len
  go_enter Try.func19, Try.ntmps19
  go_wp2_with (at_make; refine wpList_make_full _ rfl (.tmp 6) (.tmp 6) 45 rfl w.heap.size 33 i0 _ 3 Try.underlying45 hi0 hz0 hz1 .i64 .i64 n n n rfl rfl rfl rfl (by rw [hz2]; omega) (by unfold maxLen; omega) (Nat.le_refl _) ?_; intro w1 ho1 hg1)
  have o1 : OwnAdr w1 w.heap.size w1.heap.size (some ⟨w.heap.size, 0, none⟩) n n (List.replicate n ⟨0, 0, 0⟩) := by
    rw [madeAdr] at ho1
    exact OwnG.mk' (.inl ho1)
  have b1 : Below w.heap.size w w1 := (Below.refl _ _).grown hg1 (Nat.le_refl _) (by simp)
  clear ho1 hg1
  go_loopw [4] (fun i wr => ∃ k : Nat, k ≤ n ∧ i = .int .i64 k ∧ OwnAdr wr w.heap.size w1.heap.size (some ⟨w.heap.size, 0, none⟩) n n (upTo rs (List.replicate n ⟨0, 0, 0⟩) k) ∧ Below w.heap.size w wr) (fun i _ => n - (intOf i).toNat)
  case atStart => exact ⟨0, Nat.zero_le _, rfl, by rw [upTo_zero]; exact o1, b1⟩
  case round =>
    obtain ⟨k, hk, rfl, ok, bk⟩ := hrel
    by_cases hlt : k < n
    · obtain ⟨g, o, bank, row, col, rfl, hg, h0, h1, h2, hr⟩ := (h.below bk).at_ hlt
      go_wp2_with fail
      refine (toAddr_h bank row col _).mono ?_
      rintro x w2 ⟨rfl, b2⟩
      replace ok := ok.below b2
      replace bk := bk.trans (b2.mono bk.size)
      obtain ⟨g2, y0, y1, y2, e2, gl, gh, hf, z0, z1, z2, hr2⟩ := ok.at_ hlt
      injection e2 with e2
      injection e2 with e2 _
      subst e2
      have HO := Lib.hid ok
      have HB := Lib.hid bk
      clear ok bk b2 h0 h1 h2
      go_wp2
      go_roundw
      case rel =>
        refine ⟨k + 1, by omega, by go_num, ?_, (((HB.out.setCell (Nat.le_refl _) _).setCell (Nat.le_refl _) _).setCell (Nat.le_refl _) _)⟩
        have h1 := (HO.out.stored rfl hlt ⟨bank, row, col⟩).1
        rw [upTo_set (by simp [hl.out]) hr.out] at h1
        exact h1
      case measure => simp [intOf]; omega
    · go_wp2
      go_ret
      rw [upTo_all (by rw [hl.out]; omega) (by simp; omega)] at ok
      exact ⟨_, _, _, rfl, OwnG.mk' ok.1, bk⟩

set_option maxHeartbeats 1000000 in
theorem eqAddrS_h (A : Option Addr) (n c : Nat) (B : Option Addr) (m d : Nat) (rs : List Adr) (w : World) (h : Adrs w A n rs) (h' : Adrs w B m rs) (hn : n ≤ 1048576) :
    Calls Try.prog 21 #[.slice A n c, .slice B m d] w fun e w' => e = .returned (.bool true) ∧ Below w.heap.size w w' := by
  obtain rfl : n = m := h.len.symm.trans h'.len
  have hne : ((n : Int) != (n : Int)) = false := by simp
  go_enter Try.func21, Try.ntmps21
  go_wp2
  go_loopw [5] (fun i wr => ∃ k : Nat, k ≤ n ∧ i = .int .i64 k ∧ Below w.heap.size w wr) (fun i _ => n - (intOf i).toNat)
  case atStart => exact ⟨0, Nat.zero_le _, rfl, Below.refl _ _⟩
  case round =>
    obtain ⟨k, hk, rfl, bk⟩ := hrel
    by_cases hlt : k < n
    · obtain ⟨g, o, bank, row, col, rfl, hg, h0, h1, h2, hr⟩ := (h.below bk).at_ hlt
      obtain ⟨g', o', y0, y1, y2, rfl, hg', z0, z1, z2, hr'⟩ := (h'.below bk).at_ hlt
      have er := hr.out.symm.trans hr'.out
      injection er with er
      injection er with e0 e1 e2
      subst e0 e1 e2
      have i1 : (0 : Int) ≤ (k : Int) := by omega
      have i2 : (k : Int) < (n : Int) := by omega
      go_wp2
      go_region_held3 (fun W' => W'.cell? ⟨g, o + k * 3, none⟩ = some (.int .i64 bank) ∧ W'.cell? ⟨g, o + k * 3 + 1, none⟩ = some (.int .i64 row) ∧ W'.cell? ⟨g, o + k * 3 + 2, none⟩ = some (.int .i64 col) ∧ W'.cell? ⟨g', o' + k * 3, none⟩ = some (.int .i64 bank) ∧ W'.cell? ⟨g', o' + k * 3 + 1, none⟩ = some (.int .i64 row) ∧ W'.cell? ⟨g', o' + k * 3 + 2, none⟩ = some (.int .i64 col)) (first | exact ⟨h0, h1, h2, z0, z1, z2⟩ | exact ⟨k0, k1, k2, l0, l1, l2⟩) ((go_at_call 38; refine (eqAddr_h bank row col _).mono ?_; rintro x w2 ⟨rfl, b2'⟩; have b2 : Below wr.heap.size wr w2 := ⟨b2'.os, b2'.tape, b2'.output, b2'.size, b2'.block⟩; have k0 := (b2.cell (p := ⟨g, o + k * 3, none⟩) hg).trans h0; have l0 := (b2.cell (p := ⟨g', o' + k * 3, none⟩) hg').trans z0; have k1 := (b2.cell (p := ⟨g, o + k * 3 + 1, none⟩) hg).trans h1; have l1 := (b2.cell (p := ⟨g', o' + k * 3 + 1, none⟩) hg').trans z1; have k2 := (b2.cell (p := ⟨g, o + k * 3 + 2, none⟩) hg).trans h2; have l2 := (b2.cell (p := ⟨g', o' + k * 3 + 2, none⟩) hg').trans z2))
      clear b2' h0 h1 h2 z0 z1 z2 k0 k1 k2 l0 l1 l2
      go_wp2
      go_roundw
      case rel => exact ⟨k + 1, by omega, by go_num, bk.trans (b2.mono bk.size)⟩
      case measure => simp [intOf]; omega
    · go_wp2
      go_ret
      exact ⟨rfl, bk⟩

end Go.Proofs.Ytcgbgiceahcagaa
