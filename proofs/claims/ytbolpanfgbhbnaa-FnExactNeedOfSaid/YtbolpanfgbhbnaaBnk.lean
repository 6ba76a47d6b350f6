/-
  Records Bank: how they lie in memory, and the contracts of the laws' helpers on them.
-/
import Derived.Test.YtbolpanfgbhbnaaCommon
import Derived.Test.YtbolpanfgbhbnaaFlat
import Derived.Deep.RegionHeld3
namespace Go.Proofs.Ytbolpanfgbhbnaa
open Go.RowKit
set_option linter.unusedSimpArgs false
set_option linter.unusedVariables false


/-- A record Bank. -/
structure Bnk where
  opn : Bool
  row : Int
deriving DecidableEq
def Bnk.cs (r : Bnk) : List Value := [.bool r.opn, .int .i64 r.row]
theorem Bnk.cs_len (r : Bnk) : r.cs.length = 2 := rfl
/-- A slice of records that reads as the list rs. -/
def Bnks (w : World) (A : Option Addr) (n : Nat) (rs : List Bnk) : Prop := Cells w 2 A n (rs.flatMap Bnk.cs)
section
variable {w w' : World} {n : Nat} {A : Option Addr} {rs : List Bnk}
theorem Bnks.len (h : Bnks w A n rs) : rs.length = n := by have := h.1; rw [flat_len Bnk.cs_len] at this; omega
theorem Bnks.below (h : Bnks w A n rs) (hb : Below w.heap.size w w') : Bnks w' A n rs := Cells.below h hb
theorem Bnks.drewN (h : Bnks w A n rs) (k : Nat) : Bnks (w.drewN k) A n rs := h
theorem Bnks.take (h : Bnks w A n rs) {k : Nat} (hk : k ≤ n) : Bnks w A k (rs.take k) := by
  have := Cells.take h hk
  rw [flat_take Bnk.cs_len] at this
  exact this
theorem Bnks.drop (h : Bnks w A n rs) {k : Nat} (hk : k ≤ n) {B : Option Addr} (hB : k < n → ∀ g o, A = some ⟨g, o, none⟩ → B = some ⟨g, o + k * 2, none⟩) : Bnks w B (n - k) (rs.drop k) := by
  have := Cells.drop h hk hB
  rw [flat_drop Bnk.cs_len] at this
  exact this
theorem Bnks.at_ (h : Bnks w A n rs) {k : Nat} (hk : k < n) : ∃ (g o : Nat) (opn : Bool) (row : Int), A = some ⟨g, o, none⟩ ∧ g < w.heap.size ∧ w.cell? ⟨g, o + k * 2, none⟩ = some (.bool opn) ∧ w.cell? ⟨g, o + k * 2 + 1, none⟩ = some (.int .i64 row) ∧ Hid (rs[k]? = some ⟨opn, row⟩) := by
  have hl := h.len
  obtain ⟨g, o, e, hg, hc⟩ := h.2 (by omega)
  obtain ⟨r, hr⟩ : ∃ r, rs[k]? = some r := ⟨_, List.getElem?_eq_getElem (by omega)⟩
  have hle : k * 2 + 2 ≤ n * 2 := by have := Nat.mul_le_mul_right 2 (show k + 1 ≤ n by omega); omega
  refine ⟨g, o, r.opn, r.row, e, hg, ?_, ?_, hr⟩
  · have h1 := hc (k * 2 + 0) (by omega)
    rw [flat_get Bnk.cs_len hr (show 0 < 2 by omega), ← Nat.add_assoc] at h1
    exact h1
  · have h1 := hc (k * 2 + 1) (by omega)
    rw [flat_get Bnk.cs_len hr (show 1 < 2 by omega), ← Nat.add_assoc] at h1
    exact h1
end
/-- A slice of records in a row of the call's own. -/
def OwnBnk (w : World) (lo hi : Nat) (A : Option Addr) (n c : Nat) (rs : List Bnk) : Prop := OwnG w lo hi 66 2 A n c (rs.flatMap Bnk.cs)
section
variable {w w' : World} {lo hi n c : Nat} {A : Option Addr} {rs : List Bnk}
theorem OwnBnk.recs (h : OwnBnk w lo hi A n c rs) : Bnks w A n rs := OwnG.cells h
theorem OwnBnk.len (h : OwnBnk w lo hi A n c rs) : rs.length = n := h.recs.len
theorem OwnBnk.below (h : OwnBnk w lo hi A n c rs) (hb : Below w.heap.size w w') : OwnBnk w' lo hi A n c rs := OwnG.below h hb
theorem OwnBnk.alloc (h : OwnBnk w lo hi A n c rs) (o : Obj) : OwnBnk (w.alloc o) lo hi A n c rs := OwnG.alloc h o
theorem OwnBnk.drewN (h : OwnBnk w lo hi A n c rs) (k : Nat) : OwnBnk (w.drewN k) lo hi A n c rs := h
theorem OwnBnk.chg {lo' hi' : Nat} (h : OwnBnk w lo hi A n c rs) (hc : Chg lo' hi' w w') (hne : hi ≤ lo' ∨ hi' ≤ lo) : OwnBnk w' lo hi A n c rs := OwnG.chg h hc hne
theorem OwnBnk.mono {lo' hi' : Nat} (h : OwnBnk w lo hi A n c rs) (h1 : lo' ≤ lo) (h2 : hi ≤ hi') : OwnBnk w lo' hi' A n c rs := OwnG.mono h h1 h2
theorem OwnBnk.setCell (h : OwnBnk w lo hi A n c rs) (p : Addr) (u : Value) (hne : p.block < lo ∨ hi ≤ p.block) : OwnBnk (w.setCell p u) lo hi A n c rs := OwnG.setCell h p u hne
theorem OwnBnk.nil (w : World) (lo hi : Nat) (A : Option Addr) : OwnBnk w lo hi A 0 0 [] := OwnG.nil _ _ _ _ _ _
end
/-- A new slice of records, in new memory; all that was there is as it was. -/
def NewBnk (rs : List Bnk) (w : World) (e : Ending) (w' : World) : Prop :=
  ∃ A n c, e = .returned (.slice A n c) ∧ OwnBnk w' w.heap.size w'.heap.size A n c rs ∧ Below w.heap.size w w'
/-- The same, with no bound above. -/
def RowBnk (w : World) (lo : Nat) (A : Option Addr) (n c : Nat) (rs : List Bnk) : Prop := OwnV w lo 66 2 A n c (rs.flatMap Bnk.cs)
section
variable {w w' : World} {lo n c : Nat} {A : Option Addr} {rs : List Bnk}
theorem RowBnk.recs (h : RowBnk w lo A n c rs) : Bnks w A n rs := OwnV.cells h
theorem RowBnk.len (h : RowBnk w lo A n c rs) : rs.length = n := h.recs.len
theorem RowBnk.below (h : RowBnk w lo A n c rs) (hb : Below w.heap.size w w') : RowBnk w' lo A n c rs := OwnV.below h hb
theorem RowBnk.alloc (h : RowBnk w lo A n c rs) (o : Obj) : RowBnk (w.alloc o) lo A n c rs := OwnV.alloc h o
theorem RowBnk.mono {lo' : Nat} (h : RowBnk w lo A n c rs) (hl : lo' ≤ lo) : RowBnk w lo' A n c rs := OwnV.mono h hl
theorem RowBnk.lt (h : RowBnk w lo A n c rs) : ∀ k, blk A c = some k → lo ≤ k ∧ k < w.heap.size := OwnV.lt h
theorem RowBnk.nil (w : World) (lo : Nat) (A : Option Addr) : RowBnk w lo A 0 0 [] := OwnV.nil _ _ _ _ _
theorem RowBnk.own (h : RowBnk w lo A n c rs) : OwnBnk w lo w.heap.size A n c rs := OwnG.mk' h
end
theorem Bnk.one (rs : List Bnk) : ∀ u ∈ rs.flatMap Bnk.cs, u.oneCell' = true := by
  intro u hu
  rw [List.mem_flatMap] at hu
  obtain ⟨r, _, hu⟩ := hu
  unfold Bnk.cs at hu
  simp only [List.mem_cons, List.not_mem_nil, or_false] at hu
  rcases hu with hu | hu <;> (subst hu; rfl)
section
variable {P : Program} {w : World} {ops : Array Oper} {rest : List Oper} {o : Oper} {a : Act} {Q : Exit → Act → World → Prop}
/-- append(out, us...) -/
theorem wpList_appBnk (hgd : o.guard = none) (s x : Operand) (t : TypeId) (ho : o.op = .call { callee := .builtin .append, args := #[s, x], argTypes := #[t, t] }) (ht : P.underlying t = some (.slice 66)) (hinf : (P.info? 66).map (fun i => (i.zero, i.size, i.bytes)) = some (some (.agg #[.bool false, .int .i64 0]), 2, 16))
    (A : Option Addr) (n c lo : Nat) (rs : List Bnk) (hs : a.eval s = .slice A n c) (hown : RowBnk w lo A n c rs) (B : Option Addr) (k d : Nat) (us : List Bnk) (hx : a.eval x = .slice B k d) (hsrc : Bnks w B k us) (hlen : n + k ≤ 4194304) (hlo : lo ≤ w.heap.size)
    (h : ∀ A' c' w', RowBnk w' lo A' (n + k) c' (rs ++ us) → w.grownBy w' (blk A c) → (blk A' c' = blk A c ∨ blk A' c' = some w.heap.size) → wpList P ops Q rest (a.put o.dst (.slice A' (n + k) c')) w') :
    wpList P ops Q (o :: rest) a w := by
  refine wpList_appG hgd s x t ho lo 66 _ 2 16 ht hinf rfl (by omega) A n c (rs.flatMap Bnk.cs) hs hown B k d (us.flatMap Bnk.cs) hx (Cells.src hsrc) (Bnk.one us) (by unfold maxLen; omega) (by omega) hlo ?_
  intro A' c' w' h2 h3 h4
  exact h A' c' w' (by unfold RowBnk; rw [List.flatMap_append]; exact h2) h3 h4
/-- append(out, r) -/
theorem wpList_appBnk1 (hgd : o.guard = none) (s x : Operand) (t : TypeId) (ho : o.op = .call { callee := .builtin .append, args := #[s, x], argTypes := #[t, t] }) (ht : P.underlying t = some (.slice 66)) (hinf : (P.info? 66).map (fun i => (i.zero, i.size, i.bytes)) = some (some (.agg #[.bool false, .int .i64 0]), 2, 16))
    (A : Option Addr) (n c lo : Nat) (rs : List Bnk) (hs : a.eval s = .slice A n c) (hown : RowBnk w lo A n c rs) (g1 : Nat) (r : Bnk) (hx : a.eval x = .slice (some ⟨g1, 0, none⟩) 1 1) (hbox : Box w g1 66 #[.bool r.opn, .int .i64 r.row]) (hlen : n + 1 ≤ 4194304) (hlo : lo ≤ w.heap.size)
    (h : ∀ A' c' w', RowBnk w' lo A' (n + 1) c' (rs ++ [r]) → w.grownBy w' (blk A c) → (blk A' c' = blk A c ∨ blk A' c' = some w.heap.size) → wpList P ops Q rest (a.put o.dst (.slice A' (n + 1) c')) w') :
    wpList P ops Q (o :: rest) a w := by
  refine wpList_appG hgd s x t ho lo 66 _ 2 16 ht hinf rfl (by omega) A n c (rs.flatMap Bnk.cs) hs hown _ 1 1 r.cs hx (hbox.src rfl) (by have := Bnk.one [r]; rwa [List.flatMap_cons, List.flatMap_nil, List.append_nil] at this) (by unfold maxLen; omega) (by omega) hlo ?_
  intro A' c' w' h2 h3 h4
  exact h A' c' w' (by unfold RowBnk; rw [List.flatMap_append, List.flatMap_cons, List.flatMap_nil, List.append_nil]; exact h2) h3 h4
/-- append(out, us...) inside a statement that leaves its order open. -/
theorem step_appBnk {K : Act → World → Prop} {E : Prop} (hgd : o.guard = none) (s x : Operand) (t : TypeId) (ho : o.op = .call { callee := .builtin .append, args := #[s, x], argTypes := #[t, t] }) (ht : P.underlying t = some (.slice 66)) (hinf : (P.info? 66).map (fun i => (i.zero, i.size, i.bytes)) = some (some (.agg #[.bool false, .int .i64 0]), 2, 16))
    (A : Option Addr) (n c lo : Nat) (rs : List Bnk) (hs : a.eval s = .slice A n c) (hown : RowBnk w lo A n c rs) (B : Option Addr) (k d : Nat) (us : List Bnk) (hx : a.eval x = .slice B k d) (hsrc : Bnks w B k us) (hlen : n + k ≤ 4194304) (hlo : lo ≤ w.heap.size)
    (h : ∀ A' c' w', RowBnk w' lo A' (n + k) c' (rs ++ us) → w.grownBy w' (blk A c) → (blk A' c' = blk A c ∨ blk A' c' = some w.heap.size) → K (a.put o.dst (.slice A' (n + k) c')) w') :
    if Region.wanted o (yielded ops a.tmps) = true then Oper.wp P o a w K Q else E := by
  refine step_appG hgd s x t ho lo 66 _ 2 16 ht hinf rfl (by omega) A n c (rs.flatMap Bnk.cs) hs hown B k d (us.flatMap Bnk.cs) hx (Cells.src hsrc) (Bnk.one us) (by unfold maxLen; omega) (by omega) hlo ?_
  intro A' c' w' h2 h3 h4
  exact h A' c' w' (by unfold RowBnk; rw [List.flatMap_append]; exact h2) h3 h4
theorem step_appBnk1 {K : Act → World → Prop} {E : Prop} (hgd : o.guard = none) (s x : Operand) (t : TypeId) (ho : o.op = .call { callee := .builtin .append, args := #[s, x], argTypes := #[t, t] }) (ht : P.underlying t = some (.slice 66)) (hinf : (P.info? 66).map (fun i => (i.zero, i.size, i.bytes)) = some (some (.agg #[.bool false, .int .i64 0]), 2, 16))
    (A : Option Addr) (n c lo : Nat) (rs : List Bnk) (hs : a.eval s = .slice A n c) (hown : RowBnk w lo A n c rs) (g1 : Nat) (r : Bnk) (hx : a.eval x = .slice (some ⟨g1, 0, none⟩) 1 1) (hbox : Box w g1 66 #[.bool r.opn, .int .i64 r.row]) (hlen : n + 1 ≤ 4194304) (hlo : lo ≤ w.heap.size)
    (h : ∀ A' c' w', RowBnk w' lo A' (n + 1) c' (rs ++ [r]) → w.grownBy w' (blk A c) → (blk A' c' = blk A c ∨ blk A' c' = some w.heap.size) → K (a.put o.dst (.slice A' (n + 1) c')) w') :
    if Region.wanted o (yielded ops a.tmps) = true then Oper.wp P o a w K Q else E := by
  refine step_appG hgd s x t ho lo 66 _ 2 16 ht hinf rfl (by omega) A n c (rs.flatMap Bnk.cs) hs hown _ 1 1 r.cs hx (hbox.src rfl) (by have := Bnk.one [r]; rwa [List.flatMap_cons, List.flatMap_nil, List.append_nil] at this) (by unfold maxLen; omega) (by omega) hlo ?_
  intro A' c' w' h2 h3 h4
  exact h A' c' w' (by unfold RowBnk; rw [List.flatMap_append, List.flatMap_cons, List.flatMap_nil, List.append_nil]; exact h2) h3 h4
end
theorem Bnk.setAll {rs : List Bnk} {k : Nat} {r0 : Bnk} (h : rs[k]? = some r0) (r : Bnk) : ((rs.flatMap Bnk.cs).set (k * 2) (.bool r.opn)).set (k * 2 + 1) (.int .i64 r.row) = (rs.set k r).flatMap Bnk.cs := by
  have hk := lt_of_get h
  have e : rs.flatMap Bnk.cs = (rs.take k).flatMap Bnk.cs ++ (r0.cs ++ (rs.drop (k + 1)).flatMap Bnk.cs) := by
    rw [← flat_set Bnk.cs_len hk r0]
    congr 1
    obtain ⟨_, rfl⟩ := List.getElem?_eq_some_iff.1 h
    rw [List.set_getElem_self]
  have hP : ((rs.take k).flatMap Bnk.cs).length = k * 2 := by rw [flat_len Bnk.cs_len, List.length_take]; congr 1; omega
  rw [flat_set Bnk.cs_len hk r, e]
  generalize (rs.take k).flatMap Bnk.cs = P at *
  generalize (rs.drop (k + 1)).flatMap Bnk.cs = S at *
  rw [List.set_append_right _ _ (by omega), hP, show k * 2 - k * 2 = 0 by omega]
  rw [List.set_append_right _ _ (by omega), hP, show k * 2 + 1 - k * 2 = 1 by omega]
  rfl
section
variable {w : World} {lo hi n c : Nat} {A : Option Addr} {rs : List Bnk}
theorem OwnBnk.stored (h : OwnBnk w lo hi A n c rs) {g : Nat} (hA : A = some ⟨g, 0, none⟩) {k : Nat} (hk : k < n) (r : Bnk) :
    OwnBnk (((w).setCell ⟨g, k * 2, none⟩ (.bool r.opn)).setCell ⟨g, k * 2 + 1, none⟩ (.int .i64 r.row)) lo hi A n c (rs.set k r) ∧ Chg lo hi w (((w).setCell ⟨g, k * 2, none⟩ (.bool r.opn)).setCell ⟨g, k * 2 + 1, none⟩ (.int .i64 r.row)) := by
  have hl := h.len
  obtain ⟨r0, hr⟩ : ∃ r, rs[k]? = some r := ⟨_, List.getElem?_eq_getElem (by omega)⟩
  obtain ⟨s0, c0⟩ := OwnG.stored h hA (by omega) (k * 2) (.bool r.opn)
  obtain ⟨s1, c1⟩ := OwnG.stored s0 hA (by omega) (k * 2 + 1) (.int .i64 r.row)
  rw [Bnk.setAll hr r] at s1
  exact ⟨s1, (c0.trans c1)⟩
theorem OwnBnk.at_ (h : OwnBnk w lo hi A n c rs) {k : Nat} (hk : k < n) : ∃ (g : Nat) (opn : Bool) (row : Int), A = some ⟨g, 0, none⟩ ∧ lo ≤ g ∧ g < hi ∧ (∀ j, w.frozen? ⟨g, j, none⟩ = false) ∧ w.cell? ⟨g, k * 2, none⟩ = some (.bool opn) ∧ w.cell? ⟨g, k * 2 + 1, none⟩ = some (.int .i64 row) ∧ Hid (rs[k]? = some ⟨opn, row⟩) := by
  obtain ⟨_, g, e, h1, h2, h3⟩ := OwnG.form h (by omega)
  obtain ⟨g', o, opn, row, e', -, q0, q1, hr⟩ := h.recs.at_ hk
  rw [e] at e'
  injection e' with e'
  injection e' with e1 e2
  subst e1 e2
  simp only [Nat.zero_add] at q0 q1
  exact ⟨g, opn, row, e, h1, h2, fun j => OwnG.frozenAt h e (by omega) j, q0, q1, hr⟩
end

set_option maxHeartbeats 400000 in
theorem toBank_h (opn : Bool) (row : Int) (w : World) :
    Calls Try.prog 111 #[.agg #[.bool opn, .int .i64 row]] w fun x w' => x = .returned (.agg #[.bool opn, .int .i64 row]) ∧ Below w.heap.size w w' := by
  go_enter Try.func111, Try.ntmps111
  go_wp2
  exact bodyPost_ret (v := .agg #[.bool opn, .int .i64 row]) (by simp [results, Try.results111, go_sem]) rfl ⟨rfl, (((Below.refl _ _).alloc (Nat.le_refl _) _).alloc (by simp) _).alloc (by simp; omega) _⟩

set_option maxHeartbeats 400000 in
theorem eqBank_h (opn : Bool) (row : Int) (w : World) :
    Calls Try.prog 112 #[.agg #[.bool opn, .int .i64 row], .agg #[.bool opn, .int .i64 row]] w fun x w' => x = .returned (.bool true) ∧ Below w.heap.size w w' := by
  have ne0 : (opn != opn) = false := by simp
  have ne1 : (row != row) = false := by simp
  go_enter Try.func112, Try.ntmps112
  go_wp2
  go_ret
  exact ⟨rfl, ((Below.refl _ _).alloc (Nat.le_refl _) _).alloc (by simp) _⟩

set_option maxHeartbeats 400000 in
theorem szBankS_y (A : Option Addr) (n c : Nat) (left : Int) (w : World) (h1 : left ≤ 1048576) (hn : (n : Int) ≤ left) :
    Calls Try.prog 79 #[.slice A n c, .int .i64 left] w fun e w' => e = .returned (.int .i64 (left - n)) ∧ Below w.heap.size w w' := by
  go_enter Try.func79, Try.ntmps79
  go_wp2
  go_ret
  exact ⟨rfl, Below.refl _ _⟩
set_option maxHeartbeats 400000 in
theorem szBankS_n (A : Option Addr) (n c : Nat) (left : Int) (w : World) (h0 : 0 ≤ left) (h1 : left ≤ 1048576) (hm : n ≤ maxLen) (hn : left < (n : Int)) :
    Calls Try.prog 79 #[.slice A n c, .int .i64 left] w fun e w' => e = .returned (.int .i64 (-1)) ∧ Below w.heap.size w w' := by
  unfold maxLen at hm
  go_enter Try.func79, Try.ntmps79
  go_wp2
  go_ret
  exact ⟨rfl, Below.refl _ _⟩

theorem infoBnk : (Try.prog.info? 66).map (fun i => (i.zero, i.size, i.bytes)) = some (some (.agg #[.bool false, .int .i64 0]), 2, 16) := by kernel_rfl
theorem madeBnk (m : Nat) : (madeCells (Value.agg #[.bool false, .int .i64 0]).cells (m * 2)).toList = (List.replicate m (⟨false, 0⟩ : Bnk)).flatMap Bnk.cs :=
  made_flat (by omega) Bnk.cs_len ⟨false, 0⟩ _ rfl m
set_option maxHeartbeats 1000000 in
theorem toBankS_h (A : Option Addr) (n c : Nat) (rs : List Bnk) (w : World) (h : Bnks w A n rs) (hn : n ≤ 1048576) :
    Calls Try.prog 80 #[.slice A n c] w (NewBnk rs w) := by
  obtain ⟨i0, hi0, hz0, hz1, hz2⟩ := info_parts infoBnk
  have hl := Lib.hid h.len
  go_enter Try.func80, Try.ntmps80
  go_wp2_with (at_make; refine wpList_make_full _ rfl (.tmp 6) (.tmp 6) 51 rfl w.heap.size 66 i0 _ 2 Try.underlying51 hi0 hz0 hz1 .i64 .i64 n n n rfl rfl rfl rfl (by rw [hz2]; omega) (by unfold maxLen; omega) (Nat.le_refl _) ?_; intro w1 ho1 hg1)
  have o1 : OwnBnk w1 w.heap.size w1.heap.size (some ⟨w.heap.size, 0, none⟩) n n (List.replicate n ⟨false, 0⟩) := by
    rw [madeBnk] at ho1
    exact OwnG.mk' (.inl ho1)
  have b1 : Below w.heap.size w w1 := (Below.refl _ _).grown hg1 (Nat.le_refl _) (by simp)
  clear ho1 hg1
  go_loopw [4] (fun i wr => ∃ k : Nat, k ≤ n ∧ i = .int .i64 k ∧ OwnBnk wr w.heap.size w1.heap.size (some ⟨w.heap.size, 0, none⟩) n n (upTo rs (List.replicate n ⟨false, 0⟩) k) ∧ Below w.heap.size w wr) (fun i _ => n - (intOf i).toNat)
  case atStart => exact ⟨0, Nat.zero_le _, rfl, by rw [upTo_zero]; exact o1, b1⟩
  case round =>
    obtain ⟨k, hk, rfl, ok, bk⟩ := hrel
    by_cases hlt : k < n
    · obtain ⟨g, o, opn, row, rfl, hg, h0, h1, hr⟩ := (h.below bk).at_ hlt
      go_wp2_with fail
      refine (toBank_h opn row _).mono ?_
      rintro x w2 ⟨rfl, b2⟩
      replace ok := ok.below b2
      replace bk := bk.trans (b2.mono bk.size)
      obtain ⟨g2, y0, y1, e2, gl, gh, hf, z0, z1, hr2⟩ := ok.at_ hlt
      injection e2 with e2
      injection e2 with e2 _
      subst e2
      have HO := Lib.hid ok
      have HB := Lib.hid bk
      clear ok bk b2 h0 h1
      go_wp2
      go_roundw
      case rel =>
        refine ⟨k + 1, by omega, by go_num, ?_, ((HB.out.setCell (Nat.le_refl _) _).setCell (Nat.le_refl _) _)⟩
        have h1 := (HO.out.stored rfl hlt ⟨opn, row⟩).1
        rw [upTo_set (by simp [hl.out]) hr.out] at h1
        exact h1
      case measure => simp [intOf]; omega
    · go_wp2
      go_ret
      rw [upTo_all (by rw [hl.out]; omega) (by simp; omega)] at ok
      exact ⟨_, _, _, rfl, OwnG.mk' ok.1, bk⟩

set_option maxHeartbeats 1000000 in
theorem eqBankS_h (A : Option Addr) (n c : Nat) (B : Option Addr) (m d : Nat) (rs : List Bnk) (w : World) (h : Bnks w A n rs) (h' : Bnks w B m rs) (hn : n ≤ 1048576) :
    Calls Try.prog 81 #[.slice A n c, .slice B m d] w fun e w' => e = .returned (.bool true) ∧ Below w.heap.size w w' := by
  obtain rfl : n = m := h.len.symm.trans h'.len
  have hne : ((n : Int) != (n : Int)) = false := by simp
  go_enter Try.func81, Try.ntmps81
  go_wp2
  go_loopw [5] (fun i wr => ∃ k : Nat, k ≤ n ∧ i = .int .i64 k ∧ Below w.heap.size w wr) (fun i _ => n - (intOf i).toNat)
  case atStart => exact ⟨0, Nat.zero_le _, rfl, Below.refl _ _⟩
  case round =>
    obtain ⟨k, hk, rfl, bk⟩ := hrel
    by_cases hlt : k < n
    · obtain ⟨g, o, opn, row, rfl, hg, h0, h1, hr⟩ := (h.below bk).at_ hlt
      obtain ⟨g', o', y0, y1, rfl, hg', z0, z1, hr'⟩ := (h'.below bk).at_ hlt
      have er := hr.out.symm.trans hr'.out
      injection er with er
      injection er with e0 e1
      subst e0 e1
      have i1 : (0 : Int) ≤ (k : Int) := by omega
      have i2 : (k : Int) < (n : Int) := by omega
      go_wp2
      go_region_held3 (fun W' => W'.cell? ⟨g, o + k * 2, none⟩ = some (.bool opn) ∧ W'.cell? ⟨g, o + k * 2 + 1, none⟩ = some (.int .i64 row) ∧ W'.cell? ⟨g', o' + k * 2, none⟩ = some (.bool opn) ∧ W'.cell? ⟨g', o' + k * 2 + 1, none⟩ = some (.int .i64 row)) (first | exact ⟨h0, h1, z0, z1⟩ | exact ⟨k0, k1, l0, l1⟩) ((go_at_call 112; refine (eqBank_h opn row _).mono ?_; rintro x w2 ⟨rfl, b2'⟩; have b2 : Below wr.heap.size wr w2 := ⟨b2'.os, b2'.tape, b2'.output, b2'.size, b2'.block⟩; have k0 := (b2.cell (p := ⟨g, o + k * 2, none⟩) hg).trans h0; have l0 := (b2.cell (p := ⟨g', o' + k * 2, none⟩) hg').trans z0; have k1 := (b2.cell (p := ⟨g, o + k * 2 + 1, none⟩) hg).trans h1; have l1 := (b2.cell (p := ⟨g', o' + k * 2 + 1, none⟩) hg').trans z1))
      clear b2' h0 h1 z0 z1 k0 k1 l0 l1
      go_wp2
      go_roundw
      case rel => exact ⟨k + 1, by omega, by go_num, bk.trans (b2.mono bk.size)⟩
      case measure => simp [intOf]; omega
    · go_wp2
      go_ret
      exact ⟨rfl, bk⟩

end Go.Proofs.Ytbolpanfgbhbnaa
