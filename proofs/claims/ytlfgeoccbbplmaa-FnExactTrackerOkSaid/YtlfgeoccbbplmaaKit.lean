/-
  Words for memory that every text of this seat uses: a slice of integers that reads as a list, a row that the call owns, and how they are kept. Nothing here speaks of the program.
-/
import Derived.WalkKit
import Derived.WalkSpells
import Derived.WalkLawsBesides
import Derived.Outline
import Derived.Lib.Hide
import Derived.Deep.Draws
import Derived.Deep.AppendLies
import Derived.Maps.AppendAt
import Derived.Deep.QuietTactic
import Derived.BigQuiet
namespace Go.Proofs.Ytlfgeoccbbplmaa
open Go.RowKit
set_option linter.unusedSimpArgs false
set_option linter.unusedVariables false

/-- A number lies between two others, both ends counted. -/
def inB (x lo hi : Int) : Bool := decide (lo ≤ x ∧ x ≤ hi)
theorem inB_t {x lo hi : Int} (h : inB x lo hi = true) : lo ≤ x ∧ x ≤ hi := by simpa [inB] using h
theorem inB_f {x lo hi : Int} (h : inB x lo hi = false) : x < lo ∨ hi < x := by
  simp [inB] at h; omega
theorem inB_mk {x lo hi : Int} (h1 : lo ≤ x) (h2 : x ≤ hi) : inB x lo hi = true := by simp [inB, h1, h2]
theorem inB_no {x lo hi : Int} (h : x < lo ∨ hi < x) : inB x lo hi = false := by simp [inB]; omega

/-- What lies in old blocks is kept. -/
theorem bcell {W w1 : World} {B : Nat} (hb : Below B W w1) : (∀ b o, b < B → w1.cell? ⟨b, o, none⟩ = W.cell? ⟨b, o, none⟩) ∧ (∀ b o, b < B → w1.frozen? ⟨b, o, none⟩ = W.frozen? ⟨b, o, none⟩) :=
  ⟨fun b o h => hb.cell (p := ⟨b, o, none⟩) h, fun b o h => hb.frozen (p := ⟨b, o, none⟩) h⟩

theorem belowN {B : Nat} {a w : World} (h : Below B a w) (n : Nat) : Below B a (w.drewN n) := ⟨h.os, h.tape, h.output, h.size, h.block⟩
theorem belowN_left {B : Nat} {a w : World} {n : Nat} (h : Below B (a.drewN n) w) : Below B a w := ⟨h.os, h.tape, h.output, h.size, h.block⟩
theorem grownN {a w : World} {row : Option Nat} (h : a.grownBy w row) (n : Nat) : a.grownBy (w.drewN n) row := ⟨h.os, h.tape, h.output, h.size, h.block⟩
theorem below_grown {a w : World} (h : Below a.heap.size a w) (row : Option Nat) : a.grownBy w row := ⟨h.os, h.tape, h.output, h.size, fun i hi _ => h.block i hi⟩
theorem grown_below {a w : World} (h : a.grownBy w none) : Below a.heap.size a w := ⟨h.os, h.tape, h.output, h.size, fun i hi => h.block i hi (by simp)⟩

def mapI (zs : List Int) : List Value := zs.map (Value.int .i64)
theorem mapI_len (zs : List Int) : (mapI zs).length = zs.length := by simp [mapI]
theorem mapI_one (zs : List Int) : ∀ u ∈ mapI zs, u.oneCell' = true := ints_oneCell .i64 zs
theorem mapI_get (zs : List Int) (k : Nat) (h : k < zs.length) : (mapI zs)[k]? = some (.int .i64 (zs.getD k 0)) := by
  simp [mapI, List.getD_eq_getElem?_getD, h]
theorem mapI_append (xs ys : List Int) : mapI (xs ++ ys) = mapI xs ++ mapI ys := by simp [mapI]
theorem mapI_set (xs : List Int) (k : Nat) (x : Int) : (mapI xs).set k (.int .i64 x) = mapI (xs.set k x) := by simp [mapI, List.map_set]

/-- A slice of integers that reads as the list zs. -/
def Ints (w : World) (A : Option Addr) (n : Nat) (zs : List Int) : Prop :=
  zs.length = n ∧ (0 < n → ∃ g o, A = some ⟨g, o, none⟩ ∧ g < w.heap.size ∧ ∀ i, i < n → w.cell? ⟨g, o + i, none⟩ = some (.int .i64 (zs.getD i 0)))

theorem Ints.nil {w : World} {A : Option Addr} : Ints w A 0 [] := ⟨rfl, fun h => absurd h (by omega)⟩
theorem Ints.keep {w w' : World} {A : Option Addr} {n : Nat} {zs : List Int} (h : Ints w A n zs) (hs : w.heap.size ≤ w'.heap.size)
    (hk : ∀ g o, A = some ⟨g, o, none⟩ → g < w.heap.size → w'.heap[g]? = w.heap[g]?) : Ints w' A n zs := by
  refine ⟨h.1, fun hn => ?_⟩
  obtain ⟨g, o, e, hg, hc⟩ := h.2 hn
  exact ⟨g, o, e, by omega, fun i hi => (World.cell?_of_block (w := w) (hk g o e hg)).trans (hc i hi)⟩
theorem Ints.below {w w' : World} {A : Option Addr} {n : Nat} {zs : List Int} (h : Ints w A n zs) (hb : Below w.heap.size w w') : Ints w' A n zs :=
  h.keep hb.size fun g o _ hg => hb.block g hg
theorem Ints.drewN {w : World} {A : Option Addr} {n : Nat} {zs : List Int} (h : Ints w A n zs) (k : Nat) : Ints (w.drewN k) A n zs := h
theorem Ints.drew {w : World} {A : Option Addr} {n : Nat} {zs : List Int} (h : Ints w A n zs) : Ints w.drew A n zs := h
theorem Ints.alloc {w : World} {A : Option Addr} {n : Nat} {zs : List Int} (h : Ints w A n zs) (o : Obj) : Ints (w.alloc o) A n zs :=
  h.keep (by simp) fun g _ _ hg => Below.heap_alloc w o g hg
theorem Ints.grown {w w' : World} {A : Option Addr} {n : Nat} {zs : List Int} {row : Option Nat} (h : Ints w A n zs) (hg : w.grownBy w' row) (hne : ∀ g o, A = some ⟨g, o, none⟩ → some g ≠ row) : Ints w' A n zs :=
  h.keep hg.size fun g o e hgs => hg.block g hgs (hne g o e)
theorem Ints.at_ {w : World} {A : Option Addr} {n : Nat} {zs : List Int} (h : Ints w A n zs) {k : Nat} (hk : k < n) :
    ∃ g o x, A = some ⟨g, o, none⟩ ∧ w.cell? ⟨g, o + k, none⟩ = some (.int .i64 x) ∧ Hid (zs[k]? = some x) := by
  obtain ⟨g, o, e, _, hc⟩ := h.2 (by omega)
  have hl := h.1
  exact ⟨g, o, _, e, hc k hk, by unfold Hid; rw [List.getD_eq_getElem?_getD, List.getElem?_eq_getElem (by omega)]; rfl⟩
theorem getD_of {zs : List Int} {k : Nat} {x : Int} (h : zs[k]? = some x) : zs.getD k 0 = x := by rw [List.getD_eq_getElem?_getD, h]; rfl
theorem lt_of_get {α : Type} {zs : List α} {k : Nat} {x : α} (h : zs[k]? = some x) : k < zs.length := (List.getElem?_eq_some_iff.1 h).1
theorem take_snoc {α : Type} {zs : List α} {k : Nat} {x : α} (h : zs[k]? = some x) : zs.take (k + 1) = zs.take k ++ [x] := by
  obtain ⟨hlt, rfl⟩ := List.getElem?_eq_some_iff.1 h
  exact List.take_succ_eq_append_getElem hlt

/-- A slice of integers in a row of the call's own, from block lo on. -/
def OwnI (w : World) (lo : Nat) (A : Option Addr) (n c : Nat) (zs : List Int) : Prop := w.ownsRow lo 3 1 (.slice A n c) n (mapI zs)

/-- The block of a slice's address. -/
def blk (A : Option Addr) : Option Nat := A.map (·.block)
theorem ownBlock_blk (A : Option Addr) (n c : Nat) : (Value.slice A n c).ownBlock = blk A := by cases A <;> rfl

theorem OwnI.len {w : World} {lo n c : Nat} {A : Option Addr} {zs : List Int} (h : OwnI w lo A n c zs) : zs.length = n := by
  have := h.1; rw [mapI_len] at this; omega
theorem OwnI.lt {w : World} {lo n c : Nat} {A : Option Addr} {zs : List Int} (h : OwnI w lo A n c zs) : ∀ k, blk A = some k → lo ≤ k ∧ k < w.heap.size := by
  intro k hk; exact World.ownsRow.lt h k ((ownBlock_blk A n c).trans hk)
theorem OwnI.kept {w w' : World} {lo n c : Nat} {A : Option Addr} {zs : List Int} {row : Option Nat} (h : OwnI w lo A n c zs) (hg : w.grownBy w' row) (hne : ∀ k, blk A = some k → some k ≠ row) : OwnI w' lo A n c zs := by
  refine World.ownsRow.kept h hg ?_
  rw [ownBlock_blk]
  cases hA : blk A with
  | none => exact .inl rfl
  | some k => exact .inr (hne k hA)
theorem OwnI.below {w w' : World} {lo n c : Nat} {A : Option Addr} {zs : List Int} (h : OwnI w lo A n c zs) (hb : Below w.heap.size w w') : OwnI w' lo A n c zs :=
  h.kept (below_grown hb none) (by simp)
theorem OwnI.drewN {w : World} {lo n c : Nat} {A : Option Addr} {zs : List Int} (h : OwnI w lo A n c zs) (k : Nat) : OwnI (w.drewN k) lo A n c zs := h
theorem OwnI.alloc {w : World} {lo n c : Nat} {A : Option Addr} {zs : List Int} (h : OwnI w lo A n c zs) (o : Obj) : OwnI (w.alloc o) lo A n c zs := World.ownsRow.alloc h o
theorem OwnI.mono {w : World} {lo lo' n c : Nat} {A : Option Addr} {zs : List Int} (h : OwnI w lo A n c zs) (hl : lo' ≤ lo) : OwnI w lo' A n c zs := by
  refine ⟨h.1, ?_⟩
  rcases h.2 with h' | ⟨g, cap, cur, e1, e2, e3⟩
  · exact .inl h'
  · exact .inr ⟨g, cap, cur, e1, by omega, e3⟩
theorem OwnI.form {w : World} {lo n c : Nat} {A : Option Addr} {zs : List Int} (h : OwnI w lo A n c zs) (hn : 0 < n) : ∃ g, A = some ⟨g, 0, none⟩ ∧ lo ≤ g ∧ g < w.heap.size := by
  obtain ⟨g, cap, hv, h1, h2⟩ := World.ownsRow.form h hn
  injection hv with e1 e2 e3
  exact ⟨g, e1, h1, h2⟩
theorem OwnI.ints {w : World} {lo n c : Nat} {A : Option Addr} {zs : List Int} (h : OwnI w lo A n c zs) : Ints w A n zs := by
  refine ⟨h.len, fun hn => ?_⟩
  obtain ⟨g, rfl, h1, h2⟩ := h.form hn
  refine ⟨g, 0, rfl, h2, fun i hi => ?_⟩
  rw [Nat.zero_add, World.ownsRow.cellAt h i (by omega), mapI_get _ _ (by rw [h.len]; exact hi)]
theorem OwnI.nil (w : World) (lo : Nat) : OwnI w lo none 0 0 [] := World.ownsRow_nil w lo _ 1
theorem OwnI.cap {w : World} {lo n c : Nat} {A : Option Addr} {zs : List Int} (h : OwnI w lo A n c zs) : n ≤ c ∧ c ≤ maxLen := by
  rcases h.2 with ⟨h', _⟩ | ⟨g, cap, cur, e1, e2, e3, e4, e5, _⟩
  · injection h' with a b c'; subst b; subst c'; simp [maxLen]
  · injection e1 with a b c'; subst c'; exact ⟨e4, e5⟩

/-- k, k + 1, .., n numbers. -/
def marks (k : Int) (n : Nat) : List Int := (List.range n).map fun (i : Nat) => k + (i : Int)
theorem marks_len (k : Int) (n : Nat) : (marks k n).length = n := by simp [marks]
theorem marks_get (k : Int) (n i : Nat) (h : i < n) : (marks k n).getD i 0 = k + i := by simp [marks, List.getD_eq_getElem?_getD, h]

/-- The first k cells of zs, then n - k zeros. -/
def fillI (zs : List Int) (n k : Nat) : List Value := mapI (zs.take k) ++ List.replicate (n - k) (.int .i64 0)
theorem fillI_set (zs : List Int) (n k : Nat) (hn : zs.length = n) (hk : k < n) : (fillI zs n k).set k (.int .i64 (zs.getD k 0)) = fillI zs n (k + 1) := by
  unfold fillI mapI
  have hl : (List.map (Value.int IntKind.i64) (List.take k zs)).length = k := by simp; omega
  rw [List.set_append_right _ _ (by omega), hl]
  have : n - k = (n - (k+1)) + 1 := by omega
  rw [this, List.replicate_succ, Nat.sub_self, List.set_cons_zero, List.take_succ_eq_append_getElem (by omega)]
  have hk' : k < zs.length := by omega
  rw [List.map_append, List.append_assoc]
  simp [List.getD_eq_getElem?_getD, hk']
theorem fillI_len (zs : List Int) (n k : Nat) (hn : zs.length = n) (hk : k ≤ n) : (fillI zs n k).length = n := by
  unfold fillI mapI; simp; omega
theorem fillI_zero (zs : List Int) (n : Nat) : fillI zs n 0 = (madeCells (Value.int .i64 0).cells (n * 1)).toList := by
  unfold fillI mapI; simp [Value.cells, toList_madeCells_one]
theorem fillI_all (zs : List Int) (n : Nat) (h : zs.length = n) : fillI zs n n = mapI zs := by
  unfold fillI mapI; rw [List.take_of_length_le (by omega)]; simp

/-- The first k cells hold the marks, the others what they held. -/
def halfI (zs : List Int) (m : Int) (k : Nat) : List Int := marks m k ++ zs.drop k
theorem halfI_len (zs : List Int) (m : Int) (k : Nat) (hk : k ≤ zs.length) : (halfI zs m k).length = zs.length := by simp [halfI, marks_len]; omega
theorem halfI_set (zs : List Int) (m : Int) (k : Nat) (hk : k < zs.length) : (halfI zs m k).set k (m + k) = halfI zs m (k + 1) := by
  unfold halfI
  rw [List.set_append_right _ _ (by simp [marks_len]), marks_len, Nat.sub_self, List.drop_eq_getElem_cons hk, List.set_cons_zero]
  simp [marks, List.range_succ]
theorem halfI_all (zs : List Int) (m : Int) : halfI zs m zs.length = marks m zs.length := by simp [halfI]

theorem ret_int {k : IntKind} {a b : Int} (h : a = b) : Ending.returned (.int k a) = .returned (.int k b) := by rw [h]
theorem ret_bool {a b : Bool} (h : a = b) : Ending.returned (.bool a) = .returned (.bool b) := by rw [h]

/-- 'append(out, y)' onto a row of integers of the call's own: the element lies in a block of one cell. -/
theorem wpList_app1 {P : Program} {w : World} {ops : Array Oper} {rest : List Oper} {o : Oper} {a : Act} {Q : Exit → Act → World → Prop} (hgd : o.guard = none) (s x : Operand) (t : TypeId)
    (ho : o.op = .call { callee := .builtin .append, args := #[s, x], argTypes := #[t, t] }) (ht : P.underlying t = some (.slice 3))
    (hinf : (P.info? 3).map (fun i => (i.zero, i.size, i.bytes)) = some (some (.int .i64 0), 1, 8))
    (A : Option Addr) (n c lo : Nat) (zs : List Int) (hs : a.eval s = .slice A n c) (hown : OwnI w lo A n c zs) (g1 : Nat) (y : Int) (hx : a.eval x = .slice (some ⟨g1, 0, none⟩) 1 1)
    (hcell : w.cell? ⟨g1, 0, none⟩ = some (.int .i64 y)) (hlen : n + 1 ≤ 1099511627776) (hlo : lo ≤ w.heap.size)
    (h : ∀ A' c' w', OwnI w' lo A' (n + 1) c' (zs ++ [y]) → w.grownBy w' (blk A) → (blk A' = blk A ∨ blk A' = some w.heap.size) → wpList P ops Q rest (a.put o.dst (.slice A' (n + 1) c')) w') :
    wpList P ops Q (o :: rest) a w := by
  obtain ⟨i0, hi0, hz0, hz1, hz2⟩ := info_parts hinf
  refine wpList_append_own_at (w := w) hgd s x t ho lo 3 i0 _ 1 8 ht hi0 hz0 hz1 hz2 rfl (by omega) (.slice A n c) n (mapI zs) hs hown ⟨g1, 0, none⟩ 1 1 [.int .i64 y] hx rfl ?_ ?_ ?_ ?_ hlo ?_
  · intro j u hu
    match j, hu with
    | 0, hu => simp only [List.getElem?_cons_zero, Option.some.injEq] at hu; subst hu; simpa [Addr.add] using hcell
    | j + 1, hu => simp at hu
  · intro u hu; simp at hu; subst hu; rfl
  · unfold maxLen; omega
  · omega
  · intro v' w' h1 h2 h3 h4
    obtain ⟨g, cap, hv, hl1, hl2⟩ := World.ownsRow.form h1 (by omega)
    subst hv
    refine h _ _ w' ?_ (by rw [ownBlock_blk] at h2; exact h2) ?_
    · unfold OwnI; rw [mapI_append]; exact h1
    · simp only [ownBlock_blk] at h4
      exact h4
end Go.Proofs.Ytlfgeoccbbplmaa
