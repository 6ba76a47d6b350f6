/-
  More words for memory: quiet calls, boxes of structs, the first index of a number in a list. Nothing here speaks of the program.
-/
import Derived.Test.YtbapamfomfbmmaaKit
import Derived.Deep.RegionHeld3
namespace Go.Proofs.Ytbapamfomfbmmaa
open Go.RowKit
set_option linter.unusedSimpArgs false
set_option linter.unusedVariables false

theorem quiet_add_left {P : Program} {f : FuncId} {args : Array Value} {w : World} {a n : Nat} {v : Value}
    (h : Calls P f args (w.drewN (a + n)) fun e w' => e = .returned v ∧ w.drewN (a + n) = w') :
    Calls P f args (w.drewN (a + n)) fun e w'' => e = .returned v ∧ ∃ m, w'' = w.drewN (a + m) :=
  h.mono fun _ _ ⟨he, hm⟩ => ⟨he, n, hm.symm⟩
theorem quiet_left {P : Program} {f : FuncId} {args : Array Value} {w : World} {n : Nat} {v : Value}
    (h : Calls P f args (w.drewN n) fun e w' => e = .returned v ∧ w.drewN n = w') : Calls P f args (w.drewN n) fun e w'' => e = .returned v ∧ ∃ m, w'' = w.drewN m :=
  h.mono fun _ _ ⟨he, hm⟩ => ⟨he, n, hm.symm⟩

theorem grown_setCell (w : World) (p : Addr) (u : Value) : w.grownBy (w.setCell p u) (some p.block) :=
  ⟨rfl, rfl, rfl, by simp [World.setCell], fun k _ hk => Below.heap_setCell w p u k (fun e => hk (by rw [e]))⟩
theorem Ints.setCell {w : World} {A : Option Addr} {n : Nat} {zs : List Int} (h : Ints w A n zs) (p : Addr) (u : Value) (hne : ∀ g o, A = some ⟨g, o, none⟩ → g < w.heap.size → g ≠ p.block) : Ints (w.setCell p u) A n zs :=
  h.keep (by simp [World.setCell]) fun g o e hg => Below.heap_setCell w p u g (hne g o e hg)
theorem OwnI.setCell {w : World} {lo n c : Nat} {A : Option Addr} {zs : List Int} (h : OwnI w lo A n c zs) (p : Addr) (u : Value) (hne : ∀ k, blk A c = some k → k ≠ p.block) : OwnI (w.setCell p u) lo A n c zs :=
  h.kept (grown_setCell w p u) (fun k hk e => hne k hk (by injection e))

/-- A block that holds just the cells cs. -/
def Box (w : World) (g : Nat) (t : TypeId) (cs : Array Value) : Prop := w.heap[g]? = some (.cells cs t (0, 0))
theorem Box.lt {w : World} {g : Nat} {t : TypeId} {cs : Array Value} (h : Box w g t cs) : g < w.heap.size := by
  rcases Nat.lt_or_ge g w.heap.size with hlt | hge
  · exact hlt
  · unfold Box at h; rw [Array.getElem?_eq_none hge] at h; cases h
theorem Box.cell {w : World} {g : Nat} {t : TypeId} {cs : Array Value} (h : Box w g t cs) (i : Nat) (v : Value) (hv : cs[i]? = some v) : w.cell? ⟨g, i, none⟩ = some v := (cell_of_row w g i cs t (0, 0) h).trans hv
theorem Box.frozen {w : World} {g : Nat} {t : TypeId} {cs : Array Value} (h : Box w g t cs) (i : Nat) : w.frozen? ⟨g, i, none⟩ = false := by
  unfold Box at h
  simp [World.frozen?, h]
theorem Box.new (w : World) (t : TypeId) (cs : Array Value) : Box (w.alloc (.cells cs t)) w.heap.size t cs := heap_alloc_new w _
theorem Box.newAt {w : World} {g : Nat} {t : TypeId} {cs : Array Value} (h : g = w.heap.size) : Box (w.alloc (.cells cs t)) g t cs := by subst h; exact Box.new w t cs
theorem Box.c1 {w : World} {g : Nat} {t : TypeId} {a : Value} (h : Box w g t #[a]) : w.cell? ⟨g, 0, none⟩ = some a := h.cell 0 a rfl
theorem Box.c2 {w : World} {g : Nat} {t : TypeId} {a b : Value} (h : Box w g t #[a, b]) : w.cell? ⟨g, 0, none⟩ = some a ∧ w.cell? ⟨g, 1, none⟩ = some b := ⟨h.cell 0 a rfl, h.cell 1 b rfl⟩
theorem Box.c3 {w : World} {g : Nat} {t : TypeId} {a b c : Value} (h : Box w g t #[a, b, c]) : w.cell? ⟨g, 0, none⟩ = some a ∧ w.cell? ⟨g, 1, none⟩ = some b ∧ w.cell? ⟨g, 2, none⟩ = some c :=
  ⟨h.cell 0 a rfl, h.cell 1 b rfl, h.cell 2 c rfl⟩
theorem Box.c4 {w : World} {g : Nat} {t : TypeId} {a b c d : Value} (h : Box w g t #[a, b, c, d]) : w.cell? ⟨g, 0, none⟩ = some a ∧ w.cell? ⟨g, 1, none⟩ = some b ∧ w.cell? ⟨g, 2, none⟩ = some c ∧ w.cell? ⟨g, 3, none⟩ = some d :=
  ⟨h.cell 0 a rfl, h.cell 1 b rfl, h.cell 2 c rfl, h.cell 3 d rfl⟩
theorem Box.drewN {w : World} {g : Nat} {t : TypeId} {cs : Array Value} (h : Box w g t cs) (n : Nat) : Box (w.drewN n) g t cs := h
theorem Box.alloc {w : World} {g : Nat} {t : TypeId} {cs : Array Value} (h : Box w g t cs) (o : Obj) : Box (w.alloc o) g t cs := (Below.heap_alloc w o g h.lt).trans h
theorem Box.set_ {w : World} {g : Nat} {t : TypeId} {cs : Array Value} (h : Box w g t cs) (i : Nat) (u : Value) : Box (w.setCell ⟨g, i, none⟩ u) g t (cs.setIfInBounds i u) := by
  unfold Box at h ⊢
  simp [World.setCell, Array.getElem?_modify, h]
theorem Box.far {w : World} {g : Nat} {t : TypeId} {cs : Array Value} (h : Box w g t cs) {p : Addr} (hp : g ≠ p.block) (u : Value) : Box (w.setCell p u) g t cs := (Below.heap_setCell w p u g hp).trans h
theorem Box.below {w w' : World} {g : Nat} {t : TypeId} {cs : Array Value} {B : Nat} (h : Box w g t cs) (hb : Below B w w') (hg : g < B) : Box w' g t cs := (hb.block g hg).trans h
theorem Box.kept {w w' : World} {g : Nat} {t : TypeId} {cs : Array Value} (h : Box w g t cs) (hb : Below w.heap.size w w') : Box w' g t cs := h.below hb h.lt
theorem Box.grown {w w' : World} {g : Nat} {t : TypeId} {cs : Array Value} {row : Option Nat} (h : Box w g t cs) (hb : w.grownBy w' row) (hg : some g ≠ row) : Box w' g t cs := (hb.block g h.lt hg).trans h

/-- The first index of x in zs; -1 if there is none. -/
def idxI (zs : List Int) (x : Int) : Int := if x ∈ zs then (zs.idxOf x : Nat) else -1
theorem idxI_at {zs : List Int} {x : Int} {k : Nat} (h : x ∉ zs.take k) (hk : zs[k]? = some x) : idxI zs x = k := by
  unfold idxI
  rw [if_pos (List.mem_of_getElem? hk)]
  have hlt := (List.getElem?_eq_some_iff.1 hk).1
  have e : zs = zs.take k ++ zs.drop k := (List.take_append_drop k zs).symm
  have hd : zs.drop k = x :: zs.drop (k + 1) := by
    rw [List.drop_eq_getElem_cons hlt]
    rw [List.getElem?_eq_getElem hlt] at hk
    injection hk with hk
    rw [hk]
  have : zs.idxOf x = k := by
    conv => lhs; rw [e, List.idxOf_append, if_neg h, hd, List.idxOf_cons_self]
    simp; omega
  rw [this]
theorem idxI_none {zs : List Int} {x : Int} (h : x ∉ zs) : idxI zs x = -1 := by unfold idxI; rw [if_neg h]
theorem idxI_lo (zs : List Int) (x : Int) : -1 ≤ idxI zs x ∧ idxI zs x < zs.length := by
  unfold idxI
  split
  · have := List.idxOf_lt_length_of_mem (by assumption : x ∈ zs); omega
  · omega
theorem not_mem_snoc {zs : List Int} {x y : Int} {k : Nat} (h : x ∉ zs.take k) (hk : zs[k]? = some y) (hne : (x == y) = false) : x ∉ zs.take (k + 1) := by
  rw [take_snoc hk]
  simp at hne
  simp [h, hne]

theorem ex_drewN (W : World) (a b : Nat) : ∃ q, (W.drewN a).drewN b = W.drewN q := ⟨a + b, by simp⟩

/-- The world at a call, or ahead of a piece of code, under a name of its own. -/
theorem abs_call {P : Program} {f : FuncId} {args : Array Value} {R : Ending → World → Prop} {W : World} (h : ∀ W', W' = W → Calls P f args W' R) : Calls P f args W R := h W rfl
theorem abs_code {P : Program} {c : Code} {Q : Exit → Act → World → Prop} {a : Act} {W : World} (h : ∀ W', W' = W → Code.wp P c Q a W') : Code.wp P c Q a W := h W rfl
theorem abs_body {P : Program} {fn : Func} {R : Ending → World → Prop} {x : Exit} {a : Act} {W : World} (h : ∀ W', W' = W → bodyPost P fn R x a W') : bodyPost P fn R x a W := h W rfl

/-- From w to w' only blocks from lo on and below hi have changed, of those that were there. -/
structure Chg (lo hi : Nat) (w w' : World) : Prop where
  os : w'.os = w.os
  tape : w'.tape = w.tape
  output : w'.output = w.output
  size : w.heap.size ≤ w'.heap.size
  block : ∀ k, k < w.heap.size → (k < lo ∨ hi ≤ k) → w'.heap[k]? = w.heap[k]?
theorem Chg.refl (lo hi : Nat) (w : World) : Chg lo hi w w := ⟨rfl, rfl, rfl, Nat.le_refl _, fun _ _ _ => rfl⟩
theorem Chg.trans {lo hi : Nat} {a b c : World} (h : Chg lo hi a b) (k : Chg lo hi b c) : Chg lo hi a c :=
  ⟨k.os.trans h.os, k.tape.trans h.tape, k.output.trans h.output, Nat.le_trans h.size k.size, fun i hi hne => (k.block i (Nat.lt_of_lt_of_le hi h.size) hne).trans (h.block i hi hne)⟩
theorem Chg.mono {lo hi lo' hi' : Nat} {a b : World} (h : Chg lo hi a b) (h1 : lo' ≤ lo) (h2 : hi ≤ hi') : Chg lo' hi' a b :=
  ⟨h.os, h.tape, h.output, h.size, fun i hi hne => h.block i hi (by omega)⟩
theorem Chg.of_below {lo hi : Nat} {a b : World} (h : Below a.heap.size a b) : Chg lo hi a b := ⟨h.os, h.tape, h.output, h.size, fun i hi _ => h.block i hi⟩
theorem Chg.below {lo hi : Nat} {w a b : World} (h : Chg lo hi a b) (hb : Below w.heap.size w a) (hlo : w.heap.size ≤ lo) : Below w.heap.size w b :=
  hb.trans ⟨h.os, h.tape, h.output, h.size, fun k hk => h.block k (Nat.lt_of_lt_of_le hk hb.size) (by omega)⟩
theorem Chg.of_grown {lo hi : Nat} {a b : World} {row : Option Nat} (h : a.grownBy b row) (hr : ∀ k, row = some k → lo ≤ k ∧ k < hi) : Chg lo hi a b :=
  ⟨h.os, h.tape, h.output, h.size, fun i hi hne => h.block i hi (fun e => by have := hr i e.symm; omega)⟩
theorem Chg.drewN {lo hi : Nat} {a b : World} (h : Chg lo hi a b) (n : Nat) : Chg lo hi a (b.drewN n) := ⟨h.os, h.tape, h.output, h.size, h.block⟩
theorem Chg.alloc {lo hi : Nat} {a b : World} (h : Chg lo hi a b) (o : Obj) : Chg lo hi a (b.alloc o) := h.trans ⟨rfl, rfl, rfl, by simp, fun k hk _ => Below.heap_alloc _ _ _ hk⟩
theorem Chg.setCell {lo hi : Nat} {a b : World} (h : Chg lo hi a b) {p : Addr} (hp : lo ≤ p.block ∧ p.block < hi ∨ a.heap.size ≤ p.block) (u : Value) : Chg lo hi a (b.setCell p u) :=
  ⟨h.os, h.tape, h.output, by simpa [World.setCell] using h.size, fun k hk hne => (Below.heap_setCell b p u k (by omega)).trans (h.block k hk hne)⟩
theorem Below.chg {B lo hi : Nat} {w a b : World} (hb : Below B w a) (h : Chg lo hi a b) (hB : B ≤ a.heap.size) (hlo : B ≤ lo) : Below B w b :=
  hb.trans ⟨h.os, h.tape, h.output, h.size, fun k hk => h.block k (by omega) (by omega)⟩
theorem Ints.chg {lo hi : Nat} {w w' : World} {A : Option Addr} {n : Nat} {zs : List Int} (h : Ints w A n zs) (hc : Chg lo hi w w') (hne : ∀ g o, A = some ⟨g, o, none⟩ → g < lo ∨ hi ≤ g) : Ints w' A n zs :=
  h.keep hc.size fun g o e hg => hc.block g hg (hne g o e)
theorem Box.chg {lo hi : Nat} {w w' : World} {g : Nat} {t : TypeId} {cs : Array Value} (h : Box w g t cs) (hc : Chg lo hi w w') (hne : g < lo ∨ hi ≤ g) : Box w' g t cs := (hc.block g h.lt hne).trans h

/-- A row of integers of the call's own, its block from lo on and below hi. -/
def OwnH (w : World) (lo hi : Nat) (A : Option Addr) (n c : Nat) (zs : List Int) : Prop := OwnI w lo A n c zs ∧ ∀ k, blk A c = some k → k < hi
theorem OwnH.mk' {w : World} {lo n c : Nat} {A : Option Addr} {zs : List Int} (h : OwnI w lo A n c zs) : OwnH w lo w.heap.size A n c zs := ⟨h, fun k hk => (h.lt k hk).2⟩
theorem OwnH.ints {w : World} {lo hi n c : Nat} {A : Option Addr} {zs : List Int} (h : OwnH w lo hi A n c zs) : Ints w A n zs := h.1.ints
theorem OwnH.below {w w' : World} {lo hi n c : Nat} {A : Option Addr} {zs : List Int} (h : OwnH w lo hi A n c zs) (hb : Below w.heap.size w w') : OwnH w' lo hi A n c zs := ⟨h.1.below hb, h.2⟩
theorem OwnH.drewN {w : World} {lo hi n c : Nat} {A : Option Addr} {zs : List Int} (h : OwnH w lo hi A n c zs) (k : Nat) : OwnH (w.drewN k) lo hi A n c zs := h
theorem OwnH.alloc {w : World} {lo hi n c : Nat} {A : Option Addr} {zs : List Int} (h : OwnH w lo hi A n c zs) (o : Obj) : OwnH (w.alloc o) lo hi A n c zs := ⟨h.1.alloc o, h.2⟩
theorem OwnI.chg {w w' : World} {lo lo' hi' n c : Nat} {A : Option Addr} {zs : List Int} (h : OwnI w lo A n c zs) (hc : Chg lo' hi' w w') (hne : ∀ k, blk A c = some k → k < lo' ∨ hi' ≤ k) : OwnI w' lo A n c zs :=
  OwnV.keep h fun g hg => hc.block g (h.lt g hg).2 (hne g hg)
theorem OwnH.chg {w w' : World} {lo hi lo' hi' n c : Nat} {A : Option Addr} {zs : List Int} (h : OwnH w lo hi A n c zs) (hc : Chg lo' hi' w w') (hne : hi ≤ lo' ∨ hi' ≤ lo) : OwnH w' lo hi A n c zs :=
  ⟨h.1.chg hc (fun k hk => by have := h.1.lt k hk; have := h.2 k hk; omega), h.2⟩
theorem OwnH.mono {w : World} {lo hi lo' hi' n c : Nat} {A : Option Addr} {zs : List Int} (h : OwnH w lo hi A n c zs) (h1 : lo' ≤ lo) (h2 : hi ≤ hi') : OwnH w lo' hi' A n c zs :=
  ⟨h.1.mono h1, fun k hk => Nat.lt_of_lt_of_le (h.2 k hk) h2⟩
theorem OwnH.len {w : World} {lo hi n c : Nat} {A : Option Addr} {zs : List Int} (h : OwnH w lo hi A n c zs) : zs.length = n := h.1.len
theorem OwnH.setCell {w : World} {lo hi n c : Nat} {A : Option Addr} {zs : List Int} (h : OwnH w lo hi A n c zs) (p : Addr) (u : Value) (hne : p.block < lo ∨ hi ≤ p.block) : OwnH (w.setCell p u) lo hi A n c zs :=
  ⟨OwnV.keep h.1 fun g hg => Below.heap_setCell w p u g (by have := h.1.lt g hg; have := h.2 g hg; omega), h.2⟩
end Go.Proofs.Ytbapamfomfbmmaa
