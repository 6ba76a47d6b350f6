/-
  Regions that draw their order and whose calls make memory but change none: one walk of the text's order serves every order. Nothing here speaks of the program.
-/
import Derived.Test.YtbapamfomfbmmaaKit3
namespace Go.Proofs.Ytbapamfomfbmmaa
open Go.RowKit
set_option linter.unusedSimpArgs false
set_option linter.unusedVariables false

/-- A world behind W in which nothing that W held has changed. -/
structure Later (W : World) where
  w : World
  bel : Below W.heap.size W w
instance (W : World) : Nonempty (Later W) := ⟨⟨W, Below.refl _ _⟩⟩
section
variable {P : Program} {W : World}
theorem later_cell {g o : Nat} {v : Value} (hg : g < W.heap.size) (h : W.cell? ⟨g, o, none⟩ = some v) : ∀ z : Later W, z.w.cell? ⟨g, o, none⟩ = some v := fun z => (z.bel.cell (p := ⟨g, o, none⟩) hg).trans h
theorem later_call {f : FuncId} {args : Array Value} {z : Later W} {v : Value} (h : Calls P f args z.w fun e w' => e = .returned v ∧ Below z.w.heap.size z.w w') :
    Calls P f args z.w fun e w'' => e = .returned v ∧ ∃ z' : Later W, w'' = z'.w :=
  h.mono fun _ _ ⟨he, hb⟩ => ⟨he, ⟨_, z.bel.trans (hb.mono z.bel.size)⟩, rfl⟩
theorem later_same {f : FuncId} {args : Array Value} {z : Later W} {v : Value} (h : Calls P f args z.w fun e w' => e = .returned v ∧ z.w = w') :
    Calls P f args z.w fun e w'' => e = .returned v ∧ ∃ z' : Later W, w'' = z'.w :=
  h.mono fun _ _ ⟨he, hb⟩ => ⟨he, z, hb.symm⟩
theorem later_callB {f : FuncId} {args : Array Value} {z : Later W} {b c : Bool} (h : Calls P f args z.w fun e w' => e = .returned (.bool b) ∧ Below z.w.heap.size z.w w') (hb : b = c) :
    Calls P f args z.w fun e w'' => e = .returned (.bool c) ∧ ∃ z' : Later W, w'' = z'.w := by
  subst hb; exact later_call h
theorem later_sameB {f : FuncId} {args : Array Value} {z : Later W} {b c : Bool} (h : Calls P f args z.w fun e w' => e = .returned (.bool b) ∧ z.w = w') (hb : b = c) :
    Calls P f args z.w fun e w'' => e = .returned (.bool c) ∧ ∃ z' : Later W, w'' = z'.w := by
  subst hb; exact later_same h
theorem later_drawn {f : FuncId} {args : Array Value} {z : Later W} {v : Value} (h : Calls P f args z.w fun e w' => e = .returned v ∧ ∃ k, w' = z.w.drewN k) :
    Calls P f args z.w fun e w'' => e = .returned v ∧ ∃ z' : Later W, w'' = z'.w :=
  h.mono fun _ _ ⟨he, k, hb⟩ => ⟨he, ⟨_, belowN z.bel k⟩, hb⟩
theorem wp_region_later {id : Nat} {Q : Exit → Act → World → Prop} {a : Act} {l : List Oper} (hm : P.follows .mixedOrders = true) (hB : Region.lexB .any l.toArray = true)
    (h : wpQuiet P l.toArray (fun w' => ∃ z : Later W, w' = z.w) (fun a' => ∀ w', (∃ z : Later W, w' = z.w) → Q .normal a' w') l a) : (Code.region id l.toArray true).wp P Q a W :=
  wp_region_quiet (C := fun w' => ∃ z : Later W, w' = z.w) hm hB ⟨⟨{ W with drawn := W.drawn + 1 }, ⟨rfl, rfl, rfl, Nat.le_refl _, fun _ _ => rfl⟩⟩, rfl⟩ (by simpa using h)
end
theorem below_after_d {w w' : World} (h : Below w.drew.heap.size w.drew w') : Below w.heap.size w w' := ⟨h.os, h.tape, h.output, h.size, h.block⟩
theorem below_after_alloc_d {w w' : World} {o : Obj} (h : Below (w.alloc o).drew.heap.size (w.alloc o).drew w') : Below w.heap.size w w' := ((Below.refl _ _).alloc (Nat.le_refl _) o).trans (Below.mono (⟨h.os, h.tape, h.output, h.size, h.block⟩ : Below (w.alloc o).heap.size (w.alloc o) w') (by simp))
theorem box_after_alloc_d {w w' : World} {t : TypeId} {cs : Array Value} (h : Below (w.alloc (.cells cs t)).drew.heap.size (w.alloc (.cells cs t)).drew w') : Box w' w.heap.size t cs := (Box.new w t cs).kept (⟨h.os, h.tape, h.output, h.size, h.block⟩ : Below (w.alloc (.cells cs t)).heap.size (w.alloc (.cells cs t)) w')
theorem Box.ad {w : World} {g : Nat} {t : TypeId} {cs : Array Value} (h : Box w g t cs) (o : Obj) : Box (w.alloc o).drew g t cs := h.alloc o
theorem Box.dr {w : World} {g : Nat} {t : TypeId} {cs : Array Value} (h : Box w g t cs) : Box w.drew g t cs := h
theorem below_after_alloc {w w' : World} (o : Obj) (h : Below (w.alloc o).heap.size (w.alloc o) w') : Below w.heap.size w w' := ((Below.refl _ _).alloc (Nat.le_refl _) o).trans (h.mono (by simp))
theorem box_after_alloc {w w' : World} {t : TypeId} {cs : Array Value} (h : Below (w.alloc (.cells cs t)).heap.size (w.alloc (.cells cs t)) w') : Box w' w.heap.size t cs := (Box.new w t cs).kept h
theorem lat_a {W X : World} (h : Below W.heap.size W X) {o : Obj} : Below W.heap.size W (X.alloc o) := h.alloc h.size o
theorem lat_ad {W X : World} (h : Below W.heap.size W X) {o : Obj} : Below W.heap.size W (X.alloc o).drew := belowN (h.alloc h.size o) 1
theorem lat_d {W X : World} (h : Below W.heap.size W X) : Below W.heap.size W X.drew := belowN h 1
theorem lat_s2 {W X : World} (h : Below W.heap.size W X) {u : Nat} (hu : W.heap.size ≤ u) {a b : Value} : Below W.heap.size W ((X.setCell ⟨u, 0, none⟩ a).setCell ⟨u, 1, none⟩ b) := (h.setCell hu _).setCell hu _
theorem lat_s3 {W X : World} (h : Below W.heap.size W X) {u : Nat} (hu : W.heap.size ≤ u) {a b c : Value} : Below W.heap.size W (((X.setCell ⟨u, 0, none⟩ a).setCell ⟨u, 1, none⟩ b).setCell ⟨u, 2, none⟩ c) := ((h.setCell hu _).setCell hu _).setCell hu _
theorem lat_s4 {W X : World} (h : Below W.heap.size W X) {u : Nat} (hu : W.heap.size ≤ u) {a b c d : Value} : Below W.heap.size W ((((X.setCell ⟨u, 0, none⟩ a).setCell ⟨u, 1, none⟩ b).setCell ⟨u, 2, none⟩ c).setCell ⟨u, 3, none⟩ d) := (((h.setCell hu _).setCell hu _).setCell hu _).setCell hu _
theorem box_s2 {w : World} {g : Nat} {t : TypeId} {a b a' b' : Value} (h : Box w g t #[a, b]) : Box ((w.setCell ⟨g, 0, none⟩ a').setCell ⟨g, 1, none⟩ b') g t #[a', b'] := (h.set_ 0 _).set_ 1 _
theorem box_s3 {w : World} {g : Nat} {t : TypeId} {a b c a' b' c' : Value} (h : Box w g t #[a, b, c]) : Box (((w.setCell ⟨g, 0, none⟩ a').setCell ⟨g, 1, none⟩ b').setCell ⟨g, 2, none⟩ c') g t #[a', b', c'] := ((h.set_ 0 _).set_ 1 _).set_ 2 _
theorem box_s4 {w : World} {g : Nat} {t : TypeId} {a b c d a' b' c' d' : Value} (h : Box w g t #[a, b, c, d]) : Box ((((w.setCell ⟨g, 0, none⟩ a').setCell ⟨g, 1, none⟩ b').setCell ⟨g, 2, none⟩ c').setCell ⟨g, 3, none⟩ d') g t #[a', b', c', d'] := (((h.set_ 0 _).set_ 1 _).set_ 2 _).set_ 3 _
end Go.Proofs.Ytbapamfomfbmmaa
