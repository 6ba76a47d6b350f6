/-
  Rows of any element type: a slice that is read, a slice of the call's own, a list with its first part changed. Nothing here speaks of the program.
-/
import Derived.Test.YtbapamfomfbmmaaKit2
namespace Go.Proofs.Ytbapamfomfbmmaa
open Go.RowKit
set_option linter.unusedSimpArgs false
set_option linter.unusedVariables false

theorem Box.c5 {w : World} {g : Nat} {t : TypeId} {a b c d e : Value} (h : Box w g t #[a, b, c, d, e]) : w.cell? ⟨g, 0, none⟩ = some a ∧ w.cell? ⟨g, 1, none⟩ = some b ∧ w.cell? ⟨g, 2, none⟩ = some c ∧ w.cell? ⟨g, 3, none⟩ = some d ∧ w.cell? ⟨g, 4, none⟩ = some e :=
  ⟨h.cell 0 a rfl, h.cell 1 b rfl, h.cell 2 c rfl, h.cell 3 d rfl, h.cell 4 e rfl⟩
theorem Box.c6 {w : World} {g : Nat} {t : TypeId} {a b c d e f : Value} (h : Box w g t #[a, b, c, d, e, f]) : w.cell? ⟨g, 0, none⟩ = some a ∧ w.cell? ⟨g, 1, none⟩ = some b ∧ w.cell? ⟨g, 2, none⟩ = some c ∧ w.cell? ⟨g, 3, none⟩ = some d ∧ w.cell? ⟨g, 4, none⟩ = some e ∧ w.cell? ⟨g, 5, none⟩ = some f :=
  ⟨h.cell 0 a rfl, h.cell 1 b rfl, h.cell 2 c rfl, h.cell 3 d rfl, h.cell 4 e rfl, h.cell 5 f rfl⟩
/-- The first k elements through f, the others as they are. -/
def halfM (f : Int → Int) (zs : List Int) (k : Nat) : List Int := (zs.take k).map f ++ zs.drop k
theorem halfM_zero (f : Int → Int) (zs : List Int) : halfM f zs 0 = zs := by simp [halfM]
theorem halfM_all (f : Int → Int) (zs : List Int) (k : Nat) (h : zs.length ≤ k) : halfM f zs k = zs.map f := by
  unfold halfM; rw [List.take_of_length_le h, List.drop_eq_nil_of_le h, List.append_nil]
theorem halfM_get {f : Int → Int} {zs : List Int} {k : Nat} {x : Int} (h : zs[k]? = some x) : (halfM f zs k)[k]? = some x := by
  have hk := lt_of_get h
  unfold halfM
  rw [List.getElem?_append_right (by simp; omega)]
  simp only [List.length_map, List.length_take, List.getElem?_drop]
  rw [show k + (k - min k zs.length) = k by omega, h]
theorem halfM_set {f : Int → Int} {zs : List Int} {k : Nat} {x : Int} (h : zs[k]? = some x) : (halfM f zs k).set k (f x) = halfM f zs (k + 1) := by
  have hk := lt_of_get h
  unfold halfM
  rw [List.set_append_right _ _ (by simp; omega), take_snoc h, List.drop_eq_getElem_cons hk]
  simp only [List.length_map, List.length_take]
  rw [show k - min k zs.length = 0 by omega, List.set_cons_zero]
  simp

section
variable {w w' : World} {lo hi n c : Nat} {A : Option Addr} {zs : List Int}
theorem OwnH.at_ (h : OwnH w lo hi A n c zs) {k : Nat} (hk : k < n) :
    ∃ g x, A = some ⟨g, 0, none⟩ ∧ w.cell? ⟨g, k, none⟩ = some (.int .i64 x) ∧ w.frozen? ⟨g, k, none⟩ = false ∧ Hid (zs[k]? = some x) ∧ lo ≤ g ∧ g < hi := by
  obtain ⟨hc, g, rfl, h1, h2⟩ := h.1.form (by omega)
  have hl := h.1.len
  refine ⟨g, zs[k]'(by omega), rfl, ?_, OwnV.frozenAt h.1 rfl hc k, ?_, h1, h.2 g (blk_at hc)⟩
  · rw [OwnV.cellAt h.1 rfl k (by omega), mapI_get _ _ (by omega), List.getD_eq_getElem?_getD, List.getElem?_eq_getElem (by omega)]; rfl
  · unfold Hid; exact List.getElem?_eq_getElem (by omega)
theorem OwnH.stored (h : OwnH w lo hi A n c zs) {g : Nat} (hA : A = some ⟨g, 0, none⟩) {k : Nat} (hk : k < n) (x : Int) :
    OwnH (w.setCell ⟨g, k, none⟩ (.int .i64 x)) lo hi A n c (zs.set k x) ∧ Chg lo hi w (w.setCell ⟨g, k, none⟩ (.int .i64 x)) := by
  obtain ⟨hc, g', e, h1, h2⟩ := h.1.form (by omega)
  obtain ⟨s1, s2⟩ := OwnV.stored h.1 hA hc k (.int .i64 x)
  rw [mapI_set] at s1
  exact ⟨⟨s1, h.2⟩, Chg.of_grown s2 (fun j hj => ⟨(h.1.lt j hj).1, h.2 j hj⟩)⟩
theorem OwnH.cellset (h : OwnH w lo hi A n c zs) {g : Nat} (hA : A = some ⟨g, 0, none⟩) (hn : 0 < n) : lo ≤ g ∧ g < hi := by
  obtain ⟨hc, g', e, h1, h2⟩ := h.1.form hn
  subst hA
  injection e with e
  injection e with e
  subst e
  exact ⟨h1, h.2 g (blk_at hc)⟩
theorem OwnH.nil (w : World) (lo hi : Nat) (A : Option Addr) : OwnH w lo hi A 0 0 [] := ⟨OwnI.nil _ _ _, fun k hk => by rw [blk_zero] at hk; cases hk⟩
end

theorem below_app3 {w w0 w' : World} {A : Option Addr} {c : Nat} (hb : Below w.heap.size w w0) (hg : w0.grownBy w' (blk A c)) (hA : ∀ k, blk A c = some k → w.heap.size ≤ k) : Below w.heap.size w w' :=
  hb.grown hg hb.size hA
/-- A slice of elements of several cells that reads as the cells xs. -/
def Cells (w : World) (size : Nat) (A : Option Addr) (n : Nat) (xs : List Value) : Prop :=
  xs.length = n * size ∧ (0 < n → ∃ g o, A = some ⟨g, o, none⟩ ∧ g < w.heap.size ∧ ∀ j, j < n * size → w.cell? ⟨g, o + j, none⟩ = xs[j]?)
section
variable {w w' : World} {size n : Nat} {A : Option Addr} {xs : List Value}
theorem Cells.keep (h : Cells w size A n xs) (hs : w.heap.size ≤ w'.heap.size) (hk : ∀ g o, A = some ⟨g, o, none⟩ → g < w.heap.size → w'.heap[g]? = w.heap[g]?) : Cells w' size A n xs := by
  refine ⟨h.1, fun hn => ?_⟩
  obtain ⟨g, o, e, hg, hc⟩ := h.2 hn
  exact ⟨g, o, e, by omega, fun i hi => (World.cell?_of_block (w := w) (hk g o e hg)).trans (hc i hi)⟩
theorem Cells.below (h : Cells w size A n xs) (hb : Below w.heap.size w w') : Cells w' size A n xs := h.keep hb.size fun g o _ hg => hb.block g hg
theorem Cells.drewN (h : Cells w size A n xs) (k : Nat) : Cells (w.drewN k) size A n xs := h
theorem Cells.alloc (h : Cells w size A n xs) (o : Obj) : Cells (w.alloc o) size A n xs := h.keep (by simp) fun g _ _ hg => Below.heap_alloc w o g hg
theorem Cells.chg {lo hi : Nat} (h : Cells w size A n xs) (hc : Chg lo hi w w') (hne : ∀ g o, A = some ⟨g, o, none⟩ → g < lo ∨ hi ≤ g) : Cells w' size A n xs := h.keep hc.size fun g o e hg => hc.block g hg (hne g o e)
theorem Cells.nil (w : World) (size : Nat) (A : Option Addr) : Cells w size A 0 [] := ⟨by simp, fun h => absurd h (by omega)⟩
theorem Cells.src (h : Cells w size A n xs) : Src w size A n xs := by
  refine ⟨h.1, fun hn => ?_⟩
  obtain ⟨g, o, rfl, hg, hc⟩ := h.2 hn
  refine ⟨_, rfl, fun j u hu => ?_⟩
  have hj : j < n * size := by have := lt_of_get hu; have := h.1; omega
  rw [addr_add, hc j hj, hu]
theorem Cells.take (h : Cells w size A n xs) {k : Nat} (hk : k ≤ n) : Cells w size A k (xs.take (k * size)) := by
  have hle : k * size ≤ n * size := Nat.mul_le_mul_right _ hk
  refine ⟨by rw [List.length_take, h.1]; omega, fun h0 => ?_⟩
  obtain ⟨g, o, e, hg, hc⟩ := h.2 (by omega)
  exact ⟨g, o, e, hg, fun j hj => by rw [hc j (by omega), List.getElem?_take, if_pos hj]⟩
theorem Cells.drop (h : Cells w size A n xs) {k : Nat} (hk : k ≤ n) {B : Option Addr} (hB : k < n → ∀ g o, A = some ⟨g, o, none⟩ → B = some ⟨g, o + k * size, none⟩) : Cells w size B (n - k) (xs.drop (k * size)) := by
  have hle : k * size ≤ n * size := Nat.mul_le_mul_right _ hk
  refine ⟨by rw [List.length_drop, h.1, Nat.sub_mul], fun h0 => ?_⟩
  obtain ⟨g, o, e, hg, hc⟩ := h.2 (by omega)
  refine ⟨g, o + k * size, hB (by omega) g o e, hg, fun j hj => ?_⟩
  rw [Nat.sub_mul] at hj
  rw [Nat.add_assoc, hc (k * size + j) (by omega), List.getElem?_drop]
end
theorem Ints.cells {w : World} {A : Option Addr} {n : Nat} {zs : List Int} (h : Ints w A n zs) : Cells w 1 A n (mapI zs) := by
  refine ⟨by rw [mapI_len, h.1, Nat.mul_one], fun hn => ?_⟩
  obtain ⟨g, o, e, hg, hc⟩ := h.2 hn
  exact ⟨g, o, e, hg, fun j hj => by rw [hc j (by omega), mapI_get _ _ (by rw [h.1]; omega)]⟩
theorem Cells.ints {w : World} {A : Option Addr} {n : Nat} {zs : List Int} (h : Cells w 1 A n (mapI zs)) : Ints w A n zs := by
  have hl : zs.length = n := by have := h.1; rw [mapI_len] at this; omega
  refine ⟨hl, fun hn => ?_⟩
  obtain ⟨g, o, e, hg, hc⟩ := h.2 hn
  exact ⟨g, o, e, hg, fun j hj => by rw [hc j (by omega), mapI_get _ _ (by rw [hl]; omega)]⟩
theorem Ints.take {w : World} {A : Option Addr} {n : Nat} {zs : List Int} (h : Ints w A n zs) {k : Nat} (hk : k ≤ n) : Ints w A k (zs.take k) := by
  have := h.cells.take hk
  rw [Nat.mul_one] at this
  refine Cells.ints ?_
  unfold mapI at *
  rw [List.map_take]
  exact this

/-- A row of the call's own of any element type, its block from lo on and below hi. -/
def OwnG (w : World) (lo hi : Nat) (e : TypeId) (size : Nat) (A : Option Addr) (n c : Nat) (xs : List Value) : Prop := OwnV w lo e size A n c xs ∧ ∀ k, blk A c = some k → k < hi
section
variable {w w' : World} {lo hi size n c : Nat} {e : TypeId} {A : Option Addr} {xs : List Value}
theorem OwnG.mk' (h : OwnV w lo e size A n c xs) : OwnG w lo w.heap.size e size A n c xs := ⟨h, fun k hk => (h.lt k hk).2⟩
theorem OwnG.len (h : OwnG w lo hi e size A n c xs) : xs.length = n * size := h.1.len
theorem OwnG.below (h : OwnG w lo hi e size A n c xs) (hb : Below w.heap.size w w') : OwnG w' lo hi e size A n c xs := ⟨h.1.below hb, h.2⟩
theorem OwnG.drewN (h : OwnG w lo hi e size A n c xs) (k : Nat) : OwnG (w.drewN k) lo hi e size A n c xs := h
theorem OwnG.alloc (h : OwnG w lo hi e size A n c xs) (o : Obj) : OwnG (w.alloc o) lo hi e size A n c xs := ⟨h.1.alloc o, h.2⟩
theorem OwnG.chg {lo' hi' : Nat} (h : OwnG w lo hi e size A n c xs) (hc : Chg lo' hi' w w') (hne : hi ≤ lo' ∨ hi' ≤ lo) : OwnG w' lo hi e size A n c xs :=
  ⟨OwnV.keep h.1 fun g hg => hc.block g (h.1.lt g hg).2 (by have := h.1.lt g hg; have := h.2 g hg; omega), h.2⟩
theorem OwnG.mono {lo' hi' : Nat} (h : OwnG w lo hi e size A n c xs) (h1 : lo' ≤ lo) (h2 : hi ≤ hi') : OwnG w lo' hi' e size A n c xs := ⟨h.1.mono h1, fun k hk => Nat.lt_of_lt_of_le (h.2 k hk) h2⟩
theorem OwnG.setCell (h : OwnG w lo hi e size A n c xs) (p : Addr) (u : Value) (hne : p.block < lo ∨ hi ≤ p.block) : OwnG (w.setCell p u) lo hi e size A n c xs :=
  ⟨OwnV.keep h.1 fun g hg => Below.heap_setCell w p u g (by have := h.1.lt g hg; have := h.2 g hg; omega), h.2⟩
theorem OwnG.nil (w : World) (lo hi : Nat) (e : TypeId) (size : Nat) (A : Option Addr) : OwnG w lo hi e size A 0 0 [] := ⟨OwnV.nil _ _ _ _ _, fun k hk => by rw [blk_zero] at hk; cases hk⟩
theorem OwnV.cells (h : OwnV w lo e size A n c xs) : Cells w size A n xs := by
  refine ⟨h.len, fun hn => ?_⟩
  have hc : c ≠ 0 := by have := h.cap; omega
  obtain ⟨g, rfl, h1, h2⟩ := h.form hc
  exact ⟨g, 0, rfl, h2, fun j hj => by rw [Nat.zero_add]; exact h.cellAt rfl j hj⟩
theorem OwnG.cells (h : OwnG w lo hi e size A n c xs) : Cells w size A n xs := h.1.cells
theorem OwnG.form (h : OwnG w lo hi e size A n c xs) (hn : 0 < n) : c ≠ 0 ∧ ∃ g, A = some ⟨g, 0, none⟩ ∧ lo ≤ g ∧ g < hi ∧ g < w.heap.size := by
  have hc : c ≠ 0 := by have := h.1.cap; omega
  obtain ⟨g, rfl, h1, h2⟩ := h.1.form hc
  exact ⟨hc, g, rfl, h1, h.2 g (blk_at hc), h2⟩
theorem OwnG.stored (h : OwnG w lo hi e size A n c xs) {g : Nat} (hA : A = some ⟨g, 0, none⟩) (hn : 0 < n) (j : Nat) (u : Value) :
    OwnG (w.setCell ⟨g, j, none⟩ u) lo hi e size A n c (xs.set j u) ∧ Chg lo hi w (w.setCell ⟨g, j, none⟩ u) := by
  have hc : c ≠ 0 := by have := h.1.cap; omega
  obtain ⟨s1, s2⟩ := OwnV.stored h.1 hA hc j u
  exact ⟨⟨s1, h.2⟩, Chg.of_grown s2 (fun k hk => ⟨(h.1.lt k hk).1, h.2 k hk⟩)⟩
theorem OwnG.frozenAt (h : OwnG w lo hi e size A n c xs) {g : Nat} (hA : A = some ⟨g, 0, none⟩) (hn : 0 < n) (j : Nat) : w.frozen? ⟨g, j, none⟩ = false := by
  have hc : c ≠ 0 := by have := h.1.cap; omega
  exact OwnV.frozenAt h.1 hA hc j
end

/-- A slice of bools that reads as the list bs. -/
def mapB (bs : List Bool) : List Value := bs.map Value.bool
def Bools (w : World) (A : Option Addr) (n : Nat) (bs : List Bool) : Prop := Cells w 1 A n (mapB bs)
theorem mapB_len (bs : List Bool) : (mapB bs).length = bs.length := by simp [mapB]
section
variable {w w' : World} {n : Nat} {A : Option Addr} {bs : List Bool}
theorem Bools.len (h : Bools w A n bs) : bs.length = n := by have := h.1; rw [mapB_len] at this; omega
theorem Bools.below (h : Bools w A n bs) (hb : Below w.heap.size w w') : Bools w' A n bs := Cells.below h hb
theorem Bools.drewN (h : Bools w A n bs) (k : Nat) : Bools (w.drewN k) A n bs := h
theorem Bools.at_ (h : Bools w A n bs) {k : Nat} (hk : k < n) : ∃ g o x, A = some ⟨g, o, none⟩ ∧ w.cell? ⟨g, o + k, none⟩ = some (.bool x) ∧ Hid (bs[k]? = some x) := by
  have hl := h.len
  obtain ⟨g, o, e, hg, hc⟩ := h.2 (by omega)
  refine ⟨g, o, bs[k]'(by omega), e, ?_, ?_⟩
  · rw [hc k (by omega)]; simp [mapB, hl, hk]
  · unfold Hid; exact List.getElem?_eq_getElem (by omega)
end
def OwnB (w : World) (lo hi : Nat) (A : Option Addr) (n c : Nat) (bs : List Bool) : Prop := OwnG w lo hi 4 1 A n c (mapB bs)
section
variable {w w' : World} {lo hi n c : Nat} {A : Option Addr} {bs : List Bool}
theorem OwnB.bools (h : OwnB w lo hi A n c bs) : Bools w A n bs := OwnG.cells h
theorem OwnB.len (h : OwnB w lo hi A n c bs) : bs.length = n := h.bools.len
theorem OwnB.below (h : OwnB w lo hi A n c bs) (hb : Below w.heap.size w w') : OwnB w' lo hi A n c bs := OwnG.below h hb
theorem OwnB.alloc (h : OwnB w lo hi A n c bs) (o : Obj) : OwnB (w.alloc o) lo hi A n c bs := OwnG.alloc h o
theorem OwnB.drewN (h : OwnB w lo hi A n c bs) (k : Nat) : OwnB (w.drewN k) lo hi A n c bs := h
theorem OwnB.chg {lo' hi' : Nat} (h : OwnB w lo hi A n c bs) (hc : Chg lo' hi' w w') (hne : hi ≤ lo' ∨ hi' ≤ lo) : OwnB w' lo hi A n c bs := OwnG.chg h hc hne
end
end Go.Proofs.Ytbapamfomfbmmaa
