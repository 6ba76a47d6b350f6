/-
  Words for memory that every text of this seat uses: a slice of integers that reads as a list, a row that the call owns, and how they are kept. Nothing here speaks of the program.
-/
import Derived.WalkKit
import Derived.WalkSpells
import Derived.WalkLawsBesides
import Derived.Outline
import Derived.Lib.Hide
import Derived.Deep.Draws
import Derived.Deep.AppendLies
import Derived.Maps.AppendAt
import Derived.Deep.QuietTactic
import Derived.BigQuiet
namespace Go.Proofs.Ytbapamfomfbmmaa
open Go.RowKit
set_option linter.unusedSimpArgs false
set_option linter.unusedVariables false

/-- A number lies between two others, both ends counted. -/
def inB (x lo hi : Int) : Bool := decide (lo ≤ x ∧ x ≤ hi)
theorem inB_t {x lo hi : Int} (h : inB x lo hi = true) : lo ≤ x ∧ x ≤ hi := by simpa [inB] using h
theorem inB_f {x lo hi : Int} (h : inB x lo hi = false) : x < lo ∨ hi < x := by
  simp [inB] at h; omega
theorem inB_mk {x lo hi : Int} (h1 : lo ≤ x) (h2 : x ≤ hi) : inB x lo hi = true := by simp [inB, h1, h2]
theorem inB_no {x lo hi : Int} (h : x < lo ∨ hi < x) : inB x lo hi = false := by simp [inB]; omega

/-- What lies in old blocks is kept. -/
theorem bcell {W w1 : World} {B : Nat} (hb : Below B W w1) : (∀ b o, b < B → w1.cell? ⟨b, o, none⟩ = W.cell? ⟨b, o, none⟩) ∧ (∀ b o, b < B → w1.frozen? ⟨b, o, none⟩ = W.frozen? ⟨b, o, none⟩) :=
  ⟨fun b o h => hb.cell (p := ⟨b, o, none⟩) h, fun b o h => hb.frozen (p := ⟨b, o, none⟩) h⟩

theorem belowN {B : Nat} {a w : World} (h : Below B a w) (n : Nat) : Below B a (w.drewN n) := ⟨h.os, h.tape, h.output, h.size, h.block⟩
theorem belowN_left {B : Nat} {a w : World} {n : Nat} (h : Below B (a.drewN n) w) : Below B a w := ⟨h.os, h.tape, h.output, h.size, h.block⟩
theorem grownN {a w : World} {row : Option Nat} (h : a.grownBy w row) (n : Nat) : a.grownBy (w.drewN n) row := ⟨h.os, h.tape, h.output, h.size, h.block⟩
theorem below_grown {a w : World} (h : Below a.heap.size a w) (row : Option Nat) : a.grownBy w row := ⟨h.os, h.tape, h.output, h.size, fun i hi _ => h.block i hi⟩
theorem grown_below {a w : World} (h : a.grownBy w none) : Below a.heap.size a w := ⟨h.os, h.tape, h.output, h.size, fun i hi => h.block i hi (by simp)⟩

def mapI (zs : List Int) : List Value := zs.map (Value.int .i64)
theorem mapI_len (zs : List Int) : (mapI zs).length = zs.length := by simp [mapI]
theorem mapI_one (zs : List Int) : ∀ u ∈ mapI zs, u.oneCell' = true := ints_oneCell .i64 zs
theorem mapI_get (zs : List Int) (k : Nat) (h : k < zs.length) : (mapI zs)[k]? = some (.int .i64 (zs.getD k 0)) := by
  simp [mapI, List.getD_eq_getElem?_getD, h]
theorem mapI_append (xs ys : List Int) : mapI (xs ++ ys) = mapI xs ++ mapI ys := by simp [mapI]
theorem mapI_set (xs : List Int) (k : Nat) (x : Int) : (mapI xs).set k (.int .i64 x) = mapI (xs.set k x) := by simp [mapI, List.map_set]

/-- A slice of integers that reads as the list zs. -/
def Ints (w : World) (A : Option Addr) (n : Nat) (zs : List Int) : Prop :=
  zs.length = n ∧ (0 < n → ∃ g o, A = some ⟨g, o, none⟩ ∧ g < w.heap.size ∧ ∀ i, i < n → w.cell? ⟨g, o + i, none⟩ = some (.int .i64 (zs.getD i 0)))

theorem Ints.nil {w : World} {A : Option Addr} : Ints w A 0 [] := ⟨rfl, fun h => absurd h (by omega)⟩
theorem Ints.keep {w w' : World} {A : Option Addr} {n : Nat} {zs : List Int} (h : Ints w A n zs) (hs : w.heap.size ≤ w'.heap.size)
    (hk : ∀ g o, A = some ⟨g, o, none⟩ → g < w.heap.size → w'.heap[g]? = w.heap[g]?) : Ints w' A n zs := by
  refine ⟨h.1, fun hn => ?_⟩
  obtain ⟨g, o, e, hg, hc⟩ := h.2 hn
  exact ⟨g, o, e, by omega, fun i hi => (World.cell?_of_block (w := w) (hk g o e hg)).trans (hc i hi)⟩
theorem Ints.below {w w' : World} {A : Option Addr} {n : Nat} {zs : List Int} (h : Ints w A n zs) (hb : Below w.heap.size w w') : Ints w' A n zs :=
  h.keep hb.size fun g o _ hg => hb.block g hg
theorem Ints.drewN {w : World} {A : Option Addr} {n : Nat} {zs : List Int} (h : Ints w A n zs) (k : Nat) : Ints (w.drewN k) A n zs := h
theorem Ints.drew {w : World} {A : Option Addr} {n : Nat} {zs : List Int} (h : Ints w A n zs) : Ints w.drew A n zs := h
theorem Ints.alloc {w : World} {A : Option Addr} {n : Nat} {zs : List Int} (h : Ints w A n zs) (o : Obj) : Ints (w.alloc o) A n zs :=
  h.keep (by simp) fun g _ _ hg => Below.heap_alloc w o g hg
theorem Ints.grown {w w' : World} {A : Option Addr} {n : Nat} {zs : List Int} {row : Option Nat} (h : Ints w A n zs) (hg : w.grownBy w' row) (hne : ∀ g o, A = some ⟨g, o, none⟩ → some g ≠ row) : Ints w' A n zs :=
  h.keep hg.size fun g o e hgs => hg.block g hgs (hne g o e)
theorem Ints.at_ {w : World} {A : Option Addr} {n : Nat} {zs : List Int} (h : Ints w A n zs) {k : Nat} (hk : k < n) :
    ∃ g o x, A = some ⟨g, o, none⟩ ∧ w.cell? ⟨g, o + k, none⟩ = some (.int .i64 x) ∧ Hid (zs[k]? = some x) := by
  obtain ⟨g, o, e, _, hc⟩ := h.2 (by omega)
  have hl := h.1
  exact ⟨g, o, _, e, hc k hk, by unfold Hid; rw [List.getD_eq_getElem?_getD, List.getElem?_eq_getElem (by omega)]; rfl⟩
theorem getD_of {zs : List Int} {k : Nat} {x : Int} (h : zs[k]? = some x) : zs.getD k 0 = x := by rw [List.getD_eq_getElem?_getD, h]; rfl
theorem lt_of_get {α : Type} {zs : List α} {k : Nat} {x : α} (h : zs[k]? = some x) : k < zs.length := (List.getElem?_eq_some_iff.1 h).1
theorem take_snoc {α : Type} {zs : List α} {k : Nat} {x : α} (h : zs[k]? = some x) : zs.take (k + 1) = zs.take k ++ [x] := by
  obtain ⟨hlt, rfl⟩ := List.getElem?_eq_some_iff.1 h
  exact List.take_succ_eq_append_getElem hlt

/-- The block of a slice's array; a slice without capacity has none. -/
def blk (A : Option Addr) (c : Nat) : Option Nat := if c = 0 then none else A.map (·.block)
theorem blk_zero (A : Option Addr) : blk A 0 = none := rfl
theorem blk_some {A : Option Addr} {c k : Nat} (h : blk A c = some k) : c ≠ 0 ∧ ∃ a, A = some a ∧ a.block = k := by
  unfold blk at h
  split at h
  · cases h
  · refine ⟨by assumption, ?_⟩
    cases A with
    | none => cases h
    | some a => exact ⟨a, rfl, by simpa using h⟩
theorem blk_at {g o c : Nat} (h : c ≠ 0) : blk (some ⟨g, o, none⟩) c = some g := by unfold blk; rw [if_neg h]; rfl

theorem ownsRow_keep {w w' : World} {base : Nat} {e : TypeId} {size : Nat} {v : Value} {n : Nat} {xs : List Value} (h : w.ownsRow base e size v n xs) (hk : ∀ g, v.ownBlock = some g → w'.heap[g]? = w.heap[g]?) : w'.ownsRow base e size v n xs := by
  refine ⟨h.1, ?_⟩
  rcases h.2 with hn | ⟨g, cap, cur, rfl, hb, hgg, rest⟩
  · exact .inl hn
  · exact .inr ⟨g, cap, cur, rfl, hb, by rw [hk g rfl]; exact hgg, rest⟩

/-- A slice in a row of the call's own, from block lo on; or a slice without capacity. -/
def OwnV (w : World) (lo : Nat) (e : TypeId) (size : Nat) (A : Option Addr) (n c : Nat) (xs : List Value) : Prop :=
  w.ownsRow lo e size (.slice A n c) n xs ∨ (n = 0 ∧ c = 0 ∧ xs = [])

section
variable {w w' : World} {lo size n c : Nat} {e : TypeId} {A : Option Addr} {xs : List Value}
theorem OwnV.len (h : OwnV w lo e size A n c xs) : xs.length = n * size := by
  rcases h with h | ⟨rfl, _, rfl⟩
  · exact h.1
  · simp
theorem OwnV.cap (h : OwnV w lo e size A n c xs) : n ≤ c ∧ c ≤ maxLen := by
  rcases h with h | ⟨rfl, rfl, rfl⟩
  · rcases h.2 with ⟨h', _⟩ | ⟨g, cap, cur, e1, e2, e3, e4, e5, _⟩
    · injection h' with a b c'; subst b; subst c'; simp [maxLen]
    · injection e1 with a b c'; subst c'; exact ⟨e4, e5⟩
  · simp [maxLen]
theorem OwnV.none_of (h : OwnV w lo e size A n c xs) (hc : c = 0) : n = 0 ∧ xs = [] := by
  have h1 := h.cap
  have h2 := h.len
  have : n = 0 := by omega
  subst this
  exact ⟨rfl, List.eq_nil_of_length_eq_zero (by simpa using h2)⟩
theorem OwnV.row (h : OwnV w lo e size A n c xs) (hc : c ≠ 0) : w.ownsRow lo e size (.slice A n c) n xs := by
  rcases h with h | ⟨_, h, _⟩
  · exact h
  · exact absurd h hc
theorem OwnV.form (h : OwnV w lo e size A n c xs) (hc : c ≠ 0) : ∃ g, A = some ⟨g, 0, none⟩ ∧ lo ≤ g ∧ g < w.heap.size := by
  rcases (h.row hc).2 with ⟨h', _⟩ | ⟨g, cap, cur, e1, e2, e3, _⟩
  · injection h' with a b c'; exact absurd c' hc
  · injection e1 with a b c'
    exact ⟨g, a, e2, (Array.getElem?_eq_some_iff.1 e3).1⟩
theorem OwnV.lt (h : OwnV w lo e size A n c xs) : ∀ k, blk A c = some k → lo ≤ k ∧ k < w.heap.size := by
  intro k hk
  obtain ⟨hc, a, rfl, rfl⟩ := blk_some hk
  obtain ⟨g, e1, h1, h2⟩ := h.form hc
  injection e1 with e1
  subst e1
  exact ⟨h1, h2⟩
theorem OwnV.keep (h : OwnV w lo e size A n c xs) (hk : ∀ g, blk A c = some g → w'.heap[g]? = w.heap[g]?) : OwnV w' lo e size A n c xs := by
  by_cases hc : c = 0
  · obtain ⟨h1, h2⟩ := h.none_of hc
    exact .inr ⟨h1, hc, h2⟩
  · refine .inl (ownsRow_keep (h.row hc) fun g hg => hk g ?_)
    obtain ⟨g', rfl, _, _⟩ := h.form hc
    rw [blk_at hc]
    simpa [Value.ownBlock] using hg
theorem OwnV.kept {row : Option Nat} (h : OwnV w lo e size A n c xs) (hg : w.grownBy w' row) (hne : ∀ k, blk A c = some k → some k ≠ row) : OwnV w' lo e size A n c xs :=
  h.keep fun g hb => hg.block g (h.lt g hb).2 (hne g hb)
theorem OwnV.below (h : OwnV w lo e size A n c xs) (hb : Below w.heap.size w w') : OwnV w' lo e size A n c xs := h.kept (below_grown hb none) (by simp)
theorem OwnV.drewN (h : OwnV w lo e size A n c xs) (k : Nat) : OwnV (w.drewN k) lo e size A n c xs := h
theorem OwnV.alloc (h : OwnV w lo e size A n c xs) (o : Obj) : OwnV (w.alloc o) lo e size A n c xs := h.keep fun g hg => Below.heap_alloc w o g (h.lt g hg).2
theorem OwnV.mono {lo' : Nat} (h : OwnV w lo e size A n c xs) (hl : lo' ≤ lo) : OwnV w lo' e size A n c xs := by
  rcases h with h | h
  · refine .inl ⟨h.1, ?_⟩
    rcases h.2 with h' | ⟨g, cap, cur, e1, e2, e3⟩
    · exact .inl h'
    · exact .inr ⟨g, cap, cur, e1, by omega, e3⟩
  · exact .inr h
theorem OwnV.cellAt (h : OwnV w lo e size A n c xs) {g : Nat} (hA : A = some ⟨g, 0, none⟩) (j : Nat) (hj : j < n * size) : w.cell? ⟨g, j, none⟩ = xs[j]? := by
  subst hA
  have hc : c ≠ 0 := by
    intro hc
    have := (h.none_of hc).1
    subst this
    simp at hj
  exact World.ownsRow.cellAt (h.row hc) j hj
theorem OwnV.frozenAt (h : OwnV w lo e size A n c xs) {g : Nat} (hA : A = some ⟨g, 0, none⟩) (hc : c ≠ 0) (j : Nat) : w.frozen? ⟨g, j, none⟩ = false := by
  subst hA
  exact World.ownsRow.frozenAt (h.row hc) j
theorem OwnV.stored (h : OwnV w lo e size A n c xs) {g : Nat} (hA : A = some ⟨g, 0, none⟩) (hc : c ≠ 0) (j : Nat) (u : Value) :
    OwnV (w.setCell ⟨g, j, none⟩ u) lo e size A n c (xs.set j u) ∧ w.grownBy (w.setCell ⟨g, j, none⟩ u) (blk A c) := by
  subst hA
  obtain ⟨h1, h2⟩ := World.ownsRow.stored (h.row hc) j u
  rw [blk_at hc]
  exact ⟨.inl h1, h2⟩
theorem OwnV.nil (w : World) (lo : Nat) (e : TypeId) (size : Nat) (A : Option Addr) : OwnV w lo e size A 0 0 [] := .inr ⟨rfl, rfl, rfl⟩
end

/-- The cells of a slice that is read. -/
def Src (w : World) (size : Nat) (B : Option Addr) (m : Nat) (news : List Value) : Prop :=
  news.length = m * size ∧ (0 < m → ∃ ad, B = some ad ∧ ∀ j u, news[j]? = some u → w.cell? (ad.add j) = some u)

/-- append onto a row of the call's own. -/
theorem run_appV {P : Program} (w : World) (lo : Nat) (t ty e : TypeId) (z : Value) (size bytes : Nat) (ht : P.underlying t = some (.slice e))
    (hinf : (P.info? e).map (fun i => (i.zero, i.size, i.bytes)) = some (some z, size, bytes)) (hzs : z.cells.size = size) (hsz : 0 < size)
    (A : Option Addr) (n c : Nat) (xs : List Value) (hown : OwnV w lo e size A n c xs) (B : Option Addr) (m d : Nat) (news : List Value) (hsrc : Src w size B m news) (h1 : ∀ u ∈ news, u.oneCell' = true)
    (h63 : n + m ≤ maxLen) (hbytes : (n + m) * bytes ≤ 140737488355328) (hlo : lo ≤ w.heap.size) :
    ∃ A' c' w', (Builtin.append_ #[t, t] ty #[.slice A n c, .slice B m d]).run P w = .ok (.slice A' (n + m) c') w' ∧ OwnV w' lo e size A' (n + m) c' (xs ++ news) ∧ w.grownBy w' (blk A c) ∧
      (blk A' c' = blk A c ∨ blk A' c' = some w.heap.size) := by
  obtain ⟨i, hi, hz, hs, hby⟩ := info_parts hinf
  obtain ⟨hl, hcell⟩ := hsrc
  rcases Nat.eq_zero_or_pos m with h0 | h0
  · subst h0
    have hn0 : news = [] := List.eq_nil_of_length_eq_zero (by simpa using hl)
    subst hn0
    have hcap := hown.cap.1
    refine ⟨A, c, w, ?_, by simpa using hown, World.grownBy.refl _ _, .inl rfl⟩
    cases B with
    | none => cases A <;> simp [Builtin.append_, run_underlying ht, sizeOf, typeInfo, hi, Builtin.lenOf, Builtin.firstCells, hcap, storeCells]
    | some ad => cases A <;> simp [Builtin.append_, run_underlying ht, sizeOf, typeInfo, hi, Builtin.lenOf, Builtin.firstCells, hcap, storeCells, loadCells, loadCellsFrom]
  · obtain ⟨ad, rfl, hc2⟩ := hcell h0
    by_cases hc : c = 0
    · obtain ⟨rfl, rfl⟩ := hown.none_of hc
      subst hc
      subst hs
      subst hby
      have hge := grownCap_ge w m 0 e
      have hcm : grownCap w m 0 e ≤ maxLen := grownCap_le_maxLen w m 0 e (by omega)
      have own : (w.drew.alloc (.cells (news.toArray ++ Builtin.zeroCells z.cells (grownCap w m 0 e - m)) e)).ownsRow lo e i.size (.slice (some ⟨w.heap.size, 0, none⟩) m (grownCap w m 0 e)) m news := by
        refine ⟨hl, .inr ⟨w.heap.size, _, _, rfl, hlo, heap_alloc_new w.drew _, hge, hcm, ?_, ?_⟩⟩
        · simp only [Array.size_append, List.size_toArray, size_zeroCells, hzs, hl, ← Nat.add_mul]
          congr 1
          omega
        · simp only [Array.toList_append]
          rw [← hl]
          exact List.take_left
      have gr : w.grownBy (w.drew.alloc (.cells (news.toArray ++ Builtin.zeroCells z.cells (grownCap w m 0 e - m)) e)) (blk A 0) := ⟨rfl, rfl, rfl, by simp, fun k hk _ => Below.heap_alloc w.drew _ k hk⟩
      have hcap' : grownCap w m 0 e ≠ 0 := by omega
      simp only [maxLen] at h63
      refine ⟨some ⟨w.heap.size, 0, none⟩, grownCap w m 0 e, _, ?_, .inl (by simpa using own), gr, .inr (blk_at hcap')⟩
      cases A with
      | none =>
        have hr := run_append_nil (P := P) w t ty e i z ht hi hz ad m d news hl hc2 h0 (by omega) (by have hb := hbytes; simp only [Nat.zero_add] at hb; omega)
        rw [hr]
        simp
      | some b =>
        have hr := run_append_grow (P := P) w t ty e i z ht hi hz b 0 0 [] (by simp) (by simp) ad m d news hl hc2 (by omega) (by omega) (growslice_fits (by omega) hbytes)
        rw [hr]
        simp
    · obtain ⟨v', w', hr, h2, h3, h4, h5⟩ := run_append_own_at (P := P) w lo t ty e i z size bytes ht hi hz hs hby hzs hsz (.slice A n c) n xs (hown.row hc) ad m d news hl hc2 h1 h63 hbytes hlo
      obtain ⟨g, cap, hv, hl1, hl2⟩ := World.ownsRow.form h2 (by omega)
      subst hv
      obtain ⟨g', rfl, _, _⟩ := hown.form hc
      have hcap' : cap ≠ 0 := by
        rcases h2.2 with ⟨h', _⟩ | ⟨g, cap, cur, e1, e2, e3, e4, _⟩
        · cases h'
        · injection e1 with a b c'; omega
      refine ⟨_, _, w', hr, .inl h2, ?_, ?_⟩
      · rw [blk_at hc]; exact h3
      · rw [blk_at hc, blk_at hcap']
        simpa [Value.ownBlock] using h5

/-- A slice of integers in a row of the call's own, from block lo on; or one without capacity. -/
def OwnI (w : World) (lo : Nat) (A : Option Addr) (n c : Nat) (zs : List Int) : Prop := OwnV w lo 3 1 A n c (mapI zs)
section
variable {w w' : World} {lo n c : Nat} {A : Option Addr} {zs : List Int}
theorem OwnI.len (h : OwnI w lo A n c zs) : zs.length = n := by have := OwnV.len h; rw [mapI_len] at this; omega
theorem OwnI.lt (h : OwnI w lo A n c zs) : ∀ k, blk A c = some k → lo ≤ k ∧ k < w.heap.size := OwnV.lt h
theorem OwnI.kept {row : Option Nat} (h : OwnI w lo A n c zs) (hg : w.grownBy w' row) (hne : ∀ k, blk A c = some k → some k ≠ row) : OwnI w' lo A n c zs := OwnV.kept h hg hne
theorem OwnI.below (h : OwnI w lo A n c zs) (hb : Below w.heap.size w w') : OwnI w' lo A n c zs := OwnV.below h hb
theorem OwnI.drewN (h : OwnI w lo A n c zs) (k : Nat) : OwnI (w.drewN k) lo A n c zs := h
theorem OwnI.alloc (h : OwnI w lo A n c zs) (o : Obj) : OwnI (w.alloc o) lo A n c zs := OwnV.alloc h o
theorem OwnI.mono {lo' : Nat} (h : OwnI w lo A n c zs) (hl : lo' ≤ lo) : OwnI w lo' A n c zs := OwnV.mono h hl
theorem OwnI.cap (h : OwnI w lo A n c zs) : n ≤ c ∧ c ≤ maxLen := OwnV.cap h
theorem OwnI.form (h : OwnI w lo A n c zs) (hn : 0 < n) : c ≠ 0 ∧ ∃ g, A = some ⟨g, 0, none⟩ ∧ lo ≤ g ∧ g < w.heap.size := by
  have hc : c ≠ 0 := by have := h.cap; omega
  exact ⟨hc, OwnV.form h hc⟩
theorem OwnI.ints (h : OwnI w lo A n c zs) : Ints w A n zs := by
  refine ⟨h.len, fun hn => ?_⟩
  obtain ⟨hc, g, rfl, h1, h2⟩ := h.form hn
  refine ⟨g, 0, rfl, h2, fun i hi => ?_⟩
  rw [Nat.zero_add, OwnV.cellAt h rfl i (by omega), mapI_get _ _ (by rw [h.len]; exact hi)]
theorem OwnI.nil (w : World) (lo : Nat) (A : Option Addr) : OwnI w lo A 0 0 [] := OwnV.nil w lo _ _ A
end

theorem addr_add (g o j : Nat) : (⟨g, o, none⟩ : Addr).add j = ⟨g, o + j, none⟩ := by
  unfold Addr.add
  split <;> simp_all
theorem Ints.src {w : World} {A : Option Addr} {n : Nat} {zs : List Int} (h : Ints w A n zs) : Src w 1 A n (mapI zs) := by
  refine ⟨by rw [mapI_len, h.1, Nat.mul_one], fun hn => ?_⟩
  obtain ⟨g, o, rfl, hg, hc⟩ := h.2 hn
  refine ⟨_, rfl, fun j u hu => ?_⟩
  have hj : j < zs.length := by have := lt_of_get hu; rw [mapI_len] at this; exact this
  rw [addr_add, hc j (by rw [← h.1]; exact hj), ← hu, mapI_get _ _ hj]
theorem Src.one {w : World} {g : Nat} {v : Value} (h : w.cell? ⟨g, 0, none⟩ = some v) : Src w 1 (some ⟨g, 0, none⟩) 1 [v] := by
  refine ⟨rfl, fun _ => ⟨_, rfl, fun j u hu => ?_⟩⟩
  match j, hu with
  | 0, hu => simp only [List.getElem?_cons_zero, Option.some.injEq] at hu; subst hu; simpa [Addr.add] using h
  | j + 1, hu => simp at hu

/-- k, k + 1, .., n numbers. -/
def marks (k : Int) (n : Nat) : List Int := (List.range n).map fun (i : Nat) => k + (i : Int)
theorem marks_len (k : Int) (n : Nat) : (marks k n).length = n := by simp [marks]
theorem marks_get (k : Int) (n i : Nat) (h : i < n) : (marks k n).getD i 0 = k + i := by simp [marks, List.getD_eq_getElem?_getD, h]

/-- The first k cells of zs, then n - k zeros. -/
def fillI (zs : List Int) (n k : Nat) : List Value := mapI (zs.take k) ++ List.replicate (n - k) (.int .i64 0)
theorem fillI_set (zs : List Int) (n k : Nat) (hn : zs.length = n) (hk : k < n) : (fillI zs n k).set k (.int .i64 (zs.getD k 0)) = fillI zs n (k + 1) := by
  unfold fillI mapI
  have hl : (List.map (Value.int IntKind.i64) (List.take k zs)).length = k := by simp; omega
  rw [List.set_append_right _ _ (by omega), hl]
  have : n - k = (n - (k+1)) + 1 := by omega
  rw [this, List.replicate_succ, Nat.sub_self, List.set_cons_zero, List.take_succ_eq_append_getElem (by omega)]
  have hk' : k < zs.length := by omega
  rw [List.map_append, List.append_assoc]
  simp [List.getD_eq_getElem?_getD, hk']
theorem fillI_len (zs : List Int) (n k : Nat) (hn : zs.length = n) (hk : k ≤ n) : (fillI zs n k).length = n := by
  unfold fillI mapI; simp; omega
theorem fillI_zero (zs : List Int) (n : Nat) : fillI zs n 0 = (madeCells (Value.int .i64 0).cells (n * 1)).toList := by
  unfold fillI mapI; simp [Value.cells, toList_madeCells_one]
theorem fillI_all (zs : List Int) (n : Nat) (h : zs.length = n) : fillI zs n n = mapI zs := by
  unfold fillI mapI; rw [List.take_of_length_le (by omega)]; simp

/-- The first k cells hold the marks, the others what they held. -/
def halfI (zs : List Int) (m : Int) (k : Nat) : List Int := marks m k ++ zs.drop k
theorem halfI_len (zs : List Int) (m : Int) (k : Nat) (hk : k ≤ zs.length) : (halfI zs m k).length = zs.length := by simp [halfI, marks_len]; omega
theorem halfI_set (zs : List Int) (m : Int) (k : Nat) (hk : k < zs.length) : (halfI zs m k).set k (m + k) = halfI zs m (k + 1) := by
  unfold halfI
  rw [List.set_append_right _ _ (by simp [marks_len]), marks_len, Nat.sub_self, List.drop_eq_getElem_cons hk, List.set_cons_zero]
  simp [marks, List.range_succ]
theorem halfI_all (zs : List Int) (m : Int) : halfI zs m zs.length = marks m zs.length := by simp [halfI]

theorem ret_int {k : IntKind} {a b : Int} (h : a = b) : Ending.returned (.int k a) = .returned (.int k b) := by rw [h]
theorem ret_bool {a b : Bool} (h : a = b) : Ending.returned (.bool a) = .returned (.bool b) := by rw [h]


section
variable {P : Program} {w : World} {ops : Array Oper} {rest : List Oper} {o : Oper} {a : Act} {Q : Exit → Act → World → Prop}
theorem wp_appV {K : Act → World → Prop} (s x : Operand) (t : TypeId) (ho : o.op = .call { callee := .builtin .append, args := #[s, x], argTypes := #[t, t] })
    (lo : Nat) (e : TypeId) (z : Value) (size bytes : Nat) (ht : P.underlying t = some (.slice e)) (hinf : (P.info? e).map (fun i => (i.zero, i.size, i.bytes)) = some (some z, size, bytes)) (hzs : z.cells.size = size) (hsz : 0 < size)
    (A : Option Addr) (n c : Nat) (xs : List Value) (hs : a.eval s = .slice A n c) (hown : OwnV w lo e size A n c xs) (B : Option Addr) (m d : Nat) (news : List Value) (hx : a.eval x = .slice B m d) (hsrc : Src w size B m news) (h1 : ∀ u ∈ news, u.oneCell' = true)
    (h63 : n + m ≤ maxLen) (hbytes : (n + m) * bytes ≤ 140737488355328) (hlo : lo ≤ w.heap.size)
    (h : ∀ A' c' w', OwnV w' lo e size A' (n + m) c' (xs ++ news) → w.grownBy w' (blk A c) → (blk A' c' = blk A c ∨ blk A' c' = some w.heap.size) → K (a.put o.dst (.slice A' (n + m) c')) w') : o.wp P a w K Q := by
  obtain ⟨A', c', w', hrun, h2, h3, h4⟩ := run_appV (P := P) w lo t o.type e z size bytes ht hinf hzs hsz A n c xs hown B m d news hsrc h1 h63 hbytes hlo
  unfold Oper.wp execOp
  simp only [ho, resolve, invoke, builtin, Sem.run_bind, Sem.run_pure, Result.andThen_ok, List.map_toArray, List.map_cons, List.map_nil, hs, hx, hrun]
  exact h A' c' w' h2 h3 h4

/-- 'append(out, y)' onto a row of integers of the call's own: the element lies in a block of one cell. -/
theorem wpList_app1 (hgd : o.guard = none) (s x : Operand) (t : TypeId) (ho : o.op = .call { callee := .builtin .append, args := #[s, x], argTypes := #[t, t] }) (ht : P.underlying t = some (.slice 3))
    (hinf : (P.info? 3).map (fun i => (i.zero, i.size, i.bytes)) = some (some (.int .i64 0), 1, 8))
    (A : Option Addr) (n c lo : Nat) (zs : List Int) (hs : a.eval s = .slice A n c) (hown : OwnI w lo A n c zs) (g1 : Nat) (y : Int) (hx : a.eval x = .slice (some ⟨g1, 0, none⟩) 1 1)
    (hcell : w.cell? ⟨g1, 0, none⟩ = some (.int .i64 y)) (hlen : n + 1 ≤ 1099511627776) (hlo : lo ≤ w.heap.size)
    (h : ∀ A' c' w', OwnI w' lo A' (n + 1) c' (zs ++ [y]) → w.grownBy w' (blk A c) → (blk A' c' = blk A c ∨ blk A' c' = some w.heap.size) → wpList P ops Q rest (a.put o.dst (.slice A' (n + 1) c')) w') :
    wpList P ops Q (o :: rest) a w := by
  refine wpList_plain hgd fun K hK => wp_appV s x t ho lo 3 _ 1 8 ht hinf rfl (by omega) A n c (mapI zs) hs hown _ 1 1 [.int .i64 y] hx (Src.one hcell) (by intro u hu; simp at hu; subst hu; rfl) (by unfold maxLen; omega) (by omega) hlo ?_
  intro A' c' w' h2 h3 h4
  exact hK _ _ (h A' c' w' (by unfold OwnI; rw [mapI_append]; exact h2) h3 h4)

/-- 'append(out, xs...)' of integers. -/
theorem wpList_appI (hgd : o.guard = none) (s x : Operand) (t : TypeId) (ho : o.op = .call { callee := .builtin .append, args := #[s, x], argTypes := #[t, t] }) (ht : P.underlying t = some (.slice 3))
    (hinf : (P.info? 3).map (fun i => (i.zero, i.size, i.bytes)) = some (some (.int .i64 0), 1, 8))
    (A : Option Addr) (n c lo : Nat) (zs : List Int) (hs : a.eval s = .slice A n c) (hown : OwnI w lo A n c zs) (B : Option Addr) (m d : Nat) (ys : List Int) (hx : a.eval x = .slice B m d)
    (hsrc : Ints w B m ys) (hlen : n + m ≤ 1099511627776) (hlo : lo ≤ w.heap.size)
    (h : ∀ A' c' w', OwnI w' lo A' (n + m) c' (zs ++ ys) → w.grownBy w' (blk A c) → (blk A' c' = blk A c ∨ blk A' c' = some w.heap.size) → wpList P ops Q rest (a.put o.dst (.slice A' (n + m) c')) w') :
    wpList P ops Q (o :: rest) a w := by
  refine wpList_plain hgd fun K hK => wp_appV s x t ho lo 3 _ 1 8 ht hinf rfl (by omega) A n c (mapI zs) hs hown B m d (mapI ys) hx hsrc.src (mapI_one ys) (by unfold maxLen; omega) (by omega) hlo ?_
  intro A' c' w' h2 h3 h4
  exact hK _ _ (h A' c' w' (by unfold OwnI; rw [mapI_append]; exact h2) h3 h4)

/-- 'append([]int{}, xs...)' inside a statement that leaves its order open. -/
theorem step_copyI {K : Act → World → Prop} {E : Prop} (hgd : o.guard = none) (s x : Operand) (t : TypeId) (ho : o.op = .call { callee := .builtin .append, args := #[s, x], argTypes := #[t, t] }) (ht : P.underlying t = some (.slice 3))
    (hinf : (P.info? 3).map (fun i => (i.zero, i.size, i.bytes)) = some (some (.int .i64 0), 1, 8))
    (A : Option Addr) (lo : Nat) (hs : a.eval s = .slice A 0 0) (B : Option Addr) (m d : Nat) (ys : List Int) (hx : a.eval x = .slice B m d)
    (hsrc : Ints w B m ys) (hlen : m ≤ 1099511627776) (hlo : lo ≤ w.heap.size)
    (h : ∀ A' c' w', OwnI w' lo A' m c' ys → Below w.heap.size w w' → (∀ k, blk A' c' = some k → k = w.heap.size) → K (a.put o.dst (.slice A' m c')) w') :
    if Region.wanted o (yielded ops a.tmps) = true then Oper.wp P o a w K Q else E := by
  have hw : Region.wanted o (yielded ops a.tmps) = true := by simp [Region.wanted, hgd]
  rw [if_pos hw]
  refine wp_appV s x t ho lo 3 _ 1 8 ht hinf rfl (by omega) A 0 0 (mapI []) hs (OwnV.nil w lo _ _ A) B m d (mapI ys) hx hsrc.src (mapI_one ys) (by unfold maxLen; omega) (by omega) hlo ?_
  intro A' c' w' h2 h3 h4
  rw [Nat.zero_add] at h2 ⊢
  refine h A' c' w' h2 (grown_below h3) (fun k hk => ?_)
  rcases h4 with h4 | h4
  · rw [h4] at hk; cases hk
  · rw [h4] at hk; injection hk with hk; exact hk.symm
end
end Go.Proofs.Ytbapamfomfbmmaa
