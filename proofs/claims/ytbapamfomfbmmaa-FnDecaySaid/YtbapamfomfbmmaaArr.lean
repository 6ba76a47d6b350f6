/-
  Slices of cells: how they read, and as rows of the call's own whose blocks lie apart.
-/
import Derived.Test.YtbapamfomfbmmaaCel
namespace Go.Proofs.Ytbapamfomfbmmaa
open Go.RowKit
set_option linter.unusedSimpArgs false
set_option linter.unusedVariables false

abbrev CV := List Int × Bool
/-- A slice of cells that reads as the list vs. -/
def Cs (w : World) (A : Option Addr) (n : Nat) (vs : List CV) : Prop :=
  ∃ hs : List Cel, Cels w A n hs ∧ vs.length = n ∧ ∀ (i : Nat) (h : Cel) (v : CV), hs[i]? = some h → vs[i]? = some v → h.psn = v.2 ∧ Ints w h.sa h.sn v.1
section
variable {w w' : World} {A : Option Addr} {n : Nat} {vs : List CV}
theorem Cs.len (h : Cs w A n vs) : vs.length = n := by obtain ⟨hs, h1, h2, h3⟩ := h; exact h2
theorem Cs.below (h : Cs w A n vs) (hb : Below w.heap.size w w') : Cs w' A n vs := by
  obtain ⟨hs, h1, h2, h3⟩ := h
  exact ⟨hs, h1.below hb, h2, fun i h v a b => ⟨(h3 i h v a b).1, (h3 i h v a b).2.below hb⟩⟩
theorem Cs.alloc (h : Cs w A n vs) (o : Obj) : Cs (w.alloc o) A n vs := h.below ((Below.refl _ _).alloc (Nat.le_refl _) o)
theorem Cs.drewN (h : Cs w A n vs) (k : Nat) : Cs (w.drewN k) A n vs := h
theorem Cs.at_ (h : Cs w A n vs) {k : Nat} (hk : k < n) : ∃ (g o : Nat) (sa : Option Addr) (sn sc : Nat) (zs : List Int) (psn : Bool), A = some ⟨g, o, none⟩ ∧ g < w.heap.size ∧ w.cell? ⟨g, o + k * 2, none⟩ = some (.slice sa sn sc) ∧ w.cell? ⟨g, o + k * 2 + 1, none⟩ = some (.bool psn) ∧ Ints w sa sn zs ∧ Hid (vs[k]? = some (zs, psn)) := by
  obtain ⟨hs, h1, h2, h3⟩ := h
  obtain ⟨g, o, sa, sn, sc, psn, e, hg, c0, c1, hr⟩ := h1.at_ hk
  obtain ⟨v, hv⟩ : ∃ v, vs[k]? = some v := ⟨_, List.getElem?_eq_getElem (by omega)⟩
  obtain ⟨q1, q2⟩ := h3 k _ v hr.out hv
  obtain ⟨zs, p⟩ := v
  dsimp only at q1 q2
  subst q1
  exact ⟨g, o, sa, sn, sc, zs, psn, e, hg, c0, c1, q2, hv⟩
theorem Cs.nil (w : World) (A : Option Addr) : Cs w A 0 [] := ⟨[], Cells.nil _ _ _, rfl, fun i h v a _ => by simp at a⟩
end
/-- Two blocks, if there are such, are not the same. -/
def Apart (a b : Option Nat) : Prop := ∀ k, a = some k → b ≠ some k
theorem Apart.symm {a b : Option Nat} (h : Apart a b) : Apart b a := fun k hk hk' => h k hk' hk
theorem Apart.none (b : Option Nat) : Apart none b := fun k h => by cases h
theorem set_cases {α : Type} {l : List α} {k i : Nat} {x y : α} (h : (l.set k x)[i]? = some y) : (i = k ∧ y = x ∧ k < l.length) ∨ (i ≠ k ∧ l[i]? = some y) := by
  by_cases e : i = k
  · subst e
    have hl : i < l.length := by have := lt_of_get h; simpa using this
    rw [List.getElem?_set_self hl] at h
    injection h with h
    exact .inl ⟨rfl, h.symm, hl⟩
  · rw [List.getElem?_set_ne (fun e' => e e'.symm)] at h
    exact .inr ⟨e, h⟩
/-- A slice of cells whose rows are all the call's own, their blocks apart. -/
structure OwnC' (w : World) (lo hi : Nat) (A : Option Addr) (n c : Nat) (hs : List Cel) (vs : List CV) : Prop where
  out : OwnCel w lo hi A n c hs
  len : vs.length = n
  row : ∀ (i : Nat) (h : Cel) (v : CV), hs[i]? = some h → vs[i]? = some v → h.psn = v.2 ∧ OwnH w lo hi h.sa h.sn h.sc v.1
  apo : ∀ (i : Nat) (h : Cel), hs[i]? = some h → Apart (blk A c) (blk h.sa h.sc)
  apr : ∀ (i j : Nat) (h h' : Cel), i ≠ j → hs[i]? = some h → hs[j]? = some h' → Apart (blk h.sa h.sc) (blk h'.sa h'.sc)
def OwnC (w : World) (lo hi : Nat) (A : Option Addr) (n c : Nat) (vs : List CV) : Prop := ∃ hs, OwnC' w lo hi A n c hs vs
section
variable {w w' : World} {lo hi n c : Nat} {A : Option Addr} {hs : List Cel} {vs : List CV}
theorem OwnC'.hlen (H : OwnC' w lo hi A n c hs vs) : hs.length = n := H.out.len
theorem OwnC'.val (H : OwnC' w lo hi A n c hs vs) {k : Nat} {h : Cel} (hk : hs[k]? = some h) : ∃ v, vs[k]? = some v := ⟨_, List.getElem?_eq_getElem (by have := lt_of_get hk; have := H.hlen; have := H.len; omega)⟩
theorem OwnC'.cs (H : OwnC' w lo hi A n c hs vs) : Cs w A n vs := ⟨hs, H.out.recs, H.len, fun i h v a b => ⟨(H.row i h v a b).1, (H.row i h v a b).2.ints⟩⟩
theorem OwnC.cs (H : OwnC w lo hi A n c vs) : Cs w A n vs := by obtain ⟨hs, H⟩ := H; exact H.cs
theorem OwnC.len (H : OwnC w lo hi A n c vs) : vs.length = n := H.cs.len
theorem OwnC.cap (H : OwnC w lo hi A n c vs) : n ≤ c ∧ c ≤ maxLen := by
  obtain ⟨hs, H⟩ := H
  have := H.out.1.cap
  exact this
theorem OwnC.below (H : OwnC w lo hi A n c vs) (hb : Below w.heap.size w w') : OwnC w' lo hi A n c vs := by
  obtain ⟨hs, H⟩ := H
  exact ⟨hs, H.out.below hb, H.len, fun i h v a b => ⟨(H.row i h v a b).1, (H.row i h v a b).2.below hb⟩, H.apo, H.apr⟩
theorem OwnC.alloc (H : OwnC w lo hi A n c vs) (o : Obj) : OwnC (w.alloc o) lo hi A n c vs := H.below ((Below.refl _ _).alloc (Nat.le_refl _) o)
theorem OwnC.drewN (H : OwnC w lo hi A n c vs) (k : Nat) : OwnC (w.drewN k) lo hi A n c vs := H.below (belowN (Below.refl _ _) k)
theorem OwnC.chg {lo' hi' : Nat} (H : OwnC w lo hi A n c vs) (hc : Chg lo' hi' w w') (hne : hi ≤ lo' ∨ hi' ≤ lo) : OwnC w' lo hi A n c vs := by
  obtain ⟨hs, H⟩ := H
  exact ⟨hs, H.out.chg hc hne, H.len, fun i h v a b => ⟨(H.row i h v a b).1, (H.row i h v a b).2.chg hc hne⟩, H.apo, H.apr⟩
theorem OwnC.mono {lo' hi' : Nat} (H : OwnC w lo hi A n c vs) (h1 : lo' ≤ lo) (h2 : hi ≤ hi') : OwnC w lo' hi' A n c vs := by
  obtain ⟨hs, H⟩ := H
  exact ⟨hs, H.out.mono h1 h2, H.len, fun i h v a b => ⟨(H.row i h v a b).1, (H.row i h v a b).2.mono h1 h2⟩, H.apo, H.apr⟩
theorem OwnC.setCell (H : OwnC w lo hi A n c vs) (p : Addr) (u : Value) (hne : p.block < lo ∨ hi ≤ p.block) : OwnC (w.setCell p u) lo hi A n c vs := by
  obtain ⟨hs, H⟩ := H
  exact ⟨hs, H.out.setCell p u hne, H.len, fun i h v a b => ⟨(H.row i h v a b).1, (H.row i h v a b).2.setCell p u hne⟩, H.apo, H.apr⟩
theorem OwnC.nil (w : World) (lo hi : Nat) (A : Option Addr) : OwnC w lo hi A 0 0 [] :=
  ⟨[], OwnCel.nil _ _ _ _, rfl, fun i h v a _ => by simp at a, fun i h a => by simp at a, fun i j h h' _ a _ => by simp at a⟩
end
/-- A row at its own block. -/
theorem OwnV.tight {w : World} {lo size n c g : Nat} {e : TypeId} {A : Option Addr} {xs : List Value} (h : OwnV w lo e size A n c xs) (hg : blk A c = some g) : OwnV w g e size A n c xs := by
  rcases h with h | h
  · refine .inl ⟨h.1, ?_⟩
    rcases h.2 with h' | ⟨g', cap, cur, e1, e2, e3⟩
    · exact .inl h'
    · refine .inr ⟨g', cap, cur, e1, ?_, e3⟩
      injection e1 with a b c'
      subst a c'
      rw [blk_at (blk_some hg).1] at hg
      injection hg with hg
      omega
  · exact .inr h
theorem OwnH.tight {w : World} {lo hi n c g : Nat} {A : Option Addr} {zs : List Int} (h : OwnH w lo hi A n c zs) (hg : blk A c = some g) : OwnH w g (g + 1) A n c zs :=
  ⟨OwnV.tight h.1 hg, fun k hk => by rw [hg] at hk; injection hk; omega⟩
theorem OwnH.blkIn {w : World} {lo hi n c g : Nat} {A : Option Addr} {zs : List Int} (h : OwnH w lo hi A n c zs) (hg : blk A c = some g) : lo ≤ g ∧ g < hi ∧ g < w.heap.size := ⟨(h.1.lt g hg).1, h.2 g hg, (h.1.lt g hg).2⟩
theorem OwnH.aside {w w' : World} {lo hi n c g : Nat} {A : Option Addr} {zs : List Int} (h : OwnH w lo hi A n c zs) (C : Chg g (g + 1) w w') (hne : blk A c ≠ some g) : OwnH w' lo hi A n c zs :=
  ⟨h.1.chg C (fun k hk => by have : k ≠ g := fun e => hne (e ▸ hk); omega), h.2⟩
theorem OwnG.aside {w w' : World} {lo hi n c g size : Nat} {e : TypeId} {A : Option Addr} {xs : List Value} (h : OwnG w lo hi e size A n c xs) (C : Chg g (g + 1) w w') (hne : blk A c ≠ some g) : OwnG w' lo hi e size A n c xs :=
  ⟨h.1.keep (fun k hk => C.block k (h.1.lt k hk).2 (by have : k ≠ g := fun e => hne (e ▸ hk); omega)), h.2⟩
theorem set_same {α : Type} {l : List α} {k : Nat} {x : α} (h : l[k]? = some x) : l.set k x = l := by
  obtain ⟨h1, rfl⟩ := List.getElem?_eq_some_iff.1 h
  exact List.set_getElem_self _
section
variable {w w' : World} {lo hi n c : Nat} {A : Option Addr} {hs : List Cel} {vs : List CV}
/-- The symbols of one cell are changed. -/
theorem OwnC'.chgRow (H : OwnC' w lo hi A n c hs vs) {k g : Nat} {h : Cel} {v : CV} {zs' : List Int} (hk : hs[k]? = some h) (hv : vs[k]? = some v) (hg : blk h.sa h.sc = some g) (C : Chg g (g + 1) w w') (hn : OwnH w' lo hi h.sa h.sn h.sc zs') : OwnC' w' lo hi A n c hs (vs.set k (zs', v.2)) := by
  have hAg : blk A c ≠ some g := fun e => H.apo k h hk g e hg
  refine ⟨OwnG.aside H.out C hAg, by simp [H.len], fun i h' v' a b => ?_, H.apo, H.apr⟩
  rcases set_cases b with ⟨rfl, rfl, -⟩ | ⟨hne, b⟩
  · rw [hk] at a
    injection a with a
    subst a
    exact ⟨(H.row _ _ _ hk hv).1, hn⟩
  · exact ⟨(H.row i h' v' a b).1, (H.row i h' v' a b).2.aside C (fun e => H.apr k i h h' (Ne.symm hne) hk a g hg e)⟩
theorem OwnC'.blkOut (H : OwnC' w lo hi A n c hs vs) (hn : 0 < n) : ∃ g, A = some ⟨g, 0, none⟩ ∧ blk A c = some g ∧ lo ≤ g ∧ g < hi ∧ g < w.heap.size := by
  obtain ⟨hc, g, e, h1, h2, h3⟩ := OwnG.form H.out hn
  exact ⟨g, e, by rw [e]; exact blk_at hc, h1, h2, h3⟩
/-- One cell is stored. -/
theorem OwnC'.setCel (H : OwnC' w lo hi A n c hs vs) {k g : Nat} (hA : A = some ⟨g, 0, none⟩) (hk : k < n) (h' : Cel) (v' : CV) (hp : h'.psn = v'.2) (hn : OwnH w lo hi h'.sa h'.sn h'.sc v'.1)
    (a1 : Apart (blk A c) (blk h'.sa h'.sc)) (a2 : ∀ (i : Nat) (h : Cel), i ≠ k → hs[i]? = some h → Apart (blk h.sa h.sc) (blk h'.sa h'.sc)) :
    OwnC' ((w.setCell ⟨g, k * 2, none⟩ (.slice h'.sa h'.sn h'.sc)).setCell ⟨g, k * 2 + 1, none⟩ (.bool h'.psn)) lo hi A n c (hs.set k h') (vs.set k v') ∧ Chg g (g + 1) w ((w.setCell ⟨g, k * 2, none⟩ (.slice h'.sa h'.sn h'.sc)).setCell ⟨g, k * 2 + 1, none⟩ (.bool h'.psn)) := by
  have C : Chg g (g + 1) w ((w.setCell ⟨g, k * 2, none⟩ (.slice h'.sa h'.sn h'.sc)).setCell ⟨g, k * 2 + 1, none⟩ (.bool h'.psn)) :=
    ((Chg.refl g (g + 1) w).setCell (.inl ⟨Nat.le_refl _, Nat.lt_succ_self _⟩) _).setCell (.inl ⟨Nat.le_refl _, Nat.lt_succ_self _⟩) _
  obtain ⟨g0, e0, hb, -⟩ := H.blkOut (by omega)
  have hgg : g0 = g := by rw [hA] at e0; injection e0 with e0; injection e0 with e0; exact e0.symm
  subst hgg
  refine ⟨⟨(H.out.stored hA hk h').1, by simp [H.len], fun i h v a b => ?_, fun i h a => ?_, fun i j h h2 hij a b => ?_⟩, C⟩
  · rcases set_cases a with ⟨rfl, rfl, -⟩ | ⟨hne, a⟩
    · rcases set_cases b with ⟨-, rfl, -⟩ | ⟨hne, -⟩
      · exact ⟨hp, hn.aside C (fun e => a1 g0 hb e)⟩
      · exact absurd rfl hne
    · rcases set_cases b with ⟨e, -, -⟩ | ⟨-, b⟩
      · exact absurd e hne
      · exact ⟨(H.row i h v a b).1, (H.row i h v a b).2.aside C (fun e => H.apo i h a g0 hb e)⟩
  · rcases set_cases a with ⟨rfl, rfl, -⟩ | ⟨hne, a⟩
    · exact a1
    · exact H.apo i h a
  · rcases set_cases a with ⟨rfl, rfl, -⟩ | ⟨hne, a3⟩
    · rcases set_cases b with ⟨e, -, -⟩ | ⟨hne, b3⟩
      · exact absurd e.symm hij
      · exact (a2 j h2 hne b3).symm
    · rcases set_cases b with ⟨rfl, rfl, -⟩ | ⟨-, b3⟩
      · exact a2 i h hne a3
      · exact H.apr i j h h2 hij a3 b3
/-- The flag of one cell is stored. -/
theorem OwnC'.setPsn (H : OwnC' w lo hi A n c hs vs) {k g : Nat} (hA : A = some ⟨g, 0, none⟩) {h : Cel} {v : CV} (hk : hs[k]? = some h) (hv : vs[k]? = some v) (b : Bool) :
    OwnC' (w.setCell ⟨g, k * 2 + 1, none⟩ (.bool b)) lo hi A n c (hs.set k ⟨h.sa, h.sn, h.sc, b⟩) (vs.set k (v.1, b)) ∧ Chg g (g + 1) w (w.setCell ⟨g, k * 2 + 1, none⟩ (.bool b)) := by
  have hkn : k < n := by have := lt_of_get hk; have := H.hlen; omega
  have C : Chg g (g + 1) w (w.setCell ⟨g, k * 2 + 1, none⟩ (.bool b)) := (Chg.refl g (g + 1) w).setCell (.inl ⟨Nat.le_refl _, Nat.lt_succ_self _⟩) _
  obtain ⟨g0, e0, hb, -⟩ := H.blkOut (by omega)
  have hgg : g0 = g := by rw [hA] at e0; injection e0 with e0; injection e0 with e0; exact e0.symm
  subst hgg
  have s1 : OwnCel (w.setCell ⟨g0, k * 2 + 1, none⟩ (.bool b)) lo hi A n c (hs.set k ⟨h.sa, h.sn, h.sc, b⟩) := by
    have s := (OwnG.stored H.out hA (by omega) (k * 2 + 1) (.bool b)).1
    have e := Cel.setAll hk ⟨h.sa, h.sn, h.sc, b⟩
    have e2 : (hs.flatMap Cel.cs).set (k * 2) (.slice h.sa h.sn h.sc) = hs.flatMap Cel.cs := set_same (by have := flat_get Cel.cs_len hk (show 0 < 2 by omega); exact this)
    dsimp only at e
    rw [e2] at e
    rw [e] at s
    exact s
  refine ⟨⟨s1, by simp [H.len], fun i h2 v2 a c2 => ?_, fun i h2 a => ?_, fun i j h2 h3 hij a c2 => ?_⟩, C⟩
  · rcases set_cases a with ⟨rfl, rfl, -⟩ | ⟨hne, a⟩
    · rcases set_cases c2 with ⟨-, rfl, -⟩ | ⟨hne, -⟩
      · exact ⟨rfl, (H.row i h v hk hv).2.aside C (fun e => H.apo i h hk g0 hb e)⟩
      · exact absurd rfl hne
    · rcases set_cases c2 with ⟨e, -, -⟩ | ⟨-, c2⟩
      · exact absurd e hne
      · exact ⟨(H.row i h2 v2 a c2).1, (H.row i h2 v2 a c2).2.aside C (fun e => H.apo i h2 a g0 hb e)⟩
  · rcases set_cases a with ⟨rfl, rfl, -⟩ | ⟨hne, a⟩
    · exact H.apo i h hk
    · exact H.apo i h2 a
  · rcases set_cases a with ⟨rfl, rfl, -⟩ | ⟨hne, a3⟩
    · rcases set_cases c2 with ⟨e, -, -⟩ | ⟨hne, c3⟩
      · exact absurd e.symm hij
      · exact H.apr i j h h3 hij hk c3
    · rcases set_cases c2 with ⟨rfl, rfl, -⟩ | ⟨-, c3⟩
      · exact H.apr i j h2 h hij a3 hk
      · exact H.apr i j h2 h3 hij a3 c3
/-- A cell is appended. -/
theorem OwnC'.push {A' : Option Addr} {c' : Nat} (H : OwnC' w lo hi A n c hs vs) (hhi : hi ≤ w.heap.size) (h' : Cel) (v' : CV) (hp : h'.psn = v'.2) (hn : OwnH w lo hi h'.sa h'.sn h'.sc v'.1)
    (a1 : Apart (blk A c) (blk h'.sa h'.sc)) (a2 : ∀ (i : Nat) (h : Cel), hs[i]? = some h → Apart (blk h.sa h.sc) (blk h'.sa h'.sc))
    (o' : RowCel w' lo A' (n + 1) c' (hs ++ [h'])) (G : w.grownBy w' (blk A c)) (at' : blk A' c' = blk A c ∨ blk A' c' = some w.heap.size) : OwnC' w' lo w'.heap.size A' (n + 1) c' (hs ++ [h']) (vs ++ [v']) := by
  have sz := G.size
  have keep : ∀ {B : Option Addr} {m d : Nat} {zs : List Int}, OwnH w lo hi B m d zs → Apart (blk A c) (blk B d) → OwnH w' lo w'.heap.size B m d zs := fun h1 h2 =>
    ⟨h1.1.kept G (fun k hk e => h2 k e.symm hk), fun k hk => by have := h1.2 k hk; omega⟩
  have key : ∀ (i : Nat) (h : Cel), (hs ++ [h'])[i]? = some h → (i < hs.length ∧ hs[i]? = some h) ∨ (i = hs.length ∧ h = h') := fun i h a => by
    rw [List.getElem?_append] at a
    split at a
    · exact .inl ⟨by assumption, a⟩
    · right
      have hl := lt_of_get a
      simp at hl
      have : i = hs.length := by omega
      subst this
      simp at a
      exact ⟨rfl, a.symm⟩
  have hl := H.hlen
  have hl2 := H.len
  refine ⟨o'.own, by simp [H.len], fun i h v a b => ?_, fun i h a => ?_, fun i j h h2 hij a b => ?_⟩
  · rcases key i h a with ⟨hi, a⟩ | ⟨rfl, rfl⟩
    · rw [List.getElem?_append_left (by omega)] at b
      exact ⟨(H.row i h v a b).1, keep (H.row i h v a b).2 (H.apo i h a)⟩
    · rw [List.getElem?_append_right (by omega)] at b
      rw [show hs.length - vs.length = 0 by omega] at b
      simp at b
      subst b
      exact ⟨hp, keep hn a1⟩
  · have hap : Apart (blk A c) (blk h.sa h.sc) ∧ (∀ k, blk h.sa h.sc = some k → k < w.heap.size) := by
      rcases key i h a with ⟨hi, a⟩ | ⟨rfl, rfl⟩
      · obtain ⟨v, hv⟩ := H.val a
        exact ⟨H.apo i h a, fun k hk => ((H.row i h v a hv).2.1.lt k hk).2⟩
      · exact ⟨a1, fun k hk => (hn.1.lt k hk).2⟩
    rcases at' with e | e
    · rw [e]; exact hap.1
    · rw [e]
      intro k hk hk2
      injection hk with hk
      have := hap.2 k hk2
      omega
  · rcases key i h a with ⟨hi, a3⟩ | ⟨rfl, rfl⟩
    · rcases key j h2 b with ⟨hj, b3⟩ | ⟨rfl, rfl⟩
      · exact H.apr i j h h2 hij a3 b3
      · exact a2 i h a3
    · rcases key j h2 b with ⟨hj, b3⟩ | ⟨rfl, rfl⟩
      · exact (a2 j h2 b3).symm
      · exact absurd rfl hij
/-- What lies at an index. -/
theorem OwnC'.at_ (H : OwnC' w lo hi A n c hs vs) {k : Nat} (hk : k < n) : ∃ (g : Nat) (sa : Option Addr) (sn sc : Nat) (zs : List Int) (psn : Bool), A = some ⟨g, 0, none⟩ ∧ lo ≤ g ∧ g < hi ∧ (∀ j, w.frozen? ⟨g, j, none⟩ = false) ∧ w.cell? ⟨g, k * 2, none⟩ = some (.slice sa sn sc) ∧ w.cell? ⟨g, k * 2 + 1, none⟩ = some (.bool psn) ∧ OwnH w lo hi sa sn sc zs ∧ Hid (hs[k]? = some ⟨sa, sn, sc, psn⟩) ∧ Hid (vs[k]? = some (zs, psn)) := by
  obtain ⟨g, sa, sn, sc, psn, e, h1, h2, h3, c0, c1, hr⟩ := H.out.at_ hk
  obtain ⟨v, hv⟩ := H.val hr.out
  obtain ⟨q1, q2⟩ := H.row k _ v hr.out hv
  obtain ⟨zs, p⟩ := v
  dsimp only at q1 q2
  subst q1
  exact ⟨g, sa, sn, sc, zs, psn, e, h1, h2, h3, c0, c1, q2, hr, hv⟩
end
end Go.Proofs.Ytbapamfomfbmmaa
