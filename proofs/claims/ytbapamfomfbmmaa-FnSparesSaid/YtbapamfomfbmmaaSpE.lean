/-
  A copy of a table of spare rows.
-/
import Derived.Test.YtbapamfomfbmmaaSpD
import Derived.Deep.DeepCutAuto
namespace Go.Proofs.Ytbapamfomfbmmaa
open Go.RowKit
set_option linter.unusedSimpArgs false
set_option linter.unusedVariables false

theorem Ints.ad {w : World} {A : Option Addr} {n : Nat} {zs : List Int} (h : Ints w A n zs) {o : Obj} : Ints (w.alloc o).drew A n zs := h.alloc o
theorem Ints.aad {w : World} {A : Option Addr} {n : Nat} {zs : List Int} (h : Ints w A n zs) {o o' : Obj} : Ints ((w.alloc o).alloc o').drew A n zs := (h.alloc o).alloc o'
theorem below_after_aa_d {w w' : World} {o o' : Obj} (h : Below ((w.alloc o).alloc o').drew.heap.size ((w.alloc o).alloc o').drew w') : Below w.heap.size w w' :=
  (((Below.refl _ _).alloc (Nat.le_refl _) o).alloc (by simp) o').trans (Below.mono (⟨h.os, h.tape, h.output, h.size, h.block⟩ : Below ((w.alloc o).alloc o').heap.size ((w.alloc o).alloc o') w') (by simp; omega))
theorem box_s2f {w : World} {g u : Nat} {t : TypeId} {cs : Array Value} {a b : Value} (h : Box w g t cs) (hne : g ≠ u) : Box ((w.setCell ⟨u, 0, none⟩ a).setCell ⟨u, 1, none⟩ b) g t cs := (h.far hne _).far hne _
theorem lat_aad {W X : World} (h : Below W.heap.size W X) {o o' : Obj} : Below W.heap.size W ((X.alloc o).alloc o').drew := belowN ((h.alloc h.size o).alloc (Nat.le_trans h.size (by simp)) o') 1
set_option maxHeartbeats 4000000 in
theorem l17Copy_c (s : Int) (A : Option Addr) (m c : Nat) (zs : List Int) (w : World) (hA : Ints w A m zs) (hn : m ≤ 1048576) :
    Calls Try.prog 175 #[.agg #[.int .i64 s, .slice A m c]] w (NewSp zs s w) := by
  have bel : Below w.heap.size w w := Below.refl _ _
  go_enter Try.func175, Try.ntmps175
  go_wp2
  refine abs_code ?_
  intro W hW
  have szW : w.heap.size + 1 + 1 ≤ W.heap.size := by rw [hW]; simp [World.setCell]
  have szW_ := bel.size
  replace bel : Below w.heap.size w W := by rw [hW]; exact ((bel).alloc (by first | omega | (simp [World.setCell] <;> omega)) _).alloc (by first | omega | (simp [World.setCell] <;> omega)) _
  have p : Box W w.heap.size 28 #[.int .i64 s, .slice A m c] := by rw [hW]; exact ((Box.newAt (by simp [World.setCell]))).alloc _
  have r : Box W (w.heap.size + 1) 28 #[.int .i64 0, .slice none 0 0] := by rw [hW]; exact (Box.newAt (by simp [World.setCell]))
  clear hW
  obtain ⟨p_0, p_1⟩ := p.c2
  have p_lt := p.lt
  obtain ⟨r_0, r_1⟩ := r.c2
  have r_lt := r.lt
  have r_f := r.frozen
  have hh := hA.below bel
  have hS : ∀ Y : World, Below W.heap.size W Y → (Y.cell? ⟨w.heap.size, 0, none⟩ = some (.int .i64 s) ∧ Y.cell? ⟨w.heap.size, 1, none⟩ = some (.slice A m c)) := fun Y hY => ⟨(hY.cell (p := ⟨w.heap.size, 0, none⟩) p_lt).trans p_0, (hY.cell (p := ⟨w.heap.size, 1, none⟩) p_lt).trans p_1⟩
  go_region_held3 (fun Y => Y.cell? ⟨w.heap.size, 0, none⟩ = some (.int .i64 s) ∧ Y.cell? ⟨w.heap.size, 1, none⟩ = some (.slice A m c))
    (first | (with_reducible exact hS _ (Below.refl _ _)) | (with_reducible exact hS _ (lat_d (Below.refl _ _))) | (with_reducible exact hS _ (lat_ad (Below.refl _ _))) | (with_reducible exact hS _ hbt1) | exact (box_s2f p2 (by omega)).c2 | fail)
    (first | (refine step_copyI (by rfl) (.tmp 5) (.tmp 7) 26 (by rfl) Try.underlying26 infoInt (some ⟨W.heap.size, 0, none⟩) W.heap.size (by rfl) A m c zs (by rfl) (by exact Ints.ad hh) (by omega) (by simp) ?_; intro A1 c1 w2 o2 b2 at2; have hbt1 : Below W.heap.size W w2 := below_after_alloc_d b2; have p2 := p.kept hbt1; have r2 := r.kept hbt1; obtain ⟨p2_0, p2_1⟩ := p2.c2; obtain ⟨r2_0, r2_1⟩ := r2.c2; have r2f := r2.frozen; have r2l := r2.lt) | fail)
  go_wp2
  refine abs_body ?_
  intro W9 hW
  have sz9 := hbt1.size
  have o8 := (o2.setCell ⟨w.heap.size + 1, 0, none⟩ (.int .i64 s) (fun k hk => by have := (o2.lt k hk).1; dsimp only; omega))
  have o7 := (o8.setCell ⟨w.heap.size + 1, 1, none⟩ (.slice A1 m c1) (fun k hk => by have := (o8.lt k hk).1; dsimp only; omega))
  have o9 : OwnI W9 W.heap.size A1 m c1 zs := by rw [hW]; exact o7
  have r9 : Box W9 (w.heap.size + 1) 28 #[.int .i64 s, .slice A1 m c1] := by rw [hW]; exact box_s2 r2
  have b9 : Below w.heap.size w W9 := by rw [hW]; exact ((bel.trans (hbt1.mono bel.size)).setCell (by dsimp only; omega) _).setCell (by dsimp only; omega) _
  clear hW o8 o7
  obtain ⟨z0, z1⟩ := r9.c2
  refine bodyPost_ret (v := .agg #[.int .i64 s, .slice A1 m c1]) (by simp [results, Try.results175, go_sem, z0, z1]) rfl ?_
  exact ⟨_, _, _, rfl, OwnH.mk' (o9.mono (by omega)), b9⟩
end Go.Proofs.Ytbapamfomfbmmaa
