/-
  Copies of trackers.
-/
import Derived.Test.YtbapamfomfbmmaaTrk1
import Derived.Test.YtbapamfomfbmmaaLater
import Derived.Deep.DeepCutAuto
namespace Go.Proofs.Ytbapamfomfbmmaa
open Go.RowKit
set_option linter.unusedSimpArgs false
set_option linter.unusedVariables false

/-- A new tracker, its rows in new memory; all that was there is as it was. -/
def NewTk (rs cs : List Int) (s : Int) (w : World) (e : Ending) (w' : World) : Prop :=
  ∃ A n c B m d l1 h1 l2 h2, e = .returned (.agg #[.slice A n c, .slice B m d, .int .i64 s]) ∧ OwnH w' l1 h1 A n c rs ∧ OwnH w' l2 h2 B m d cs ∧ (w.heap.size ≤ l1 ∧ h1 ≤ w'.heap.size ∧ w.heap.size ≤ l2 ∧ h2 ≤ w'.heap.size ∧ (h1 ≤ l2 ∨ h2 ≤ l1)) ∧ Below w.heap.size w w'
/-- The same and a bool. -/
def NewTkB (rs cs : List Int) (s : Int) (ok : Bool) (w : World) (e : Ending) (w' : World) : Prop :=
  ∃ A n c B m d l1 h1 l2 h2, e = .returned (.tuple #[.agg #[.slice A n c, .slice B m d, .int .i64 s], .bool ok]) ∧ OwnH w' l1 h1 A n c rs ∧ OwnH w' l2 h2 B m d cs ∧ (w.heap.size ≤ l1 ∧ h1 ≤ w'.heap.size ∧ w.heap.size ≤ l2 ∧ h2 ≤ w'.heap.size ∧ (h1 ≤ l2 ∨ h2 ≤ l1)) ∧ Below w.heap.size w w'
theorem bel_d {B : Nat} {w X : World} (h : Below B w X) : Below B w X.drew := belowN h 1
theorem OwnH.dr {w : World} {lo hi n c : Nat} {A : Option Addr} {zs : List Int} (h : OwnH w lo hi A n c zs) : OwnH w.drew lo hi A n c zs := h
theorem below_next {W X Y : World} (h : Below W.heap.size W X) (b : Below X.heap.size X Y) : Below W.heap.size W Y := h.trans (b.mono h.size)
theorem lat_aad {W X : World} (h : Below W.heap.size W X) {o o' : Obj} : Below W.heap.size W ((X.alloc o).alloc o').drew := belowN ((h.alloc h.size o).alloc (Nat.le_trans h.size (by simp)) o') 1
theorem box_s3f {w : World} {g u : Nat} {t : TypeId} {cs : Array Value} {a b c : Value} (h : Box w g t cs) (hne : g ≠ u) : Box (((w.setCell ⟨u, 0, none⟩ a).setCell ⟨u, 1, none⟩ b).setCell ⟨u, 2, none⟩ c) g t cs := ((h.far hne _).far hne _).far hne _
theorem own_s3 {w : World} {lo n c u : Nat} {A : Option Addr} {zs : List Int} {a b e : Value} (h : OwnI w lo A n c zs) (hu : u < lo) : OwnI (((w.setCell ⟨u, 0, none⟩ a).setCell ⟨u, 1, none⟩ b).setCell ⟨u, 2, none⟩ e) lo A n c zs := by
  have h1 := h.setCell ⟨u, 0, none⟩ a (fun k hk => by have := (h.lt k hk).1; dsimp only; omega)
  have h2 := h1.setCell ⟨u, 1, none⟩ b (fun k hk => by have := (h1.lt k hk).1; dsimp only; omega)
  exact h2.setCell ⟨u, 2, none⟩ e (fun k hk => by have := (h2.lt k hk).1; dsimp only; omega)
set_option maxHeartbeats 8000000 in
theorem copyTracker_c (A B : Option Addr) (n c m d : Nat) (rs cs : List Int) (s : Int) (w : World) (hA : Ints w A n rs) (hB : Ints w B m cs) (hn : n ≤ 1048576) (hm : m ≤ 1048576) :
    Calls Try.prog 144 #[.agg #[.slice A n c, .slice B m d, .int .i64 s]] w (NewTk rs cs s w) := by
  have bel : Below w.heap.size w w := Below.refl _ _
  go_enter Try.func144, Try.ntmps144
  go_wp2
  refine abs_code ?_
  intro W hW
  have szW : w.heap.size + 1 + 1 ≤ W.heap.size := by rw [hW]; simp [World.setCell]
  have szW_ := bel.size
  replace bel : Below w.heap.size w W := by rw [hW]; exact ((bel).alloc (by first | omega | (simp [World.setCell] <;> omega)) _).alloc (by first | omega | (simp [World.setCell] <;> omega)) _
  have p : Box W w.heap.size 132 #[.slice A n c, .slice B m d, .int .i64 s] := by rw [hW]; exact ((Box.newAt (by simp [World.setCell]))).alloc _
  have r : Box W (w.heap.size + 1) 132 #[.slice none 0 0, .slice none 0 0, .int .i64 0] := by rw [hW]; exact (Box.newAt (by simp [World.setCell]))
  clear hW
  obtain ⟨p_0, p_1, p_2⟩ := p.c3
  have p_lt := p.lt
  obtain ⟨r_0, r_1, r_2⟩ := r.c3
  have r_lt := r.lt
  have r_f := r.frozen
  have hIA : ∀ Y : World, Below W.heap.size W Y → Ints Y A n rs := fun Y hY => (hA.below bel).below hY
  have hIB : ∀ Y : World, Below W.heap.size W Y → Ints Y B m cs := fun Y hY => (hB.below bel).below hY
  have hS : ∀ Y : World, Below W.heap.size W Y → (Y.cell? ⟨w.heap.size, 0, none⟩ = some (.slice A n c) ∧ Y.cell? ⟨w.heap.size, 1, none⟩ = some (.slice B m d) ∧ Y.cell? ⟨w.heap.size, 2, none⟩ = some (.int .i64 s)) := fun Y hY => ⟨(hY.cell (p := ⟨w.heap.size, 0, none⟩) p_lt).trans p_0, (hY.cell (p := ⟨w.heap.size, 1, none⟩) p_lt).trans p_1, (hY.cell (p := ⟨w.heap.size, 2, none⟩) p_lt).trans p_2⟩
  go_region_held3 (fun Y => Y.cell? ⟨w.heap.size, 0, none⟩ = some (.slice A n c) ∧ Y.cell? ⟨w.heap.size, 1, none⟩ = some (.slice B m d) ∧ Y.cell? ⟨w.heap.size, 2, none⟩ = some (.int .i64 s))
    (first | (with_reducible exact hS _ (Below.refl _ _)) | (with_reducible exact hS _ (lat_d (Below.refl _ _))) | (with_reducible exact hS _ (lat_a (Below.refl _ _))) | (with_reducible exact hS _ (lat_ad (Below.refl _ _))) | (with_reducible exact hS _ (lat_aad (Below.refl _ _))) | (with_reducible exact hS _ hbt1) | (with_reducible exact hS _ (lat_d hbt1)) | (with_reducible exact hS _ (lat_a hbt1)) | (with_reducible exact hS _ (lat_ad hbt1)) | (with_reducible exact hS _ (lat_aad hbt1)) | (with_reducible exact hS _ hbt2) | (with_reducible exact hS _ (lat_d hbt2)) | (with_reducible exact hS _ (lat_a hbt2)) | (with_reducible exact hS _ (lat_ad hbt2)) | (with_reducible exact hS _ (lat_aad hbt2)) | exact (box_s3f p3 (by omega)).c3 | fail)
    (first | (refine step_copyI (by rfl) (.tmp 3) (.tmp 5) 26 (by rfl) Try.underlying26 infoInt _ W.heap.size (by rfl) A n c rs (by rfl) (by first | (with_reducible exact hIA _ (Below.refl _ _)) | (with_reducible exact hIA _ (lat_d (Below.refl _ _))) | (with_reducible exact hIA _ (lat_a (Below.refl _ _))) | (with_reducible exact hIA _ (lat_ad (Below.refl _ _))) | (with_reducible exact hIA _ (lat_aad (Below.refl _ _)))) (by omega) (by first | exact Nat.le_refl _ | (simp <;> omega)) ?_; intro A1 A1c w2 o2 b2 at2; have lt2 := o2.lt; have hbt1 : Below W.heap.size W w2 := (by first | (with_reducible exact below_next (Below.refl _ _) b2) | (with_reducible exact below_next (lat_d (Below.refl _ _)) b2) | (with_reducible exact below_next (lat_a (Below.refl _ _)) b2) | (with_reducible exact below_next (lat_ad (Below.refl _ _)) b2) | (with_reducible exact below_next (lat_aad (Below.refl _ _)) b2))) | (refine step_copyI (by rfl) (.tmp 7) (.tmp 9) 26 (by rfl) Try.underlying26 infoInt _ w2.heap.size (by rfl) B m d cs (by rfl) (by first | (with_reducible exact hIB _ hbt1) | (with_reducible exact hIB _ (lat_d hbt1)) | (with_reducible exact hIB _ (lat_a hbt1)) | (with_reducible exact hIB _ (lat_ad hbt1)) | (with_reducible exact hIB _ (lat_aad hbt1))) (by omega) (by first | exact Nat.le_refl _ | (simp <;> omega)) ?_; intro A2 A2c w3 o3 b3 at3; have hbt2 : Below W.heap.size W w3 := (by first | (with_reducible exact below_next hbt1 b3) | (with_reducible exact below_next (lat_d hbt1) b3) | (with_reducible exact below_next (lat_a hbt1) b3) | (with_reducible exact below_next (lat_ad hbt1) b3) | (with_reducible exact below_next (lat_aad hbt1) b3)); have o2' : OwnI w3 W.heap.size A1 n A1c rs := (by first | (with_reducible exact o2.below (below_next (Below.refl _ _) b3)) | (with_reducible exact o2.below (below_next (lat_d (Below.refl _ _)) b3)) | (with_reducible exact o2.below (below_next (lat_a (Below.refl _ _)) b3)) | (with_reducible exact o2.below (below_next (lat_ad (Below.refl _ _)) b3)) | (with_reducible exact o2.below (below_next (lat_aad (Below.refl _ _)) b3))); have p3 := p.kept hbt2; have sw3 := b3.size; (try simp at sw3); have r3 := r.kept hbt2; obtain ⟨r3_0, r3_1, r3_2⟩ := r3.c3; have r3f := r3.frozen; have r3l := r3.lt) | (refine step_copyI (by rfl) (.tmp 7) (.tmp 9) 26 (by rfl) Try.underlying26 infoInt _ W.heap.size (by rfl) B m d cs (by rfl) (by first | (with_reducible exact hIB _ (Below.refl _ _)) | (with_reducible exact hIB _ (lat_d (Below.refl _ _))) | (with_reducible exact hIB _ (lat_a (Below.refl _ _))) | (with_reducible exact hIB _ (lat_ad (Below.refl _ _))) | (with_reducible exact hIB _ (lat_aad (Below.refl _ _)))) (by omega) (by first | exact Nat.le_refl _ | (simp <;> omega)) ?_; intro A2 A2c w2 o2 b2 at2; have lt2 := o2.lt; have hbt1 : Below W.heap.size W w2 := (by first | (with_reducible exact below_next (Below.refl _ _) b2) | (with_reducible exact below_next (lat_d (Below.refl _ _)) b2) | (with_reducible exact below_next (lat_a (Below.refl _ _)) b2) | (with_reducible exact below_next (lat_ad (Below.refl _ _)) b2) | (with_reducible exact below_next (lat_aad (Below.refl _ _)) b2))) | (refine step_copyI (by rfl) (.tmp 3) (.tmp 5) 26 (by rfl) Try.underlying26 infoInt _ w2.heap.size (by rfl) A n c rs (by rfl) (by first | (with_reducible exact hIA _ hbt1) | (with_reducible exact hIA _ (lat_d hbt1)) | (with_reducible exact hIA _ (lat_a hbt1)) | (with_reducible exact hIA _ (lat_ad hbt1)) | (with_reducible exact hIA _ (lat_aad hbt1))) (by omega) (by first | exact Nat.le_refl _ | (simp <;> omega)) ?_; intro A1 A1c w3 o3 b3 at3; have hbt2 : Below W.heap.size W w3 := (by first | (with_reducible exact below_next hbt1 b3) | (with_reducible exact below_next (lat_d hbt1) b3) | (with_reducible exact below_next (lat_a hbt1) b3) | (with_reducible exact below_next (lat_ad hbt1) b3) | (with_reducible exact below_next (lat_aad hbt1) b3)); have o2' : OwnI w3 W.heap.size A2 m A2c cs := (by first | (with_reducible exact o2.below (below_next (Below.refl _ _) b3)) | (with_reducible exact o2.below (below_next (lat_d (Below.refl _ _)) b3)) | (with_reducible exact o2.below (below_next (lat_a (Below.refl _ _)) b3)) | (with_reducible exact o2.below (below_next (lat_ad (Below.refl _ _)) b3)) | (with_reducible exact o2.below (below_next (lat_aad (Below.refl _ _)) b3))); have p3 := p.kept hbt2; have sw3 := b3.size; (try simp at sw3); have r3 := r.kept hbt2; obtain ⟨r3_0, r3_1, r3_2⟩ := r3.c3; have r3f := r3.frozen; have r3l := r3.lt) | fail)
  all_goals
    go_wp2
    refine abs_body ?_
    intro W9 hW
    have sz9 := hbt2.size
    have sz91 := hbt1.size
    have sw2 : w2.heap.size ≤ W9.heap.size := by rw [hW]; simp [World.setCell]; omega
    have HR : ∃ l1 h1 l2 h2, OwnH W9 l1 h1 A1 n A1c rs ∧ OwnH W9 l2 h2 A2 m A2c cs ∧ (w.heap.size ≤ l1 ∧ h1 ≤ W9.heap.size ∧ w.heap.size ≤ l2 ∧ h2 ≤ W9.heap.size ∧ (h1 ≤ l2 ∨ h2 ≤ l1)) := by
      first
      | exact ⟨W.heap.size, w2.heap.size, w2.heap.size, W9.heap.size, ⟨by rw [hW]; exact own_s3 o2' (by omega), fun k hk => (lt2 k hk).2⟩, OwnH.mk' (by rw [hW]; exact own_s3 o3 (by omega)), by omega, sw2, by omega, Nat.le_refl _, .inl (Nat.le_refl _)⟩
      | exact ⟨w2.heap.size, W9.heap.size, W.heap.size, w2.heap.size, OwnH.mk' (by rw [hW]; exact own_s3 o3 (by omega)), ⟨by rw [hW]; exact own_s3 o2' (by omega), fun k hk => (lt2 k hk).2⟩, by omega, Nat.le_refl _, by omega, sw2, .inr (Nat.le_refl _)⟩
    obtain ⟨l1, h1, l2, h2, HR1, HR2, HR3⟩ := HR
    have r9 : Box W9 (w.heap.size + 1) 132 #[.slice A1 n A1c, .slice A2 m A2c, .int .i64 s] := by rw [hW]; exact box_s3 r3
    have b9 : Below w.heap.size w W9 := by rw [hW]; exact (((bel.trans (hbt2.mono bel.size)).setCell (by dsimp only; omega) _).setCell (by dsimp only; omega) _).setCell (by dsimp only; omega) _
    clear hW
    obtain ⟨z0, z1, z2⟩ := r9.c3
    refine bodyPost_ret (v := .agg #[.slice A1 n A1c, .slice A2 m A2c, .int .i64 s]) (by simp [results, Try.results144, go_sem, z0, z1, z2]) rfl ?_
    exact ⟨_, _, _, _, _, _, l1, h1, l2, h2, rfl, HR1, HR2, HR3, b9⟩
end Go.Proofs.Ytbapamfomfbmmaa
