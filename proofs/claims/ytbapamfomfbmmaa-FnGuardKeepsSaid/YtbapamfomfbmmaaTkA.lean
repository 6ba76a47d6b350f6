/-
  Contract of the program's TrackerNew.
-/
import Derived.Test.YtbapamfomfbmmaaTkB
import Derived.Test.YtbapamfomfbmmaaRep
import Derived.Deep.DeepCutAuto
namespace Go.Proofs.Ytbapamfomfbmmaa
open Go.RowKit
set_option linter.unusedSimpArgs false
set_option linter.unusedVariables false

theorem own_s3h {w : World} {lo hi n c u : Nat} {A : Option Addr} {zs : List Int} {a b e : Value} (h : OwnH w lo hi A n c zs) (hu : u < lo) : OwnH (((w.setCell ⟨u, 0, none⟩ a).setCell ⟨u, 1, none⟩ b).setCell ⟨u, 2, none⟩ e) lo hi A n c zs :=
  ((h.setCell _ _ (.inl hu)).setCell _ _ (.inl hu)).setCell _ _ (.inl hu)
theorem tk_fin {w W Y W9 : World} {A B : Option Addr} {n c m d l1 h1 l2 h2 : Nat} {rs cs : List Int} {s : Int} {ok : Bool} {x y z : Value} {t : TypeId}
    (hW : W9 = ((Y.setCell ⟨w.heap.size, 0, none⟩ (.slice A n c)).setCell ⟨w.heap.size, 1, none⟩ (.slice B m d)).setCell ⟨w.heap.size, 2, none⟩ (.int .i64 s))
    (bel : Below w.heap.size w W) (r : Box W w.heap.size t #[x, y, z]) (hY : Below W.heap.size W Y) (oA : OwnH Y l1 h1 A n c rs) (oB : OwnH Y l2 h2 B m d cs)
    (a1 : W.heap.size ≤ l1) (a3 : W.heap.size ≤ l2) (a2 : h1 ≤ Y.heap.size) (a0 : l2 ≤ l2) (a4 : h2 ≤ Y.heap.size) (a5 : h1 ≤ l2 ∨ h2 ≤ l1) :
    Box W9 w.heap.size t #[.slice A n c, .slice B m d, .int .i64 s] ∧ NewTkB rs cs s ok w (.returned (.tuple #[.agg #[.slice A n c, .slice B m d, .int .i64 s], .bool ok])) W9 := by
  have hl := r.lt
  have hs := bel.size
  have e9 : W9.heap.size = Y.heap.size := by rw [hW]; simp [World.setCell]
  refine ⟨by rw [hW]; exact box_s3 (r.kept hY), A, n, c, B, m, d, l1, h1, l2, h2, rfl, by rw [hW]; exact own_s3h oA (by omega), by rw [hW]; exact own_s3h oB (by omega), ⟨by omega, by omega, by omega, by omega, a5⟩, ?_⟩
  rw [hW]
  exact (((bel.trans (hY.mono hs)).setCell (by dsimp only; omega) _).setCell (by dsimp only; omega) _).setCell (by dsimp only; omega) _
theorem make_fun (K : Nat) (hK : K ≤ 16) : ∃ mk : World → World, ∀ w : World, (Instr.makeSlice 26 (.int .i64 (K : Int)) (.int .i64 (K : Int))).run Try.prog w = .ok (.slice (some ⟨w.heap.size, 0, none⟩) K K) (mk w) ∧
    OwnH (mk w) w.heap.size (w.heap.size + 1) (some ⟨w.heap.size, 0, none⟩) K K (List.replicate K 0) ∧ Below w.heap.size w (mk w) := by
  obtain ⟨i0, hi0, hz0, hz1, hz2⟩ := info_parts infoInt
  refine Classical.axiomOfChoice (r := fun (w mkw : World) => (Instr.makeSlice 26 (.int .i64 (K : Int)) (.int .i64 (K : Int))).run Try.prog w = .ok (.slice (some ⟨w.heap.size, 0, none⟩) K K) mkw ∧ OwnH mkw w.heap.size (w.heap.size + 1) (some ⟨w.heap.size, 0, none⟩) K K (List.replicate K 0) ∧ Below w.heap.size w mkw) fun w => ?_
  obtain ⟨w', h1, h2, h3⟩ := run_make_full (P := Try.prog) w w.heap.size 26 3 i0 _ 1 Try.underlying26 hi0 hz0 hz1 .i64 .i64 K (by rw [hz2]; omega) (by unfold maxLen; omega) (Nat.le_refl _)
  rw [madeZ0] at h2
  refine ⟨w', h1, ⟨.inl (by simpa using h2), fun k hk => ?_⟩, grown_below h3⟩
  obtain ⟨hc, a, ha, hb⟩ := blk_some hk
  injection ha with ha
  rw [← hb, ← ha]
  exact Nat.lt_succ_self _
def tnR (k : Int) : List Int := if inB k 1 16 = true then List.replicate k.toNat (-1) else []
def tnC (k : Int) : List Int := if inB k 1 16 = true then List.replicate k.toNat 0 else []
set_option maxRecDepth 100000 in
set_option maxHeartbeats 4000000 in
theorem iTrackerNew_c (k : Int) (w : World) :
    Calls Try.prog 96 #[.int .i64 k] w (NewTkB (tnR k) (tnC k) 0 (inB k 1 16) w) := by
  have bel : Below w.heap.size w w := Below.refl _ _
  by_cases h1 : inB k 1 16 = true
  case neg =>
    have h1 : inB k 1 16 = false := by simpa using h1
    have e1 : tnR k = [] := by unfold tnR; rw [h1]; rfl
    have e2 : tnC k = [] := by unfold tnC; rw [h1]; rfl
    rw [e1, e2]
    go_enter Try.func96, Try.ntmps96
    go_wp2_with (go_at_call 75; refine (between_c _ _ _ _).mono ?_; rintro e w' ⟨rfl, rfl⟩)
    refine abs_body ?_
    intro W9 hW
    have b9 : Below w.heap.size w W9 := by rw [hW]; exact bel.alloc (Nat.le_refl _) _
    have r9 : Box W9 w.heap.size 132 #[.slice none 0 0, .slice none 0 0, .int .i64 0] := by rw [hW]; exact Box.new _ _ _
    clear hW
    obtain ⟨z0, z1, z2⟩ := r9.c3
    refine bodyPost_ret (v := .tuple #[.agg #[.slice none 0 0, .slice none 0 0, .int .i64 0], .bool false]) (by simp [results, Try.results96, go_sem, z0, z1, z2]) rfl ?_
    rw [h1]
    exact ⟨_, _, _, _, _, _, w.heap.size, w.heap.size, w.heap.size, w.heap.size, rfl, OwnH.nil _ _ _ _, OwnH.nil _ _ _ _, ⟨Nat.le_refl _, b9.size, Nat.le_refl _, b9.size, .inl (Nat.le_refl _)⟩, b9⟩
  obtain ⟨k1, k16⟩ := inB_t h1
  obtain ⟨K, rfl⟩ := Int.eq_ofNat_of_zero_le (show 0 ≤ k by omega)
  have e1 : tnR (K : Int) = List.replicate K (-1) := by unfold tnR; rw [h1]; simp
  have e2 : tnC (K : Int) = List.replicate K 0 := by unfold tnC; rw [h1]; simp
  have K1 : 1 ≤ K := by omega
  have K16 : K ≤ 16 := by omega
  rw [e1, e2, h1]
  clear e1 e2
  obtain ⟨i0, hi0, hz0, hz1, hz2⟩ := info_parts infoInt
  go_enter Try.func96, Try.ntmps96
  go_wp2_with (go_at_call 75; refine (between_c _ _ _ _).mono ?_; rintro e w' ⟨rfl, rfl⟩)
  refine abs_code ?_
  intro W hW
  have szW : w.heap.size + 1 ≤ W.heap.size := by rw [hW]; simp [World.setCell]
  have szW_ := bel.size
  replace bel : Below w.heap.size w W := by rw [hW]; exact (bel).alloc (by first | omega | (simp [World.setCell] <;> omega)) _
  have r : Box W w.heap.size 132 #[.slice none 0 0, .slice none 0 0, .int .i64 0] := by rw [hW]; exact (Box.newAt (by simp [World.setCell]))
  clear hW
  obtain ⟨r_0, r_1, r_2⟩ := r.c3
  have r_lt := r.lt
  have r_f := r.frozen
  have k0 : (0 : Int) ≤ (K : Int) := by omega
  have kb : (K : Int) ≤ 9223372036854775807 := by omega
  obtain ⟨mk, hmk⟩ := make_fun K K16
  have hrun : ∀ w : World, (Instr.makeSlice 26 (.int .i64 (K : Int)) (.int .i64 (K : Int))).run Try.prog w = .ok (.slice (some ⟨w.heap.size, 0, none⟩) K K) (mk w) := fun w => (hmk w).1
  have hown := fun w => (hmk w).2.1
  have hbel := fun w => (hmk w).2.2
  replace hown := Lib.hid hown
  replace hbel := Lib.hid hbel
  clear hmk
  have lat_mk : ∀ X : World, Below W.heap.size W X → Below W.heap.size W (mk X) := fun X h => below_next h (hbel.out X)
  obtain ⟨f0, hf0⟩ : ∃ f0 : World → Value, ∀ Y, f0 Y = (Y.cell? ⟨w.heap.size, 0, none⟩).getD (.int .i64 0) := ⟨_, fun _ => rfl⟩
  obtain ⟨f1, hf1⟩ : ∃ f1 : World → Value, ∀ Y, f1 Y = (Y.cell? ⟨w.heap.size, 1, none⟩).getD (.int .i64 0) := ⟨_, fun _ => rfl⟩
  obtain ⟨f2, hf2⟩ : ∃ f2 : World → Value, ∀ Y, f2 Y = (Y.cell? ⟨w.heap.size, 2, none⟩).getD (.int .i64 0) := ⟨_, fun _ => rfl⟩
  have hSB : ∀ (Y : World) (a b c : Value), Box Y w.heap.size 132 #[a, b, c] → (Y.cell? ⟨w.heap.size, 0, none⟩ = some (f0 Y) ∧ Y.cell? ⟨w.heap.size, 1, none⟩ = some (f1 Y) ∧ Y.cell? ⟨w.heap.size, 2, none⟩ = some (f2 Y) ∧ ∀ i, Y.frozen? ⟨w.heap.size, i, none⟩ = false) := fun Y a b c h =>
    ⟨by rw [hf0, h.c3.1]; rfl, by rw [hf1, h.c3.2.1]; rfl, by rw [hf2, h.c3.2.2]; rfl, h.frozen⟩
  have hSA : ∀ Y : World, Below W.heap.size W Y → (Y.cell? ⟨w.heap.size, 0, none⟩ = some (f0 Y) ∧ Y.cell? ⟨w.heap.size, 1, none⟩ = some (f1 Y) ∧ Y.cell? ⟨w.heap.size, 2, none⟩ = some (f2 Y) ∧ ∀ i, Y.frozen? ⟨w.heap.size, i, none⟩ = false) := fun Y h => hSB Y _ _ _ (r.kept h)
  have hSC : ∀ (Y : World) (a b c : Value), Below W.heap.size W Y → ((((Y.setCell ⟨w.heap.size, 0, none⟩ a).setCell ⟨w.heap.size, 1, none⟩ b).setCell ⟨w.heap.size, 2, none⟩ c).cell? ⟨w.heap.size, 0, none⟩ = some (f0 (((Y.setCell ⟨w.heap.size, 0, none⟩ a).setCell ⟨w.heap.size, 1, none⟩ b).setCell ⟨w.heap.size, 2, none⟩ c)) ∧ (((Y.setCell ⟨w.heap.size, 0, none⟩ a).setCell ⟨w.heap.size, 1, none⟩ b).setCell ⟨w.heap.size, 2, none⟩ c).cell? ⟨w.heap.size, 1, none⟩ = some (f1 (((Y.setCell ⟨w.heap.size, 0, none⟩ a).setCell ⟨w.heap.size, 1, none⟩ b).setCell ⟨w.heap.size, 2, none⟩ c)) ∧ (((Y.setCell ⟨w.heap.size, 0, none⟩ a).setCell ⟨w.heap.size, 1, none⟩ b).setCell ⟨w.heap.size, 2, none⟩ c).cell? ⟨w.heap.size, 2, none⟩ = some (f2 (((Y.setCell ⟨w.heap.size, 0, none⟩ a).setCell ⟨w.heap.size, 1, none⟩ b).setCell ⟨w.heap.size, 2, none⟩ c)) ∧ ∀ i, (((Y.setCell ⟨w.heap.size, 0, none⟩ a).setCell ⟨w.heap.size, 1, none⟩ b).setCell ⟨w.heap.size, 2, none⟩ c).frozen? ⟨w.heap.size, i, none⟩ = false) := fun Y a b c h => hSB _ _ _ _ (box_s3 (r.kept h))
  clear hf0 hf1 hf2 hSB
  have hbx1 : Box (W.alloc (.cells #[.int .i64 (-1)] 3)).drew W.heap.size 3 #[.int .i64 (-1)] := Box.new _ _ _
  have hsz : ∀ X : World, X.heap.size < (mk X).heap.size := fun X => by
    obtain ⟨-, g, e, -, h⟩ := (hown.out X).1.form (show 0 < K by omega)
    injection e with e
    injection e with e
    omega
  replace hsz := Lib.hid hsz
  go_region_held3 (fun Y => Y.cell? ⟨w.heap.size, 0, none⟩ = some (f0 Y) ∧ Y.cell? ⟨w.heap.size, 1, none⟩ = some (f1 Y) ∧ Y.cell? ⟨w.heap.size, 2, none⟩ = some (f2 Y) ∧ ∀ i, Y.frozen? ⟨w.heap.size, i, none⟩ = false)
    (first | (refine hSA _ ?_; (repeat (first | (with_reducible exact Below.refl _ _) | (with_reducible exact hbt1) | (with_reducible refine lat_d ?_) | (with_reducible refine lat_a ?_) | (with_reducible refine lat_mk _ ?_))); done) | (refine hSC _ _ _ _ ?_; (repeat (first | (with_reducible exact Below.refl _ _) | (with_reducible exact hbt1) | (with_reducible refine lat_d ?_) | (with_reducible refine lat_a ?_) | (with_reducible refine lat_mk _ ?_))); done) | fail)
    ((go_at_call 143; refine (repeat_c K _ _ K1 K16 (by first | exact (Box.new _ _ _).c1 | exact (hbx1.kept (hbel.out _)).c1) (by first | exact (Box.new _ _ _).lt | exact (hbx1.kept (hbel.out _)).lt)).mono ?_; rintro e w3 ⟨A1, n1, c1, rfl, o1, b1⟩; have hbt1 : Below W.heap.size W w3 := (by refine below_next ?_ b1; (repeat (first | (with_reducible exact Below.refl _ _) | (with_reducible refine lat_d ?_) | (with_reducible refine lat_a ?_) | (with_reducible refine lat_mk _ ?_))))))
  all_goals
    go_wp2_with fail
    refine abs_body ?_
    intro W9 hW
    have sb1 := b1.size
    try simp at sb1
    have q1 : W.heap.size + 1 < (mk (W.alloc (.cells #[.int .i64 (-1)] 3)).drew).heap.size := by have h := hsz.out (W.alloc (.cells #[.int .i64 (-1)] 3)).drew; simpa using h
    have q2 : W.heap.size < (mk W.drew).heap.size := by have h := hsz.out W.drew; simpa using h
    have q3 := hsz.out w3
    have q4 := hbt1.size
    first
    | (have HF := tk_fin (ok := true) hW bel r (lat_mk _ hbt1) (o1.below (hbel.out w3)) (hown.out w3) (by first | omega | (simp <;> omega) | simp) (by first | omega | (simp <;> omega) | simp) (by first | omega | (simp <;> omega) | simp) (Nat.le_refl _) (by first | omega | (simp <;> omega) | simp) (.inl (Nat.le_refl _)))
    | (have HF := tk_fin (ok := true) (B := some ⟨W.heap.size + 1, 0, none⟩) (l2 := W.heap.size + 1) (h2 := W.heap.size + 1 + 1) hW bel r hbt1 o1 (OwnH.below (by have h := hown.out (W.alloc (.cells #[.int .i64 (-1)] 3)).drew; simpa using h) b1) (by first | omega | (simp <;> omega) | simp) (by first | omega | (simp <;> omega) | simp) (by first | omega | (simp <;> omega) | simp) (Nat.le_refl _) (by first | omega | (simp <;> omega) | simp) (.inr (by first | omega | (simp <;> omega) | simp)))
    | (have HF := tk_fin (ok := true) (B := some ⟨W.heap.size, 0, none⟩) (l2 := W.heap.size) (h2 := W.heap.size + 1) hW bel r hbt1 o1 (OwnH.below (OwnH.dr ((hown.out W.drew).alloc _)) b1) (by first | omega | (simp <;> omega) | simp) (by first | omega | (simp <;> omega) | simp) (by first | omega | (simp <;> omega) | simp) (Nat.le_refl _) (by first | omega | (simp <;> omega) | simp) (.inr (by first | omega | (simp <;> omega) | simp)))
    | (have HF := tk_fin (ok := true) (B := some ⟨W.heap.size, 0, none⟩) (l2 := W.heap.size) (h2 := W.heap.size + 1) hW bel r hbt1 o1 (OwnH.below ((hown.out W.drew).alloc _) b1) (by first | omega | (simp <;> omega) | simp) (by first | omega | (simp <;> omega) | simp) (by first | omega | (simp <;> omega) | simp) (Nat.le_refl _) (by first | omega | (simp <;> omega) | simp) (.inr (by first | omega | (simp <;> omega) | simp)))
    | fail
    obtain ⟨r9, HN⟩ := HF
    obtain ⟨z0, z1, z2⟩ := r9.c3
    exact bodyPost_ret (v := _) (by simp [results, Try.results96, go_sem, z0, z1, z2]) rfl HN
end Go.Proofs.Ytbapamfomfbmmaa
