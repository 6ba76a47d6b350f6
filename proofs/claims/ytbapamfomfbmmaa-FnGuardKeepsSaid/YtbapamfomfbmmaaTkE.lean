/-
  Contract of the reference's TrackerNew.
-/
import Derived.Test.YtbapamfomfbmmaaTkA
namespace Go.Proofs.Ytbapamfomfbmmaa
open Go.RowKit
set_option linter.unusedSimpArgs false
set_option linter.unusedVariables false

theorem rp_set {j k : Nat} (h : j < k) : (rp j k).set j (-1) = rp (j + 1) k := by
  unfold rp
  rw [show k - j = (k - (j + 1)) + 1 by omega, List.replicate_succ (n := k - (j + 1)), List.set_append_right _ _ (by simp), List.replicate_succ' (n := j), List.append_assoc]
  simp
set_option maxRecDepth 100000 in
set_option maxHeartbeats 1000000 in
theorem l10Fill_c (K : Nat) (w : World) (hk : K ≤ 16) :
    Calls Try.prog 141 #[.int .i64 (K : Int)] w (NewL (List.replicate K (-1)) w) := by
  obtain ⟨i0, hi0, hz0, hz1, hz2⟩ := info_parts infoInt
  go_enter Try.func141, Try.ntmps141
  go_wp2_with (at_make; refine wpList_make_full _ rfl (.tmp 5) (.tmp 5) 26 rfl w.heap.size 3 i0 _ 1 Try.underlying26 hi0 hz0 hz1 .i64 .i64 K K K rfl rfl rfl rfl (by rw [hz2]; omega) (by unfold maxLen; omega) (by simp) ?_; intro w5 ho5 hg5)
  rw [madeZ0] at ho5
  have b5 := grown_below hg5
  have o5 : OwnH w5 w.heap.size w5.heap.size (some ⟨w.heap.size, 0, none⟩) K K (rp 0 K) := by
    have e0 : rp 0 K = List.replicate K 0 := by simp [rp]
    rw [e0]
    exact OwnH.mk' (.inl (by simpa using ho5))
  clear ho5 hg5
  go_loopw [4] (fun i wr => ∃ (j : Nat), j ≤ K ∧ i = .int .i64 j ∧ OwnH wr w.heap.size w5.heap.size (some ⟨w.heap.size, 0, none⟩) K K (rp j K) ∧ Below w.heap.size w wr ∧ w5.heap.size ≤ wr.heap.size) (fun i _ => K - (intOf i).toNat)
  case atStart => exact ⟨0, Nat.zero_le _, rfl, o5, b5, Nat.le_refl _⟩
  case round =>
    obtain ⟨j, hj, rfl, o, br, sz⟩ := hrel
    by_cases hlt : j < K
    · obtain ⟨g, x, e, hc, hf, -, -, -⟩ := o.at_ hlt
      have e' : w.heap.size = g := by have h := congrArg (fun a => a.map Addr.block) e; simpa using h
      subst e'
      clear e
      have i0 : (0 : Int) ≤ (j : Int) := by omega
      have i1 : (j : Int) < (K : Int) := by omega
      go_wp2
      go_roundw
      case rel =>
        refine ⟨j + 1, by omega, by go_num, ?_, br.setCell (by dsimp only; omega) _, by simpa [World.setCell] using sz⟩
        rw [← rp_set hlt]
        exact (o.stored rfl hlt (-1)).1
      case measure => simp [intOf]; omega
    · obtain rfl : K = j := by omega
      have e : rp K K = List.replicate K (-1) := by simp [rp]
      rw [e] at o
      go_wp2
      go_ret
      exact ⟨_, _, _, rfl, o.mono (Nat.le_refl _) sz, br⟩
set_option maxRecDepth 100000 in
set_option maxHeartbeats 4000000 in
theorem sTrackerNew_c (k : Int) (w : World) :
    Calls Try.prog 92 #[.int .i64 k] w (NewTkB (tnR k) (tnC k) 0 (inB k 1 16) w) := by
  have bel : Below w.heap.size w w := Below.refl _ _
  by_cases h1 : inB k 1 16 = true
  case neg =>
    have h1 : inB k 1 16 = false := by simpa using h1
    have e1 : tnR k = [] := by unfold tnR; rw [h1]; rfl
    have e2 : tnC k = [] := by unfold tnC; rw [h1]; rfl
    rw [e1, e2]
    go_enter Try.func92, Try.ntmps92
    go_wp2_with (go_at_call 70; refine (in_c _ _ _ _).mono ?_; rintro e w' ⟨rfl, rfl⟩)
    refine abs_body ?_
    intro W9 hW
    have b9 : Below w.heap.size w W9 := by rw [hW]; exact bel.alloc (Nat.le_refl _) _
    have r9 : Box W9 w.heap.size 132 #[.slice none 0 0, .slice none 0 0, .int .i64 0] := by rw [hW]; exact Box.new _ _ _
    clear hW
    obtain ⟨z0, z1, z2⟩ := r9.c3
    refine bodyPost_ret (v := .tuple #[.agg #[.slice none 0 0, .slice none 0 0, .int .i64 0], .bool false]) (by simp [results, Try.results92, go_sem, z0, z1, z2]) rfl ?_
    rw [h1]
    exact ⟨_, _, _, _, _, _, w.heap.size, w.heap.size, w.heap.size, w.heap.size, rfl, OwnH.nil _ _ _ _, OwnH.nil _ _ _ _, ⟨Nat.le_refl _, b9.size, Nat.le_refl _, b9.size, .inl (Nat.le_refl _)⟩, b9⟩
  obtain ⟨k1, k16⟩ := inB_t h1
  obtain ⟨K, rfl⟩ := Int.eq_ofNat_of_zero_le (show 0 ≤ k by omega)
  have e1 : tnR (K : Int) = List.replicate K (-1) := by unfold tnR; rw [h1]; simp
  have e2 : tnC (K : Int) = List.replicate K 0 := by unfold tnC; rw [h1]; simp
  have K1 : 1 ≤ K := by omega
  have K16 : K ≤ 16 := by omega
  rw [e1, e2, h1]
  clear e1 e2
  obtain ⟨i0, hi0, hz0, hz1, hz2⟩ := info_parts infoInt
  go_enter Try.func92, Try.ntmps92
  go_wp2_with (go_at_call 70; refine (in_c _ _ _ _).mono ?_; rintro e w' ⟨rfl, rfl⟩)
  refine abs_code ?_
  intro W hW
  have szW : w.heap.size + 1 ≤ W.heap.size := by rw [hW]; simp [World.setCell]
  have szW_ := bel.size
  replace bel : Below w.heap.size w W := by rw [hW]; exact (bel).alloc (by first | omega | (simp [World.setCell] <;> omega)) _
  have r : Box W w.heap.size 132 #[.slice none 0 0, .slice none 0 0, .int .i64 0] := by rw [hW]; exact (Box.newAt (by simp [World.setCell]))
  clear hW
  obtain ⟨r_0, r_1, r_2⟩ := r.c3
  have r_lt := r.lt
  have r_f := r.frozen
  have k0 : (0 : Int) ≤ (K : Int) := by omega
  have kb : (K : Int) ≤ 9223372036854775807 := by omega
  obtain ⟨mk, hmk⟩ := make_fun K K16
  have hrun : ∀ w : World, (Instr.makeSlice 26 (.int .i64 (K : Int)) (.int .i64 (K : Int))).run Try.prog w = .ok (.slice (some ⟨w.heap.size, 0, none⟩) K K) (mk w) := fun w => (hmk w).1
  have hown := fun w => (hmk w).2.1
  have hbel := fun w => (hmk w).2.2
  replace hown := Lib.hid hown
  replace hbel := Lib.hid hbel
  clear hmk
  have lat_mk : ∀ X : World, Below W.heap.size W X → Below W.heap.size W (mk X) := fun X h => below_next h (hbel.out X)
  obtain ⟨f0, hf0⟩ : ∃ f0 : World → Value, ∀ Y, f0 Y = (Y.cell? ⟨w.heap.size, 0, none⟩).getD (.int .i64 0) := ⟨_, fun _ => rfl⟩
  obtain ⟨f1, hf1⟩ : ∃ f1 : World → Value, ∀ Y, f1 Y = (Y.cell? ⟨w.heap.size, 1, none⟩).getD (.int .i64 0) := ⟨_, fun _ => rfl⟩
  obtain ⟨f2, hf2⟩ : ∃ f2 : World → Value, ∀ Y, f2 Y = (Y.cell? ⟨w.heap.size, 2, none⟩).getD (.int .i64 0) := ⟨_, fun _ => rfl⟩
  have hSB : ∀ (Y : World) (a b c : Value), Box Y w.heap.size 132 #[a, b, c] → (Y.cell? ⟨w.heap.size, 0, none⟩ = some (f0 Y) ∧ Y.cell? ⟨w.heap.size, 1, none⟩ = some (f1 Y) ∧ Y.cell? ⟨w.heap.size, 2, none⟩ = some (f2 Y) ∧ ∀ i, Y.frozen? ⟨w.heap.size, i, none⟩ = false) := fun Y a b c h =>
    ⟨by rw [hf0, h.c3.1]; rfl, by rw [hf1, h.c3.2.1]; rfl, by rw [hf2, h.c3.2.2]; rfl, h.frozen⟩
  have hSA : ∀ Y : World, Below W.heap.size W Y → (Y.cell? ⟨w.heap.size, 0, none⟩ = some (f0 Y) ∧ Y.cell? ⟨w.heap.size, 1, none⟩ = some (f1 Y) ∧ Y.cell? ⟨w.heap.size, 2, none⟩ = some (f2 Y) ∧ ∀ i, Y.frozen? ⟨w.heap.size, i, none⟩ = false) := fun Y h => hSB Y _ _ _ (r.kept h)
  have hSC : ∀ (Y : World) (a b c : Value), Below W.heap.size W Y → ((((Y.setCell ⟨w.heap.size, 0, none⟩ a).setCell ⟨w.heap.size, 1, none⟩ b).setCell ⟨w.heap.size, 2, none⟩ c).cell? ⟨w.heap.size, 0, none⟩ = some (f0 (((Y.setCell ⟨w.heap.size, 0, none⟩ a).setCell ⟨w.heap.size, 1, none⟩ b).setCell ⟨w.heap.size, 2, none⟩ c)) ∧ (((Y.setCell ⟨w.heap.size, 0, none⟩ a).setCell ⟨w.heap.size, 1, none⟩ b).setCell ⟨w.heap.size, 2, none⟩ c).cell? ⟨w.heap.size, 1, none⟩ = some (f1 (((Y.setCell ⟨w.heap.size, 0, none⟩ a).setCell ⟨w.heap.size, 1, none⟩ b).setCell ⟨w.heap.size, 2, none⟩ c)) ∧ (((Y.setCell ⟨w.heap.size, 0, none⟩ a).setCell ⟨w.heap.size, 1, none⟩ b).setCell ⟨w.heap.size, 2, none⟩ c).cell? ⟨w.heap.size, 2, none⟩ = some (f2 (((Y.setCell ⟨w.heap.size, 0, none⟩ a).setCell ⟨w.heap.size, 1, none⟩ b).setCell ⟨w.heap.size, 2, none⟩ c)) ∧ ∀ i, (((Y.setCell ⟨w.heap.size, 0, none⟩ a).setCell ⟨w.heap.size, 1, none⟩ b).setCell ⟨w.heap.size, 2, none⟩ c).frozen? ⟨w.heap.size, i, none⟩ = false) := fun Y a b c h => hSB _ _ _ _ (box_s3 (r.kept h))
  clear hf0 hf1 hf2 hSB
  have hsz : ∀ X : World, X.heap.size < (mk X).heap.size := fun X => by
    obtain ⟨-, g, e, -, h⟩ := (hown.out X).1.form (show 0 < K by omega)
    injection e with e
    injection e with e
    omega
  replace hsz := Lib.hid hsz
  go_region_held3 (fun Y => Y.cell? ⟨w.heap.size, 0, none⟩ = some (f0 Y) ∧ Y.cell? ⟨w.heap.size, 1, none⟩ = some (f1 Y) ∧ Y.cell? ⟨w.heap.size, 2, none⟩ = some (f2 Y) ∧ ∀ i, Y.frozen? ⟨w.heap.size, i, none⟩ = false)
    (first | (refine hSA _ ?_; (repeat (first | (with_reducible exact Below.refl _ _) | (with_reducible exact hbt1) | (with_reducible refine lat_d ?_) | (with_reducible refine lat_a ?_) | (with_reducible refine lat_mk _ ?_))); done) | (refine hSC _ _ _ _ ?_; (repeat (first | (with_reducible exact Below.refl _ _) | (with_reducible exact hbt1) | (with_reducible refine lat_d ?_) | (with_reducible refine lat_a ?_) | (with_reducible refine lat_mk _ ?_))); done) | fail)
    ((go_at_call 141; refine (l10Fill_c K _ K16).mono ?_; rintro e w3 ⟨A1, n1, c1, rfl, o1, b1⟩; have hbt1 : Below W.heap.size W w3 := (by refine below_next ?_ b1; (repeat (first | (with_reducible exact Below.refl _ _) | (with_reducible refine lat_d ?_) | (with_reducible refine lat_a ?_) | (with_reducible refine lat_mk _ ?_))))))
  all_goals
    go_wp2_with fail
    refine abs_body ?_
    intro W9 hW
    have sb1 := b1.size
    try simp at sb1
    have q2 : W.heap.size < (mk W.drew).heap.size := by have h := hsz.out W.drew; simpa using h
    have q3 := hsz.out w3
    have q4 := hbt1.size
    first
    | (have HF := tk_fin (ok := true) hW bel r (lat_mk _ hbt1) (o1.below (hbel.out w3)) (hown.out w3) (by first | omega | (simp <;> omega) | simp) (by first | omega | (simp <;> omega) | simp) (by first | omega | (simp <;> omega) | simp) (Nat.le_refl _) (by first | omega | (simp <;> omega) | simp) (.inl (Nat.le_refl _)))
    | (have HF := tk_fin (ok := true) (B := some ⟨W.heap.size, 0, none⟩) (l2 := W.heap.size) (h2 := W.heap.size + 1) hW bel r hbt1 o1 (OwnH.below (hown.out W.drew) b1) (by first | omega | (simp <;> omega) | simp) (by first | omega | (simp <;> omega) | simp) (by first | omega | (simp <;> omega) | simp) (Nat.le_refl _) (by first | omega | (simp <;> omega) | simp) (.inr (by first | omega | (simp <;> omega) | simp)))
    | (have HF := tk_fin (ok := true) (B := some ⟨W.heap.size, 0, none⟩) (l2 := W.heap.size) (h2 := W.heap.size + 1) hW bel r hbt1 o1 (OwnH.below (OwnH.dr (hown.out W.drew)) b1) (by first | omega | (simp <;> omega) | simp) (by first | omega | (simp <;> omega) | simp) (by first | omega | (simp <;> omega) | simp) (Nat.le_refl _) (by first | omega | (simp <;> omega) | simp) (.inr (by first | omega | (simp <;> omega) | simp)))
    | fail
    obtain ⟨r9, HN⟩ := HF
    obtain ⟨z0, z1, z2⟩ := r9.c3
    exact bodyPost_ret (v := _) (by simp [results, Try.results92, go_sem, z0, z1, z2]) rfl HN
end Go.Proofs.Ytbapamfomfbmmaa
