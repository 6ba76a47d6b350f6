/-
  Contracts of Neighbors, in the program and in the reference.
-/
import Derived.Test.YtbapamfomfbmmaaPat2
namespace Go.Proofs.Ytbapamfomfbmmaa
open Go.RowKit
set_option linter.unusedSimpArgs false
set_option linter.unusedVariables false

/-- A new slice of integers, in new memory; all that was there is as it was. -/
def NewI (zs : List Int) (w : World) (e : Ending) (w' : World) : Prop := ∃ A n c, e = .returned (.slice A n c) ∧ OwnI w' w.heap.size A n c zs ∧ Below w.heap.size w w'

theorem OwnI.lit (w : World) (lo : Nat) (hlo : lo ≤ w.heap.size) : OwnI (w.alloc (.cells #[] 3)) lo (some ⟨w.heap.size, 0, none⟩) 0 0 [] :=
  OwnI.nil _ _ _
theorem below_app {w w0 w' : World} {A : Option Addr} {c : Nat} (hb : Below w.heap.size w w0) (hg : w0.grownBy w' (blk A c)) (hA : ∀ k, blk A c = some k → w.heap.size ≤ k) : Below w.heap.size w w' :=
  hb.grown hg hb.size hA

set_option maxHeartbeats 1000000 in
theorem iNeighbors_c (rows row : Int) (w : World) :
    Calls Try.prog 100 #[.int .i64 rows, .int .i64 row] w (NewI (nears rows row) w) := by
  by_cases hr : inB rows 2 16 = true
  · obtain ⟨r1, r2⟩ := inB_t hr
    by_cases hw : inB row 0 (rows - 1) = true
    · obtain ⟨q1, q2⟩ := inB_t hw
      have HN : Hid (nears rows row = (if 0 < row then [row - 1] else []) ++ (if row < rows - 1 then [row + 1] else [])) := by unfold Hid nears; rw [if_pos ⟨hr, hw⟩]
      have hb0 : Below w.heap.size w (w.alloc (.cells #[] 3)) := (Below.refl _ _).alloc (Nat.le_refl _) _
      have ho0 := OwnI.lit w w.heap.size (Nat.le_refl _)
      by_cases h1 : 0 < row
      · by_cases h2 : row < rows - 1
        · go_enter Try.func100, Try.ntmps100
          go_wp2_with (first | (go_at_call 75; refine (between_c _ _ _ _).mono ?_; rintro e w' ⟨rfl, rfl⟩) | (at_builtin; refine wpList_app1 rfl (.tmp 19) (.tmp 22) 26 rfl Try.underlying26 infoInt _ 0 0 w.heap.size [] rfl (ho0.alloc _) (w.heap.size + 1) (row - 1) rfl (by simp) (by omega) (by simp; omega) ?_; intro A1 c1 w1 ho1 hg1 hat1) | (at_builtin; refine wpList_app1 rfl (.tmp 28) (.tmp 31) 26 rfl Try.underlying26 infoInt A1 (0 + 1) c1 w.heap.size ([] ++ [row - 1]) rfl (ho1.alloc _) w1.heap.size (row + 1) rfl (by simp) (by omega) (by have := hg1.size; simp at this ⊢; omega) ?_; intro A2 c2 w2 ho2 hg2 hat2))
          go_ret
          refine ⟨A2, _, c2, rfl, by rw [HN.out, if_pos h1, if_pos h2]; exact ho2, ?_⟩
          have hbb : Below w.heap.size w w1 := below_app (hb0.alloc (by simp) _) hg1 (by intro k hk; simp [blk] at hk)
          exact below_app (hbb.alloc hbb.size _) hg2 (fun k hk => (ho1.lt k hk).1)
        · go_enter Try.func100, Try.ntmps100
          go_wp2_with (first | (go_at_call 75; refine (between_c _ _ _ _).mono ?_; rintro e w' ⟨rfl, rfl⟩) | (at_builtin; refine wpList_app1 rfl (.tmp 19) (.tmp 22) 26 rfl Try.underlying26 infoInt _ 0 0 w.heap.size [] rfl (ho0.alloc _) (w.heap.size + 1) (row - 1) rfl (by simp) (by omega) (by simp; omega) ?_; intro A1 c1 w1 ho1 hg1 hat1))
          go_ret
          refine ⟨A1, _, c1, rfl, by rw [HN.out, if_pos h1, if_neg (by omega)]; exact ho1, ?_⟩
          exact below_app (hb0.alloc (by simp) _) hg1 (by intro k hk; simp [blk] at hk)
      · have h2 : row < rows - 1 := by omega
        go_enter Try.func100, Try.ntmps100
        go_wp2_with (first | (go_at_call 75; refine (between_c _ _ _ _).mono ?_; rintro e w' ⟨rfl, rfl⟩) | (at_builtin; refine wpList_app1 rfl (.tmp 28) (.tmp 31) 26 rfl Try.underlying26 infoInt _ 0 0 w.heap.size [] rfl (ho0.alloc _) (w.heap.size + 1) (row + 1) rfl (by simp) (by omega) (by simp; omega) ?_; intro A1 c1 w1 ho1 hg1 hat1))
        go_ret
        refine ⟨A1, _, c1, rfl, by rw [HN.out, if_neg (by omega), if_pos h2]; exact ho1, ?_⟩
        exact below_app (hb0.alloc (by simp) _) hg1 (by intro k hk; simp [blk] at hk)
    · have HN : Hid (nears rows row = []) := by unfold Hid nears; rw [if_neg (fun h => hw h.2)]
      have hw' : inB row 0 (rows - 1) = false := by simpa using hw
      clear hw
      go_enter Try.func100, Try.ntmps100
      go_wp2_with (go_at_call 75; refine (between_c _ _ _ _).mono ?_; rintro e w' ⟨rfl, rfl⟩)
      go_ret
      exact ⟨none, 0, 0, rfl, by rw [HN.out]; exact OwnI.nil _ _ _, Below.refl _ _⟩
  · have HN : Hid (nears rows row = []) := by unfold Hid nears; rw [if_neg (fun h => hr h.1)]
    have hr' : inB rows 2 16 = false := by simpa using hr
    clear hr
    go_enter Try.func100, Try.ntmps100
    go_wp2_with (go_at_call 75; refine (between_c _ _ _ _).mono ?_; rintro e w' ⟨rfl, rfl⟩)
    go_ret
    exact ⟨none, 0, 0, rfl, by rw [HN.out]; exact OwnI.nil _ _ _, Below.refl _ _⟩

set_option maxHeartbeats 1000000 in
theorem sNeighbors_c (rows row : Int) (w : World) :
    Calls Try.prog 142 #[.int .i64 rows, .int .i64 row] w (NewI (nears rows row) w) := by
  by_cases hr : inB rows 2 16 = true
  · obtain ⟨r1, r2⟩ := inB_t hr
    by_cases hw : inB row 0 (rows - 1) = true
    · obtain ⟨q1, q2⟩ := inB_t hw
      have HN : Hid (nears rows row = (if 0 < row then [row - 1] else []) ++ (if row < rows - 1 then [row + 1] else [])) := by unfold Hid nears; rw [if_pos ⟨hr, hw⟩]
      have hb0 : Below w.heap.size w (w.alloc (.cells #[] 3)) := (Below.refl _ _).alloc (Nat.le_refl _) _
      have ho0 := OwnI.lit w w.heap.size (Nat.le_refl _)
      by_cases h1 : 0 < row
      · by_cases h2 : row < rows - 1
        · go_enter Try.func142, Try.ntmps142
          go_wp2_with (first | (go_at_call 70; refine (in_c _ _ _ _).mono ?_; rintro e w' ⟨rfl, rfl⟩) | (at_builtin; refine wpList_app1 rfl (.tmp 20) (.tmp 23) 26 rfl Try.underlying26 infoInt _ 0 0 w.heap.size [] rfl (ho0.alloc _) (w.heap.size + 1) (row - 1) rfl (by simp) (by omega) (by simp; omega) ?_; intro A1 c1 w1 ho1 hg1 hat1) | (at_builtin; refine wpList_app1 rfl (.tmp 29) (.tmp 32) 26 rfl Try.underlying26 infoInt A1 (0 + 1) c1 w.heap.size ([] ++ [row - 1]) rfl (ho1.alloc _) w1.heap.size (row + 1) rfl (by simp) (by omega) (by have := hg1.size; simp at this ⊢; omega) ?_; intro A2 c2 w2 ho2 hg2 hat2))
          go_ret
          refine ⟨A2, _, c2, rfl, by rw [HN.out, if_pos h1, if_pos h2]; exact ho2, ?_⟩
          have hbb : Below w.heap.size w w1 := below_app (hb0.alloc (by simp) _) hg1 (by intro k hk; simp [blk] at hk)
          exact below_app (hbb.alloc hbb.size _) hg2 (fun k hk => (ho1.lt k hk).1)
        · go_enter Try.func142, Try.ntmps142
          go_wp2_with (first | (go_at_call 70; refine (in_c _ _ _ _).mono ?_; rintro e w' ⟨rfl, rfl⟩) | (at_builtin; refine wpList_app1 rfl (.tmp 20) (.tmp 23) 26 rfl Try.underlying26 infoInt _ 0 0 w.heap.size [] rfl (ho0.alloc _) (w.heap.size + 1) (row - 1) rfl (by simp) (by omega) (by simp; omega) ?_; intro A1 c1 w1 ho1 hg1 hat1))
          go_ret
          refine ⟨A1, _, c1, rfl, by rw [HN.out, if_pos h1, if_neg (by omega)]; exact ho1, ?_⟩
          exact below_app (hb0.alloc (by simp) _) hg1 (by intro k hk; simp [blk] at hk)
      · have h2 : row < rows - 1 := by omega
        go_enter Try.func142, Try.ntmps142
        go_wp2_with (first | (go_at_call 70; refine (in_c _ _ _ _).mono ?_; rintro e w' ⟨rfl, rfl⟩) | (at_builtin; refine wpList_app1 rfl (.tmp 29) (.tmp 32) 26 rfl Try.underlying26 infoInt _ 0 0 w.heap.size [] rfl (ho0.alloc _) (w.heap.size + 1) (row + 1) rfl (by simp) (by omega) (by simp; omega) ?_; intro A1 c1 w1 ho1 hg1 hat1))
        go_ret
        refine ⟨A1, _, c1, rfl, by rw [HN.out, if_neg (by omega), if_pos h2]; exact ho1, ?_⟩
        exact below_app (hb0.alloc (by simp) _) hg1 (by intro k hk; simp [blk] at hk)
    · have HN : Hid (nears rows row = []) := by unfold Hid nears; rw [if_neg (fun h => hw h.2)]
      have hw' : inB row 0 (rows - 1) = false := by simpa using hw
      clear hw
      go_enter Try.func142, Try.ntmps142
      go_wp2_with (go_at_call 70; refine (in_c _ _ _ _).mono ?_; rintro e w' ⟨rfl, rfl⟩)
      go_ret
      exact ⟨_, 0, 0, rfl, by rw [HN.out]; exact OwnI.lit w w.heap.size (Nat.le_refl _), (Below.refl _ _).alloc (Nat.le_refl _) _⟩
  · have HN : Hid (nears rows row = []) := by unfold Hid nears; rw [if_neg (fun h => hr h.1)]
    have hr' : inB rows 2 16 = false := by simpa using hr
    clear hr
    go_enter Try.func142, Try.ntmps142
    go_wp2_with (go_at_call 70; refine (in_c _ _ _ _).mono ?_; rintro e w' ⟨rfl, rfl⟩)
    go_ret
    exact ⟨_, 0, 0, rfl, by rw [HN.out]; exact OwnI.lit w w.heap.size (Nat.le_refl _), (Below.refl _ _).alloc (Nat.le_refl _) _⟩

end Go.Proofs.Ytbapamfomfbmmaa
