/-
  Contracts of TrackerOk, in the program and in the reference.
-/
import Derived.Test.YtbapamfomfbmmaaTrk1
namespace Go.Proofs.Ytbapamfomfbmmaa
open Go.RowKit
set_option linter.unusedSimpArgs false
set_option linter.unusedVariables false

/-- Entry i of a tracker is valid. -/
def tok1 (rs cs : List Int) (s : Int) (i : Nat) : Bool :=
  inB (rs.getD i 0) (-1) 15 && (inB (cs.getD i 0) s 100000 && ((!(rs.getD i 0 == -1) || cs.getD i 0 == 0) && ((rs.getD i 0 == -1) || idxI rs (rs.getD i 0) == i)))
def tokTo (rs cs : List Int) (s : Int) (k : Nat) : Bool := (List.range k).all (tok1 rs cs s)
/-- A valid tracker. -/
def tokOk (rs cs : List Int) (s : Int) : Bool := inB rs.length 1 16 && (decide (cs.length = rs.length) && (inB s 0 100000 && tokTo rs cs s rs.length))
theorem tok1_eq {rs cs : List Int} {s x y : Int} {i : Nat} (hx : rs[i]? = some x) (hy : cs[i]? = some y) :
    tok1 rs cs s i = (inB x (-1) 15 && (inB y s 100000 && ((!(x == -1) || y == 0) && ((x == -1) || idxI rs x == i)))) := by
  unfold tok1; rw [getD_of hx, getD_of hy]
theorem tokTo_succ (rs cs : List Int) (s : Int) (k : Nat) : tokTo rs cs s (k + 1) = (tokTo rs cs s k && tok1 rs cs s k) := by
  unfold tokTo; rw [List.range_succ, List.all_append]; simp
theorem tokTo_no {rs cs : List Int} {s : Int} {k n : Nat} (hk : k < n) (h : tok1 rs cs s k = false) : tokTo rs cs s n = false := by
  unfold tokTo
  rw [Bool.eq_false_iff]
  intro hc
  rw [List.all_eq_true] at hc
  have := hc k (List.mem_range.2 hk)
  rw [h] at this
  cases this

set_option maxHeartbeats 2000000 in
theorem iTrackerOk_c (A B : Option Addr) (n c m d : Nat) (rs cs : List Int) (s : Int) (w : World) (hA : Ints w A n rs) (hB : Ints w B m cs) (hn : n ≤ 1048576) (hm : m ≤ 1048576) :
    Calls Try.prog 145 #[.agg #[.slice A n c, .slice B m d, .int .i64 s]] w fun e w' => e = .returned (.bool (tokOk rs cs s)) ∧ Below w.heap.size w w' := by
  have HA := Lib.hid hA.1
  have HB := Lib.hid hB.1
  have bb : Below w.heap.size w (w.alloc (.cells #[.slice A n c, .slice B m d, .int .i64 s] 132)) := (Below.refl _ _).alloc (Nat.le_refl _) _
  by_cases h1 : inB n 1 16 = true
  · by_cases h2 : m = n
    · by_cases h3 : inB s 0 100000 = true
      · have HT : Hid (tokOk rs cs s = tokTo rs cs s n) := by unfold Hid tokOk; rw [HA.out, HB.out, h1, h3]; simp [h2]
        subst h2
        obtain ⟨n1, n2⟩ := inB_t h1
        have hq : ((m : Int) != (m : Int)) = false := by simp
        go_enter Try.func145, Try.ntmps145
        go_wp2_with (go_at_call 75; refine (between_c _ _ _ _).mono ?_; rintro e w' ⟨rfl, rfl⟩)
        refine abs_code ?_
        intro W hW
        have p0 : Box W w.heap.size 132 #[.slice A m c, .slice B m d, .int .i64 s] := by rw [hW]; exact Box.new _ _ _
        have b0 : Below w.heap.size w W := by rw [hW]; exact (Below.refl _ _).alloc (Nat.le_refl _) _
        clear hW bb h1 h3 hq
        obtain ⟨c0, c1, c2⟩ := p0.c3
        have hA1 := hA.below b0
        have hB1 := hB.below b0
        go_loopw [28] (fun i wr => ∃ k : Nat, k ≤ m ∧ i = .int .i64 k ∧ Hid (tokTo rs cs s k = true) ∧ ∃ q, wr = W.drewN q) (fun i _ => m - (intOf i).toNat)
        case atStart => exact ⟨0, Nat.zero_le _, rfl, by unfold Hid; rfl, 0, rfl⟩
        case round =>
          obtain ⟨k, hk, rfl, HK, q, rfl⟩ := hrel
          by_cases hlt : k < m
          · obtain ⟨g, o, x, rfl, hx1, hx⟩ := hA1.at_ hlt
            obtain ⟨g', o', y, rfl, hy1, hy⟩ := hB1.at_ hlt
            have H1 := Lib.hid (tok1_eq (s := s) hx.out hy.out)
            have HS := Lib.hid (tokTo_succ rs cs s k)
            have k1 : (0 : Int) ≤ (k : Int) := by omega
            have k2 : (k : Int) < (m : Int) := by omega
            by_cases a1 : inB x (-1) 15 = true
            · by_cases a2 : inB y s 100000 = true
              · by_cases a3 : (x == -1) = true
                · have a3' : (x != -1) = false := by simp at a3 ⊢; exact a3
                  by_cases a4 : (y != 0) = true
                  · have HF : Hid (tok1 rs cs s k = false) := by unfold Hid; rw [H1.out, a1, a2, a3]; simp at a4 ⊢; exact a4
                    go_wp2_with fail
                    go_quiet ((first | (go_at_call 75; exact quiet_add_left (between_c _ _ _ _)) | (go_at_call 146; exact quiet_add_left (index_c _ _ _ rs _ _ hA1 (by omega)))))
                    go_wp2
                    go_ret
                    exact ⟨ret_bool (by rw [HT.out, tokTo_no hlt HF.out]), by first | exact belowN b0 _ | exact belowN (belowN b0 _) _⟩
                  · have a4' : (y != 0) = false := by simpa using a4
                    have HF : Hid (tok1 rs cs s k = true) := by unfold Hid; rw [H1.out, a1, a2, a3]; simp at a4' ⊢; exact a4'
                    clear a4
                    go_wp2_with fail
                    go_quiet ((first | (go_at_call 75; exact quiet_add_left (between_c _ _ _ _)) | (go_at_call 146; exact quiet_add_left (index_c _ _ _ rs _ _ hA1 (by omega)))))
                    go_wp2
                    go_roundw
                    case rel => exact ⟨k + 1, by omega, by go_num, by unfold Hid; rw [HS.out, HK.out, HF.out]; rfl, _, rfl⟩
                    case measure => simp [intOf]; omega
                · have a3'' : (x == -1) = false := by simpa using a3
                  have a3' : (x != -1) = true := by simp at a3'' ⊢; exact a3''
                  clear a3
                  by_cases a4 : (idxI rs x != k) = true
                  · have HF : Hid (tok1 rs cs s k = false) := by unfold Hid; rw [H1.out, a1, a2, a3'']; simp at a4 ⊢; exact a4
                    go_wp2_with fail
                    go_quiet ((first | (go_at_call 75; exact quiet_add_left (between_c _ _ _ _)) | (go_at_call 146; exact quiet_add_left (index_c _ _ _ rs _ _ hA1 (by omega)))))
                    go_wp2
                    go_ret
                    exact ⟨ret_bool (by rw [HT.out, tokTo_no hlt HF.out]), by first | exact belowN b0 _ | exact belowN (belowN b0 _) _⟩
                  · have a4' : (idxI rs x != k) = false := by simpa using a4
                    have HF : Hid (tok1 rs cs s k = true) := by unfold Hid; rw [H1.out, a1, a2, a3'']; simp at a4' ⊢; exact a4'
                    clear a4
                    go_wp2_with fail
                    go_quiet ((first | (go_at_call 75; exact quiet_add_left (between_c _ _ _ _)) | (go_at_call 146; exact quiet_add_left (index_c _ _ _ rs _ _ hA1 (by omega)))))
                    go_wp2
                    go_roundw
                    case rel => exact ⟨k + 1, by omega, by go_num, by unfold Hid; rw [HS.out, HK.out, HF.out]; rfl, _, rfl⟩
                    case measure => simp [intOf]; omega
              · have a2' : inB y s 100000 = false := by simpa using a2
                have HF : Hid (tok1 rs cs s k = false) := by unfold Hid; rw [H1.out, a1, a2']; simp
                clear a2
                go_wp2_with fail
                go_quiet ((first | (go_at_call 75; exact quiet_add_left (between_c _ _ _ _)) | (go_at_call 146; exact quiet_add_left (index_c _ _ _ rs _ _ hA1 (by omega)))))
                go_wp2
                go_ret
                exact ⟨ret_bool (by rw [HT.out, tokTo_no hlt HF.out]), by first | exact belowN b0 _ | exact belowN (belowN b0 _) _⟩
            · have a1' : inB x (-1) 15 = false := by simpa using a1
              have HF : Hid (tok1 rs cs s k = false) := by unfold Hid; rw [H1.out, a1']; simp
              clear a1
              go_wp2_with fail
              go_quiet ((first | (go_at_call 75; exact quiet_add_left (between_c _ _ _ _)) | (go_at_call 146; exact quiet_add_left (index_c _ _ _ rs _ _ hA1 (by omega)))))
              go_wp2
              go_ret
              exact ⟨ret_bool (by rw [HT.out, tokTo_no hlt HF.out]), by first | exact belowN b0 _ | exact belowN (belowN b0 _) _⟩
          · obtain rfl : k = m := by omega
            go_wp2
            go_ret
            exact ⟨ret_bool (by rw [HT.out, HK.out]), belowN b0 _⟩
      · have h3' : inB s 0 100000 = false := by simpa using h3
        have HT : Hid (tokOk rs cs s = false) := by unfold Hid tokOk; rw [h3']; simp
        subst h2
        have hq : ((m : Int) != (m : Int)) = false := by simp
        clear h3
        go_enter Try.func145, Try.ntmps145
        go_wp2_with (go_at_call 75; refine (between_c _ _ _ _).mono ?_; rintro e w' ⟨rfl, rfl⟩)
        go_ret
        exact ⟨ret_bool HT.out.symm, bb⟩
    · have HT : Hid (tokOk rs cs s = false) := by unfold Hid tokOk; rw [HA.out, HB.out]; simp [h2]
      have hq : ((m : Int) != (n : Int)) = true := by simp; omega
      clear h2
      go_enter Try.func145, Try.ntmps145
      go_wp2_with (go_at_call 75; refine (between_c _ _ _ _).mono ?_; rintro e w' ⟨rfl, rfl⟩)
      go_ret
      exact ⟨ret_bool HT.out.symm, bb⟩
  · have h1' : inB n 1 16 = false := by simpa using h1
    have HT : Hid (tokOk rs cs s = false) := by unfold Hid tokOk; rw [HA.out, h1']; simp
    clear h1
    go_enter Try.func145, Try.ntmps145
    go_wp2_with (go_at_call 75; refine (between_c _ _ _ _).mono ?_; rintro e w' ⟨rfl, rfl⟩)
    go_ret
    exact ⟨ret_bool HT.out.symm, bb⟩
end Go.Proofs.Ytbapamfomfbmmaa
