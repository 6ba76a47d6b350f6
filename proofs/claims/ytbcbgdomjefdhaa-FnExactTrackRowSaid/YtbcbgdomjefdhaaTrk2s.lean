/-
  Contract of the reference's TrackerOk.
-/
import Derived.Test.YtbcbgdomjefdhaaTrk2
namespace Go.Proofs.Ytbcbgdomjefdhaa
open Go.RowKit
set_option linter.unusedSimpArgs false
set_option linter.unusedVariables false

set_option maxRecDepth 100000 in
set_option maxHeartbeats 2000000 in
theorem sTrackerOk_c (A B : Option Addr) (n c m d : Nat) (rs cs : List Int) (s : Int) (w : World) (hA : Ints w A n rs) (hB : Ints w B m cs) (hn : n ≤ 1048576) (hm : m ≤ 1048576) :
    Calls Try.prog 97 #[.agg #[.slice A n c, .slice B m d, .int .i64 s]] w fun e w' => e = .returned (.bool (tokOk rs cs s)) ∧ Below w.heap.size w w' := by
  have HA := Lib.hid hA.1
  have HB := Lib.hid hB.1
  have bb : Below w.heap.size w (w.alloc (.cells #[.slice A n c, .slice B m d, .int .i64 s] 75)) := (Below.refl _ _).alloc (Nat.le_refl _) _
  by_cases h1 : inB n 1 16 = true
  · by_cases h2 : m = n
    · by_cases h3 : inB s 0 100000 = true
      · have HT : Hid (tokOk rs cs s = tokTo rs cs s n) := by unfold Hid tokOk; rw [HA.out, HB.out, h1, h3]; simp [h2]
        subst h2
        obtain ⟨n1, n2⟩ := inB_t h1
        have hq : ((m : Int) != (m : Int)) = false := by simp
        go_enter Try.func97, Try.ntmps97
        go_wp2_with (go_at_call 79; refine (in_c _ _ _ _).mono ?_; rintro e w' ⟨rfl, rfl⟩)
        refine abs_code ?_
        intro W hW
        have p0 : Box W w.heap.size 75 #[.slice A m c, .slice B m d, .int .i64 s] := by rw [hW]; exact Box.new _ _ _
        have b0 : Below w.heap.size w W := by rw [hW]; exact (Below.refl _ _).alloc (Nat.le_refl _) _
        clear hW bb h1 h3 hq
        obtain ⟨c0, c1, c2⟩ := p0.c3
        have hA1 := hA.below b0
        have hB1 := hB.below b0
        go_loopw [3] (fun i wr => ∃ k : Nat, k ≤ m ∧ i = .int .i64 k ∧ Hid (tokTo rs cs s k = true) ∧ ∃ q, wr = W.drewN q) (fun i _ => m - (intOf i).toNat)
        case atStart => exact ⟨0, Nat.zero_le _, rfl, by unfold Hid; rfl, 0, rfl⟩
        case round =>
          obtain ⟨k, hk, rfl, HK, q, rfl⟩ := hrel
          by_cases hlt : k < m
          · obtain ⟨g, o, x, rfl, hx1, hx⟩ := hA1.at_ hlt
            obtain ⟨g', o', y, rfl, hy1, hy⟩ := hB1.at_ hlt
            have H1 := Lib.hid (tok1_eq (s := s) hx.out hy.out)
            have HS := Lib.hid (tokTo_succ rs cs s k)
            have k1 : (0 : Int) ≤ (k : Int) := by omega
            have k2 : (k : Int) < (m : Int) := by omega
            by_cases a1 : inB x (-1) 15 = true
            · by_cases a2 : inB y s 100000 = true
              · by_cases a3 : x < 0
                · have xe : (x == -1) = true := by have := inB_t a1; simp; omega
                  have x2 : decide (0 ≤ x) = false := by simp; omega
                  have x3 : decide (x < 0) = true := by simp; omega
                  by_cases a4 : (y != 0) = true
                  · have HF : Hid (tok1 rs cs s k = false) := by unfold Hid; rw [H1.out, a1, a2, xe]; simp at a4 ⊢; exact a4
                    clear xe
                    go_wp2_with fail
                    go_quiet ((go_at_call 79; exact quiet_add_left (in_c _ _ _ _)))
                    go_wp2
                    go_ret
                    exact ⟨ret_bool (by rw [HT.out, tokTo_no hlt HF.out]), by first | exact belowN b0 _ | exact belowN (belowN b0 _) _⟩
                  · have a4' : (y != 0) = false := by simpa using a4
                    have HF : Hid (tok1 rs cs s k = true) := by unfold Hid; rw [H1.out, a1, a2, xe]; simp at a4' ⊢; exact a4'
                    clear a4 xe
                    go_wp2_with fail
                    go_quiet ((go_at_call 79; exact quiet_add_left (in_c _ _ _ _)))
                    go_wp2
                    try rw [a1]
                    try rw [a2]
                    go_loopw [4] (fun i wr => ∃ j : Nat, j ≤ k ∧ i = .int .i64 j ∧ ∃ q', wr = W.drewN q') (fun i _ => k - (intOf i).toNat)
                    case atStart => exact ⟨0, Nat.zero_le _, rfl, ex_drewN _ _ _⟩
                    case round =>
                      obtain ⟨j, hj, rfl, q', rfl⟩ := hrel
                      by_cases hjt : j < k
                      · go_wp2_with fail
                        go_quiet (fail)
                        go_wp2
                        go_roundw
                        case rel => exact ⟨j + 1, by omega, by go_num, _, rfl⟩
                        case measure => simp [intOf]; omega
                      · go_wp2
                        go_roundw
                        case rel => exact ⟨k + 1, by omega, by go_num, by unfold Hid; rw [HS.out, HK.out, HF.out]; rfl, _, rfl⟩
                        case measure => simp [intOf]; omega
                · have xe : (x == -1) = false := by simp; omega
                  have x2 : decide (0 ≤ x) = true := by simp; omega
                  have x3 : decide (x < 0) = false := by simp; omega
                  go_wp2_with fail
                  go_quiet ((go_at_call 79; exact quiet_add_left (in_c _ _ _ _)))
                  go_wp2
                  try rw [a1]
                  try rw [a2]
                  go_loopw [4] (fun i wr => ∃ j : Nat, j ≤ k ∧ i = .int .i64 j ∧ Hid (x ∉ rs.take j) ∧ ∃ q', wr = W.drewN q') (fun i _ => k - (intOf i).toNat)
                  case atStart => exact ⟨0, Nat.zero_le _, rfl, by unfold Hid; simp, ex_drewN _ _ _⟩
                  case round =>
                    obtain ⟨j, hj, rfl, HJ, q', rfl⟩ := hrel
                    by_cases hjt : j < k
                    · obtain ⟨g2, o2, z, he2, hz1, hz⟩ := hA1.at_ (show j < m by omega)
                      injection he2 with he2
                      injection he2 with he3 he4
                      subst he3
                      subst he4
                      have j1 : (0 : Int) ≤ (j : Int) := by omega
                      have j2 : (j : Int) < (m : Int) := by omega
                      by_cases hzx : (z == x) = true
                      · obtain rfl : z = x := by simpa using hzx
                        have HI := idxI_at HJ.out hz.out
                        have HF : Hid (tok1 rs cs s k = false) := by
                          unfold Hid; rw [H1.out, a1, a2, xe, HI]; simp; omega
                        clear HI
                        go_wp2_with fail
                        go_quiet (fail)
                        go_wp2
                        go_ret
                        exact ⟨ret_bool (by rw [HT.out, tokTo_no hlt HF.out]), by first | exact belowN b0 _ | exact belowN (belowN b0 _) _⟩
                      · have hzf : (z == x) = false := by simpa using hzx
                        have HM : Hid (x ∉ rs.take (j + 1)) := not_mem_snoc HJ.out hz.out (by simp at hzf ⊢; exact fun e => hzf e.symm)
                        clear hzx
                        go_wp2_with fail
                        go_quiet (fail)
                        go_wp2
                        go_roundw
                        case rel => exact ⟨j + 1, by omega, by go_num, HM.out, _, rfl⟩
                        case measure => simp [intOf]; omega
                    · obtain rfl : j = k := by omega
                      have HI := idxI_at HJ.out hx.out
                      have HF : Hid (tok1 rs cs s j = true) := by unfold Hid; rw [H1.out, a1, a2, xe, HI]; simp
                      clear HI
                      go_wp2
                      go_roundw
                      case rel => exact ⟨j + 1, by omega, by go_num, by unfold Hid; rw [HS.out, HK.out, HF.out]; rfl, _, rfl⟩
                      case measure => simp [intOf]; omega
              · have a2' : inB y s 100000 = false := by simpa using a2
                have HF : Hid (tok1 rs cs s k = false) := by unfold Hid; rw [H1.out, a1, a2']; simp
                clear a2
                go_wp2_with fail
                go_quiet ((go_at_call 79; exact quiet_add_left (in_c _ _ _ _)))
                go_wp2
                go_ret
                exact ⟨ret_bool (by rw [HT.out, tokTo_no hlt HF.out]), by first | exact belowN b0 _ | exact belowN (belowN b0 _) _⟩
            · have a1' : inB x (-1) 15 = false := by simpa using a1
              have HF : Hid (tok1 rs cs s k = false) := by unfold Hid; rw [H1.out, a1']; simp
              clear a1
              go_wp2_with fail
              go_quiet ((go_at_call 79; exact quiet_add_left (in_c _ _ _ _)))
              go_wp2
              go_ret
              exact ⟨ret_bool (by rw [HT.out, tokTo_no hlt HF.out]), by first | exact belowN b0 _ | exact belowN (belowN b0 _) _⟩
          · obtain rfl : k = m := by omega
            go_wp2
            go_ret
            exact ⟨ret_bool (by rw [HT.out, HK.out]), belowN b0 _⟩
      · have h3' : inB s 0 100000 = false := by simpa using h3
        have HT : Hid (tokOk rs cs s = false) := by unfold Hid tokOk; rw [h3']; simp
        subst h2
        have hq : ((m : Int) != (m : Int)) = false := by simp
        clear h3
        go_enter Try.func97, Try.ntmps97
        go_wp2_with (go_at_call 79; refine (in_c _ _ _ _).mono ?_; rintro e w' ⟨rfl, rfl⟩)
        go_ret
        exact ⟨ret_bool HT.out.symm, bb⟩
    · have HT : Hid (tokOk rs cs s = false) := by unfold Hid tokOk; rw [HA.out, HB.out]; simp [h2]
      have hq : ((n : Int) != (m : Int)) = true := by simp; omega
      clear h2
      go_enter Try.func97, Try.ntmps97
      go_wp2_with (go_at_call 79; refine (in_c _ _ _ _).mono ?_; rintro e w' ⟨rfl, rfl⟩)
      go_ret
      exact ⟨ret_bool HT.out.symm, bb⟩
  · have h1' : inB n 1 16 = false := by simpa using h1
    have HT : Hid (tokOk rs cs s = false) := by unfold Hid tokOk; rw [HA.out, h1']; simp
    clear h1
    go_enter Try.func97, Try.ntmps97
    go_wp2_with (go_at_call 79; refine (in_c _ _ _ _).mono ?_; rintro e w' ⟨rfl, rfl⟩)
    go_ret
    exact ⟨ret_bool HT.out.symm, bb⟩
end Go.Proofs.Ytbcbgdomjefdhaa
