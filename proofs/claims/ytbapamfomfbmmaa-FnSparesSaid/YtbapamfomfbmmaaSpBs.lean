/-
  Contract of SpareOk in the reference.
-/
import Derived.Test.YtbapamfomfbmmaaSpAs
import Derived.Test.YtbapamfomfbmmaaSpB
namespace Go.Proofs.Ytbapamfomfbmmaa
open Go.RowKit
set_option linter.unusedSimpArgs false
set_option linter.unusedVariables false

set_option maxHeartbeats 400000 in
theorem l16Has_c (A : Option Addr) (n c : Nat) (zs : List Int) (x : Int) (w : World) (h : Ints w A n zs) (hn : n ≤ 1048576) :
    Calls Try.prog 71 #[.slice A n c, .int .i64 x] w fun e w' => e = .returned (.bool (decide (x ∈ zs))) ∧ w = w' := by
  have HL := Lib.hid h.1
  go_enter Try.func71, Try.ntmps71
  go_wp2
  go_loop [5] (fun i => ∃ k : Nat, k ≤ n ∧ i = .int .i64 k ∧ Hid (x ∉ zs.take k)) (fun i => n - (intOf i).toNat)
  case atStart => exact ⟨0, Nat.zero_le _, rfl, by unfold Hid; simp⟩
  case round =>
    obtain ⟨k, hk, rfl, HK⟩ := hrel
    by_cases hlt : k < n
    · obtain ⟨g, o, y, rfl, hc1, hy⟩ := h.at_ hlt
      by_cases hxy : (y == x) = true
      · have HM : Hid (decide (x ∈ zs) = true) := by
          unfold Hid
          have e : y = x := by simpa using hxy
          rw [decide_eq_true_eq]
          exact e ▸ List.mem_of_getElem? hy.out
        go_wp2
        go_ret
        exact ⟨ret_bool HM.out.symm, rfl⟩
      · have hxy' : (y == x) = false := by simpa using hxy
        have HM := Lib.hid (not_mem_snoc HK.out hy.out (by rw [← hxy']; exact Bool.beq_comm ..))
        clear hxy
        go_wp2
        go_round
        case rel => exact ⟨k + 1, by omega, by go_num, HM.out⟩
        case measure => simp [intOf]; omega
    · have HM : Hid (decide (x ∈ zs) = false) := by
        have := HK.out
        rw [List.take_of_length_le (by rw [HL.out]; omega)] at this
        unfold Hid
        simpa using this
      go_wp2
      go_ret
      exact ⟨ret_bool HM.out.symm, rfl⟩
theorem goodS_next {n k : Nat} {gr : Int} {zs : List Int} (h : ∀ i, i < k → goodS n gr zs i = true) (hk : goodS n gr zs k = true) : ∀ i, i < k + 1 → goodS n gr zs i = true := by
  intro i hi
  by_cases e : i = k
  · subst e; exact hk
  · exact h i (by omega)
set_option maxHeartbeats 8000000 in
theorem sSpareOk_c (gg gb gr gc s : Int) (A : Option Addr) (m c : Nat) (zs : List Int) (w : World) (hA : Ints w A m zs) (hn : m ≤ 1048576) (hc : m ≤ c ∧ c ≤ maxLen) :
    Calls Try.prog 16 #[.agg #[.int .i64 gg, .int .i64 gb, .int .i64 gr, .int .i64 gc], .agg #[.int .i64 s, .slice A m c]] w fun e w' => e = .returned (.bool (spareOk gg gb gr gc s zs)) ∧ Below w.heap.size w w' := by
  have bel : Below w.heap.size w w := Below.refl _ _
  have HL := Lib.hid hA.1
  go_enter Try.func16, Try.ntmps16
  go_wp2_with fail
  refine abs_call ?_
  intro W hW
  have szW : w.heap.size + 1 + 1 ≤ W.heap.size := by rw [hW]; simp [World.setCell]
  have szW_ := bel.size
  replace bel : Below w.heap.size w W := by rw [hW]; exact ((bel).alloc (by first | omega | (simp [World.setCell] <;> omega)) _).alloc (by first | omega | (simp [World.setCell] <;> omega)) _
  have p : Box W w.heap.size 25 #[.int .i64 gg, .int .i64 gb, .int .i64 gr, .int .i64 gc] := by rw [hW]; exact ((Box.newAt (by simp [World.setCell]))).alloc _
  have q : Box W (w.heap.size + 1) 28 #[.int .i64 s, .slice A m c] := by rw [hW]; exact (Box.newAt (by simp [World.setCell]))
  clear hW
  refine (sSpareNew_c gg gb gr gc s _).mono ?_
  rintro e w1 ⟨A1, n1, c1, rfl, o1, b1⟩
  have szw1 := b1.size
  replace bel := bel.trans (b1.mono bel.size)
  replace p := p.kept b1
  replace q := q.kept b1
  clear b1
  by_cases hk : spOk gg gb gr gc s = true
  case neg =>
    have hk' : spOk gg gb gr gc s = false := by simpa using hk
    clear hk
    have HQ := Lib.hid (spareOk_no1 (zs := zs) hk')
    rw [hk']
    obtain ⟨p_0, p_1, p_2, p_3⟩ := p.c4
    have p_lt := p.lt
    obtain ⟨q_0, q_1⟩ := q.c2
    have q_lt := q.lt
    go_wp2
    refine abs_code ?_
    intro W3 hW
    clear p_0 p_1 p_2 p_3 p_lt q_0 q_1 q_lt
    have szW3 : w1.heap.size + 1 ≤ W3.heap.size := by rw [hW]; simp [World.setCell]
    have szW3_ := bel.size
    replace bel : Below w.heap.size w W3 := by rw [hW]; exact (bel).alloc (by first | omega | (simp [World.setCell] <;> omega)) _
    replace p : Box W3 w.heap.size 25 #[.int .i64 gg, .int .i64 gb, .int .i64 gr, .int .i64 gc] := by rw [hW]; exact p.alloc _
    replace q : Box W3 (w.heap.size + 1) 28 #[.int .i64 s, .slice A m c] := by rw [hW]; exact q.alloc _
    clear hW
    obtain ⟨p_0, p_1, p_2, p_3⟩ := p.c4
    have p_lt := p.lt
    obtain ⟨q_0, q_1⟩ := q.c2
    have q_lt := q.lt
    have l0 := later_cell p_lt p_0
    have l1 := later_cell p_lt p_1
    have l2 := later_cell p_lt p_2
    have l3 := later_cell p_lt p_3
    have m0 := later_cell q_lt q_0
    have m1 := later_cell q_lt q_1
    refine wp_region_later (by kernel_rfl) (by kernel_rfl) ?_
    repeat (go_big_quiet_step (fail))
    refine wpQuiet_nil ?_
    intro Z hw'
    obtain ⟨z, hw''⟩ := hw'
    have bZ := z.bel
    rw [← hw''] at bZ
    clear hw'' z l0 l1 l2 l3 m0 m1
    go_wp2
    go_ret
    rw [HQ.out]
    exact ⟨rfl, bel.trans (bZ.mono bel.size)⟩
  obtain ⟨nb, n, e1, e2, e3, e4, n1', n2, n3, n4, ⟨s0, s2⟩, -⟩ := spOk_nums hk
  have HK := Lib.hid hk
  have HB := Lib.hid e1
  have HE3 := Lib.hid e3
  have HE4 := Lib.hid e4
  have hnn := le_mul8 n2 n4
  obtain rfl : gr = (n : Int) + s := by omega
  clear e1 e2 e3 e4 o1
  have cB : ∀ w : World, Calls Try.prog 21 #[.agg #[.int .i64 gg, .int .i64 gb, .int .i64 ((n : Int) + s), .int .i64 gc]] w fun e w' => e = .returned (.int .i64 (nb : Int)) ∧ Below w.heap.size w w' := fun w => by have := sBankCount_c gg gb ((n : Int) + s) gc w; rwa [HB.out] at this
  rw [hk]
  clear hk
  have hw0 : IntKind.i64.wrap ((nb : Int) * (n : Int)) = ((nb * n : Nat) : Int) := by rw [IntWalk.i64_in _ (by rw [← Int.natCast_mul]; omega)]; simp
  obtain ⟨p_0, p_1, p_2, p_3⟩ := p.c4
  have p_lt := p.lt
  obtain ⟨q_0, q_1⟩ := q.c2
  have q_lt := q.lt
  go_wp2
  refine abs_code ?_
  intro W3 hW
  clear p_0 p_1 p_2 p_3 p_lt q_0 q_1 q_lt
  have szW3 : w1.heap.size + 1 ≤ W3.heap.size := by rw [hW]; simp [World.setCell]
  have szW3_ := bel.size
  replace bel : Below w.heap.size w W3 := by rw [hW]; exact (bel).alloc (by first | omega | (simp [World.setCell] <;> omega)) _
  replace p : Box W3 w.heap.size 25 #[.int .i64 gg, .int .i64 gb, .int .i64 ((n : Int) + s), .int .i64 gc] := by rw [hW]; exact p.alloc _
  replace q : Box W3 (w.heap.size + 1) 28 #[.int .i64 s, .slice A m c] := by rw [hW]; exact q.alloc _
  clear hW
  obtain ⟨p_0, p_1, p_2, p_3⟩ := p.c4
  have p_lt := p.lt
  obtain ⟨q_0, q_1⟩ := q.c2
  have q_lt := q.lt
  have l0 := later_cell p_lt p_0
  have l1 := later_cell p_lt p_1
  have l2 := later_cell p_lt p_2
  have l3 := later_cell p_lt p_3
  have m0 := later_cell q_lt q_0
  have m1 := later_cell q_lt q_1
  by_cases hm : m = nb * n
  case neg =>
    have HQ : Hid (spareOk gg gb ((n : Int) + s) gc s zs = false) := spareOk_no2 (by rw [HE3.out, HE4.out, HL.out]; exact hm)
    have t1 : ((m : Int) != ((nb * n : Nat) : Int)) = true := by simpa using (fun e => hm (by exact_mod_cast e) : ¬ ((m : Int) = ((nb * n : Nat) : Int)))
    refine wp_region_later (by kernel_rfl) (by kernel_rfl) ?_
    repeat (go_big_quiet_step ((go_at_call 21; exact later_call (cB _))))
    refine wpQuiet_nil ?_
    intro Z hw'
    obtain ⟨z, hw''⟩ := hw'
    have bZ := z.bel
    rw [← hw''] at bZ
    clear hw'' z l0 l1 l2 l3 m0 m1
    go_wp2
    go_ret
    rw [HQ.out]
    exact ⟨rfl, bel.trans (bZ.mono bel.size)⟩
  obtain ⟨M, hM⟩ : ∃ M, nb * n = M := ⟨_, rfl⟩
  rw [hM] at hm hw0 hnn
  have HM := Lib.hid hM
  clear hM
  subst hm
  have t1 : ((m : Int) != (m : Int)) = false := by simp
  refine wp_region_later (by kernel_rfl) (by kernel_rfl) ?_
  repeat (go_big_quiet_step ((go_at_call 21; exact later_call (cB _))))
  refine wpQuiet_nil ?_
  intro Z hw'
  obtain ⟨z, hw''⟩ := hw'
  have bZ := z.bel
  rw [← hw''] at bZ
  clear hw'' z l0 l1 l2 l3 m0 m1 t1 hw0
  clear p_0 p_1 p_2 p_3 p_lt q_0 q_1 q_lt
  have szZ := bZ.size
  replace bel := bel.trans (bZ.mono bel.size)
  replace p := p.kept bZ
  replace q := q.kept bZ
  clear bZ
  obtain ⟨p_0, p_1, p_2, p_3⟩ := p.c4
  have p_lt := p.lt
  obtain ⟨q_0, q_1⟩ := q.c2
  have q_lt := q.lt
  go_wp2
  clear p_0 p_1 p_2 p_3 p_lt q_0 q_1 q_lt
  go_loopw [8] (fun v wr => ∃ i : Nat, i ≤ m ∧ v = .int .i64 i ∧ Below w.heap.size w wr ∧ Z.heap.size ≤ wr.heap.size ∧ Box wr w.heap.size 25 #[.int .i64 gg, .int .i64 gb, .int .i64 ((n : Int) + s), .int .i64 gc] ∧ Box wr (w.heap.size + 1) 28 #[.int .i64 s, .slice A m c] ∧ Hid (∀ j, j < i → goodS n ((n : Int) + s) zs j = true)) (fun v _ => m - (intOf v).toNat)
  case atStart => exact ⟨0, Nat.zero_le _, rfl, bel, Nat.le_refl _, p, q, (by intro i hi; omega)⟩
  case round =>
    obtain ⟨i, hi0, rfl, br, szr, p', q', HG⟩ := hrel
    clear p q bel
    obtain ⟨p'_0, p'_1, p'_2, p'_3⟩ := p'.c4
    have p'_lt := p'.lt
    obtain ⟨q'_0, q'_1⟩ := q'.c2
    have q'_lt := q'.lt
    by_cases hlt : i < m
    · obtain ⟨g, o, z, rfl, hc1, hz⟩ := (hA.below br).at_ hlt
      have c00 : g < wr.heap.size := by obtain ⟨g2, o2, e, h2, _⟩ := (hA.below br).2 (by omega); injection e with e; injection e with e1; omega
      have cz := later_cell c00 hc1
      have n0 : (n : Int) ≠ 0 := by omega
      have n00 : n ≠ 0 := by omega
      have i1 : (0 : Int) ≤ (i : Int) := by omega
      have i2 : (i : Int) < (m : Int) := by omega
      have hS : Hid (goodS n ((n : Int) + s) zs i = ((z == ((i % n : Nat) : Int)) || (inB z n ((n : Int) + s - 1) && !decide (z ∈ (zs.take i).drop (i / n * n))))) := by unfold Hid goodS; rw [getD_of hz.out]
      have hw1 : (i : Int).tmod (n : Int) = ((i % n : Nat) : Int) := by rw [Int.tmod_eq_emod_of_nonneg (by omega)]; rfl
      go_wp2
      have l0 := later_cell p'_lt p'_0
      have l1 := later_cell p'_lt p'_1
      have l2 := later_cell p'_lt p'_2
      have l3 := later_cell p'_lt p'_3
      have m0 := later_cell q'_lt q'_0
      have m1 := later_cell q'_lt q'_1
      by_cases hz1 : (z == ((i % n : Nat) : Int)) = true
      · have HT : Hid (goodS n ((n : Int) + s) zs i = true) := by unfold Hid; rw [hS.out, hz1]; rfl
        refine wp_region_later (by kernel_rfl) (by kernel_rfl) ?_
        repeat (go_big_quiet_step (fail))
        refine wpQuiet_nil ?_
        intro Z hw'
        obtain ⟨z, hw''⟩ := hw'
        have bZ := z.bel
        rw [← hw''] at bZ
        clear hw'' z l0 l1 l2 l3 m0 m1 cz
        clear p'_0 p'_1 p'_2 p'_3 p'_lt q'_0 q'_1 q'_lt
        have szZ := bZ.size
        replace br := br.trans (bZ.mono br.size)
        replace p' := p'.kept bZ
        replace q' := q'.kept bZ
        clear bZ
        go_wp2
        go_roundw
        case rel => exact ⟨i + 1, by omega, by go_num, br, by omega, p', q', goodS_next HG.out HT.out⟩
        case measure => simp [intOf]; omega
      · have hz1' : (z == ((i % n : Nat) : Int)) = false := by simpa using hz1
        clear hz1
        rw [hz1', Bool.false_or] at hS
        refine wp_region_later (by kernel_rfl) (by kernel_rfl) ?_
        repeat (go_big_quiet_step (fail))
        refine wpQuiet_nil ?_
        intro Z hw'
        obtain ⟨z, hw''⟩ := hw'
        have bZ := z.bel
        rw [← hw''] at bZ
        clear hw'' z l0 l1 l2 l3 m0 m1 cz
        have hc2 : Z.cell? ⟨g, o + i, none⟩ = some (.int .i64 z) := (bZ.cell (p := ⟨g, o + i, none⟩) c00).trans hc1
        have c02 : g < Z.heap.size := Nat.lt_of_lt_of_le c00 bZ.size
        have szZ := bZ.size
        replace br := br.trans (bZ.mono br.size)
        replace p' := p'.kept bZ
        replace q' := q'.kept bZ
        clear bZ
        obtain ⟨Q, hQ⟩ : ∃ Q, i / n = Q := ⟨_, rfl⟩
        obtain ⟨L, hL⟩ : ∃ L, i / n * n = L := ⟨_, rfl⟩
        have hLi : L ≤ i := by rw [← hL]; exact div_le_self
        rw [hL] at hS
        have hq : IntKind.i64.wrap ((i : Int).tdiv (n : Int)) = (Q : Int) := by
          have e : (i : Int).tdiv (n : Int) = ((i / n : Nat) : Int) := by rw [Int.tdiv_eq_ediv_of_nonneg (by omega)]; rfl
          have := Nat.div_le_self i n
          rw [e, IntWalk.i64_in _ (by omega), hQ]
        have hqa : IntKind.i64.wrap ((i : Int) / (n : Int)) = (Q : Int) := by
          have := Nat.div_le_self i n
          rw [show (i : Int) / (n : Int) = ((i / n : Nat) : Int) from rfl, IntWalk.i64_in _ (by omega), hQ]
        have hq2 : IntKind.i64.wrap ((Q : Int) * (n : Int)) = (L : Int) := by
          have e : (Q : Int) * (n : Int) = (L : Int) := by rw [← hL, ← hQ]; simp
          rw [e, IntWalk.i64_in _ (by omega)]
        have hq3 : IntKind.i64.wrap ((n : Int) + s - 1) = (n : Int) + s - 1 := IntWalk.i64_in _ (by omega)
        have k1 : (L : Int) ≤ (i : Int) := by omega
        have k2 : (i : Int) ≤ (c : Int) := by omega
        have k3 : ¬ c = L := by omega
        have k4 : L ≤ i := hLi
        have k5 : i ≤ c := by omega
        have HL3 := Lib.hid hL
        have hB : Ints Z (some ⟨g, o + L, none⟩) (i - L) ((zs.take i).drop L) := by
          have h0 := (hA.below br).cut (lo := L) (n := i - L) (by omega)
          rw [List.drop_take]
          exact h0
        clear hQ hL
        obtain ⟨p'_0, p'_1, p'_2, p'_3⟩ := p'.c4
        have p'_lt := p'.lt
        obtain ⟨q'_0, q'_1⟩ := q'.c2
        have q'_lt := q'.lt
        have l0 := later_cell p'_lt p'_0
        have l1 := later_cell p'_lt p'_1
        have l2 := later_cell p'_lt p'_2
        have l3 := later_cell p'_lt p'_3
        have m0 := later_cell q'_lt q'_0
        have m1 := later_cell q'_lt q'_1
        have cz := later_cell c02 hc2
        go_wp2
        by_cases hi : inB z n ((n : Int) + s - 1) = true
        case neg =>
          have hi' : inB z n ((n : Int) + s - 1) = false := by simpa using hi
          clear hi
          have HT : Hid (spareOk gg gb ((n : Int) + s) gc s zs = false) := by
            refine spareOk_noS (i := i) (by rw [HL.out]; exact hlt) ?_
            rw [HE4.out, hS.out, hi']; rfl
          refine wp_region_later (by kernel_rfl) (by kernel_rfl) ?_
          repeat (go_big_quiet_step ((go_at_call 70; first | exact later_sameB (in_c _ _ _ _) hi | exact later_sameB (in_c _ _ _ _) hi')))
          refine wpQuiet_nil ?_
          intro Z hw'
          obtain ⟨z, hw''⟩ := hw'
          have bZ := z.bel
          rw [← hw''] at bZ
          clear hw'' z l0 l1 l2 l3 m0 m1 cz hq hqa hq2 hq3
          clear p'_0 p'_1 p'_2 p'_3 p'_lt q'_0 q'_1 q'_lt
          have szZ := bZ.size
          replace br := br.trans (bZ.mono br.size)
          replace p' := p'.kept bZ
          replace q' := q'.kept bZ
          clear bZ
          go_wp2
          go_ret
          rw [HT.out]
          exact ⟨rfl, br⟩
        by_cases hh : decide (z ∈ (zs.take i).drop L) = true
        · have HT : Hid (spareOk gg gb ((n : Int) + s) gc s zs = false) := by
            refine spareOk_noS (i := i) (by rw [HL.out]; exact hlt) ?_
            rw [HE4.out, hS.out, hi, hh]; rfl
          refine wp_region_later (by kernel_rfl) (by kernel_rfl) ?_
          repeat (go_big_quiet_step (first | (go_at_call 70; first | exact later_sameB (in_c _ _ _ _) hi | exact later_sameB (in_c _ _ _ _) hi') | (go_at_call 71; first | exact later_sameB (l16Has_c _ (i - L) _ ((zs.take i).drop L) z _ (hB.below (Later.bel _)) (by omega)) hh | exact later_sameB (l16Has_c _ (i - L) _ ((zs.take i).drop L) z _ (hB.below (Later.bel _)) (by omega)) hh')))
          refine wpQuiet_nil ?_
          intro Z hw'
          obtain ⟨z, hw''⟩ := hw'
          have bZ := z.bel
          rw [← hw''] at bZ
          clear hw'' z l0 l1 l2 l3 m0 m1 cz hq hqa hq2 hq3
          clear p'_0 p'_1 p'_2 p'_3 p'_lt q'_0 q'_1 q'_lt
          have szZ := bZ.size
          replace br := br.trans (bZ.mono br.size)
          replace p' := p'.kept bZ
          replace q' := q'.kept bZ
          clear bZ
          go_wp2
          go_ret
          rw [HT.out]
          exact ⟨rfl, br⟩
        · skip
          have hh' : decide (z ∈ (zs.take i).drop L) = false := by simpa using hh
          have HT : Hid (goodS n ((n : Int) + s) zs i = true) := by unfold Hid; rw [hS.out, hi, hh']; rfl
          clear hh
          refine wp_region_later (by kernel_rfl) (by kernel_rfl) ?_
          repeat (go_big_quiet_step (first | (go_at_call 70; first | exact later_sameB (in_c _ _ _ _) hi | exact later_sameB (in_c _ _ _ _) hi') | (go_at_call 71; first | exact later_sameB (l16Has_c _ (i - L) _ ((zs.take i).drop L) z _ (hB.below (Later.bel _)) (by omega)) hh | exact later_sameB (l16Has_c _ (i - L) _ ((zs.take i).drop L) z _ (hB.below (Later.bel _)) (by omega)) hh')))
          refine wpQuiet_nil ?_
          intro Z hw'
          obtain ⟨z, hw''⟩ := hw'
          have bZ := z.bel
          rw [← hw''] at bZ
          clear hw'' z l0 l1 l2 l3 m0 m1 cz hq hqa hq2 hq3
          clear p'_0 p'_1 p'_2 p'_3 p'_lt q'_0 q'_1 q'_lt
          have szZ := bZ.size
          replace br := br.trans (bZ.mono br.size)
          replace p' := p'.kept bZ
          replace q' := q'.kept bZ
          clear bZ
          go_wp2
          go_roundw
          case rel => exact ⟨i + 1, by omega, by go_num, br, by omega, p', q', goodS_next HG.out HT.out⟩
          case measure => simp [intOf]; omega
    · obtain rfl : m = i := by omega
      have HT : Hid (spareOk gg gb ((n : Int) + s) gc s zs = true) := spareOk_yesS HK.out (by rw [HE3.out, HE4.out, HL.out, HM.out]) (by rw [HE4.out, HL.out]; exact HG.out)
      go_wp2
      go_ret
      rw [HT.out]
      exact ⟨rfl, br⟩
end Go.Proofs.Ytbapamfomfbmmaa
