/-
  Contracts of RefreshPick, in the program and in the reference.
-/
import Derived.Test.YtbolpanfgbhbnaaRefG
import Derived.Test.YtbolpanfgbhbnaaBool
namespace Go.Proofs.Ytbolpanfgbhbnaa
open Go.RowKit
set_option linter.unusedSimpArgs false
set_option linter.unusedVariables false

theorem pick_next {zs : List Int} {u : Bool} {bs : List Bool} {k : Nat} {x b0 y : Int} (hx : zs[k]? = some x) (hb : pickTo zs u bs k = b0) (hy : b0 < 0 ∨ zs[b0.toNat]? = some y) :
    pickTo zs u bs (k + 1) = if mayP zs u bs k = true ∧ (b0 < 0 ∨ y < x) then (k : Int) else b0 := by
  rw [pickTo_succ, hb]
  unfold pickStep
  rw [getD_of hx]
  rcases hy with hy | hy
  · simp [hy]
  · rw [getD_of hy]
theorem xcases (x : Int) : (x ≤ 0 ∧ decide (0 < x) = false ∧ decide (4 ≤ x) = false) ∨ ((0 < x ∧ x < 4) ∧ decide (0 < x) = true ∧ decide (4 ≤ x) = false) ∨ ((4 ≤ x ∧ 0 < x) ∧ decide (0 < x) = true ∧ decide (4 ≤ x) = true) := by
  simp; omega
theorem ycases (y x : Int) : (y < x ∧ decide (y < x) = true) ∨ (x ≤ y ∧ decide (y < x) = false) := by simp; omega
theorem may_u {zs : List Int} {bs : List Bool} {k : Nat} {x : Int} (hx : zs[k]? = some x) : mayP zs true bs k = decide (4 ≤ x) := by unfold mayP; rw [getD_of hx]; simp
theorem may_in {zs : List Int} {bs : List Bool} {k : Nat} {x : Int} {v : Bool} (hx : zs[k]? = some x) (hv : bs[k]? = some v) : mayP zs false bs k = (decide (0 < x) && v) := by
  have := lt_of_get hv
  unfold mayP
  rw [getD_of hx, List.getD_eq_getElem?_getD, hv]
  simp [this]
theorem may_out {zs : List Int} {bs : List Bool} {k : Nat} {x : Int} (hx : zs[k]? = some x) (hv : bs.length ≤ k) : mayP zs false bs k = false := by
  unfold mayP
  rw [getD_of hx]
  simp
  omega

set_option maxHeartbeats 4000000 in
theorem iRefreshPick_c (A : Option Addr) (n c : Nat) (zs : List Int) (s : Int) (t : Bool) (B : Option Addr) (m d : Nat) (bs : List Bool) (w : World) (hA : Ints w A n zs) (hn : n ≤ 1048576) (hB : Bools w B m bs) (hm : m ≤ 1048576) :
    Calls Try.prog 23 #[.agg #[.slice A n c, .int .i64 s, .bool t], .slice B m d] w fun e w' => e = .returned (.int .i64 (pick zs s bs)) ∧ Below w.heap.size w w' := by
  have bel : Below w.heap.size w w := Below.refl _ _
  have hl := Lib.hid hA.1
  have hlB := Lib.hid hB.len
  go_enter Try.func23, Try.ntmps23
  go_wp2_with fail
  refine abs_call ?_
  intro W hW
  have szW : w.heap.size + 1 ≤ W.heap.size := by rw [hW]; simp [World.setCell]
  have szW_ := bel.size
  replace bel : Below w.heap.size w W := by rw [hW]; exact (bel).alloc (by first | omega | (simp [World.setCell] <;> omega)) _
  have p : Box W w.heap.size 27 #[.slice A n c, .int .i64 s, .bool t] := by rw [hW]; exact (Box.newAt (by simp [World.setCell]))
  clear hW
  refine (iRefreshOk_c A n c zs s t _ (hA.below bel) hn).mono ?_
  rintro e w1 ⟨rfl, b1⟩
  have szw1 := b1.size
  replace bel := bel.trans (b1.mono bel.size)
  replace p := p.kept b1
  clear b1
  by_cases hr : refOk zs s = true
  · have HP0 : Hid (pick zs s bs = pickTo zs (decide (0 < (urg zs s).length)) bs zs.length) := by unfold Hid pick; rw [if_pos hr]
    obtain ⟨p_0, p_1, p_2⟩ := p.c3
    have p_lt := p.lt
    go_wp2_with fail
    refine (iUrgentBanks_c A n c zs s t _ (hA.below bel) hn).mono ?_
    rintro e W3 ⟨A1, n1, c1, rfl, o1, b3⟩
    have hn1 := o1.len
    rw [hn1] at HP0
    clear hn1 o1
    clear p_0 p_1 p_2 p_lt
    have szW3 := b3.size
    replace bel := bel.trans (b3.mono bel.size)
    replace p := p.kept b3
    clear b3
    have hA3 := hA.below bel
    have hB3 := hB.below bel
    have hlt0 : n1 ≤ 9223372036854775807 ∨ True := .inr trivial
    by_cases hu : 0 < n1
    · have HP : Hid (pick zs s bs = pickTo zs true bs zs.length) := by unfold Hid; rw [HP0.out]; simp [hu]
      clear HP0
      have hd : decide (0 < n1) = true := by simp [hu]
      have hd2 : decide ((0 : Int) < (n1 : Int)) = true := by simp; omega
      obtain ⟨p_0, p_1, p_2⟩ := p.c3
      have p_lt := p.lt
      go_wp2
      clear hd hd2
      go_loop [6, 20] (fun b i => ∃ k : Nat, k ≤ n ∧ i = .int .i64 k ∧ b = .int .i64 (pickTo zs true bs k)) (fun _ i => n - (intOf i).toNat)
      case atStart => exact ⟨0, Nat.zero_le _, rfl, rfl⟩
      case round =>
        obtain ⟨k, hk, rfl, rfl⟩ := hrel
        have PB := pickTo_bd zs true bs k
        by_cases hlt : k < n
        · obtain ⟨g, o', x, rfl, hc1, hx⟩ := hA3.at_ hlt
          obtain ⟨b0, HB⟩ : ∃ b0, Hid (pickTo zs true bs k = b0) := ⟨_, rfl⟩
          have HB' := HB.out
          rw [HB'] at PB
          have HB2 : Hid (Value.int .i64 (pickTo zs true bs k) = .int .i64 b0) := by unfold Hid; rw [HB']
          rw [HB2.out]
          clear HB' HB2
          have i1 : (0 : Int) ≤ (k : Int) := by omega
          have i2 : (k : Int) < (n : Int) := by omega
          have hy : ∃ y : Int, Hid (b0 < 0 ∨ zs[b0.toNat]? = some y) ∧ ((b0 < 0 ∧ decide (b0 < 0) = true) ∨ (∃ j : Nat, b0 = (j : Int) ∧ decide ((j : Int) < 0) = false ∧ W3.cell? ⟨g, o' + j, none⟩ = some (.int .i64 y))) := by
            by_cases h : b0 < 0
            · exact ⟨0, .inl h, .inl ⟨h, by simp [h]⟩⟩
            · obtain ⟨g', o'', y, e, hcy, hy⟩ := hA3.at_ (show b0.toNat < n by omega)
              injection e with e
              injection e with e1 e2
              subst e1 e2
              obtain ⟨j, rfl⟩ := Int.eq_ofNat_of_zero_le (show 0 ≤ b0 by omega)
              rw [Int.toNat_natCast] at hcy
              exact ⟨y, .inr hy.out, .inr ⟨j, rfl, by simp <;> omega, hcy⟩⟩
          obtain ⟨y, HY, hcy⟩ := hy
          have HR := Lib.hid (pick_next (u := true) (bs := bs) hx.out HB.out HY.out)
          clear HY HB
          have M := Lib.hid (may_u (bs := bs) hx.out)
          have idc : m ≤ k ∨ ∃ g2 o2 v, B = some ⟨g2, o2, none⟩ ∧ (k < m ∧ (k : Int) < (m : Int)) ∧ W3.cell? ⟨g2, o2 + k, none⟩ = some (.bool v) := by
            by_cases h : k < m
            · obtain ⟨g2, o2, v, e, h1, h2⟩ := hB3.at_ h
              exact .inr ⟨g2, o2, v, e, ⟨h, by omega⟩, h1⟩
            · exact .inl (by omega)
          rcases idc with hkm | ⟨g2, o2, (_ | _), rfl, ⟨hkm, hkm'⟩, hcv⟩
          all_goals (rcases xcases x with ⟨h4, hd0, hd4⟩ | ⟨⟨h0, h4⟩, hd0, hd4⟩ | ⟨⟨h4, h0⟩, hd0, hd4⟩)
          all_goals (rcases hcy with ⟨hb, hdb⟩ | ⟨j, rfl, hdb, hcy⟩)
          all_goals (rcases ycases y x with ⟨hyx, hdy⟩ | ⟨hyx, hdy⟩)
          all_goals
            go_wp2
            go_round
            case rel =>
              refine ⟨k + 1, by omega, by go_num, ?_⟩
              rw [HR.out, M.out]
              split
              · rename_i h
                first | rfl | (exfalso; obtain ⟨h1, h2⟩ := h; simp at h1 <;> omega)
              · rename_i h
                first | rfl | (exfalso; apply h; refine ⟨?_, ?_⟩; (simp <;> omega); omega)
            case measure => simp [intOf]; omega
        · obtain rfl : n = k := by omega
          go_wp2
          go_ret
          exact ⟨ret_int (by rw [HP.out, hl.out]), bel⟩
    · have HP : Hid (pick zs s bs = pickTo zs false bs zs.length) := by unfold Hid; rw [HP0.out]; simp [hu]
      clear HP0
      have hd : decide (0 < n1) = false := by simp; omega
      have hd2 : decide ((0 : Int) < (n1 : Int)) = false := by simp; omega
      obtain ⟨p_0, p_1, p_2⟩ := p.c3
      have p_lt := p.lt
      go_wp2
      clear hd hd2
      go_loop [6, 20] (fun b i => ∃ k : Nat, k ≤ n ∧ i = .int .i64 k ∧ b = .int .i64 (pickTo zs false bs k)) (fun _ i => n - (intOf i).toNat)
      case atStart => exact ⟨0, Nat.zero_le _, rfl, rfl⟩
      case round =>
        obtain ⟨k, hk, rfl, rfl⟩ := hrel
        have PB := pickTo_bd zs false bs k
        by_cases hlt : k < n
        · obtain ⟨g, o', x, rfl, hc1, hx⟩ := hA3.at_ hlt
          obtain ⟨b0, HB⟩ : ∃ b0, Hid (pickTo zs false bs k = b0) := ⟨_, rfl⟩
          have HB' := HB.out
          rw [HB'] at PB
          have HB2 : Hid (Value.int .i64 (pickTo zs false bs k) = .int .i64 b0) := by unfold Hid; rw [HB']
          rw [HB2.out]
          clear HB' HB2
          have i1 : (0 : Int) ≤ (k : Int) := by omega
          have i2 : (k : Int) < (n : Int) := by omega
          have hy : ∃ y : Int, Hid (b0 < 0 ∨ zs[b0.toNat]? = some y) ∧ ((b0 < 0 ∧ decide (b0 < 0) = true) ∨ (∃ j : Nat, b0 = (j : Int) ∧ decide ((j : Int) < 0) = false ∧ W3.cell? ⟨g, o' + j, none⟩ = some (.int .i64 y))) := by
            by_cases h : b0 < 0
            · exact ⟨0, .inl h, .inl ⟨h, by simp [h]⟩⟩
            · obtain ⟨g', o'', y, e, hcy, hy⟩ := hA3.at_ (show b0.toNat < n by omega)
              injection e with e
              injection e with e1 e2
              subst e1 e2
              obtain ⟨j, rfl⟩ := Int.eq_ofNat_of_zero_le (show 0 ≤ b0 by omega)
              rw [Int.toNat_natCast] at hcy
              exact ⟨y, .inr hy.out, .inr ⟨j, rfl, by simp <;> omega, hcy⟩⟩
          obtain ⟨y, HY, hcy⟩ := hy
          have HR := Lib.hid (pick_next (u := false) (bs := bs) hx.out HB.out HY.out)
          clear HY HB
          have idc : (m ≤ k ∧ Hid (mayP zs false bs k = false)) ∨ ∃ g2 o2 v, B = some ⟨g2, o2, none⟩ ∧ (k < m ∧ (k : Int) < (m : Int)) ∧ W3.cell? ⟨g2, o2 + k, none⟩ = some (.bool v) ∧ Hid (mayP zs false bs k = (decide (0 < x) && v)) := by
            by_cases h : k < m
            · obtain ⟨g2, o2, v, e, h1, h2⟩ := hB3.at_ h
              exact .inr ⟨g2, o2, v, e, ⟨h, by omega⟩, h1, may_in hx.out h2.out⟩
            · exact .inl ⟨by omega, may_out hx.out (by rw [hlB.out]; omega)⟩
          rcases idc with ⟨hkm, M⟩ | ⟨g2, o2, (_ | _), rfl, ⟨hkm, hkm'⟩, hcv, M⟩
          all_goals (rcases xcases x with ⟨h4, hd0, hd4⟩ | ⟨⟨h0, h4⟩, hd0, hd4⟩ | ⟨⟨h4, h0⟩, hd0, hd4⟩)
          all_goals (rcases hcy with ⟨hb, hdb⟩ | ⟨j, rfl, hdb, hcy⟩)
          all_goals (rcases ycases y x with ⟨hyx, hdy⟩ | ⟨hyx, hdy⟩)
          all_goals
            go_wp2
            go_round
            case rel =>
              refine ⟨k + 1, by omega, by go_num, ?_⟩
              rw [HR.out, M.out]
              split
              · rename_i h
                first | rfl | (exfalso; obtain ⟨h1, h2⟩ := h; simp at h1 <;> omega)
              · rename_i h
                first | rfl | (exfalso; apply h; refine ⟨?_, ?_⟩; (simp <;> omega); omega)
            case measure => simp [intOf]; omega
        · obtain rfl : n = k := by omega
          go_wp2
          go_ret
          exact ⟨ret_int (by rw [HP.out, hl.out]), bel⟩
  · have hr' : refOk zs s = false := by simpa using hr
    have HP : Hid (pick zs s bs = -1) := by unfold Hid pick; rw [if_neg hr]
    clear hr
    obtain ⟨p_0, p_1, p_2⟩ := p.c3
    have p_lt := p.lt
    go_wp2
    go_ret
    exact ⟨ret_int HP.out.symm, bel⟩

end Go.Proofs.Ytbolpanfgbhbnaa
