/-
  Contracts of RegularRow and SparesLeft, in the program and in the reference.
-/
import Derived.Test.YtbapamfomfbmmaaSpC
namespace Go.Proofs.Ytbapamfomfbmmaa
open Go.RowKit
set_option linter.unusedSimpArgs false
set_option linter.unusedVariables false

set_option maxHeartbeats 4000000 in
theorem iRegularRow_c (gg gb gr gc s : Int) (A : Option Addr) (m c : Nat) (zs : List Int) (bank row : Int) (w : World) (hA : Ints w A m zs) (hn : m ≤ 1048576) (hc : m ≤ c ∧ c ≤ maxLen) :
    Calls Try.prog 22 #[.agg #[.int .i64 gg, .int .i64 gb, .int .i64 gr, .int .i64 gc], .agg #[.int .i64 s, .slice A m c], .int .i64 bank, .int .i64 row] w fun e w' => e = .returned (.int .i64 (spRegular gg gb gr gc s zs bank row)) ∧ Below w.heap.size w w' := by
  have bel : Below w.heap.size w w := Below.refl _ _
  have HL := Lib.hid hA.1
  go_enter Try.func22, Try.ntmps22
  go_wp2_with fail
  refine abs_call ?_
  intro W hW
  have szW : w.heap.size + 1 + 1 ≤ W.heap.size := by rw [hW]; simp [World.setCell]
  have szW_ := bel.size
  replace bel : Below w.heap.size w W := by rw [hW]; exact ((bel).alloc (by first | omega | (simp [World.setCell] <;> omega)) _).alloc (by first | omega | (simp [World.setCell] <;> omega)) _
  have p : Box W w.heap.size 25 #[.int .i64 gg, .int .i64 gb, .int .i64 gr, .int .i64 gc] := by rw [hW]; exact ((Box.newAt (by simp [World.setCell]))).alloc _
  have q : Box W (w.heap.size + 1) 28 #[.int .i64 s, .slice A m c] := by rw [hW]; exact (Box.newAt (by simp [World.setCell]))
  clear hW
  refine (iRegularGeometry_c gg gb gr gc s A m c zs _ (hA.below bel) hn hc).mono ?_
  rintro e w1 ⟨rfl, b1⟩
  have szw1 := b1.size
  replace bel := bel.trans (b1.mono bel.size)
  replace p := p.kept b1
  replace q := q.kept b1
  clear b1
  obtain ⟨p_0, p_1, p_2, p_3⟩ := p.c4
  have p_lt := p.lt
  obtain ⟨q_0, q_1⟩ := q.c2
  have q_lt := q.lt
  go_wp2_with fail
  refine abs_call ?_
  intro W1 hW
  clear p_0 p_1 p_2 p_3 p_lt q_0 q_1 q_lt
  have szW1 : w1.heap.size + 1 ≤ W1.heap.size := by rw [hW]; simp [World.setCell]
  have szW1_ := bel.size
  replace bel : Below w.heap.size w W1 := by rw [hW]; exact (bel).alloc (by first | omega | (simp [World.setCell] <;> omega)) _
  replace p : Box W1 w.heap.size 25 #[.int .i64 gg, .int .i64 gb, .int .i64 gr, .int .i64 gc] := by rw [hW]; exact p.alloc _
  replace q : Box W1 (w.heap.size + 1) 28 #[.int .i64 s, .slice A m c] := by rw [hW]; exact q.alloc _
  have r : Box W1 w1.heap.size 25 #[.int .i64 (rgG gg gb gr gc s zs), .int .i64 (rgB gg gb gr gc s zs), .int .i64 (rgR gg gb gr gc s zs), .int .i64 (rgC gg gb gr gc s zs)] := by rw [hW]; exact (Box.newAt (by simp [World.setCell]))
  clear hW
  refine (iRowExists_c (rgG gg gb gr gc s zs) (rgB gg gb gr gc s zs) (rgR gg gb gr gc s zs) (rgC gg gb gr gc s zs) bank 0 _).mono ?_
  rintro e w2 ⟨rfl, b2⟩
  rw [addrOk_rg]
  have szw2 := b2.size
  replace bel := bel.trans (b2.mono bel.size)
  replace p := p.kept b2
  replace q := q.kept b2
  replace r := r.kept b2
  clear b2
  by_cases h : inSp gg gb gr gc s zs bank 0 = true
  case neg =>
    have h' : inSp gg gb gr gc s zs bank 0 = false := by simpa using h
    have HQ : Hid (spRegular gg gb gr gc s zs bank row = -1) := by unfold Hid spRegular; rw [if_neg h]
    clear h
    rw [h']
    obtain ⟨p_0, p_1, p_2, p_3⟩ := p.c4
    have p_lt := p.lt
    obtain ⟨q_0, q_1⟩ := q.c2
    have q_lt := q.lt
    obtain ⟨r_0, r_1, r_2, r_3⟩ := r.c4
    have r_lt := r.lt
    go_wp2
    go_ret
    exact ⟨ret_int HQ.out.symm, bel⟩
  obtain ⟨hs, nb, n, b, r0, e1, e2, e3, hl, rfl, hr0, hb, hr, n2, n4, n3, ⟨s0, s2⟩, -, hlt, e⟩ := inSp_parts h
  have HQ : Hid (spRegular gg gb gr gc s zs b row = idxI (bankRow zs n b) row) := by
    unfold Hid spRegular
    rw [if_pos h, e3, Int.toNat_natCast]
  have HL2 := Lib.hid hl
  rw [h]
  obtain rfl : gr = (n : Int) + s := by omega
  clear h e1 e2 e3 hl e hs hlt hr0
  clear r
  obtain ⟨p_0, p_1, p_2, p_3⟩ := p.c4
  have p_lt := p.lt
  obtain ⟨q_0, q_1⟩ := q.c2
  have q_lt := q.lt
  go_wp2_with fail
  refine (iBankRows_c gg gb gc s A m c zs nb n b _ (hA.below bel) hc HL2.out hb n2 n4 n3 s0 s2).mono ?_
  rintro e w3 ⟨B, d, d2, rfl, hB, b3⟩
  have hd : n = d := by rw [← hB.1, bankRow_len HL2.out hb]
  subst hd
  clear p_0 p_1 p_2 p_3 p_lt q_0 q_1 q_lt
  have szw3 := b3.size
  replace bel := bel.trans (b3.mono bel.size)
  replace p := p.kept b3
  replace q := q.kept b3
  clear b3
  have HD : Hid ((bankRow zs n b).length = n) := hB.1
  go_wp2
  go_loop [24] (fun i => ∃ k : Nat, k ≤ n ∧ i = .int .i64 k ∧ Hid (row ∉ (bankRow zs n b).take k)) (fun i => n - (intOf i).toNat)
  case atStart => exact ⟨0, Nat.zero_le _, rfl, by unfold Hid; simp⟩
  case round =>
    obtain ⟨k, hk, rfl, HK⟩ := hrel
    by_cases hlt : k < n
    · obtain ⟨g, o, y, rfl, hc1, hy⟩ := hB.at_ hlt
      by_cases hxy : (y == row) = true
      · have HI : Hid (idxI (bankRow zs n b) row = k) := idxI_at HK.out (by rw [hy.out, show y = row by simpa using hxy])
        go_wp2
        go_ret
        exact ⟨ret_int (by rw [HQ.out, HI.out]), bel⟩
      · have hxy' : (y == row) = false := by simpa using hxy
        have HM := Lib.hid (not_mem_snoc HK.out hy.out (by rw [← hxy']; exact Bool.beq_comm ..))
        clear hxy
        go_wp2
        go_round
        case rel => exact ⟨k + 1, by omega, by go_num, HM.out⟩
        case measure => simp [intOf]; omega
    · have HM : Hid (idxI (bankRow zs n b) row = -1) := by
        have := HK.out
        rw [List.take_of_length_le (by rw [HD.out]; omega)] at this
        exact idxI_none this
      go_wp2
      go_ret
      exact ⟨ret_int (by rw [HQ.out, HM.out]), bel⟩
set_option maxHeartbeats 4000000 in
theorem sRegularRow_c (gg gb gr gc s : Int) (A : Option Addr) (m c : Nat) (zs : List Int) (bank row : Int) (w : World) (hA : Ints w A m zs) (hn : m ≤ 1048576) (hc : m ≤ c ∧ c ≤ maxLen) :
    Calls Try.prog 177 #[.agg #[.int .i64 gg, .int .i64 gb, .int .i64 gr, .int .i64 gc], .agg #[.int .i64 s, .slice A m c], .int .i64 bank, .int .i64 row] w fun e w' => e = .returned (.int .i64 (spRegular gg gb gr gc s zs bank row)) ∧ Below w.heap.size w w' := by
  have bel : Below w.heap.size w w := Below.refl _ _
  have HL := Lib.hid hA.1
  go_enter Try.func177, Try.ntmps177
  go_wp2
  refine abs_code ?_
  intro W hW
  have szW : w.heap.size + 1 + 1 ≤ W.heap.size := by rw [hW]; simp [World.setCell]
  have szW_ := bel.size
  replace bel : Below w.heap.size w W := by rw [hW]; exact ((bel).alloc (by first | omega | (simp [World.setCell] <;> omega)) _).alloc (by first | omega | (simp [World.setCell] <;> omega)) _
  have p : Box W w.heap.size 25 #[.int .i64 gg, .int .i64 gb, .int .i64 gr, .int .i64 gc] := by rw [hW]; exact ((Box.newAt (by simp [World.setCell]))).alloc _
  have q : Box W (w.heap.size + 1) 28 #[.int .i64 s, .slice A m c] := by rw [hW]; exact (Box.newAt (by simp [World.setCell]))
  clear hW
  go_loopw [9] (fun i wr => ∃ k : Nat, k ≤ 16 ∧ i = .int .i64 k ∧ Below w.heap.size w wr ∧ Box wr w.heap.size 25 #[.int .i64 gg, .int .i64 gb, .int .i64 gr, .int .i64 gc] ∧ Box wr (w.heap.size + 1) 28 #[.int .i64 s, .slice A m c] ∧ Hid (row < 0 ∨ ∀ j : Nat, j < k → spStored gg gb gr gc s zs bank j ≠ row)) (fun i _ => 16 - (intOf i).toNat)
  case atStart => exact ⟨0, Nat.zero_le _, rfl, bel, p, q, .inr (by intro j hj; omega)⟩
  case round =>
    obtain ⟨k, hk, rfl, br, p', q', HK⟩ := hrel
    clear p q bel
    obtain ⟨p'_0, p'_1, p'_2, p'_3⟩ := p'.c4
    have p'_lt := p'.lt
    obtain ⟨q'_0, q'_1⟩ := q'.c2
    have q'_lt := q'.lt
    by_cases hlt : k < 16
    · by_cases h0 : 0 ≤ row
      · go_wp2_with fail
        refine (sStoredRow_c gg gb gr gc s A m c zs bank k _ (hA.below br) hn hc).mono ?_
        rintro e w3 ⟨rfl, b3⟩
        clear p'_0 p'_1 p'_2 p'_3 p'_lt q'_0 q'_1 q'_lt
        have szw3 := b3.size
        replace br := br.trans (b3.mono br.size)
        replace p' := p'.kept b3
        replace q' := q'.kept b3
        clear b3
        by_cases hx : (spStored gg gb gr gc s zs bank k == row) = true
        · have HI : Hid (spRegular gg gb gr gc s zs bank row = k) := spRegular_at h0 (by simpa using hx) (by rcases HK.out with h | h; omega; exact h)
          go_wp2
          go_ret
          exact ⟨ret_int HI.out.symm, br⟩
        · have hx' : (spStored gg gb gr gc s zs bank k == row) = false := by simpa using hx
          have HK2 : Hid (row < 0 ∨ ∀ j : Nat, j < k + 1 → spStored gg gb gr gc s zs bank j ≠ row) := by
            rcases HK.out with h | h
            · exact .inl h
            · right
              intro j hj
              by_cases e : j = k
              · subst e; simpa using hx'
              · exact h j (by omega)
          clear hx
          go_wp2
          go_roundw
          case rel => exact ⟨k + 1, by omega, by go_num, br, p', q', HK2.out⟩
          case measure => simp [intOf]; omega
      · have HK2 : Hid (row < 0 ∨ ∀ j : Nat, j < k + 1 → spStored gg gb gr gc s zs bank j ≠ row) := .inl (by omega)
        go_wp2
        go_roundw
        case rel => exact ⟨k + 1, by omega, by go_num, br, p', q', HK2.out⟩
        case measure => simp [intOf]; omega
    · obtain rfl : k = 16 := by omega
      have HI := Lib.hid (spRegular_none HK.out)
      go_wp2
      go_ret
      exact ⟨ret_int HI.out.symm, br⟩
end Go.Proofs.Ytbapamfomfbmmaa
