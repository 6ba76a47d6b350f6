/-
  Contracts of RegularGeometry and StoredRow, in the program and in the reference.
-/
import Derived.Test.YtbapamfomfbmmaaSpBs
namespace Go.Proofs.Ytbapamfomfbmmaa
open Go.RowKit
set_option linter.unusedSimpArgs false
set_option linter.unusedVariables false

set_option maxHeartbeats 4000000 in
theorem iRegularGeometry_c (gg gb gr gc s : Int) (A : Option Addr) (m c : Nat) (zs : List Int) (w : World) (hA : Ints w A m zs) (hn : m ≤ 1048576) (hc : m ≤ c ∧ c ≤ maxLen) :
    Calls Try.prog 19 #[.agg #[.int .i64 gg, .int .i64 gb, .int .i64 gr, .int .i64 gc], .agg #[.int .i64 s, .slice A m c]] w fun e w' => e = .returned (.agg #[.int .i64 (rgG gg gb gr gc s zs), .int .i64 (rgB gg gb gr gc s zs), .int .i64 (rgR gg gb gr gc s zs), .int .i64 (rgC gg gb gr gc s zs)]) ∧ Below w.heap.size w w' := by
  have bel : Below w.heap.size w w := Below.refl _ _
  have HL := Lib.hid hA.1
  go_enter Try.func19, Try.ntmps19
  go_wp2_with fail
  refine abs_call ?_
  intro W hW
  have szW : w.heap.size + 1 + 1 + 1 ≤ W.heap.size := by rw [hW]; simp [World.setCell]
  have szW_ := bel.size
  replace bel : Below w.heap.size w W := by rw [hW]; exact (((bel).alloc (by first | omega | (simp [World.setCell] <;> omega)) _).alloc (by first | omega | (simp [World.setCell] <;> omega)) _).alloc (by first | omega | (simp [World.setCell] <;> omega)) _
  have p : Box W w.heap.size 25 #[.int .i64 gg, .int .i64 gb, .int .i64 gr, .int .i64 gc] := by rw [hW]; exact (((Box.newAt (by simp [World.setCell]))).alloc _).alloc _
  have q : Box W (w.heap.size + 1) 28 #[.int .i64 s, .slice A m c] := by rw [hW]; exact ((Box.newAt (by simp [World.setCell]))).alloc _
  have r : Box W (w.heap.size + 1 + 1) 25 #[.int .i64 0, .int .i64 0, .int .i64 0, .int .i64 0] := by rw [hW]; exact (Box.newAt (by simp [World.setCell]))
  clear hW
  refine (iSpareOk_c gg gb gr gc s A m c zs _ (hA.below bel) hn hc).mono ?_
  rintro e w1 ⟨rfl, b1⟩
  have szw1 := b1.size
  replace bel := bel.trans (b1.mono bel.size)
  replace p := p.kept b1
  replace q := q.kept b1
  replace r := r.kept b1
  clear b1
  by_cases h : spareOk gg gb gr gc s zs = true
  · have HR := Lib.hid (rg_yes h)
    obtain ⟨nb, n, -, e2, -, -, -, -, n3, n4, ⟨s0, s2⟩, ⟨g0, g1⟩, -⟩ := spOk_nums (spareOk_parts h).1
    clear e2
    rw [h]
    obtain ⟨p_0, p_1, p_2, p_3⟩ := p.c4
    have p_lt := p.lt
    obtain ⟨q_0, q_1⟩ := q.c2
    have q_lt := q.lt
    obtain ⟨r_0, r_1, r_2, r_3⟩ := r.c4
    have r_lt := r.lt
    have p_f := p.frozen
    have r_f := r.frozen
    go_wp2
    refine abs_body ?_
    intro W9 hW
    clear p_0 p_1 p_2 p_3 p_lt q_0 q_1 q_lt r_0 r_1 r_2 r_3 r_lt p_f r_f
    have szW9 : w1.heap.size ≤ W9.heap.size := by rw [hW]; simp [World.setCell]
    have szW9_ := bel.size
    replace bel : Below w.heap.size w W9 := by rw [hW]; exact (((((bel).setCell (by dsimp only; omega) _).setCell (by dsimp only; omega) _).setCell (by dsimp only; omega) _).setCell (by dsimp only; omega) _).setCell (by dsimp only; omega) _
    replace p : Box W9 w.heap.size 25 #[.int .i64 gg, .int .i64 gb, .int .i64 (gr - s), .int .i64 gc] := by rw [hW]; exact (((((p).set_ 2 _).far (by dsimp only; omega) _).far (by dsimp only; omega) _).far (by dsimp only; omega) _).far (by dsimp only; omega) _
    replace q : Box W9 (w.heap.size + 1) 28 #[.int .i64 s, .slice A m c] := by rw [hW]; exact (((((q).far (by dsimp only; omega) _).far (by dsimp only; omega) _).far (by dsimp only; omega) _).far (by dsimp only; omega) _).far (by dsimp only; omega) _
    replace r : Box W9 (w.heap.size + 1 + 1) 25 #[.int .i64 gg, .int .i64 gb, .int .i64 (gr - s), .int .i64 gc] := by rw [hW]; exact (((((r).far (by dsimp only; omega) _).set_ 0 _).set_ 1 _).set_ 2 _).set_ 3 _
    clear hW
    obtain ⟨z0, z1, z2, z3⟩ := r.c4
    refine bodyPost_ret (v := .agg #[.int .i64 gg, .int .i64 gb, .int .i64 (gr - s), .int .i64 gc]) (by simp [results, Try.results19, go_sem, z0, z1, z2, z3]) rfl ?_
    rw [HR.out.1, HR.out.2.1, HR.out.2.2.1, HR.out.2.2.2]
    exact ⟨rfl, bel⟩
  · skip
    have h' : spareOk gg gb gr gc s zs = false := by simpa using h
    have HR := Lib.hid (rg_no h')
    clear h
    rw [h']
    obtain ⟨p_0, p_1, p_2, p_3⟩ := p.c4
    have p_lt := p.lt
    obtain ⟨q_0, q_1⟩ := q.c2
    have q_lt := q.lt
    obtain ⟨r_0, r_1, r_2, r_3⟩ := r.c4
    have r_lt := r.lt
    have p_f := p.frozen
    have r_f := r.frozen
    go_wp2
    refine abs_body ?_
    intro W9 hW
    clear p_0 p_1 p_2 p_3 p_lt q_0 q_1 q_lt r_0 r_1 r_2 r_3 r_lt p_f r_f
    have szW9 : w1.heap.size ≤ W9.heap.size := by rw [hW]; simp [World.setCell]
    have szW9_ := bel.size
    replace bel : Below w.heap.size w W9 := by rw [hW]; exact ((((bel).setCell (by dsimp only; omega) _).setCell (by dsimp only; omega) _).setCell (by dsimp only; omega) _).setCell (by dsimp only; omega) _
    replace p : Box W9 w.heap.size 25 #[.int .i64 gg, .int .i64 gb, .int .i64 gr, .int .i64 gc] := by rw [hW]; exact ((((p).far (by dsimp only; omega) _).far (by dsimp only; omega) _).far (by dsimp only; omega) _).far (by dsimp only; omega) _
    replace q : Box W9 (w.heap.size + 1) 28 #[.int .i64 s, .slice A m c] := by rw [hW]; exact ((((q).far (by dsimp only; omega) _).far (by dsimp only; omega) _).far (by dsimp only; omega) _).far (by dsimp only; omega) _
    replace r : Box W9 (w.heap.size + 1 + 1) 25 #[.int .i64 0, .int .i64 0, .int .i64 0, .int .i64 0] := by rw [hW]; exact ((((r).set_ 0 _).set_ 1 _).set_ 2 _).set_ 3 _
    clear hW
    obtain ⟨z0, z1, z2, z3⟩ := r.c4
    refine bodyPost_ret (v := .agg #[.int .i64 0, .int .i64 0, .int .i64 0, .int .i64 0]) (by simp [results, Try.results19, go_sem, z0, z1, z2, z3]) rfl ?_
    rw [HR.out.1, HR.out.2.1, HR.out.2.2.1, HR.out.2.2.2]
    exact ⟨rfl, bel⟩
set_option maxHeartbeats 4000000 in
theorem l17At_c (gg gb gr gc s : Int) (A : Option Addr) (m c : Nat) (zs : List Int) (bank row : Int) (w : World) (hA : Ints w A m zs) (hn : m ≤ 1048576) (hc : m ≤ c ∧ c ≤ maxLen) :
    Calls Try.prog 176 #[.agg #[.int .i64 gg, .int .i64 gb, .int .i64 gr, .int .i64 gc], .agg #[.int .i64 s, .slice A m c], .int .i64 bank, .int .i64 row] w fun e w' => e = .returned (.int .i64 (spAt gg gb gr gc s zs bank row)) ∧ Below w.heap.size w w' := by
  have bel : Below w.heap.size w w := Below.refl _ _
  have HL := Lib.hid hA.1
  go_enter Try.func176, Try.ntmps176
  go_wp2_with fail
  refine abs_call ?_
  intro W hW
  have szW : w.heap.size + 1 + 1 ≤ W.heap.size := by rw [hW]; simp [World.setCell]
  have szW_ := bel.size
  replace bel : Below w.heap.size w W := by rw [hW]; exact ((bel).alloc (by first | omega | (simp [World.setCell] <;> omega)) _).alloc (by first | omega | (simp [World.setCell] <;> omega)) _
  have p : Box W w.heap.size 25 #[.int .i64 gg, .int .i64 gb, .int .i64 gr, .int .i64 gc] := by rw [hW]; exact ((Box.newAt (by simp [World.setCell]))).alloc _
  have q : Box W (w.heap.size + 1) 28 #[.int .i64 s, .slice A m c] := by rw [hW]; exact (Box.newAt (by simp [World.setCell]))
  clear hW
  refine (sSpareOk_c gg gb gr gc s A m c zs _ (hA.below bel) hn hc).mono ?_
  rintro e w1 ⟨rfl, b1⟩
  have szw1 := b1.size
  replace bel := bel.trans (b1.mono bel.size)
  replace p := p.kept b1
  replace q := q.kept b1
  clear b1
  have bb := bankCnt_bd gg gb gr gc
  by_cases h : spareOk gg gb gr gc s zs = true
  case neg =>
    have h' : spareOk gg gb gr gc s zs = false := by simpa using h
    clear h
    have HQ : Hid (spAt gg gb gr gc s zs bank row = -1) := by unfold Hid spAt inSp; rw [h']; rfl
    rw [h']
    obtain ⟨p_0, p_1, p_2, p_3⟩ := p.c4
    have p_lt := p.lt
    obtain ⟨q_0, q_1⟩ := q.c2
    have q_lt := q.lt
    go_wp2
    go_ret
    exact ⟨ret_int HQ.out.symm, bel⟩
  have H := Lib.hid h
  obtain ⟨nb, n, e1, e2, -, -, -, n2, n3, n4, ⟨s0, s2⟩, ⟨g0, g1⟩, -⟩ := spOk_nums (spareOk_parts h).1
  have HB := Lib.hid e1
  have HE2 := Lib.hid e2
  have hnn := le_mul8 n2 n4
  rw [h]
  clear h e1 e2
  obtain ⟨p_0, p_1, p_2, p_3⟩ := p.c4
  have p_lt := p.lt
  obtain ⟨q_0, q_1⟩ := q.c2
  have q_lt := q.lt
  go_wp2_with fail
  refine (sBankCount_c gg gb gr gc _).mono ?_
  rintro e w2 ⟨rfl, b2⟩
  clear p_0 p_1 p_2 p_3 p_lt q_0 q_1 q_lt
  have szw2 := b2.size
  replace bel := bel.trans (b2.mono bel.size)
  replace p := p.kept b2
  replace q := q.kept b2
  clear b2
  by_cases h1 : inB bank 0 (bankCnt gg gb gr gc - 1) = true
  case neg =>
    have h1' : inB bank 0 (bankCnt gg gb gr gc - 1) = false := by simpa using h1
    clear h1
    have HQ : Hid (spAt gg gb gr gc s zs bank row = -1) := by unfold Hid spAt inSp; rw [H.out, h1']; rfl
    obtain ⟨p_0, p_1, p_2, p_3⟩ := p.c4
    have p_lt := p.lt
    obtain ⟨q_0, q_1⟩ := q.c2
    have q_lt := q.lt
    go_wp2_with (go_at_call 70; refine (in_c _ _ _ _).mono ?_; rintro e w' ⟨rfl, rfl⟩)
    go_ret
    exact ⟨ret_int HQ.out.symm, bel⟩
  by_cases h2 : inB row 0 (gr - s - 1) = true
  case neg =>
    have h2' : inB row 0 (gr - s - 1) = false := by simpa using h2
    clear h2
    have HQ : Hid (spAt gg gb gr gc s zs bank row = -1) := by unfold Hid spAt inSp; rw [H.out, h1, h2']; rfl
    obtain ⟨p_0, p_1, p_2, p_3⟩ := p.c4
    have p_lt := p.lt
    obtain ⟨q_0, q_1⟩ := q.c2
    have q_lt := q.lt
    go_wp2_with (go_at_call 70; refine (in_c _ _ _ _).mono ?_; rintro e w' ⟨rfl, rfl⟩)
    go_ret
    exact ⟨ret_int HQ.out.symm, bel⟩
  have HQ : Hid (spAt gg gb gr gc s zs bank row = bank * (gr - s) + row) := by unfold Hid spAt inSp; rw [H.out, h1, h2]; rfl
  have hP : 0 ≤ bank * (gr - s) ∧ bank * (gr - s) ≤ 128 := by
    have q1 := inB_t h1
    rw [HB.out] at q1
    obtain ⟨b, rfl⟩ := Int.eq_ofNat_of_zero_le q1.1
    rw [HE2.out, ← Int.natCast_mul]
    have := Nat.mul_le_mul_right n (show b ≤ nb by omega)
    omega
  obtain ⟨hP1, hP2⟩ := hP
  obtain ⟨r1, r2⟩ := inB_t h2
  have bk1 := (inB_t h1).1
  obtain ⟨p_0, p_1, p_2, p_3⟩ := p.c4
  have p_lt := p.lt
  obtain ⟨q_0, q_1⟩ := q.c2
  have q_lt := q.lt
  go_wp2_with (go_at_call 70; refine (in_c _ _ _ _).mono ?_; rintro e w' ⟨rfl, rfl⟩)
  go_ret
  exact ⟨ret_int HQ.out.symm, bel⟩
set_option maxHeartbeats 4000000 in
theorem sStoredRow_c (gg gb gr gc s : Int) (A : Option Addr) (m c : Nat) (zs : List Int) (bank row : Int) (w : World) (hA : Ints w A m zs) (hn : m ≤ 1048576) (hc : m ≤ c ∧ c ≤ maxLen) :
    Calls Try.prog 181 #[.agg #[.int .i64 gg, .int .i64 gb, .int .i64 gr, .int .i64 gc], .agg #[.int .i64 s, .slice A m c], .int .i64 bank, .int .i64 row] w fun e w' => e = .returned (.int .i64 (spStored gg gb gr gc s zs bank row)) ∧ Below w.heap.size w w' := by
  have bel : Below w.heap.size w w := Below.refl _ _
  have HL := Lib.hid hA.1
  go_enter Try.func181, Try.ntmps181
  go_wp2_with fail
  refine abs_call ?_
  intro W hW
  have szW : w.heap.size + 1 + 1 ≤ W.heap.size := by rw [hW]; simp [World.setCell]
  have szW_ := bel.size
  replace bel : Below w.heap.size w W := by rw [hW]; exact ((bel).alloc (by first | omega | (simp [World.setCell] <;> omega)) _).alloc (by first | omega | (simp [World.setCell] <;> omega)) _
  have p : Box W w.heap.size 25 #[.int .i64 gg, .int .i64 gb, .int .i64 gr, .int .i64 gc] := by rw [hW]; exact ((Box.newAt (by simp [World.setCell]))).alloc _
  have q : Box W (w.heap.size + 1) 28 #[.int .i64 s, .slice A m c] := by rw [hW]; exact (Box.newAt (by simp [World.setCell]))
  clear hW
  refine (l17At_c gg gb gr gc s A m c zs bank row _ (hA.below bel) hn hc).mono ?_
  rintro e w1 ⟨rfl, b1⟩
  have szw1 := b1.size
  replace bel := bel.trans (b1.mono bel.size)
  replace p := p.kept b1
  replace q := q.kept b1
  clear b1
  by_cases h : inSp gg gb gr gc s zs bank row = true
  case neg =>
    have HQ : Hid (spStored gg gb gr gc s zs bank row = -1) := by unfold Hid spStored; rw [if_neg h]
    rw [show spAt gg gb gr gc s zs bank row = -1 by unfold spAt; rw [if_neg h]]
    clear h
    obtain ⟨p_0, p_1, p_2, p_3⟩ := p.c4
    have p_lt := p.lt
    obtain ⟨q_0, q_1⟩ := q.c2
    have q_lt := q.lt
    go_wp2
    go_ret
    exact ⟨ret_int HQ.out.symm, bel⟩
  obtain ⟨-, nb, n, b, r, -, -, -, -, -, -, -, -, -, -, -, -, -, hlt, e⟩ := inSp_parts h
  have hk : b * n + r < m := by have := HL.out; omega
  obtain ⟨k, hkk⟩ : ∃ k, b * n + r = k := ⟨_, rfl⟩
  rw [hkk] at hk e
  obtain ⟨g, o, z, rfl, hc1, hz⟩ := (hA.below bel).at_ hk
  have HQ : Hid (spStored gg gb gr gc s zs bank row = z) := by unfold Hid spStored; rw [if_pos h, e, Int.toNat_natCast]; exact getD_of hz.out
  rw [show spAt gg gb gr gc s zs bank row = (k : Int) by unfold spAt; rw [if_pos h, e]]
  clear h e hkk hlt
  obtain ⟨p_0, p_1, p_2, p_3⟩ := p.c4
  have p_lt := p.lt
  obtain ⟨q_0, q_1⟩ := q.c2
  have q_lt := q.lt
  go_wp2
  go_ret
  exact ⟨ret_int HQ.out.symm, bel⟩
set_option maxHeartbeats 4000000 in
theorem iStoredRow_c (gg gb gr gc s : Int) (A : Option Addr) (m c : Nat) (zs : List Int) (bank row : Int) (w : World) (hA : Ints w A m zs) (hn : m ≤ 1048576) (hc : m ≤ c ∧ c ≤ maxLen) :
    Calls Try.prog 18 #[.agg #[.int .i64 gg, .int .i64 gb, .int .i64 gr, .int .i64 gc], .agg #[.int .i64 s, .slice A m c], .int .i64 bank, .int .i64 row] w fun e w' => e = .returned (.int .i64 (spStored gg gb gr gc s zs bank row)) ∧ Below w.heap.size w w' := by
  have bel : Below w.heap.size w w := Below.refl _ _
  have HL := Lib.hid hA.1
  go_enter Try.func18, Try.ntmps18
  go_wp2_with fail
  refine abs_call ?_
  intro W hW
  have szW : w.heap.size + 1 + 1 ≤ W.heap.size := by rw [hW]; simp [World.setCell]
  have szW_ := bel.size
  replace bel : Below w.heap.size w W := by rw [hW]; exact ((bel).alloc (by first | omega | (simp [World.setCell] <;> omega)) _).alloc (by first | omega | (simp [World.setCell] <;> omega)) _
  have p : Box W w.heap.size 25 #[.int .i64 gg, .int .i64 gb, .int .i64 gr, .int .i64 gc] := by rw [hW]; exact ((Box.newAt (by simp [World.setCell]))).alloc _
  have q : Box W (w.heap.size + 1) 28 #[.int .i64 s, .slice A m c] := by rw [hW]; exact (Box.newAt (by simp [World.setCell]))
  clear hW
  refine (iRegularGeometry_c gg gb gr gc s A m c zs _ (hA.below bel) hn hc).mono ?_
  rintro e w1 ⟨rfl, b1⟩
  have szw1 := b1.size
  replace bel := bel.trans (b1.mono bel.size)
  replace p := p.kept b1
  replace q := q.kept b1
  clear b1
  go_wp2_with fail
  refine (iRowExists_c (rgG gg gb gr gc s zs) (rgB gg gb gr gc s zs) (rgR gg gb gr gc s zs) (rgC gg gb gr gc s zs) bank row _).mono ?_
  rintro e w2 ⟨rfl, b2⟩
  rw [addrOk_rg]
  have szw2 := b2.size
  replace bel := bel.trans (b2.mono bel.size)
  replace p := p.kept b2
  replace q := q.kept b2
  clear b2
  by_cases h : inSp gg gb gr gc s zs bank row = true
  case neg =>
    have h' : inSp gg gb gr gc s zs bank row = false := by simpa using h
    have HQ : Hid (spStored gg gb gr gc s zs bank row = -1) := by unfold Hid spStored; rw [if_neg h]
    clear h
    rw [h']
    obtain ⟨p_0, p_1, p_2, p_3⟩ := p.c4
    have p_lt := p.lt
    obtain ⟨q_0, q_1⟩ := q.c2
    have q_lt := q.lt
    go_wp2
    go_ret
    exact ⟨ret_int HQ.out.symm, bel⟩
  obtain ⟨hs, nb, n, b, r, e1, e2, e3, hl, rfl, rfl, hb, hr, n2, n4, n3, ⟨s0, s2⟩, -, hlt, e⟩ := inSp_parts h
  have HQ : Hid (spStored gg gb gr gc s zs b r = (zs[b * n + r]'hlt)) := by
    unfold Hid spStored
    rw [if_pos h, e, Int.toNat_natCast, List.getD_eq_getElem?_getD, List.getElem?_eq_getElem hlt]; rfl
  have HL2 := Lib.hid hl
  rw [h]
  obtain rfl : gr = (n : Int) + s := by omega
  clear h e1 e2 e3 hl e hs
  obtain ⟨p_0, p_1, p_2, p_3⟩ := p.c4
  have p_lt := p.lt
  obtain ⟨q_0, q_1⟩ := q.c2
  have q_lt := q.lt
  go_wp2_with fail
  refine (iBankRows_c gg gb gc s A m c zs nb n b _ (hA.below bel) hc HL2.out hb n2 n4 n3 s0 s2).mono ?_
  rintro e w3 ⟨B, d, d2, rfl, hB, b3⟩
  have hd : n = d := by rw [← hB.1, bankRow_len HL2.out hb]
  subst hd
  clear p_0 p_1 p_2 p_3 p_lt q_0 q_1 q_lt
  have szw3 := b3.size
  replace bel := bel.trans (b3.mono bel.size)
  replace p := p.kept b3
  replace q := q.kept b3
  clear b3
  obtain ⟨g, o, z, rfl, hc1, hz⟩ := hB.at_ hr
  have HZ : Hid ((zs[b * n + r]'hlt) = z) := by
    have := hz.out
    rw [bankRow_get hr, List.getElem?_eq_getElem hlt] at this
    injection this
  go_wp2
  go_ret
  exact ⟨ret_int (by rw [HQ.out, HZ.out]), bel⟩
end Go.Proofs.Ytbapamfomfbmmaa
