/-
  Contracts of RowOf, IsHit and NeedOf, in the program and in the reference.
-/
import Derived.Test.YtbapamfomfbmmaaRank
import Derived.Test.YtbapamfomfbmmaaAdr
import Derived.Test.YtbapamfomfbmmaaLater
namespace Go.Proofs.Ytbapamfomfbmmaa
open Go.RowKit
set_option linter.unusedSimpArgs false
set_option linter.unusedVariables false

def Bnk.zero : Bnk := ⟨false, 0⟩
theorem getBnk {ks : List Bnk} {i : Nat} {r : Bnk} (h : ks[i]? = some r) : ks.getD i Bnk.zero = r := by rw [List.getD_eq_getElem?_getD, h]; rfl
/-- A bank exists and is open. -/
def isOpen (ks : List Bnk) (b : Int) : Bool := inB b 0 ((ks.length : Int) - 1) && (ks.getD b.toNat Bnk.zero).opn
/-- The open row of a bank, or -1. -/
def rowOf (ks : List Bnk) (b : Int) : Int := if isOpen ks b = true then (ks.getD b.toNat Bnk.zero).row else -1
theorem open_no {ks : List Bnk} {b : Int} (h : inB b 0 ((ks.length : Int) - 1) = false) : isOpen ks b = false := by unfold isOpen; rw [h]; rfl
theorem open_at {ks : List Bnk} {k : Nat} {r : Bnk} (hr : ks[k]? = some r) (h : inB (k : Int) 0 ((ks.length : Int) - 1) = true) : isOpen ks k = r.opn := by unfold isOpen; rw [h, Int.toNat_natCast, getBnk hr]; rfl
theorem rowOf_no {ks : List Bnk} {b : Int} (h : isOpen ks b = false) : rowOf ks b = -1 := by unfold rowOf; rw [if_neg (by rw [h]; simp)]
theorem rowOf_at {ks : List Bnk} {k : Nat} {r : Bnk} (hr : ks[k]? = some r) (h : isOpen ks k = true) : rowOf ks k = r.row := by unfold rowOf; rw [if_pos h, Int.toNat_natCast, getBnk hr]
/-- An access hits the open row. -/
def hitB (ks : List Bnk) (bank row : Int) : Bool := (row != -1) && (rowOf ks bank == row)
/-- What an access needs: 0: the bank opened; 1: another row closed; 2: nothing. -/
def needS (ks : List Bnk) (bank row : Int) : Int := if isOpen ks bank = true then (if (ks.getD bank.toNat Bnk.zero).row = row then 2 else 1) else 0
def needK (ks : List Bnk) (bank row : Int) (wr : Bool) : Int := if needS ks bank row = 0 then 1 else if needS ks bank row = 1 then 4 else if wr = true then 3 else 2
def needR (ks : List Bnk) (bank row : Int) : Int := if needS ks bank row = 0 then row else 0
def needC (ks : List Bnk) (bank row col : Int) : Int := if needS ks bank row = 2 then col else 0
theorem need_0 {ks : List Bnk} {bank row col : Int} {wr : Bool} (h : isOpen ks bank = false) : needK ks bank row wr = 1 ∧ needR ks bank row = row ∧ needC ks bank row col = 0 := by
  have : needS ks bank row = 0 := by unfold needS; rw [if_neg (by rw [h]; simp)]
  unfold needK needR needC; rw [this]; simp
theorem need_1 {ks : List Bnk} {k : Nat} {row col : Int} {wr : Bool} {r : Bnk} (hr : ks[k]? = some r) (h : isOpen ks k = true) (hne : (r.row != row) = true) : needK ks k row wr = 4 ∧ needR ks k row = 0 ∧ needC ks k row col = 0 := by
  have : needS ks k row = 1 := by unfold needS; rw [if_pos h, Int.toNat_natCast, getBnk hr, if_neg (by simpa using hne)]
  unfold needK needR needC; rw [this]; simp
theorem need_2 {ks : List Bnk} {k : Nat} {row col : Int} {wr : Bool} {r : Bnk} (hr : ks[k]? = some r) (h : isOpen ks k = true) (hne : (r.row != row) = false) : needK ks k row wr = (if wr = true then 3 else 2) ∧ needR ks k row = 0 ∧ needC ks k row col = col := by
  have : needS ks k row = 2 := by unfold needS; rw [if_pos h, Int.toNat_natCast, getBnk hr, if_pos (by simpa using hne)]
  unfold needK needR needC; rw [this]; simp

set_option maxHeartbeats 1000000 in
theorem iRowOf_c (A : Option Addr) (n c : Nat) (ks : List Bnk) (pw : Int) (b : Int) (w : World) (hA : Bnks w A n ks) (hn : n ≤ 1048576) :
    Calls Try.prog 81 #[.agg #[.slice A n c, .int .i64 pw], .int .i64 b] w fun e w' => e = .returned (.int .i64 (rowOf ks b)) ∧ Below w.heap.size w w' := by
  have bel : Below w.heap.size w (w.alloc (.cells #[.slice A n c, .int .i64 pw] 43)) := (Below.refl _ _).alloc (Nat.le_refl _) _
  have hl := Lib.hid hA.len
  have hA1 := hA.below bel
  have BEL := Lib.hid bel
  clear bel
  by_cases hb : inB b 0 ((n : Int) - 1) = true
  · obtain ⟨q1, q2⟩ := inB_t hb
    obtain ⟨k, rfl⟩ := Int.eq_ofNat_of_zero_le q1
    obtain ⟨g, o, opn, row, rfl, hg, h0, h1, hr⟩ := hA1.at_ (show k < n by omega)
    have hO := Lib.hid (open_at hr.out (by rw [hl.out]; exact hb))
    cases opn
    · have HR := Lib.hid (rowOf_no hO.out)
      go_enter Try.func81, Try.ntmps81
      go_wp2_with (go_at_call 75; refine (between_c _ _ _ _).mono ?_; rintro e w' ⟨rfl, rfl⟩)
      go_ret
      exact ⟨ret_int HR.out.symm, BEL.out⟩
    · have HR := Lib.hid (rowOf_at hr.out hO.out)
      go_enter Try.func81, Try.ntmps81
      go_wp2_with (go_at_call 75; refine (between_c _ _ _ _).mono ?_; rintro e w' ⟨rfl, rfl⟩)
      go_ret
      exact ⟨ret_int HR.out.symm, BEL.out⟩
  · have hb' : inB b 0 ((n : Int) - 1) = false := by simpa using hb
    have HR : Hid (rowOf ks b = -1) := rowOf_no (open_no (by rw [hl.out]; exact hb'))
    clear hb
    go_enter Try.func81, Try.ntmps81
    go_wp2_with (go_at_call 75; refine (between_c _ _ _ _).mono ?_; rintro e w' ⟨rfl, rfl⟩)
    go_ret
    exact ⟨ret_int HR.out.symm, BEL.out⟩
set_option maxHeartbeats 1000000 in
theorem iIsHit_c (A : Option Addr) (n c : Nat) (ks : List Bnk) (pw : Int) (bank row col : Int) (w : World) (hA : Bnks w A n ks) (hn : n ≤ 1048576) :
    Calls Try.prog 28 #[.agg #[.slice A n c, .int .i64 pw], .agg #[.int .i64 bank, .int .i64 row, .int .i64 col]] w fun e w' => e = .returned (.bool (hitB ks bank row)) ∧ Below w.heap.size w w' := by
  have bel : Below w.heap.size w w := Below.refl _ _
  go_enter Try.func28, Try.ntmps28
  go_wp2
  refine abs_code ?_
  intro W hW
  have szW : w.heap.size + 1 + 1 ≤ W.heap.size := by rw [hW]; simp [World.setCell]
  have szW_ := bel.size
  replace bel : Below w.heap.size w W := by rw [hW]; exact ((bel).alloc (by first | omega | (simp [World.setCell] <;> omega)) _).alloc (by first | omega | (simp [World.setCell] <;> omega)) _
  have p : Box W w.heap.size 43 #[.slice A n c, .int .i64 pw] := by rw [hW]; exact ((Box.newAt (by simp [World.setCell]))).alloc _
  have q : Box W (w.heap.size + 1) 38 #[.int .i64 bank, .int .i64 row, .int .i64 col] := by rw [hW]; exact (Box.newAt (by simp [World.setCell]))
  clear hW
  obtain ⟨p_0, p_1⟩ := p.c2
  have p_lt := p.lt
  obtain ⟨q_0, q_1, q_2⟩ := q.c3
  have q_lt := q.lt
  have l0 := later_cell p_lt p_0
  have l1 := later_cell p_lt p_1
  have m0 := later_cell q_lt q_0
  have m1 := later_cell q_lt q_1
  have m2 := later_cell q_lt q_2
  have hh := hA.below bel
  by_cases hx : (row != -1) = true
  · have HB : Hid (hitB ks bank row = (rowOf ks bank == row)) := by unfold Hid hitB; rw [hx]; rfl
    refine wp_region_later (by kernel_rfl) (by kernel_rfl) ?_
    repeat (go_big_quiet_step ((go_at_call 81; exact later_call (iRowOf_c A n c ks pw bank _ (hh.below (Later.bel _)) hn))))
    refine wpQuiet_nil ?_
    intro Z hw'
    obtain ⟨z, hw''⟩ := hw'
    have bZ := z.bel
    rw [← hw''] at bZ
    clear hw'' z
    clear l0 l1 m0 m1 m2
    go_wp2
    go_ret
    exact ⟨ret_bool HB.out.symm, bel.trans (bZ.mono bel.size)⟩
  · have hx' : (row != -1) = false := by simpa using hx
    have HB : Hid (hitB ks bank row = false) := by unfold Hid hitB; rw [hx']; rfl
    clear hx
    refine wp_region_later (by kernel_rfl) (by kernel_rfl) ?_
    repeat (go_big_quiet_step ((go_at_call 81; exact later_call (iRowOf_c A n c ks pw bank _ (hh.below (Later.bel _)) hn))))
    refine wpQuiet_nil ?_
    intro Z hw'
    obtain ⟨z, hw''⟩ := hw'
    have bZ := z.bel
    rw [← hw''] at bZ
    clear hw'' z
    clear l0 l1 m0 m1 m2
    go_wp2
    go_ret
    exact ⟨ret_bool HB.out.symm, bel.trans (bZ.mono bel.size)⟩
set_option maxHeartbeats 1000000 in
theorem iNeedOf_c (A : Option Addr) (n c : Nat) (ks : List Bnk) (pw : Int) (bank row col : Int) (wr : Bool) (w : World) (hA : Bnks w A n ks) (hn : n ≤ 1048576) :
    Calls Try.prog 27 #[.agg #[.slice A n c, .int .i64 pw], .agg #[.int .i64 bank, .int .i64 row, .int .i64 col], .bool wr] w fun e w' => e = .returned (.agg #[.int .i64 (needK ks bank row wr), .int .i64 bank, .int .i64 (needR ks bank row), .int .i64 (needC ks bank row col)]) ∧ Below w.heap.size w w' := by
  have hl := Lib.hid hA.len
  by_cases hb : inB bank 0 ((n : Int) - 1) = true
  · obtain ⟨q1, q2⟩ := inB_t hb
    obtain ⟨k, rfl⟩ := Int.eq_ofNat_of_zero_le q1
    obtain ⟨g, o, opn, row2, rfl, hg, h0, h1, hr⟩ := hA.at_ (show k < n by omega)
    have hg1 : g < w.heap.size + 1 := by omega
    have hg2 : g < w.heap.size + 1 + 1 := by omega
    have hO := Lib.hid (open_at hr.out (by rw [hl.out]; exact hb))
    cases opn
    · have HR := Lib.hid (need_0 (row := row) (col := col) (wr := wr) hO.out)
      go_enter Try.func27, Try.ntmps27
      go_wp2_with (go_at_call 75; refine (between_c _ _ _ _).mono ?_; rintro e w' ⟨rfl, rfl⟩)
      rw [HR.out.1, HR.out.2.1, HR.out.2.2]
      exact bodyPost_ret (v := .agg #[.int .i64 1, .int .i64 (k : Int), .int .i64 row, .int .i64 0]) (by simp [results, Try.results27, go_sem]) rfl ⟨rfl, (((Below.refl _ _).alloc (Nat.le_refl _) _).alloc (by simp) _).alloc (by simp; omega) _⟩
    · by_cases hne : (row2 != row) = true
      · have HR := Lib.hid (need_1 (row := row) (col := col) (wr := wr) hr.out hO.out hne)
        have bel : Below w.heap.size w w := Below.refl _ _
        go_enter Try.func27, Try.ntmps27
        go_wp2_with (go_at_call 75; refine (between_c _ _ _ _).mono ?_; rintro e w' ⟨rfl, rfl⟩)
        go_quiet (fail)
        go_wp2
        refine abs_body ?_
        intro W9 hW
        have szW9 : w.heap.size + 1 + 1 + 1 ≤ W9.heap.size := by rw [hW]; simp [World.setCell]
        have szW9_ := bel.size
        replace bel : Below w.heap.size w W9 := by rw [hW]; exact (((((belowN ((((bel).alloc (by first | omega | (simp [World.setCell] <;> omega)) _).alloc (by first | omega | (simp [World.setCell] <;> omega)) _).alloc (by first | omega | (simp [World.setCell] <;> omega)) _) _)).setCell (by dsimp only; omega) _).setCell (by dsimp only; omega) _).setCell (by dsimp only; omega) _).setCell (by dsimp only; omega) _
        have p : Box W9 w.heap.size 43 #[.slice (some ⟨g, o, none⟩) n c, .int .i64 pw] := by rw [hW]; exact ((((((((Box.newAt (by simp [World.setCell]))).alloc _).alloc _).drewN _).far (by dsimp only; omega) _).far (by dsimp only; omega) _).far (by dsimp only; omega) _).far (by dsimp only; omega) _
        have q : Box W9 (w.heap.size + 1) 38 #[.int .i64 (k : Int), .int .i64 row, .int .i64 col] := by rw [hW]; exact (((((((Box.newAt (by simp [World.setCell]))).alloc _).drewN _).far (by dsimp only; omega) _).far (by dsimp only; omega) _).far (by dsimp only; omega) _).far (by dsimp only; omega) _
        have r : Box W9 (w.heap.size + 1 + 1) 48 #[.int .i64 4, .int .i64 (k : Int), .int .i64 0, .int .i64 0] := by rw [hW]; exact ((((((Box.newAt (by simp [World.setCell]))).drewN _).set_ 0 _).set_ 1 _).set_ 2 _).set_ 3 _
        clear hW
        obtain ⟨z0, z1, z2, z3⟩ := r.c4
        refine bodyPost_ret (v := .agg #[.int .i64 4, .int .i64 (k : Int), .int .i64 0, .int .i64 0]) (by simp [results, Try.results27, go_sem, z0, z1, z2, z3]) rfl ?_
        rw [HR.out.1, HR.out.2.1, HR.out.2.2]
        exact ⟨rfl, bel⟩
      · have hne' : (row2 != row) = false := by simpa using hne
        clear hne
        cases wr
        · have HR := Lib.hid (need_2 (row := row) (col := col) (wr := false) hr.out hO.out hne')
          have bel : Below w.heap.size w w := Below.refl _ _
          go_enter Try.func27, Try.ntmps27
          go_wp2_with (go_at_call 75; refine (between_c _ _ _ _).mono ?_; rintro e w' ⟨rfl, rfl⟩)
          go_quiet (fail)
          go_wp2
          refine abs_body ?_
          intro W9 hW
          have szW9 : w.heap.size + 1 + 1 + 1 ≤ W9.heap.size := by rw [hW]; simp [World.setCell]
          have szW9_ := bel.size
          replace bel : Below w.heap.size w W9 := by rw [hW]; exact (((((belowN ((((bel).alloc (by first | omega | (simp [World.setCell] <;> omega)) _).alloc (by first | omega | (simp [World.setCell] <;> omega)) _).alloc (by first | omega | (simp [World.setCell] <;> omega)) _) _)).setCell (by dsimp only; omega) _).setCell (by dsimp only; omega) _).setCell (by dsimp only; omega) _).setCell (by dsimp only; omega) _
          replace p : Box W9 w.heap.size 43 #[.slice (some ⟨g, o, none⟩) n c, .int .i64 pw] := by rw [hW]; exact ((((((((Box.newAt (by simp [World.setCell]))).alloc _).alloc _).drewN _).far (by dsimp only; omega) _).far (by dsimp only; omega) _).far (by dsimp only; omega) _).far (by dsimp only; omega) _
          replace q : Box W9 (w.heap.size + 1) 38 #[.int .i64 (k : Int), .int .i64 row, .int .i64 col] := by rw [hW]; exact (((((((Box.newAt (by simp [World.setCell]))).alloc _).drewN _).far (by dsimp only; omega) _).far (by dsimp only; omega) _).far (by dsimp only; omega) _).far (by dsimp only; omega) _
          replace r : Box W9 (w.heap.size + 1 + 1) 48 #[.int .i64 2, .int .i64 (k : Int), .int .i64 0, .int .i64 col] := by rw [hW]; exact ((((((Box.newAt (by simp [World.setCell]))).drewN _).set_ 0 _).set_ 1 _).set_ 2 _).set_ 3 _
          clear hW
          obtain ⟨z0, z1, z2, z3⟩ := r.c4
          refine bodyPost_ret (v := .agg #[.int .i64 2, .int .i64 (k : Int), .int .i64 0, .int .i64 col]) (by simp [results, Try.results27, go_sem, z0, z1, z2, z3]) rfl ?_
          rw [HR.out.1, HR.out.2.1, HR.out.2.2]
          exact ⟨rfl, bel⟩
        · have HR := Lib.hid (need_2 (row := row) (col := col) (wr := true) hr.out hO.out hne')
          have bel : Below w.heap.size w w := Below.refl _ _
          go_enter Try.func27, Try.ntmps27
          go_wp2_with (go_at_call 75; refine (between_c _ _ _ _).mono ?_; rintro e w' ⟨rfl, rfl⟩)
          go_quiet (fail)
          go_wp2
          refine abs_body ?_
          intro W9 hW
          have szW9 : w.heap.size + 1 + 1 + 1 ≤ W9.heap.size := by rw [hW]; simp [World.setCell]
          have szW9_ := bel.size
          replace bel : Below w.heap.size w W9 := by rw [hW]; exact (((((belowN ((((bel).alloc (by first | omega | (simp [World.setCell] <;> omega)) _).alloc (by first | omega | (simp [World.setCell] <;> omega)) _).alloc (by first | omega | (simp [World.setCell] <;> omega)) _) _)).setCell (by dsimp only; omega) _).setCell (by dsimp only; omega) _).setCell (by dsimp only; omega) _).setCell (by dsimp only; omega) _
          replace p : Box W9 w.heap.size 43 #[.slice (some ⟨g, o, none⟩) n c, .int .i64 pw] := by rw [hW]; exact ((((((((Box.newAt (by simp [World.setCell]))).alloc _).alloc _).drewN _).far (by dsimp only; omega) _).far (by dsimp only; omega) _).far (by dsimp only; omega) _).far (by dsimp only; omega) _
          replace q : Box W9 (w.heap.size + 1) 38 #[.int .i64 (k : Int), .int .i64 row, .int .i64 col] := by rw [hW]; exact (((((((Box.newAt (by simp [World.setCell]))).alloc _).drewN _).far (by dsimp only; omega) _).far (by dsimp only; omega) _).far (by dsimp only; omega) _).far (by dsimp only; omega) _
          replace r : Box W9 (w.heap.size + 1 + 1) 48 #[.int .i64 3, .int .i64 (k : Int), .int .i64 0, .int .i64 col] := by rw [hW]; exact ((((((Box.newAt (by simp [World.setCell]))).drewN _).set_ 0 _).set_ 1 _).set_ 2 _).set_ 3 _
          clear hW
          obtain ⟨z0, z1, z2, z3⟩ := r.c4
          refine bodyPost_ret (v := .agg #[.int .i64 3, .int .i64 (k : Int), .int .i64 0, .int .i64 col]) (by simp [results, Try.results27, go_sem, z0, z1, z2, z3]) rfl ?_
          rw [HR.out.1, HR.out.2.1, HR.out.2.2]
          exact ⟨rfl, bel⟩
  · have hb' : inB bank 0 ((n : Int) - 1) = false := by simpa using hb
    have HR := Lib.hid (need_0 (row := row) (col := col) (wr := wr) (open_no (ks := ks) (b := bank) (by rw [hl.out]; exact hb')))
    clear hb
    go_enter Try.func27, Try.ntmps27
    go_wp2_with (go_at_call 75; refine (between_c _ _ _ _).mono ?_; rintro e w' ⟨rfl, rfl⟩)
    rw [HR.out.1, HR.out.2.1, HR.out.2.2]
    exact bodyPost_ret (v := .agg #[.int .i64 1, .int .i64 bank, .int .i64 row, .int .i64 0]) (by simp [results, Try.results27, go_sem]) rfl ⟨rfl, (((Below.refl _ _).alloc (Nat.le_refl _) _).alloc (by simp) _).alloc (by simp; omega) _⟩
end Go.Proofs.Ytbapamfomfbmmaa
