/-
  Symbols in order (SymbolsOk) and copies of one cell, in the reference and in the program.
-/
import Derived.Test.YtbapamfomfbmmaaArrJ
namespace Go.Proofs.Ytbapamfomfbmmaa
open Go.RowKit
set_option linter.unusedSimpArgs false
set_option linter.unusedVariables false

def symF (z : Int) : Bool := inB z 0 15
def symOkN (zs : List Int) (k : Int) : Bool := zs.all symF && ((zs.length : Int) == k)
theorem all_take {α : Type} {f : α → Bool} {zs : List α} {j : Nat} {x : α} (h : zs[j]? = some x) : (zs.take (j + 1)).all f = ((zs.take j).all f && f x) := by
  obtain ⟨hj, rfl⟩ := List.getElem?_eq_some_iff.1 h
  rw [List.take_succ_eq_append_getElem hj, List.all_append]
  simp
theorem all_no {α : Type} {f : α → Bool} {zs : List α} {j : Nat} {x : α} (h : zs[j]? = some x) (hf : f x = false) : zs.all f = false := by
  rw [List.all_eq_false]
  exact ⟨x, List.mem_of_getElem? h, by rw [hf]; simp⟩
set_option maxHeartbeats 1000000 in
theorem l11Is_c (x : Int) (w : World) : Calls Try.prog 172 #[.int .i64 x] w fun e w' => e = .returned (.bool (symF x)) ∧ w = w' := by
  go_enter Try.func172, Try.ntmps172
  go_wp2_with fail
  refine (in_c x 0 15 _).mono ?_
  rintro e w' ⟨rfl, rfl⟩
  go_wp2
  go_ret
  exact ⟨rfl, rfl⟩
set_option maxHeartbeats 1000000 in
theorem sSymbolsOk_c (A : Option Addr) (n c : Nat) (zs : List Int) (k : Int) (w : World) (h : Ints w A n zs) (hn : n ≤ 1048576) :
    Calls Try.prog 149 #[.slice A n c, .int .i64 k] w fun e w' => e = .returned (.bool (symOkN zs k)) ∧ w = w' := by
  have hl := Lib.hid h.1
  go_enter Try.func149, Try.ntmps149
  go_wp2
  go_loopw [5] (fun i wr => ∃ j : Nat, j ≤ n ∧ i = .int .i64 j ∧ Hid ((zs.take j).all symF = true) ∧ wr = w) (fun i _ => n - (intOf i).toNat)
  case atStart => exact ⟨0, Nat.zero_le _, rfl, rfl, rfl⟩
  case round =>
    obtain ⟨j, hj, rfl, HA, rfl⟩ := hrel
    by_cases hlt : j < n
    · obtain ⟨g, o, x, rfl, hc, hx⟩ := h.at_ hlt
      have i0 : (0 : Int) ≤ (j : Int) := by omega
      have i1 : (j : Int) < (n : Int) := by omega
      go_wp2_with fail
      refine (l11Is_c x _).mono ?_
      rintro e w' ⟨rfl, rfl⟩
      cases hf : symF x
      · have HR : Hid (symOkN zs k = false) := by unfold Hid symOkN; rw [all_no hx.out hf]; rfl
        go_wp2
        go_ret
        exact ⟨ret_bool HR.out.symm, rfl⟩
      · have HA2 : Hid ((zs.take (j + 1)).all symF = true) := by unfold Hid; rw [all_take hx.out, HA.out, hf]; rfl
        go_wp2
        go_roundw
        case rel => exact ⟨j + 1, by omega, by go_num, HA2, trivial⟩
        case measure => simp [intOf]; omega
    · obtain rfl : n = j := by omega
      have HR : Hid (symOkN zs k = ((n : Int) == k)) := by
        have := HA.out
        rw [List.take_of_length_le (by rw [hl.out]; omega)] at this
        unfold Hid symOkN
        rw [this, hl.out]
        rfl
      go_wp2
      go_ret
      exact ⟨ret_bool HR.out.symm, rfl⟩
set_option maxHeartbeats 1000000 in
theorem isElement_c (x : Int) (w : World) : Calls Try.prog 161 #[.int .i64 x] w fun e w' => e = .returned (.bool (symF x)) ∧ w = w' := by
  go_enter Try.func161, Try.ntmps161
  go_wp2_with fail
  refine (between_c x 0 15 _).mono ?_
  rintro e w' ⟨rfl, rfl⟩
  go_wp2
  go_ret
  exact ⟨rfl, rfl⟩
set_option maxHeartbeats 1000000 in
theorem iSymbolsOk_c (A : Option Addr) (n c : Nat) (zs : List Int) (k : Int) (w : World) (h : Ints w A n zs) (hn : n ≤ 1048576) :
    Calls Try.prog 121 #[.slice A n c, .int .i64 k] w fun e w' => e = .returned (.bool (symOkN zs k)) ∧ w = w' := by
  have hl := Lib.hid h.1
  go_enter Try.func121, Try.ntmps121
  go_wp2
  go_loopw [9] (fun i wr => ∃ j : Nat, j ≤ n ∧ i = .int .i64 j ∧ Hid ((zs.take j).all symF = true) ∧ wr = w) (fun i _ => n - (intOf i).toNat)
  case atStart => exact ⟨0, Nat.zero_le _, rfl, rfl, rfl⟩
  case round =>
    obtain ⟨j, hj, rfl, HA, rfl⟩ := hrel
    by_cases hlt : j < n
    · obtain ⟨g, o, x, rfl, hc, hx⟩ := h.at_ hlt
      have i0 : (0 : Int) ≤ (j : Int) := by omega
      have i1 : (j : Int) < (n : Int) := by omega
      go_wp2_with fail
      refine (isElement_c x _).mono ?_
      rintro e w' ⟨rfl, rfl⟩
      cases hf : symF x
      · have HR : Hid (symOkN zs k = false) := by unfold Hid symOkN; rw [all_no hx.out hf]; rfl
        go_wp2
        go_ret
        exact ⟨ret_bool HR.out.symm, rfl⟩
      · have HA2 : Hid ((zs.take (j + 1)).all symF = true) := by unfold Hid; rw [all_take hx.out, HA.out, hf]; rfl
        go_wp2
        go_roundw
        case rel => exact ⟨j + 1, by omega, by go_num, HA2, trivial⟩
        case measure => simp [intOf]; omega
    · obtain rfl : n = j := by omega
      have HR : Hid (symOkN zs k = ((n : Int) == k)) := by
        have := HA.out
        rw [List.take_of_length_le (by rw [hl.out]; omega)] at this
        unfold Hid symOkN
        rw [this, hl.out]
        rfl
      go_wp2
      go_ret
      exact ⟨ret_bool HR.out.symm, rfl⟩
set_option maxHeartbeats 2000000 in
theorem l14Cell_c (A : Option Addr) (n c : Nat) (zs : List Int) (p : Bool) (w : World) (hA : Ints w A n zs) (hn : n ≤ 1048576) :
    Calls Try.prog 148 #[.agg #[.slice A n c, .bool p]] w (NewCel1 zs p w) := by
  have hW0 : Below w.heap.size w (((w.alloc (.cells #[.slice A n c, .bool p] 104)).alloc (.cells #[.slice none 0 0, .bool false] 104)).alloc (.cells #[] 3)) := (((Below.refl _ _).alloc (Nat.le_refl _) _).alloc (by simp) _).alloc (by simp; omega) _
  have p0 : Box (((w.alloc (.cells #[.slice A n c, .bool p] 104)).alloc (.cells #[.slice none 0 0, .bool false] 104)).alloc (.cells #[] 3)) w.heap.size 104 #[.slice A n c, .bool p] := ((Box.new _ _ _).alloc _).alloc _
  have r0 : Box (((w.alloc (.cells #[.slice A n c, .bool p] 104)).alloc (.cells #[.slice none 0 0, .bool false] 104)).alloc (.cells #[] 3)) (w.heap.size + 1) 104 #[.slice none 0 0, .bool false] := (Box.newAt (by simp)).alloc _
  have HW0 := Lib.hid hW0
  have P0 := Lib.hid p0
  have R0 := Lib.hid r0
  clear hW0 p0 r0
  go_enter Try.func148, Try.ntmps148
  go_wp2_with (at_builtin; refine wpList_appI rfl (.tmp 3) (.tmp 5) 26 rfl Try.underlying26 infoInt _ 0 0 (w.heap.size + 1 + 1) [] rfl (OwnI.nil _ _ _) A n c zs rfl (hA.below HW0.out) (by omega) (by simp) ?_; intro A1 c1 w1 o1 g1 at1; have b1 := grown_below g1; have p1 := P0.out.kept b1; have r1 := R0.out.kept b1; obtain ⟨x0, x1⟩ := p1.c2; obtain ⟨y0, y1⟩ := r1.c2; have f1 := p1.frozen; have f2 := r1.frozen; have l1 := p1.lt; have l2 := r1.lt; have B1 := Lib.hid (HW0.out.trans (b1.mono HW0.out.size)); have O1 := Lib.hid o1; have P1 := Lib.hid p1; have R1 := Lib.hid r1; clear o1 p1 r1 b1 g1 at1)
  refine abs_body ?_
  intro W' hW'
  have rr : Box W' (w.heap.size + 1) 104 #[.slice A1 n c1, .bool p] := by
    rw [hW']; exact ((R1.out.far (by simp) _).set_ 0 _).set_ 1 _
  obtain ⟨z1, z2⟩ := rr.c2
  refine bodyPost_ret (v := .agg #[.slice A1 n c1, .bool p]) (by simp [results, Try.results148, go_sem, z1, z2]) rfl ?_
  have o2 : OwnI w1 (w.heap.size + 1 + 1) A1 n c1 zs := by have := O1.out; simpa using this
  refine ⟨_, _, _, rfl, OwnH.mk' ?_, ?_⟩
  · rw [hW']
    refine OwnI.mono (((o2.setCell _ _ ?_).setCell _ _ ?_).setCell _ _ ?_) (by omega)
    all_goals (intro k hk; have := (o2.lt k hk).1; simp; omega)
  · rw [hW']
    exact ((B1.out.setCell (by simp) _).setCell (by simp) _).setCell (by simp) _
set_option maxHeartbeats 2000000 in
theorem copyCell_c (A : Option Addr) (n c : Nat) (zs : List Int) (p : Bool) (w : World) (hA : Ints w A n zs) (hn : n ≤ 1048576) :
    Calls Try.prog 124 #[.agg #[.slice A n c, .bool p]] w (NewCel1 zs p w) := by
  have hW0 : Below w.heap.size w (((w.alloc (.cells #[.slice A n c, .bool p] 104)).alloc (.cells #[.slice none 0 0, .bool false] 104)).alloc (.cells #[] 3)) := (((Below.refl _ _).alloc (Nat.le_refl _) _).alloc (by simp) _).alloc (by simp; omega) _
  have p0 : Box (((w.alloc (.cells #[.slice A n c, .bool p] 104)).alloc (.cells #[.slice none 0 0, .bool false] 104)).alloc (.cells #[] 3)) w.heap.size 104 #[.slice A n c, .bool p] := ((Box.new _ _ _).alloc _).alloc _
  have r0 : Box (((w.alloc (.cells #[.slice A n c, .bool p] 104)).alloc (.cells #[.slice none 0 0, .bool false] 104)).alloc (.cells #[] 3)) (w.heap.size + 1) 104 #[.slice none 0 0, .bool false] := (Box.newAt (by simp)).alloc _
  have HW0 := Lib.hid hW0
  have P0 := Lib.hid p0
  have R0 := Lib.hid r0
  clear hW0 p0 r0
  go_enter Try.func124, Try.ntmps124
  go_wp2_with (at_builtin; refine wpList_appI rfl (.tmp 3) (.tmp 5) 26 rfl Try.underlying26 infoInt _ 0 0 (w.heap.size + 1 + 1) [] rfl (OwnI.nil _ _ _) A n c zs rfl (hA.below HW0.out) (by omega) (by simp) ?_; intro A1 c1 w1 o1 g1 at1; have b1 := grown_below g1; have p1 := P0.out.kept b1; have r1 := R0.out.kept b1; obtain ⟨x0, x1⟩ := p1.c2; obtain ⟨y0, y1⟩ := r1.c2; have f1 := p1.frozen; have f2 := r1.frozen; have l1 := p1.lt; have l2 := r1.lt; have B1 := Lib.hid (HW0.out.trans (b1.mono HW0.out.size)); have O1 := Lib.hid o1; have P1 := Lib.hid p1; have R1 := Lib.hid r1; clear o1 p1 r1 b1 g1 at1)
  refine abs_body ?_
  intro W' hW'
  have rr : Box W' (w.heap.size + 1) 104 #[.slice A1 n c1, .bool p] := by
    rw [hW']; exact ((R1.out.far (by simp) _).set_ 0 _).set_ 1 _
  obtain ⟨z1, z2⟩ := rr.c2
  refine bodyPost_ret (v := .agg #[.slice A1 n c1, .bool p]) (by simp [results, Try.results124, go_sem, z1, z2]) rfl ?_
  have o2 : OwnI w1 (w.heap.size + 1 + 1) A1 n c1 zs := by have := O1.out; simpa using this
  refine ⟨_, _, _, rfl, OwnH.mk' ?_, ?_⟩
  · rw [hW']
    refine OwnI.mono (((o2.setCell _ _ ?_).setCell _ _ ?_).setCell _ _ ?_) (by omega)
    all_goals (intro k hk; have := (o2.lt k hk).1; simp; omega)
  · rw [hW']
    exact ((B1.out.setCell (by simp) _).setCell (by simp) _).setCell (by simp) _
end Go.Proofs.Ytbapamfomfbmmaa
