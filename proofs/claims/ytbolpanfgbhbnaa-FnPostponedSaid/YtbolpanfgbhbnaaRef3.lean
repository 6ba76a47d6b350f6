/-
  Contracts of the copies of a refresh state, in the program and in the reference.
-/
import Derived.Test.YtbolpanfgbhbnaaRef2
namespace Go.Proofs.Ytbolpanfgbhbnaa
open Go.RowKit
set_option linter.unusedSimpArgs false
set_option linter.unusedVariables false

set_option maxHeartbeats 1000000 in
theorem copyRefresh_c (A : Option Addr) (n c : Nat) (zs : List Int) (s : Int) (t : Bool) (w : World) (hA : Ints w A n zs) (hn : n ≤ 1048576) :
    Calls Try.prog 76 #[.agg #[.slice A n c, .int .i64 s, .bool t]] w (NewR zs s t w) := by
  have hW0 : Below w.heap.size w (((w.alloc (.cells #[.slice A n c, .int .i64 s, .bool t] 27)).alloc (.cells #[.slice none 0 0, .int .i64 0, .bool false] 27)).alloc (.cells #[] 3)) := (((Below.refl _ _).alloc (Nat.le_refl _) _).alloc (by simp) _).alloc (by simp; omega) _
  have p0 : Box (((w.alloc (.cells #[.slice A n c, .int .i64 s, .bool t] 27)).alloc (.cells #[.slice none 0 0, .int .i64 0, .bool false] 27)).alloc (.cells #[] 3)) w.heap.size 27 #[.slice A n c, .int .i64 s, .bool t] := ((Box.new _ _ _).alloc _).alloc _
  have r0 : Box (((w.alloc (.cells #[.slice A n c, .int .i64 s, .bool t] 27)).alloc (.cells #[.slice none 0 0, .int .i64 0, .bool false] 27)).alloc (.cells #[] 3)) (w.heap.size + 1) 27 #[.slice none 0 0, .int .i64 0, .bool false] := (Box.newAt (by simp)).alloc _
  have HW0 := Lib.hid hW0
  have P0 := Lib.hid p0
  have R0 := Lib.hid r0
  clear hW0 p0 r0
  go_enter Try.func76, Try.ntmps76
  go_wp2_with (at_builtin; refine wpList_appI rfl (.tmp 3) (.tmp 5) 24 rfl Try.underlying24 infoInt _ 0 0 (w.heap.size + 1 + 1) [] rfl (OwnI.nil _ _ _) A n c zs rfl (hA.below HW0.out) (by omega) (by simp) ?_; intro A1 c1 w1 o1 g1 at1; have b1 := grown_below g1; have p1 := P0.out.kept b1; have r1 := R0.out.kept b1; obtain ⟨x0, x1, x2⟩ := p1.c3; obtain ⟨y0, y1, y2⟩ := r1.c3; have f1 := p1.frozen; have f2 := r1.frozen; have l1 := p1.lt; have l2 := r1.lt; have B1 := Lib.hid (HW0.out.trans (b1.mono HW0.out.size)); have O1 := Lib.hid o1; have P1 := Lib.hid p1; have R1 := Lib.hid r1; clear o1 p1 r1 b1 g1 at1)
  refine abs_body ?_
  intro W' hW'
  have rr : Box W' (w.heap.size + 1) 27 #[.slice A1 n c1, .int .i64 s, .bool t] := by
    rw [hW']; exact (((R1.out.far (by simp) _).set_ 0 _).set_ 1 _).set_ 2 _
  obtain ⟨z1, z2, z3⟩ := rr.c3
  refine bodyPost_ret (v := .agg #[.slice A1 n c1, .int .i64 s, .bool t]) (by simp [results, Try.results76, go_sem, z1, z2, z3]) rfl ?_
  have o2 : OwnI w1 (w.heap.size + 1 + 1) A1 n c1 zs := by have := O1.out; simpa using this
  refine ⟨_, _, _, rfl, OwnH.mk' ?_, ?_⟩
  · rw [hW']
    refine OwnI.mono ((((o2.setCell _ _ ?_).setCell _ _ ?_).setCell _ _ ?_).setCell _ _ ?_) (by omega)
    all_goals (intro k hk; have := (o2.lt k hk).1; simp; omega)
  · rw [hW']
    exact (((B1.out.setCell (by simp) _).setCell (by simp) _).setCell (by simp) _).setCell (by simp) _

end Go.Proofs.Ytbolpanfgbhbnaa
