/-
  The walk of FnExactRefreshOk.
-/
import Derived.Test.YtkhbpfliobhmiaaRef2
import Derived.Test.YtkhbpfliobhmiaaOpen
namespace Go.Proofs.Ytkhbpfliobhmiaa
open Go.RowKit
set_option linter.unusedSimpArgs false
set_option linter.unusedVariables false

set_option maxHeartbeats 1000000 in
theorem fnExactRefreshOk_walk (A : Option Addr) (n c : Nat) (zs : List Int) (s : Int) (t : Bool)  (w : World) (hA : Ints w A n zs) (hn : n ≤ maxLen) (iA : ∀ z ∈ zs, I64 z) (is : I64 s)  :
    Calls Try.prog 4 #[.agg #[.slice A n c, .int .i64 s, .bool t]] w fun e w' => e = .returned (.bool true) ∧ Below w.heap.size w w' := by
  clear iA is 
  by_cases hsz : 1048576 < n
  · go_enter Try.func4, Try.ntmps4
    go_wp2_with fail
    refine (szRefresh_no A n c s t _ hn hsz).mono ?_
    rintro e w1 ⟨rfl, b1⟩
    go_wp2
    go_ret
    exact ⟨rfl, ((Below.refl _ _).alloc (Nat.le_refl _) _).trans (b1.mono (by simp))⟩
  · have ht : (refOk zs s != refOk zs s) = false := by simp
    have t1 : decide ((1048576 - (n : Int)) < 0) = false := by simp; omega
    go_enter Try.func4, Try.ntmps4
    go_wp2_with fail
    refine abs_call ?_
    intro W hW
    have p0 : Box W w.heap.size 30 #[.slice A n c, .int .i64 s, .bool t] := by rw [hW]; exact Box.new _ _ _
    have b0 : Below w.heap.size w W := by rw [hW]; exact (Below.refl _ _).alloc (Nat.le_refl _) _
    clear hW
    refine (szRefresh_yes A n c s t _ (by omega)).mono ?_
    rintro e w1 ⟨rfl, b1⟩
    have b01 := b0.trans (b1.mono b0.size)
    have p1 := p0.kept b1
    obtain ⟨ca0, ca1, ca2⟩ := p1.c3
    clear b1 b0 p0
    go_wp2_with fail
    refine (toRefresh_c A n c zs s t _ (hA.below b01) (by omega)).mono ?_
    rintro e w2 ⟨A2, n2, c2, rfl, o2, b2⟩
    have b02 := b01.trans (b2.mono b01.size)
    have p2 := p1.kept b2
    have n2l : n2 ≤ 1048576 := by have := o2.len; have := hA.1; omega
    clear b2 b01 p1 ca0 ca1 ca2 W
    go_wp2_with fail
    refine (sRefreshOk_c A2 n2 c2 zs s t  _ o2.ints n2l).mono ?_
    rintro e w3 ⟨rfl, b3⟩
    have b03 := b02.trans (b3.mono b02.size)
    have p3 := p2.kept b3
    obtain ⟨ca0, ca1, ca2⟩ := p3.c3
    clear b3 b02 p2 o2
    go_wp2_with fail
    refine (toRefresh_c A n c zs s t _ (hA.below b03) (by omega)).mono ?_
    rintro e w4 ⟨A4, n4, c4, rfl, o4, b4⟩
    have b04 := b03.trans (b4.mono b03.size)
    have p4 := p3.kept b4
    have n4l : n4 ≤ 1048576 := by have := o4.len; have := hA.1; omega
    clear b4 b03 p3 ca0 ca1 ca2
    go_wp2_with fail
    refine abs_call ?_
    intro W hW
    have p5 : Box W w.heap.size 30 #[.slice A n c, .int .i64 s, .bool t] := by rw [hW]; exact p4.alloc _
    have q5 : Box W w4.heap.size 24 #[.slice A4 n4 c4, .int .i64 s, .bool t] := by rw [hW]; exact Box.new _ _ _
    have b05 : Below w.heap.size w W := by rw [hW]; exact b04.alloc b04.size _
    have o5 : OwnH W w3.heap.size w4.heap.size A4 n4 c4 zs := by rw [hW]; exact o4.alloc _
    clear hW p4 b04 o4
    refine (iRefreshOk_c A4 n4 c4 zs s t  _ o5.ints n4l).mono ?_
    rintro e w6 ⟨rfl, b6⟩
    have b06 := b05.trans (b6.mono b05.size)
    have p6 := p5.kept b6
    have q6 := q5.kept b6
    have o6 := o5.below b6
    obtain ⟨ca0, ca1, ca2⟩ := p6.c3
    obtain ⟨cb0, cb1, cb2⟩ := q6.c3
    clear b6 b05 p5 q5 o5 W
    have hA6 := hA.below b06
    go_wp2_with fail
    go_region_held3 (fun W' => W'.cell? ⟨w.heap.size, 0, none⟩ = some (.slice A n c) ∧ W'.cell? ⟨w.heap.size, 1, none⟩ = some (.int .i64 s) ∧ W'.cell? ⟨w.heap.size, 2, none⟩ = some (.bool t) ∧ W'.cell? ⟨w4.heap.size, 0, none⟩ = some (.slice A4 n4 c4) ∧ W'.cell? ⟨w4.heap.size, 1, none⟩ = some (.int .i64 s) ∧ W'.cell? ⟨w4.heap.size, 2, none⟩ = some (.bool t))
      (first | exact ⟨ca0, ca1, ca2, cb0, cb1, cb2⟩ | exact ⟨cc0, cc1, cc2, cd0, cd1, cd2⟩ | exact ⟨ce0, ce1, ce2, cf0, cf1, cf2⟩)
      (first | (go_at_call 20; refine (toRefresh_c A n c zs s t _ (by exact hA6) (by omega)).mono ?_; rintro e w7 ⟨A7, n7, c7, rfl, o7, b7'⟩; have b7 : Below w6.heap.size w6 w7 := ⟨b7'.os, b7'.tape, b7'.output, b7'.size, b7'.block⟩; have o67 := o6.below b7; have p7 := p6.kept b7; have q7 := q6.kept b7; obtain ⟨cc0, cc1, cc2⟩ := p7.c3; obtain ⟨cd0, cd1, cd2⟩ := q7.c3)
             | (go_at_call 15; refine (eqRefresh_c A4 A7 n4 c4 n7 c7 zs s t _ o67.ints o7.ints n4l).mono ?_; rintro e w8 ⟨rfl, b8'⟩; have b8 : Below w7.heap.size w7 w8 := ⟨b8'.os, b8'.tape, b8'.output, b8'.size, b8'.block⟩; have p8 := p7.kept b8; have q8 := q7.kept b8; obtain ⟨ce0, ce1, ce2⟩ := p8.c3; obtain ⟨cf0, cf1, cf2⟩ := q8.c3))
    go_wp2
    go_ret
    have b07 := b06.trans (b7.mono b06.size)
    exact ⟨rfl, b07.trans (b8.mono b07.size)⟩
end Go.Proofs.Ytkhbpfliobhmiaa
