/-
  The walk of FnExactRefreshNew.
-/
import Derived.Test.YtkhbpfliobhmiaaRef2
import Derived.Test.YtkhbpfliobhmiaaOpen
namespace Go.Proofs.Ytkhbpfliobhmiaa
open Go.RowKit
set_option linter.unusedSimpArgs false
set_option linter.unusedVariables false

theorem newDebt_len (banks interval : Int) : (newDebt banks interval).length ≤ 8 := by
  unfold newDebt
  split
  · rename_i h; have := inB_t h.1; simp; omega
  · simp
set_option maxHeartbeats 2000000 in
theorem fnExactRefreshNew_walk (banks interval : Int) (w : World) (h1 : I64 banks) (h2 : I64 interval) :
    Calls Try.prog 3 #[.int .i64 banks, .int .i64 interval] w fun e w' => e = .returned (.bool true) ∧ Below w.heap.size w w' := by
  clear h1 h2
  have hok : (newOk banks interval != newOk banks interval) = false := by simp
  go_enter Try.func3, Try.ntmps3
  go_wp2_with fail
  refine (sRefreshNew_c banks interval _).mono ?_
  rintro e w1 ⟨A1, n1, c1, rfl, o1, b1⟩
  have n1l : n1 ≤ 1048576 := by have := o1.len; have := newDebt_len banks interval; omega
  go_wp2_with fail
  refine abs_call ?_
  intro W hW
  have p2 : Box W w1.heap.size 24 #[.slice A1 n1 c1, .int .i64 (newWait banks interval), .bool false] := by rw [hW]; exact Box.new _ _ _
  have b02 : Below w.heap.size w W := by rw [hW]; exact b1.alloc b1.size _
  have o12 : OwnH W w.heap.size w1.heap.size A1 n1 c1 (newDebt banks interval) := by rw [hW]; exact o1.alloc _
  have sW : w1.heap.size < W.heap.size := p2.lt
  clear hW o1
  refine (iRefreshNew_c banks interval _).mono ?_
  rintro e w3 ⟨A3, n3, c3, rfl, o3, b3⟩
  have n3l : n3 ≤ 1048576 := by have := o3.len; have := newDebt_len banks interval; omega
  have b03 := b02.trans (b3.mono b02.size)
  have p3 := p2.kept b3
  have o13 := o12.below b3
  have s3 := b3.size
  have lt3 : w1.heap.size < w3.heap.size := p3.lt
  obtain ⟨ca0, ca1, ca2⟩ := p3.c3
  clear b3 b02 p2 o12
  go_wp2_with fail
  refine abs_call ?_
  intro W4 hW
  have p4 : Box W4 w1.heap.size 24 #[.slice A1 n1 c1, .int .i64 (newWait banks interval), .bool false] := by rw [hW]; exact p3.alloc _
  have q4 : Box W4 w3.heap.size 24 #[.slice A3 n3 c3, .int .i64 (newWait banks interval), .bool false] := by rw [hW]; exact Box.new _ _ _
  have b04 : Below w.heap.size w W4 := by rw [hW]; exact b03.alloc b03.size _
  have o14 : OwnH W4 w.heap.size w1.heap.size A1 n1 c1 (newDebt banks interval) := by rw [hW]; exact o13.alloc _
  have o34 : OwnH W4 W.heap.size w3.heap.size A3 n3 c3 (newDebt banks interval) := by rw [hW]; exact o3.alloc _
  clear hW o13 o3 p3 b03 ca0 ca1 ca2
  refine (eqRefresh_c A3 A1 n3 c3 n1 c1 ((newDebt banks interval)) (newWait banks interval) false _ o34.ints o14.ints n3l).mono ?_
  rintro e w5 ⟨rfl, b5⟩
  have b05 := b04.trans (b5.mono b04.size)
  have p5 := p4.kept b5
  have q5 := q4.kept b5
  have o15 := o14.below b5
  have o35 := o34.below b5
  obtain ⟨ca0, ca1, ca2⟩ := q5.c3
  clear b5 b04 p4 q4 o14 o34
  go_wp2_with fail
  refine (markRefresh_c A3 n3 c3 W.heap.size w3.heap.size ((newDebt banks interval)) (newWait banks interval) false 1 _ o35 n3l (by omega) (by omega)).mono ?_
  rintro e w6 ⟨rfl, o6, C6⟩
  have p6 := p5.chg C6 (.inl (by omega))
  have q6 := q5.chg C6 (.inr (Nat.le_refl _))
  have o16 := o15.chg C6 (.inl (by omega))
  have b06 := C6.below b05 (by have := b1.size; omega)
  clear C6 p5 q5 o15 o35 b05 ca0 ca1 ca2
  obtain ⟨ca0, ca1, ca2⟩ := q6.c3
  go_wp2_with fail
  refine (heldRefresh_c A3 n3 c3 (newWait banks interval) false 1 _ o6.ints n3l (by omega) (by omega)).mono ?_
  rintro e w7 ⟨rfl, b7⟩
  have b07 := b06.trans (b7.mono b06.size)
  have p7 := p6.kept b7
  have q7 := q6.kept b7
  have o17 := o16.below b7
  have o7 := o6.below b7
  have t1 : decide (1 + (n3 : Int) < 0) = false := by simp; omega
  have t2 : ((1 + (n3 : Int)) != (1 + (n3 : Int))) = false := by simp
  clear b7 b06 p6 q6 o16 o6 ca0 ca1 ca2
  go_wp2_with fail
  refine (iRefreshNew_c banks interval _).mono ?_
  rintro e w8 ⟨A8, n8, c8, rfl, o8, b8⟩
  have n8l : n8 ≤ 1048576 := by have := o8.len; have := newDebt_len banks interval; omega
  have b08 := b07.trans (b8.mono b07.size)
  have p8 := p7.kept b8
  have q8 := q7.kept b8
  have o18 := o17.below b8
  have o78 := o7.below b8
  have lt8 : w1.heap.size < w8.heap.size := p8.lt
  obtain ⟨ca0, ca1, ca2⟩ := p8.c3
  clear b8 b07 p7 q7 o17 o7
  go_wp2_with fail
  refine abs_call ?_
  intro W9 hW
  have q9 : Box W9 w3.heap.size 24 #[.slice A3 n3 c3, .int .i64 (newWait banks interval), .bool false] := by rw [hW]; exact q8.alloc _
  have b09 : Below w.heap.size w W9 := by rw [hW]; exact b08.alloc b08.size _
  have o19 : OwnH W9 w.heap.size w1.heap.size A1 n1 c1 (newDebt banks interval) := by rw [hW]; exact o18.alloc _
  have o79 := o78.alloc (.cells #[.slice A8 n8 c8, .int .i64 (newWait banks interval), .bool false] 24)
  rw [← hW] at o79
  have o89 := o8.alloc (.cells #[.slice A8 n8 c8, .int .i64 (newWait banks interval), .bool false] 24)
  rw [← hW] at o89
  clear hW o18 o78 o8 p8 q8 b08 ca0 ca1 ca2
  refine (eqRefresh_c A8 A1 n8 c8 n1 c1 ((newDebt banks interval)) (newWait banks interval) false _ o89.ints o19.ints n8l).mono ?_
  rintro e w10 ⟨rfl, b10⟩
  have b010 := b09.trans (b10.mono b09.size)
  have q10 := q9.kept b10
  have o710 := o79.below b10
  obtain ⟨ca0, ca1, ca2⟩ := q10.c3
  clear b10 b09 q9 o79 o89 o19
  go_wp2_with fail
  refine (heldRefresh_c A3 n3 c3 (newWait banks interval) false 1 _ o710.ints n3l (by omega) (by omega)).mono ?_
  rintro e w11 ⟨rfl, b11⟩
  have b011 := b010.trans (b11.mono b010.size)
  go_wp2
  go_ret
  exact ⟨rfl, b011⟩
end Go.Proofs.Ytkhbpfliobhmiaa
