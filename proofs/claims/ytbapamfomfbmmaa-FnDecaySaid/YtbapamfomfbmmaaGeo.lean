/-
  Geometries: the laws' helpers, valid geometries, banks, addresses.
-/
import Derived.Test.YtbapamfomfbmmaaSpM
import Derived.Test.YtbapamfomfbmmaaUni
import Derived.Test.YtbapamfomfbmmaaLater
namespace Go.Proofs.Ytbapamfomfbmmaa
open Go.RowKit
set_option linter.unusedSimpArgs false
set_option linter.unusedVariables false

set_option maxHeartbeats 400000 in
theorem toGeometry_h (gg gb gr gc : Int) (w : World) :
    Calls Try.prog 52 #[.agg #[.int .i64 gg, .int .i64 gb, .int .i64 gr, .int .i64 gc]] w fun x w' => x = .returned (.agg #[.int .i64 gg, .int .i64 gb, .int .i64 gr, .int .i64 gc]) ∧ Below w.heap.size w w' := by
  go_enter Try.func52, Try.ntmps52
  go_wp2
  exact bodyPost_ret (v := .agg #[.int .i64 gg, .int .i64 gb, .int .i64 gr, .int .i64 gc]) (by simp [results, Try.results52, go_sem]) rfl ⟨rfl, (((Below.refl _ _).alloc (Nat.le_refl _) _).alloc (by simp) _).alloc (by simp; omega) _⟩
set_option maxHeartbeats 2000000 in
theorem iGeometryOk_c (gg gb gr gc : Int) (w : World) :
    Calls Try.prog 119 #[.agg #[.int .i64 gg, .int .i64 gb, .int .i64 gr, .int .i64 gc]] w fun e w' => e = .returned (.bool (geoOk gg gb gr gc)) ∧ Below w.heap.size w w' := by
  have bel : ∀ ob, Below w.heap.size w (w.alloc ob) := fun ob => (Below.refl _ _).alloc (Nat.le_refl _) _
  have BEL := Lib.hid bel
  clear bel
  by_cases h1 : inB gg 1 2 = true
  case neg =>
    have h1' : inB gg 1 2 = false := by simpa using h1
    clear h1
    have HQ : Hid (geoOk gg gb gr gc = false) := by unfold Hid geoOk; simp only [h1', Bool.false_and, Bool.and_false, Bool.true_and]
    go_enter Try.func119, Try.ntmps119
    go_wp2_with (go_at_call 75; refine (between_c _ _ _ _).mono ?_; rintro e w' ⟨rfl, rfl⟩)
    go_ret
    exact ⟨ret_bool (by rw [HQ.out]), BEL.out _⟩
  by_cases h2 : inB gb 1 4 = true
  case neg =>
    have h2' : inB gb 1 4 = false := by simpa using h2
    clear h2
    have HQ : Hid (geoOk gg gb gr gc = false) := by unfold Hid geoOk; simp only [h1, h2', Bool.false_and, Bool.and_false, Bool.true_and]
    go_enter Try.func119, Try.ntmps119
    go_wp2_with (go_at_call 75; refine (between_c _ _ _ _).mono ?_; rintro e w' ⟨rfl, rfl⟩)
    go_ret
    exact ⟨ret_bool (by rw [HQ.out]), BEL.out _⟩
  by_cases h3 : inB gr 2 16 = true
  case neg =>
    have h3' : inB gr 2 16 = false := by simpa using h3
    clear h3
    have HQ : Hid (geoOk gg gb gr gc = false) := by unfold Hid geoOk; simp only [h1, h2, h3', Bool.false_and, Bool.and_false, Bool.true_and]
    go_enter Try.func119, Try.ntmps119
    go_wp2_with (go_at_call 75; refine (between_c _ _ _ _).mono ?_; rintro e w' ⟨rfl, rfl⟩)
    go_ret
    exact ⟨ret_bool (by rw [HQ.out]), BEL.out _⟩
  have HQ : Hid (geoOk gg gb gr gc = inB gc 1 8) := by unfold Hid geoOk; simp only [h1, h2, h3, Bool.true_and]
  go_enter Try.func119, Try.ntmps119
  go_wp2_with (go_at_call 75; refine (between_c _ _ _ _).mono ?_; rintro e w' ⟨rfl, rfl⟩)
  go_ret
  exact ⟨ret_bool (by rw [HQ.out]), BEL.out _⟩
set_option maxHeartbeats 2000000 in
theorem iBankCount_c (gg gb gr gc : Int) (w : World) :
    Calls Try.prog 73 #[.agg #[.int .i64 gg, .int .i64 gb, .int .i64 gr, .int .i64 gc]] w fun e w' => e = .returned (.int .i64 (bankCnt gg gb gr gc)) ∧ Below w.heap.size w w' := by
  have bel : Below w.heap.size w w := Below.refl _ _
  go_enter Try.func73, Try.ntmps73
  go_wp2_with fail
  refine abs_call ?_
  intro W hW
  have szW : w.heap.size + 1 ≤ W.heap.size := by rw [hW]; simp [World.setCell]
  have szW_ := bel.size
  replace bel : Below w.heap.size w W := by rw [hW]; exact (bel).alloc (by first | omega | (simp [World.setCell] <;> omega)) _
  have p : Box W w.heap.size 25 #[.int .i64 gg, .int .i64 gb, .int .i64 gr, .int .i64 gc] := by rw [hW]; exact (Box.newAt (by simp [World.setCell]))
  clear hW
  refine (iGeometryOk_c gg gb gr gc _).mono ?_
  rintro e w1 ⟨rfl, b1⟩
  have szw1 := b1.size
  replace bel := bel.trans (b1.mono bel.size)
  replace p := p.kept b1
  clear b1
  obtain ⟨p_0, p_1, p_2, p_3⟩ := p.c4
  have p_lt := p.lt
  by_cases h : geoOk gg gb gr gc = true
  · have HB := Lib.hid (bankCnt_yes h)
    obtain ⟨g1, g2⟩ := geo_prod (geo_parts h).1 (geo_parts h).2.1
    go_wp2
    go_ret
    exact ⟨ret_int HB.out.symm, bel⟩
  · have h' : geoOk gg gb gr gc = false := by simpa using h
    have HB := Lib.hid (bankCnt_no h')
    clear h
    go_wp2
    go_ret
    exact ⟨ret_int HB.out.symm, bel⟩
set_option maxHeartbeats 4000000 in
theorem iAddrOk_c (gg gb gr gc : Int) (bank row col : Int) (w : World) :
    Calls Try.prog 123 #[.agg #[.int .i64 gg, .int .i64 gb, .int .i64 gr, .int .i64 gc], .agg #[.int .i64 bank, .int .i64 row, .int .i64 col]] w fun e w' => e = .returned (.bool (addrOk gg gb gr gc bank row col)) ∧ Below w.heap.size w w' := by
  have bel : Below w.heap.size w w := Below.refl _ _
  have bb := bankCnt_bd gg gb gr gc
  have hs1 : IntKind.i64.wrap (bankCnt gg gb gr gc - 1) = bankCnt gg gb gr gc - 1 := IntWalk.i64_in _ (by omega)
  go_enter Try.func123, Try.ntmps123
  go_wp2
  refine abs_code ?_
  intro W hW
  have szW : w.heap.size + 1 + 1 ≤ W.heap.size := by rw [hW]; simp [World.setCell]
  have szW_ := bel.size
  replace bel : Below w.heap.size w W := by rw [hW]; exact ((bel).alloc (by first | omega | (simp [World.setCell] <;> omega)) _).alloc (by first | omega | (simp [World.setCell] <;> omega)) _
  have p : Box W w.heap.size 25 #[.int .i64 gg, .int .i64 gb, .int .i64 gr, .int .i64 gc] := by rw [hW]; exact ((Box.newAt (by simp [World.setCell]))).alloc _
  have q : Box W (w.heap.size + 1) 38 #[.int .i64 bank, .int .i64 row, .int .i64 col] := by rw [hW]; exact (Box.newAt (by simp [World.setCell]))
  clear hW
  obtain ⟨p_0, p_1, p_2, p_3⟩ := p.c4
  have p_lt := p.lt
  obtain ⟨q_0, q_1, q_2⟩ := q.c3
  have q_lt := q.lt
  have l0 := later_cell p_lt p_0
  have l1 := later_cell p_lt p_1
  have l2 := later_cell p_lt p_2
  have l3 := later_cell p_lt p_3
  have m0 := later_cell q_lt q_0
  have m1 := later_cell q_lt q_1
  have m2 := later_cell q_lt q_2
  by_cases h : geoOk gg gb gr gc = true
  case neg =>
    have h' : geoOk gg gb gr gc = false := by simpa using h
    clear h
    have HQ : Hid (addrOk gg gb gr gc bank row col = false) := by unfold Hid addrOk; rw [h']; rfl
    refine wp_region_later (by kernel_rfl) (by kernel_rfl) ?_
    repeat (go_big_quiet_step ((first | (go_at_call 75; first | exact later_sameB (between_c _ _ _ _) h1 | exact later_sameB (between_c _ _ _ _) h1' | exact later_sameB (between_c _ _ _ _) h2 | exact later_sameB (between_c _ _ _ _) h2' | exact later_same (between_c _ _ _ _)) | (go_at_call 73; exact later_call (iBankCount_c gg gb gr gc _)) | (go_at_call 119; first | exact later_callB (iGeometryOk_c gg gb gr gc _) h | exact later_callB (iGeometryOk_c gg gb gr gc _) h'))))
    refine wpQuiet_nil ?_
    intro Z hw'
    obtain ⟨z, hw''⟩ := hw'
    have bZ := z.bel
    rw [← hw''] at bZ
    clear hw'' z l0 l1 l2 l3 m0 m1 m2
    go_wp2
    go_ret
    exact ⟨ret_bool HQ.out.symm, bel.trans (bZ.mono bel.size)⟩
  obtain ⟨⟨g1, g2⟩, ⟨g3, g4⟩, ⟨g5, g6⟩, g7, g8⟩ := geo_parts h
  by_cases h1 : inB bank 0 (bankCnt gg gb gr gc - 1) = true
  case neg =>
    have h1' : inB bank 0 (bankCnt gg gb gr gc - 1) = false := by simpa using h1
    clear h1
    have HQ : Hid (addrOk gg gb gr gc bank row col = false) := by unfold Hid addrOk; simp only [h, h1', Bool.false_and, Bool.and_false, Bool.true_and]
    refine wp_region_later (by kernel_rfl) (by kernel_rfl) ?_
    repeat (go_big_quiet_step ((first | (go_at_call 75; first | exact later_sameB (between_c _ _ _ _) h1 | exact later_sameB (between_c _ _ _ _) h1' | exact later_sameB (between_c _ _ _ _) h2 | exact later_sameB (between_c _ _ _ _) h2' | exact later_same (between_c _ _ _ _)) | (go_at_call 73; exact later_call (iBankCount_c gg gb gr gc _)) | (go_at_call 119; first | exact later_callB (iGeometryOk_c gg gb gr gc _) h | exact later_callB (iGeometryOk_c gg gb gr gc _) h'))))
    refine wpQuiet_nil ?_
    intro Z hw'
    obtain ⟨z, hw''⟩ := hw'
    have bZ := z.bel
    rw [← hw''] at bZ
    clear hw'' z l0 l1 l2 l3 m0 m1 m2
    go_wp2
    go_ret
    exact ⟨ret_bool HQ.out.symm, bel.trans (bZ.mono bel.size)⟩
  have hs2 : IntKind.i64.wrap (gr - 1) = gr - 1 := IntWalk.i64_in _ (by omega)
  have hs3 : IntKind.i64.wrap (gc - 1) = gc - 1 := IntWalk.i64_in _ (by omega)
  by_cases h2 : inB row 0 (gr - 1) = true
  case neg =>
    have h2' : inB row 0 (gr - 1) = false := by simpa using h2
    clear h2
    have HQ : Hid (addrOk gg gb gr gc bank row col = false) := by unfold Hid addrOk; simp only [h, h1, h2', Bool.false_and, Bool.and_false, Bool.true_and]
    refine wp_region_later (by kernel_rfl) (by kernel_rfl) ?_
    repeat (go_big_quiet_step ((first | (go_at_call 75; first | exact later_sameB (between_c _ _ _ _) h1 | exact later_sameB (between_c _ _ _ _) h1' | exact later_sameB (between_c _ _ _ _) h2 | exact later_sameB (between_c _ _ _ _) h2' | exact later_same (between_c _ _ _ _)) | (go_at_call 73; exact later_call (iBankCount_c gg gb gr gc _)) | (go_at_call 119; first | exact later_callB (iGeometryOk_c gg gb gr gc _) h | exact later_callB (iGeometryOk_c gg gb gr gc _) h'))))
    refine wpQuiet_nil ?_
    intro Z hw'
    obtain ⟨z, hw''⟩ := hw'
    have bZ := z.bel
    rw [← hw''] at bZ
    clear hw'' z l0 l1 l2 l3 m0 m1 m2
    go_wp2
    go_ret
    exact ⟨ret_bool HQ.out.symm, bel.trans (bZ.mono bel.size)⟩
  have HQ : Hid (addrOk gg gb gr gc bank row col = inB col 0 (gc - 1)) := by unfold Hid addrOk; simp only [h, h1, h2, Bool.true_and]
  refine wp_region_later (by kernel_rfl) (by kernel_rfl) ?_
  repeat (go_big_quiet_step ((first | (go_at_call 75; first | exact later_sameB (between_c _ _ _ _) h1 | exact later_sameB (between_c _ _ _ _) h1' | exact later_sameB (between_c _ _ _ _) h2 | exact later_sameB (between_c _ _ _ _) h2' | exact later_same (between_c _ _ _ _)) | (go_at_call 73; exact later_call (iBankCount_c gg gb gr gc _)) | (go_at_call 119; first | exact later_callB (iGeometryOk_c gg gb gr gc _) h | exact later_callB (iGeometryOk_c gg gb gr gc _) h'))))
  refine wpQuiet_nil ?_
  intro Z hw'
  obtain ⟨z, hw''⟩ := hw'
  have bZ := z.bel
  rw [← hw''] at bZ
  clear hw'' z l0 l1 l2 l3 m0 m1 m2
  go_wp2
  go_ret
  exact ⟨ret_bool HQ.out.symm, bel.trans (bZ.mono bel.size)⟩
set_option maxHeartbeats 2000000 in
theorem sGeometryOk_c (gg gb gr gc : Int) (w : World) :
    Calls Try.prog 79 #[.agg #[.int .i64 gg, .int .i64 gb, .int .i64 gr, .int .i64 gc]] w fun e w' => e = .returned (.bool (geoOk gg gb gr gc)) ∧ Below w.heap.size w w' := by
  have bel : ∀ ob, Below w.heap.size w (w.alloc ob) := fun ob => (Below.refl _ _).alloc (Nat.le_refl _) _
  have BEL := Lib.hid bel
  clear bel
  by_cases h1 : inB gg 1 2 = true
  case neg =>
    have h1' : inB gg 1 2 = false := by simpa using h1
    clear h1
    have HQ : Hid (geoOk gg gb gr gc = false) := by unfold Hid geoOk; simp only [h1', Bool.false_and, Bool.and_false, Bool.true_and]
    go_enter Try.func79, Try.ntmps79
    go_wp2_with (go_at_call 70; refine (in_c _ _ _ _).mono ?_; rintro e w' ⟨rfl, rfl⟩)
    go_ret
    exact ⟨ret_bool (by rw [HQ.out]), BEL.out _⟩
  by_cases h2 : inB gb 1 4 = true
  case neg =>
    have h2' : inB gb 1 4 = false := by simpa using h2
    clear h2
    have HQ : Hid (geoOk gg gb gr gc = false) := by unfold Hid geoOk; simp only [h1, h2', Bool.false_and, Bool.and_false, Bool.true_and]
    go_enter Try.func79, Try.ntmps79
    go_wp2_with (go_at_call 70; refine (in_c _ _ _ _).mono ?_; rintro e w' ⟨rfl, rfl⟩)
    go_ret
    exact ⟨ret_bool (by rw [HQ.out]), BEL.out _⟩
  by_cases h3 : inB gr 2 16 = true
  case neg =>
    have h3' : inB gr 2 16 = false := by simpa using h3
    clear h3
    have HQ : Hid (geoOk gg gb gr gc = false) := by unfold Hid geoOk; simp only [h1, h2, h3', Bool.false_and, Bool.and_false, Bool.true_and]
    go_enter Try.func79, Try.ntmps79
    go_wp2_with (go_at_call 70; refine (in_c _ _ _ _).mono ?_; rintro e w' ⟨rfl, rfl⟩)
    go_ret
    exact ⟨ret_bool (by rw [HQ.out]), BEL.out _⟩
  have HQ : Hid (geoOk gg gb gr gc = inB gc 1 8) := by unfold Hid geoOk; simp only [h1, h2, h3, Bool.true_and]
  go_enter Try.func79, Try.ntmps79
  go_wp2_with (go_at_call 70; refine (in_c _ _ _ _).mono ?_; rintro e w' ⟨rfl, rfl⟩)
  go_ret
  exact ⟨ret_bool (by rw [HQ.out]), BEL.out _⟩
set_option maxHeartbeats 2000000 in
theorem sBankCount_c (gg gb gr gc : Int) (w : World) :
    Calls Try.prog 21 #[.agg #[.int .i64 gg, .int .i64 gb, .int .i64 gr, .int .i64 gc]] w fun e w' => e = .returned (.int .i64 (bankCnt gg gb gr gc)) ∧ Below w.heap.size w w' := by
  have bel : Below w.heap.size w w := Below.refl _ _
  go_enter Try.func21, Try.ntmps21
  go_wp2_with fail
  refine abs_call ?_
  intro W hW
  have szW : w.heap.size + 1 ≤ W.heap.size := by rw [hW]; simp [World.setCell]
  have szW_ := bel.size
  replace bel : Below w.heap.size w W := by rw [hW]; exact (bel).alloc (by first | omega | (simp [World.setCell] <;> omega)) _
  have p : Box W w.heap.size 25 #[.int .i64 gg, .int .i64 gb, .int .i64 gr, .int .i64 gc] := by rw [hW]; exact (Box.newAt (by simp [World.setCell]))
  clear hW
  refine (sGeometryOk_c gg gb gr gc _).mono ?_
  rintro e w1 ⟨rfl, b1⟩
  have szw1 := b1.size
  replace bel := bel.trans (b1.mono bel.size)
  replace p := p.kept b1
  clear b1
  obtain ⟨p_0, p_1, p_2, p_3⟩ := p.c4
  have p_lt := p.lt
  by_cases h : geoOk gg gb gr gc = true
  · have HB := Lib.hid (bankCnt_yes h)
    obtain ⟨g1, g2⟩ := geo_prod (geo_parts h).1 (geo_parts h).2.1
    go_wp2
    go_ret
    exact ⟨ret_int HB.out.symm, bel⟩
  · have h' : geoOk gg gb gr gc = false := by simpa using h
    have HB := Lib.hid (bankCnt_no h')
    clear h
    go_wp2
    go_ret
    exact ⟨ret_int HB.out.symm, bel⟩
set_option maxHeartbeats 4000000 in
theorem sAddrOk_c (gg gb gr gc : Int) (bank row col : Int) (w : World) :
    Calls Try.prog 150 #[.agg #[.int .i64 gg, .int .i64 gb, .int .i64 gr, .int .i64 gc], .agg #[.int .i64 bank, .int .i64 row, .int .i64 col]] w fun e w' => e = .returned (.bool (addrOk gg gb gr gc bank row col)) ∧ Below w.heap.size w w' := by
  have bel : Below w.heap.size w w := Below.refl _ _
  have bb := bankCnt_bd gg gb gr gc
  have hs1 : IntKind.i64.wrap (bankCnt gg gb gr gc - 1) = bankCnt gg gb gr gc - 1 := IntWalk.i64_in _ (by omega)
  go_enter Try.func150, Try.ntmps150
  go_wp2
  refine abs_code ?_
  intro W hW
  have szW : w.heap.size + 1 + 1 ≤ W.heap.size := by rw [hW]; simp [World.setCell]
  have szW_ := bel.size
  replace bel : Below w.heap.size w W := by rw [hW]; exact ((bel).alloc (by first | omega | (simp [World.setCell] <;> omega)) _).alloc (by first | omega | (simp [World.setCell] <;> omega)) _
  have p : Box W w.heap.size 25 #[.int .i64 gg, .int .i64 gb, .int .i64 gr, .int .i64 gc] := by rw [hW]; exact ((Box.newAt (by simp [World.setCell]))).alloc _
  have q : Box W (w.heap.size + 1) 38 #[.int .i64 bank, .int .i64 row, .int .i64 col] := by rw [hW]; exact (Box.newAt (by simp [World.setCell]))
  clear hW
  obtain ⟨p_0, p_1, p_2, p_3⟩ := p.c4
  have p_lt := p.lt
  obtain ⟨q_0, q_1, q_2⟩ := q.c3
  have q_lt := q.lt
  have l0 := later_cell p_lt p_0
  have l1 := later_cell p_lt p_1
  have l2 := later_cell p_lt p_2
  have l3 := later_cell p_lt p_3
  have m0 := later_cell q_lt q_0
  have m1 := later_cell q_lt q_1
  have m2 := later_cell q_lt q_2
  by_cases h1 : inB bank 0 (bankCnt gg gb gr gc - 1) = true
  case neg =>
    have h1' : inB bank 0 (bankCnt gg gb gr gc - 1) = false := by simpa using h1
    clear h1
    have HQ : Hid (addrOk gg gb gr gc bank row col = false) := by unfold Hid addrOk; simp only [h1', Bool.false_and, Bool.and_false, Bool.true_and]
    refine wp_region_later (by kernel_rfl) (by kernel_rfl) ?_
    repeat (go_big_quiet_step ((first | (go_at_call 70; first | exact later_sameB (in_c _ _ _ _) h1 | exact later_sameB (in_c _ _ _ _) h1' | exact later_sameB (in_c _ _ _ _) h2 | exact later_sameB (in_c _ _ _ _) h2' | exact later_same (in_c _ _ _ _)) | (go_at_call 21; exact later_call (sBankCount_c gg gb gr gc _)))))
    refine wpQuiet_nil ?_
    intro Z hw'
    obtain ⟨z, hw''⟩ := hw'
    have bZ := z.bel
    rw [← hw''] at bZ
    clear hw'' z l0 l1 l2 l3 m0 m1 m2
    go_wp2
    go_ret
    exact ⟨ret_bool HQ.out.symm, bel.trans (bZ.mono bel.size)⟩
  have h : geoOk gg gb gr gc = true := by
    by_cases h : geoOk gg gb gr gc = true
    · exact h
    · have := inB_t h1
      rw [bankCnt_no (by simpa using h)] at this
      omega
  obtain ⟨⟨g1, g2⟩, ⟨g3, g4⟩, ⟨g5, g6⟩, g7, g8⟩ := geo_parts h
  have hs2 : IntKind.i64.wrap (gr - 1) = gr - 1 := IntWalk.i64_in _ (by omega)
  have hs3 : IntKind.i64.wrap (gc - 1) = gc - 1 := IntWalk.i64_in _ (by omega)
  by_cases h2 : inB row 0 (gr - 1) = true
  case neg =>
    have h2' : inB row 0 (gr - 1) = false := by simpa using h2
    clear h2
    have HQ : Hid (addrOk gg gb gr gc bank row col = false) := by unfold Hid addrOk; simp only [h, h1, h2', Bool.false_and, Bool.and_false, Bool.true_and]
    refine wp_region_later (by kernel_rfl) (by kernel_rfl) ?_
    repeat (go_big_quiet_step ((first | (go_at_call 70; first | exact later_sameB (in_c _ _ _ _) h1 | exact later_sameB (in_c _ _ _ _) h1' | exact later_sameB (in_c _ _ _ _) h2 | exact later_sameB (in_c _ _ _ _) h2' | exact later_same (in_c _ _ _ _)) | (go_at_call 21; exact later_call (sBankCount_c gg gb gr gc _)))))
    refine wpQuiet_nil ?_
    intro Z hw'
    obtain ⟨z, hw''⟩ := hw'
    have bZ := z.bel
    rw [← hw''] at bZ
    clear hw'' z l0 l1 l2 l3 m0 m1 m2
    go_wp2
    go_ret
    exact ⟨ret_bool HQ.out.symm, bel.trans (bZ.mono bel.size)⟩
  have HQ : Hid (addrOk gg gb gr gc bank row col = inB col 0 (gc - 1)) := by unfold Hid addrOk; simp only [h, h1, h2, Bool.true_and]
  refine wp_region_later (by kernel_rfl) (by kernel_rfl) ?_
  repeat (go_big_quiet_step ((first | (go_at_call 70; first | exact later_sameB (in_c _ _ _ _) h1 | exact later_sameB (in_c _ _ _ _) h1' | exact later_sameB (in_c _ _ _ _) h2 | exact later_sameB (in_c _ _ _ _) h2' | exact later_same (in_c _ _ _ _)) | (go_at_call 21; exact later_call (sBankCount_c gg gb gr gc _)))))
  refine wpQuiet_nil ?_
  intro Z hw'
  obtain ⟨z, hw''⟩ := hw'
  have bZ := z.bel
  rw [← hw''] at bZ
  clear hw'' z l0 l1 l2 l3 m0 m1 m2
  go_wp2
  go_ret
  exact ⟨ret_bool HQ.out.symm, bel.trans (bZ.mono bel.size)⟩
set_option maxHeartbeats 1000000 in
theorem iRowExists_c (gg gb gr gc : Int) (bank row : Int) (w : World) :
    Calls Try.prog 77 #[.agg #[.int .i64 gg, .int .i64 gb, .int .i64 gr, .int .i64 gc], .int .i64 bank, .int .i64 row] w fun e w' => e = .returned (.bool (addrOk gg gb gr gc bank row 0)) ∧ Below w.heap.size w w' := by
  have bel : Below w.heap.size w w := Below.refl _ _
  go_enter Try.func77, Try.ntmps77
  go_wp2_with fail
  refine abs_call ?_
  intro W hW
  have szW : w.heap.size + 1 ≤ W.heap.size := by rw [hW]; simp [World.setCell]
  have szW_ := bel.size
  replace bel : Below w.heap.size w W := by rw [hW]; exact (bel).alloc (by first | omega | (simp [World.setCell] <;> omega)) _
  have p : Box W w.heap.size 25 #[.int .i64 gg, .int .i64 gb, .int .i64 gr, .int .i64 gc] := by rw [hW]; exact (Box.newAt (by simp [World.setCell]))
  clear hW
  refine (iAddrOk_c gg gb gr gc bank row 0 _).mono ?_
  rintro e w1 ⟨rfl, b1⟩
  have szw1 := b1.size
  replace bel := bel.trans (b1.mono bel.size)
  replace p := p.kept b1
  clear b1
  go_wp2
  go_ret
  exact ⟨rfl, bel⟩
end Go.Proofs.Ytbapamfomfbmmaa
