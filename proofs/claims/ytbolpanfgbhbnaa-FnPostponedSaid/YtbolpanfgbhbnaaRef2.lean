/-
  Contracts of RefreshOk and RefreshNew, in the program and in the reference.
-/
import Derived.Test.YtbolpanfgbhbnaaRef1
namespace Go.Proofs.Ytbolpanfgbhbnaa
open Go.RowKit
set_option linter.unusedSimpArgs false
set_option linter.unusedVariables false

/-- Every debt is within the limits. -/
def debtsIn (zs : List Int) : Bool := zs.all fun x => inB x (-2) 5
/-- A valid refresh state. -/
def refOk (zs : List Int) (s : Int) : Bool := debtsIn zs && (inB zs.length 1 8 && inB s 1 10000)
theorem debtsIn_yes {zs : List Int} {x : Int} {k : Nat} (hr : debtsIn (zs.take k) = true) (h : zs[k]? = some x) (e : inB x (-2) 5 = true) : debtsIn (zs.take (k + 1)) = true := by
  unfold debtsIn at *
  rw [take_snoc h, List.all_append, hr]
  simp [e]
theorem debtsIn_no {zs : List Int} {x : Int} {k : Nat} (h : zs[k]? = some x) (e : inB x (-2) 5 = false) : debtsIn zs = false := by
  unfold debtsIn
  rw [Bool.eq_false_iff]
  intro hc
  rw [List.all_eq_true] at hc
  have := hc x (List.mem_of_getElem? h)
  rw [e] at this
  cases this

set_option maxHeartbeats 1000000 in
theorem iRefreshOk_c (A : Option Addr) (n c : Nat) (zs : List Int) (s : Int) (t : Bool) (w : World) (hA : Ints w A n zs) (hn : n ≤ 1048576) :
    Calls Try.prog 20 #[.agg #[.slice A n c, .int .i64 s, .bool t]] w fun e w' => e = .returned (.bool (refOk zs s)) ∧ Below w.heap.size w w' := by
  have HL := Lib.hid hA.1
  have HT : Hid (refOk zs s = (debtsIn zs && (inB n 1 8 && inB s 1 10000))) := by unfold Hid refOk; rw [HL.out]
  go_enter Try.func20, Try.ntmps20
  go_wp2
  refine abs_code ?_
  intro W hW
  have p0 : Box W w.heap.size 27 #[.slice A n c, .int .i64 s, .bool t] := by rw [hW]; exact Box.new _ _ _
  have b0 : Below w.heap.size w W := by rw [hW]; exact (Below.refl _ _).alloc (Nat.le_refl _) _
  clear hW
  obtain ⟨c0, c1, c2⟩ := p0.c3
  have hA1 := hA.below b0
  go_loop [8] (fun i => ∃ k : Nat, k ≤ n ∧ i = .int .i64 k ∧ Hid (debtsIn (zs.take k) = true)) (fun i => n - (intOf i).toNat)
  case atStart => exact ⟨0, Nat.zero_le _, rfl, by unfold Hid; simp [debtsIn]⟩
  case round =>
    obtain ⟨k, hk, rfl, HR⟩ := hrel
    by_cases hlt : k < n
    · obtain ⟨g, o, x, rfl, hc1, hx⟩ := hA1.at_ hlt
      by_cases hi : inB x (-2) 5 = true
      · go_wp2_with (go_at_call 75; refine (between_c _ _ _ _).mono ?_; rintro e w' ⟨rfl, rfl⟩)
        go_round
        case rel => exact ⟨k + 1, by omega, by go_num, debtsIn_yes HR.out hx.out hi⟩
        case measure => simp [intOf]; omega
      · have hi' : inB x (-2) 5 = false := by simpa using hi
        clear hi
        go_wp2_with (go_at_call 75; refine (between_c _ _ _ _).mono ?_; rintro e w' ⟨rfl, rfl⟩)
        go_ret
        exact ⟨ret_bool (by rw [HT.out, debtsIn_no hx.out hi']; rfl), b0⟩
    · have HE := HR.out
      rw [List.take_of_length_le (by rw [HL.out]; omega)] at HE
      have HE2 := Lib.hid HE
      clear HE
      by_cases h1 : inB n 1 8 = true
      · go_wp2_with (go_at_call 75; refine (between_c _ _ _ _).mono ?_; rintro e w' ⟨rfl, rfl⟩)
        go_ret
        exact ⟨ret_bool (by rw [HT.out, HE2.out, h1]; rfl), b0⟩
      · have h1' : inB n 1 8 = false := by simpa using h1
        clear h1
        go_wp2_with (go_at_call 75; refine (between_c _ _ _ _).mono ?_; rintro e w' ⟨rfl, rfl⟩)
        go_ret
        exact ⟨ret_bool (by rw [HT.out, HE2.out, h1']; rfl), b0⟩


theorem madeI (m : Nat) : (madeCells (Value.int .i64 0).cells (m * 1)).toList = mapI (List.replicate m 0) := by
  simp [Value.cells, toList_madeCells_one, mapI]
/-- What RefreshNew returns: a new state and whether there is one. -/
def newDebt (banks interval : Int) : List Int := if inB banks 1 8 = true ∧ inB interval 2 10000 = true then List.replicate banks.toNat 0 else []
def newWait (banks interval : Int) : Int := if inB banks 1 8 = true ∧ inB interval 2 10000 = true then interval else 0
def newOk (banks interval : Int) : Bool := inB banks 1 8 && inB interval 2 10000
def NewRB (zs : List Int) (s : Int) (t ok : Bool) (w : World) (e : Ending) (w' : World) : Prop :=
  ∃ A n c, e = .returned (.tuple #[.agg #[.slice A n c, .int .i64 s, .bool t], .bool ok]) ∧ OwnH w' w.heap.size w'.heap.size A n c zs ∧ Below w.heap.size w w'

set_option maxHeartbeats 1000000 in
theorem iRefreshNew_c (banks interval : Int) (w : World) :
    Calls Try.prog 17 #[.int .i64 banks, .int .i64 interval] w (NewRB (newDebt banks interval) (newWait banks interval) false (newOk banks interval) w) := by
  by_cases h1 : inB banks 1 8 = true
  · by_cases h2 : inB interval 2 10000 = true
    · have HD : Hid (newDebt banks interval = List.replicate banks.toNat 0) := by unfold Hid newDebt; rw [if_pos ⟨h1, h2⟩]
      have HW : Hid (newWait banks interval = interval) := by unfold Hid newWait; rw [if_pos ⟨h1, h2⟩]
      have HO : Hid (newOk banks interval = true) := by unfold Hid newOk; rw [h1, h2]; rfl
      obtain ⟨q1, q2⟩ := inB_t h1
      obtain ⟨m, rfl⟩ := Int.eq_ofNat_of_zero_le (show 0 ≤ banks by omega)
      rw [HD.out, HW.out, HO.out, Int.toNat_natCast]
      clear HD HW HO
      obtain ⟨i0, hi0, hz0, hz1, hz2⟩ := info_parts infoInt
      go_enter Try.func17, Try.ntmps17
      go_wp2_with (first | (go_at_call 75; refine (between_c _ _ _ _).mono ?_; rintro e w' ⟨rfl, rfl⟩) | (at_make; refine wpList_make_full _ rfl (.tmp 15) (.tmp 15) 24 rfl (w.heap.size + 1) 3 i0 _ 1 Try.underlying24 hi0 hz0 hz1 .i64 .i64 m m m rfl rfl rfl rfl (by rw [hz2]; omega) (by unfold maxLen; omega) (by simp) ?_; intro w1 ho1 hg1; have r1 := (Box.new w 27 #[.slice none 0 0, .int .i64 0, .bool false]).grown hg1 (by simp); obtain ⟨d0, d1, d2⟩ := r1.c3; have f1 := r1.frozen))
      refine abs_body ?_
      intro W' hW'
      have rr : Box W' w.heap.size 27 #[.slice (some ⟨w.heap.size + 1, 0, none⟩) m m, .int .i64 interval, .bool false] := by
        rw [hW']; exact ((r1.set_ 0 _).set_ 1 _).set_ 2 _
      obtain ⟨z1, z2, z3⟩ := rr.c3
      refine bodyPost_ret (v := .tuple #[.agg #[.slice (some ⟨w.heap.size + 1, 0, none⟩) m m, .int .i64 interval, .bool false], .bool true]) (by simp [results, Try.results17, go_sem, z1, z2, z3]) rfl ?_
      have o1 : OwnI w1 (w.heap.size + 1) (some ⟨w.heap.size + 1, 0, none⟩) m m (List.replicate m 0) := by
        rw [madeI] at ho1
        exact .inl (by simpa using ho1)
      have b1 : Below w.heap.size w w1 := ((Below.refl _ _).alloc (Nat.le_refl _) _).trans ((grown_below hg1).mono (by simp))
      refine ⟨_, _, _, rfl, OwnH.mk' ?_, ?_⟩
      · rw [hW']
        refine OwnI.mono (((o1.setCell _ _ ?_).setCell _ _ ?_).setCell _ _ ?_) (by omega)
        all_goals (intro k hk; have := (o1.lt k hk).1; simp; omega)
      · rw [hW']
        exact ((b1.setCell (by simp) _).setCell (by simp) _).setCell (by simp) _
    · have HD : Hid (newDebt banks interval = []) := by unfold Hid newDebt; rw [if_neg (fun h => h2 h.2)]
      have HW : Hid (newWait banks interval = 0) := by unfold Hid newWait; rw [if_neg (fun h => h2 h.2)]
      have h2' : inB interval 2 10000 = false := by simpa using h2
      have HO : Hid (newOk banks interval = false) := by unfold Hid newOk; rw [h1, h2']; rfl
      clear h2
      rw [HD.out, HW.out, HO.out]
      clear HD HW HO
      go_enter Try.func17, Try.ntmps17
      go_wp2_with (go_at_call 75; refine (between_c _ _ _ _).mono ?_; rintro e w' ⟨rfl, rfl⟩)
      refine bodyPost_ret (v := .tuple #[.agg #[.slice none 0 0, .int .i64 0, .bool false], .bool false]) (by simp [results, Try.results17, go_sem]) rfl ?_
      exact ⟨_, _, _, rfl, OwnH.mk' (OwnI.nil _ _ _), (Below.refl _ _).alloc (Nat.le_refl _) _⟩
  · have HD : Hid (newDebt banks interval = []) := by unfold Hid newDebt; rw [if_neg (fun h => h1 h.1)]
    have HW : Hid (newWait banks interval = 0) := by unfold Hid newWait; rw [if_neg (fun h => h1 h.1)]
    have h1' : inB banks 1 8 = false := by simpa using h1
    have HO : Hid (newOk banks interval = false) := by unfold Hid newOk; rw [h1']; rfl
    clear h1
    rw [HD.out, HW.out, HO.out]
    clear HD HW HO
    go_enter Try.func17, Try.ntmps17
    go_wp2_with (go_at_call 75; refine (between_c _ _ _ _).mono ?_; rintro e w' ⟨rfl, rfl⟩)
    refine bodyPost_ret (v := .tuple #[.agg #[.slice none 0 0, .int .i64 0, .bool false], .bool false]) (by simp [results, Try.results17, go_sem]) rfl ?_
    exact ⟨_, _, _, rfl, OwnH.mk' (OwnI.nil _ _ _), (Below.refl _ _).alloc (Nat.le_refl _) _⟩

set_option maxHeartbeats 1000000 in
theorem sRefreshNew_c (banks interval : Int) (w : World) :
    Calls Try.prog 22 #[.int .i64 banks, .int .i64 interval] w (NewRB (newDebt banks interval) (newWait banks interval) false (newOk banks interval) w) := by
  by_cases h1 : inB banks 1 8 = true
  · by_cases h2 : inB interval 2 10000 = true
    · have HD : Hid (newDebt banks interval = List.replicate banks.toNat 0) := by unfold Hid newDebt; rw [if_pos ⟨h1, h2⟩]
      have HW : Hid (newWait banks interval = interval) := by unfold Hid newWait; rw [if_pos ⟨h1, h2⟩]
      have HO : Hid (newOk banks interval = true) := by unfold Hid newOk; rw [h1, h2]; rfl
      obtain ⟨q1, q2⟩ := inB_t h1
      obtain ⟨m, rfl⟩ := Int.eq_ofNat_of_zero_le (show 0 ≤ banks by omega)
      rw [HD.out, HW.out, HO.out, Int.toNat_natCast]
      clear HD HW HO
      obtain ⟨i0, hi0, hz0, hz1, hz2⟩ := info_parts infoInt
      go_enter Try.func22, Try.ntmps22
      go_wp2_with (first | (go_at_call 77; refine (in_c _ _ _ _).mono ?_; rintro e w' ⟨rfl, rfl⟩) | (at_make; refine wpList_make_full _ rfl (.tmp 15) (.tmp 15) 24 rfl (w.heap.size + 1) 3 i0 _ 1 Try.underlying24 hi0 hz0 hz1 .i64 .i64 m m m rfl rfl rfl rfl (by rw [hz2]; omega) (by unfold maxLen; omega) (by simp) ?_; intro w1 ho1 hg1; have r1 := (Box.new w 27 #[.slice none 0 0, .int .i64 0, .bool false]).grown hg1 (by simp); obtain ⟨d0, d1, d2⟩ := r1.c3; have f1 := r1.frozen))
      refine abs_body ?_
      intro W' hW'
      have rr : Box W' w.heap.size 27 #[.slice (some ⟨w.heap.size + 1, 0, none⟩) m m, .int .i64 interval, .bool false] := by
        rw [hW']; exact ((r1.set_ 0 _).set_ 1 _).set_ 2 _
      obtain ⟨z1, z2, z3⟩ := rr.c3
      refine bodyPost_ret (v := .tuple #[.agg #[.slice (some ⟨w.heap.size + 1, 0, none⟩) m m, .int .i64 interval, .bool false], .bool true]) (by simp [results, Try.results22, go_sem, z1, z2, z3]) rfl ?_
      have o1 : OwnI w1 (w.heap.size + 1) (some ⟨w.heap.size + 1, 0, none⟩) m m (List.replicate m 0) := by
        rw [madeI] at ho1
        exact .inl (by simpa using ho1)
      have b1 : Below w.heap.size w w1 := ((Below.refl _ _).alloc (Nat.le_refl _) _).trans ((grown_below hg1).mono (by simp))
      refine ⟨_, _, _, rfl, OwnH.mk' ?_, ?_⟩
      · rw [hW']
        refine OwnI.mono (((o1.setCell _ _ ?_).setCell _ _ ?_).setCell _ _ ?_) (by omega)
        all_goals (intro k hk; have := (o1.lt k hk).1; simp; omega)
      · rw [hW']
        exact ((b1.setCell (by simp) _).setCell (by simp) _).setCell (by simp) _
    · have HD : Hid (newDebt banks interval = []) := by unfold Hid newDebt; rw [if_neg (fun h => h2 h.2)]
      have HW : Hid (newWait banks interval = 0) := by unfold Hid newWait; rw [if_neg (fun h => h2 h.2)]
      have h2' : inB interval 2 10000 = false := by simpa using h2
      have HO : Hid (newOk banks interval = false) := by unfold Hid newOk; rw [h1, h2']; rfl
      clear h2
      rw [HD.out, HW.out, HO.out]
      clear HD HW HO
      go_enter Try.func22, Try.ntmps22
      go_wp2_with (go_at_call 77; refine (in_c _ _ _ _).mono ?_; rintro e w' ⟨rfl, rfl⟩)
      refine bodyPost_ret (v := .tuple #[.agg #[.slice none 0 0, .int .i64 0, .bool false], .bool false]) (by simp [results, Try.results22, go_sem]) rfl ?_
      exact ⟨_, _, _, rfl, OwnH.mk' (OwnI.nil _ _ _), (Below.refl _ _).alloc (Nat.le_refl _) _⟩
  · have HD : Hid (newDebt banks interval = []) := by unfold Hid newDebt; rw [if_neg (fun h => h1 h.1)]
    have HW : Hid (newWait banks interval = 0) := by unfold Hid newWait; rw [if_neg (fun h => h1 h.1)]
    have h1' : inB banks 1 8 = false := by simpa using h1
    have HO : Hid (newOk banks interval = false) := by unfold Hid newOk; rw [h1']; rfl
    clear h1
    rw [HD.out, HW.out, HO.out]
    clear HD HW HO
    go_enter Try.func22, Try.ntmps22
    go_wp2_with (go_at_call 77; refine (in_c _ _ _ _).mono ?_; rintro e w' ⟨rfl, rfl⟩)
    refine bodyPost_ret (v := .tuple #[.agg #[.slice none 0 0, .int .i64 0, .bool false], .bool false]) (by simp [results, Try.results22, go_sem]) rfl ?_
    exact ⟨_, _, _, rfl, OwnH.mk' (OwnI.nil _ _ _), (Below.refl _ _).alloc (Nat.le_refl _) _⟩
end Go.Proofs.Ytbolpanfgbhbnaa
