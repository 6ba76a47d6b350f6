/-
  Contracts of the reference: LineCount, AddrAt, the commands act and pre, RankOk, Allowed.
-/
import Derived.Test.YtbapamfomfbmmaaRkN
import Derived.Test.YtbapamfomfbmmaaGeo
import Derived.Deep.DeepCutAuto
import Derived.Deep.RegionHeld3
import Derived.BigRegion
namespace Go.Proofs.Ytbapamfomfbmmaa
open Go.RowKit
set_option linter.unusedSimpArgs false
set_option linter.unusedVariables false

def LinesR (x : Int) (w : World) (e : Ending) (w' : World) : Prop := e = .returned (.int .i64 x) ∧ Below w.heap.size w w'
set_option maxRecDepth 100000 in
set_option maxHeartbeats 2000000 in
theorem sLineCount_c (gg gb : Int) (nb R C : Nat) (w : World) (h : geoOk gg gb R C = true) (e : bankCnt gg gb R C = (nb : Int)) (h8 : nb ≤ 8) (h16 : R ≤ 16) (hC : C ≤ 8) :
    Calls Try.prog 25 #[.agg #[.int .i64 gg, .int .i64 gb, .int .i64 (R : Int), .int .i64 (C : Int)]] w (LinesR ((nb * R * C : Nat) : Int) w) := by
  have bel : Below w.heap.size w w := Below.refl _ _
  obtain ⟨M, hM⟩ : ∃ M, nb * R = M := ⟨_, rfl⟩
  obtain ⟨L, hL⟩ : ∃ L, M * C = L := ⟨_, rfl⟩
  have hM2 : M ≤ 128 := by rw [← hM]; exact le_mul8 h8 h16
  have hL2 : L ≤ 1024 := by rw [← hL]; exact Nat.le_trans (Nat.mul_le_mul hM2 hC) (by omega)
  have hw1 : IntKind.i64.wrap ((nb : Int) * (R : Int)) = (M : Int) := by rw [← Int.natCast_mul, hM]; exact IntWalk.i64_in _ (by omega)
  have hw2 : IntKind.i64.wrap ((M : Int) * (C : Int)) = (L : Int) := by rw [← Int.natCast_mul, hL]; exact IntWalk.i64_in _ (by omega)
  have HL : Hid (nb * R * C = L) := by unfold Hid; rw [hM, hL]
  clear hM hL
  go_enter Try.func25, Try.ntmps25
  go_wp2_with fail
  refine abs_call ?_
  intro W hW
  have szW : w.heap.size + 1 ≤ W.heap.size := by rw [hW]; simp [World.setCell]
  have szW_ := bel.size
  replace bel : Below w.heap.size w W := by rw [hW]; exact (bel).alloc (by first | omega | (simp [World.setCell] <;> omega)) _
  have p : Box W w.heap.size 25 #[.int .i64 gg, .int .i64 gb, .int .i64 (R : Int), .int .i64 (C : Int)] := by rw [hW]; exact (Box.newAt (by simp [World.setCell]))
  clear hW
  refine (sGeometryOk_c gg gb R C _).mono ?_
  rintro x w1 ⟨rfl, b1⟩
  rw [h]
  have szw1 := b1.size
  replace bel := bel.trans (b1.mono bel.size)
  replace p := p.kept b1
  clear b1
  obtain ⟨p_0, p_1, p_2, p_3⟩ := p.c4
  have p_lt := p.lt
  go_wp2
  have l0 := later_cell p_lt p_0
  have l1 := later_cell p_lt p_1
  have l2 := later_cell p_lt p_2
  have l3 := later_cell p_lt p_3
  have cB : ∀ z : Later w1, Calls Try.prog 21 #[.agg #[.int .i64 gg, .int .i64 gb, .int .i64 (R : Int), .int .i64 (C : Int)]] z.w fun e w' => e = .returned (.int .i64 (nb : Int)) ∧ Below z.w.heap.size z.w w' := fun z => by
    have h := sBankCount_c gg gb R C z.w
    rw [e] at h
    exact h
  refine wp_region_later (by kernel_rfl) (by kernel_rfl) ?_
  repeat (go_big_quiet_step ((go_at_call 21; exact later_call (cB _))))
  refine wpQuiet_nil ?_
  intro Z hw'
  obtain ⟨z, hw''⟩ := hw'
  have bZ := z.bel
  rw [← hw''] at bZ
  clear hw'' z l0 l1 l2 l3 cB
  clear p_0 p_1 p_2 p_3 p_lt
  have szZ := bZ.size
  replace bel := bel.trans (bZ.mono bel.size)
  replace p := p.kept bZ
  clear bZ
  go_wp2
  go_ret
  exact ⟨ret_int (by rw [HL.out]), bel⟩
set_option maxRecDepth 100000 in
set_option maxHeartbeats 2000000 in
theorem sAddrAt_c (gg gb : Int) (nb R C k : Nat) (w : World) (h : geoOk gg gb R C = true) (e : bankCnt gg gb R C = (nb : Int)) (h8 : nb ≤ 8) (h16 : R ≤ 16) (hC : C ≤ 8) (hR : 0 < R) (hC0 : 0 < C) (hk : k < nb * R * C) :
    Calls Try.prog 24 #[.agg #[.int .i64 gg, .int .i64 gb, .int .i64 (R : Int), .int .i64 (C : Int)], .int .i64 (k : Int)] w fun e w' => e = .returned (.tuple #[.agg #[.int .i64 ((k / C / R : Nat) : Int), .int .i64 ((k / C % R : Nat) : Int), .int .i64 ((k % C : Nat) : Int)], .bool true]) ∧ Below w.heap.size w w' := by
  have bel : Below w.heap.size w w := Below.refl _ _
  have hL2 : nb * R * C ≤ 1024 := Nat.le_trans (Nat.mul_le_mul (le_mul8 h8 h16) hC) (by omega)
  obtain ⟨L, hL⟩ : ∃ L, nb * R * C = L := ⟨_, rfl⟩
  rw [hL] at hk hL2
  have HL := Lib.hid hL
  clear hL
  obtain ⟨x1, p1, r1, s1⟩ : ∃ x : Nat, k / C = x ∧ (k : Int).tdiv (C : Int) = (x : Int) ∧ x ≤ k := ⟨_, rfl, by rw [Int.tdiv_eq_ediv_of_nonneg (by omega)]; rfl, Nat.div_le_self _ _⟩
  obtain ⟨x4, p4, r4, s4⟩ : ∃ x : Nat, k % C = x ∧ (k : Int).tmod (C : Int) = (x : Int) ∧ x < C := ⟨_, rfl, by rw [Int.tmod_eq_emod_of_nonneg (by omega)]; rfl, Nat.mod_lt _ hC0⟩
  obtain ⟨x2, p2, r2, s2⟩ : ∃ x : Nat, x1 / R = x ∧ (x1 : Int).tdiv (R : Int) = (x : Int) ∧ x ≤ x1 := ⟨_, rfl, by rw [Int.tdiv_eq_ediv_of_nonneg (by omega)]; rfl, Nat.div_le_self _ _⟩
  obtain ⟨x3, p3, r3, s3⟩ : ∃ x : Nat, x1 % R = x ∧ (x1 : Int).tmod (R : Int) = (x : Int) ∧ x < R := ⟨_, rfl, by rw [Int.tmod_eq_emod_of_nonneg (by omega)]; rfl, Nat.mod_lt _ hR⟩
  rw [p4, p1, p2, p3]
  clear p1 p2 p3 p4
  have q1 : IntKind.i64.wrap (x1 : Int) = (x1 : Int) := IntWalk.i64_in _ (by omega)
  have q2 : IntKind.i64.wrap (x2 : Int) = (x2 : Int) := IntWalk.i64_in _ (by omega)
  have q3 : IntKind.i64.wrap (x3 : Int) = (x3 : Int) := IntWalk.i64_in _ (by omega)
  have q4 : IntKind.i64.wrap (x4 : Int) = (x4 : Int) := IntWalk.i64_in _ (by omega)
  have R0 : ¬ ((R : Int) = 0) := by omega
  have R00 : ¬ (R = 0) := by omega
  have C0 : ¬ ((C : Int) = 0) := by omega
  have C00 : ¬ (C = 0) := by omega
  go_enter Try.func24, Try.ntmps24
  go_wp2_with fail
  refine abs_call ?_
  intro W hW
  have szW : w.heap.size + 1 + 1 ≤ W.heap.size := by rw [hW]; simp [World.setCell]
  have szW_ := bel.size
  replace bel : Below w.heap.size w W := by rw [hW]; exact ((bel).alloc (by first | omega | (simp [World.setCell] <;> omega)) _).alloc (by first | omega | (simp [World.setCell] <;> omega)) _
  have p : Box W w.heap.size 25 #[.int .i64 gg, .int .i64 gb, .int .i64 (R : Int), .int .i64 (C : Int)] := by rw [hW]; exact ((Box.newAt (by simp [World.setCell]))).alloc _
  have r : Box W (w.heap.size + 1) 38 #[.int .i64 0, .int .i64 0, .int .i64 0] := by rw [hW]; exact (Box.newAt (by simp [World.setCell]))
  clear hW
  refine (sLineCount_c gg gb nb R C _ h e h8 h16 hC).mono ?_
  rintro x w1 ⟨rfl, b1⟩
  rw [HL.out]
  have szw1 := b1.size
  replace bel := bel.trans (b1.mono bel.size)
  replace p := p.kept b1
  replace r := r.kept b1
  clear b1
  go_wp2_with fail
  refine (in_c _ _ _ _).mono ?_
  rintro x w2 ⟨rfl, rfl⟩
  rw [inB_mk (show (0 : Int) ≤ (k : Int) by omega) (show (k : Int) ≤ (L : Int) - 1 by omega)]
  obtain ⟨p_0, p_1, p_2, p_3⟩ := p.c4
  have p_lt := p.lt
  obtain ⟨r_0, r_1, r_2⟩ := r.c3
  have r_lt := r.lt
  have r_f := r.frozen
  go_wp2_with fail
  go_region
  go_wp2
  refine abs_body ?_
  intro W9 hW
  clear p_0 p_1 p_2 p_3 p_lt r_0 r_1 r_2 r_lt r_f
  have szW9 : w1.heap.size ≤ W9.heap.size := by rw [hW]; simp [World.setCell]
  have szW9_ := bel.size
  replace bel : Below w.heap.size w W9 := by rw [hW]; exact (belowN ((((bel).setCell (by dsimp only; omega) _).setCell (by dsimp only; omega) _).setCell (by dsimp only; omega) _) 1)
  replace p : Box W9 w.heap.size 25 #[.int .i64 gg, .int .i64 gb, .int .i64 (R : Int), .int .i64 (C : Int)] := by rw [hW]; exact ((((p).far (by dsimp only; omega) _).far (by dsimp only; omega) _).far (by dsimp only; omega) _).drewN 1
  replace r : Box W9 (w.heap.size + 1) 38 #[.int .i64 (x2 : Int), .int .i64 (x3 : Int), .int .i64 (x4 : Int)] := by rw [hW]; exact ((((r).set_ 0 _).set_ 1 _).set_ 2 _).drewN 1
  clear hW
  obtain ⟨z0, z1, z2⟩ := r.c3
  refine bodyPost_ret (v := .tuple #[.agg #[.int .i64 (x2 : Int), .int .i64 (x3 : Int), .int .i64 (x4 : Int)], .bool true]) (by simp [results, Try.results24, go_sem, z0, z1, z2]) rfl ?_
  exact ⟨rfl, bel⟩
set_option maxHeartbeats 1000000 in
theorem l06Uses_act (w : World) : Calls Try.prog 178 #[.int .i64 1] w fun e w' => e = .returned (.tuple #[.bool true, .bool true, .bool false]) ∧ w = w' := by
  go_enter Try.func178, Try.ntmps178
  go_wp2_with fail
  refine (in_c _ _ _ _).mono ?_
  rintro x w2 ⟨rfl, rfl⟩
  rw [inB_mk (show (1 : Int) ≤ 1 by omega) (show (1 : Int) ≤ 5 by omega)]
  go_wp2
  exact bodyPost_ret (v := .tuple #[.bool true, .bool true, .bool false]) (by simp [results, Try.results178, go_sem]) rfl ⟨rfl, rfl⟩
set_option maxRecDepth 100000 in
set_option maxHeartbeats 2000000 in
theorem l06Form_act (b : Nat) (hb : b ≤ 7) (row : Nat) (hrow : row ≤ 15)  (w : World) : Calls Try.prog 167 #[.agg #[.int .i64 1, .int .i64 (b : Int), .int .i64 (row : Int), .int .i64 0]] w fun e w' => e = .returned (.bool true) ∧ Below w.heap.size w w' := by
  have bel : Below w.heap.size w w := Below.refl _ _
  go_enter Try.func167, Try.ntmps167
  go_wp2_with fail
  refine abs_call ?_
  intro W hW
  have szW : w.heap.size + 1 ≤ W.heap.size := by rw [hW]; simp [World.setCell]
  have szW_ := bel.size
  replace bel : Below w.heap.size w W := by rw [hW]; exact (bel).alloc (by first | omega | (simp [World.setCell] <;> omega)) _
  have p : Box W w.heap.size 48 #[.int .i64 1, .int .i64 (b : Int), .int .i64 (row : Int), .int .i64 0] := by rw [hW]; exact (Box.newAt (by simp [World.setCell]))
  clear hW
  refine (l06Uses_act _).mono ?_
  rintro x w1 ⟨rfl, rfl⟩
  obtain ⟨p_0, p_1, p_2, p_3⟩ := p.c4
  have p_lt := p.lt
  go_wp2_with (go_at_call 70; refine (in_c _ _ _ _).mono ?_; rintro e w' ⟨rfl, rfl⟩; rw [inB_mk (by omega) (by omega)])
  go_ret
  exact ⟨rfl, bel⟩
set_option maxRecDepth 100000 in
set_option maxHeartbeats 2000000 in
theorem sCommandOk_act (gg gb : Int) (nb R C b : Nat) (hb : b < nb) (h8 : nb ≤ 8) (h : geoOk gg gb R C = true) (e : bankCnt gg gb R C = (nb : Int)) (hC : 0 < C) (hR : 0 < R) (row : Nat) (hrow : row < R) (h16 : R ≤ 16) (w : World) :
    Calls Try.prog 134 #[.agg #[.int .i64 gg, .int .i64 gb, .int .i64 (R : Int), .int .i64 (C : Int)], .agg #[.int .i64 1, .int .i64 (b : Int), .int .i64 (row : Int), .int .i64 0]] w fun e w' => e = .returned (.bool true) ∧ Below w.heap.size w w' := by
  have bel : Below w.heap.size w w := Below.refl _ _
  have HA : Hid (addrOk gg gb R C b (row : Int) 0 = true) := by
    unfold Hid addrOk
    rw [h, e, inB_mk (show (0 : Int) ≤ (b : Int) by omega) (show (b : Int) ≤ (nb : Int) - 1 by omega), inB_mk (show (0 : Int) ≤ (row : Int) by omega) (show (row : Int) ≤ (R : Int) - 1 by omega), inB_mk (show (0 : Int) ≤ 0 by omega) (show (0 : Int) ≤ (C : Int) - 1 by omega)]
    rfl
  go_enter Try.func134, Try.ntmps134
  go_wp2_with fail
  refine abs_call ?_
  intro W hW
  have szW : w.heap.size + 1 + 1 ≤ W.heap.size := by rw [hW]; simp [World.setCell]
  have szW_ := bel.size
  replace bel : Below w.heap.size w W := by rw [hW]; exact ((bel).alloc (by first | omega | (simp [World.setCell] <;> omega)) _).alloc (by first | omega | (simp [World.setCell] <;> omega)) _
  have q : Box W w.heap.size 25 #[.int .i64 gg, .int .i64 gb, .int .i64 (R : Int), .int .i64 (C : Int)] := by rw [hW]; exact ((Box.newAt (by simp [World.setCell]))).alloc _
  have p : Box W (w.heap.size + 1) 48 #[.int .i64 1, .int .i64 (b : Int), .int .i64 (row : Int), .int .i64 0] := by rw [hW]; exact (Box.newAt (by simp [World.setCell]))
  clear hW
  refine (l06Form_act b (by omega) row (by omega) _).mono ?_
  rintro x w1 ⟨rfl, b1⟩
  have szw1 := b1.size
  replace bel := bel.trans (b1.mono bel.size)
  replace q := q.kept b1
  replace p := p.kept b1
  clear b1
  obtain ⟨p_0, p_1, p_2, p_3⟩ := p.c4
  have p_lt := p.lt
  obtain ⟨q_0, q_1, q_2, q_3⟩ := q.c4
  have q_lt := q.lt
  go_wp2_with fail
  refine (sAddrOk_c gg gb R C b (row : Int) 0 _).mono ?_
  rintro x w2 ⟨rfl, b2⟩
  rw [HA.out]
  clear p_0 p_1 p_2 p_3 p_lt q_0 q_1 q_2 q_3 q_lt
  have szw2 := b2.size
  replace bel := bel.trans (b2.mono bel.size)
  replace q := q.kept b2
  replace p := p.kept b2
  clear b2
  go_wp2
  go_ret
  exact ⟨rfl, bel⟩
set_option maxRecDepth 100000 in
set_option maxHeartbeats 2000000 in
theorem l08May_act (A : Option Addr) (n c : Nat) (ks : List Bnk) (b : Nat) (row : Nat) (row0 : Int) (w : World) (hA : Bnks w A n ks) (hn : n ≤ 1048576) (hk : ks[b]? = some ⟨false, row0⟩) :
    Calls Try.prog 135 #[.agg #[.slice A n c, .int .i64 0], .agg #[.int .i64 1, .int .i64 (b : Int), .int .i64 (row : Int), .int .i64 0]] w fun e w' => e = .returned (.bool true) ∧ Below w.heap.size w w' := by
  have hbn : b < n := by have := hA.len; have := (List.getElem?_eq_some_iff.1 hk).1; omega
  obtain ⟨g, o, opn, row9, rfl, hg, z0, z1, hz⟩ := hA.at_ hbn
  have he := hz.out.symm.trans hk
  injection he with he
  injection he with he0 he1
  subst he0 he1
  have hg1 : g < w.heap.size + 1 := by omega
  have hg2 : g < w.heap.size + 1 + 1 := by omega
  have i0 : (0 : Int) ≤ (b : Int) := by omega
  have i1 : (b : Int) < (n : Int) := by omega
  clear hz hk hA
  go_enter Try.func135, Try.ntmps135
  go_wp2
  go_ret
  exact ⟨rfl, ((Below.refl _ _).alloc (Nat.le_refl _) _).alloc (by simp) _⟩
set_option maxHeartbeats 1000000 in
theorem l06Uses_pre (w : World) : Calls Try.prog 178 #[.int .i64 4] w fun e w' => e = .returned (.tuple #[.bool true, .bool false, .bool false]) ∧ w = w' := by
  go_enter Try.func178, Try.ntmps178
  go_wp2_with fail
  refine (in_c _ _ _ _).mono ?_
  rintro x w2 ⟨rfl, rfl⟩
  rw [inB_mk (show (1 : Int) ≤ 4 by omega) (show (4 : Int) ≤ 5 by omega)]
  go_wp2
  exact bodyPost_ret (v := .tuple #[.bool true, .bool false, .bool false]) (by simp [results, Try.results178, go_sem]) rfl ⟨rfl, rfl⟩
set_option maxRecDepth 100000 in
set_option maxHeartbeats 2000000 in
theorem l06Form_pre (b : Nat) (hb : b ≤ 7)  (w : World) : Calls Try.prog 167 #[.agg #[.int .i64 4, .int .i64 (b : Int), .int .i64 0, .int .i64 0]] w fun e w' => e = .returned (.bool true) ∧ Below w.heap.size w w' := by
  have bel : Below w.heap.size w w := Below.refl _ _
  go_enter Try.func167, Try.ntmps167
  go_wp2_with fail
  refine abs_call ?_
  intro W hW
  have szW : w.heap.size + 1 ≤ W.heap.size := by rw [hW]; simp [World.setCell]
  have szW_ := bel.size
  replace bel : Below w.heap.size w W := by rw [hW]; exact (bel).alloc (by first | omega | (simp [World.setCell] <;> omega)) _
  have p : Box W w.heap.size 48 #[.int .i64 4, .int .i64 (b : Int), .int .i64 0, .int .i64 0] := by rw [hW]; exact (Box.newAt (by simp [World.setCell]))
  clear hW
  refine (l06Uses_pre _).mono ?_
  rintro x w1 ⟨rfl, rfl⟩
  obtain ⟨p_0, p_1, p_2, p_3⟩ := p.c4
  have p_lt := p.lt
  go_wp2_with (go_at_call 70; refine (in_c _ _ _ _).mono ?_; rintro e w' ⟨rfl, rfl⟩; rw [inB_mk (by omega) (by omega)])
  go_ret
  exact ⟨rfl, bel⟩
set_option maxRecDepth 100000 in
set_option maxHeartbeats 2000000 in
theorem sCommandOk_pre (gg gb : Int) (nb R C b : Nat) (hb : b < nb) (h8 : nb ≤ 8) (h : geoOk gg gb R C = true) (e : bankCnt gg gb R C = (nb : Int)) (hC : 0 < C) (hR : 0 < R)  (w : World) :
    Calls Try.prog 134 #[.agg #[.int .i64 gg, .int .i64 gb, .int .i64 (R : Int), .int .i64 (C : Int)], .agg #[.int .i64 4, .int .i64 (b : Int), .int .i64 0, .int .i64 0]] w fun e w' => e = .returned (.bool true) ∧ Below w.heap.size w w' := by
  have bel : Below w.heap.size w w := Below.refl _ _
  have HA : Hid (addrOk gg gb R C b 0 0 = true) := by
    unfold Hid addrOk
    rw [h, e, inB_mk (show (0 : Int) ≤ (b : Int) by omega) (show (b : Int) ≤ (nb : Int) - 1 by omega), inB_mk (show (0 : Int) ≤ 0 by omega) (show 0 ≤ (R : Int) - 1 by omega), inB_mk (show (0 : Int) ≤ 0 by omega) (show (0 : Int) ≤ (C : Int) - 1 by omega)]
    rfl
  go_enter Try.func134, Try.ntmps134
  go_wp2_with fail
  refine abs_call ?_
  intro W hW
  have szW : w.heap.size + 1 + 1 ≤ W.heap.size := by rw [hW]; simp [World.setCell]
  have szW_ := bel.size
  replace bel : Below w.heap.size w W := by rw [hW]; exact ((bel).alloc (by first | omega | (simp [World.setCell] <;> omega)) _).alloc (by first | omega | (simp [World.setCell] <;> omega)) _
  have q : Box W w.heap.size 25 #[.int .i64 gg, .int .i64 gb, .int .i64 (R : Int), .int .i64 (C : Int)] := by rw [hW]; exact ((Box.newAt (by simp [World.setCell]))).alloc _
  have p : Box W (w.heap.size + 1) 48 #[.int .i64 4, .int .i64 (b : Int), .int .i64 0, .int .i64 0] := by rw [hW]; exact (Box.newAt (by simp [World.setCell]))
  clear hW
  refine (l06Form_pre b (by omega)  _).mono ?_
  rintro x w1 ⟨rfl, b1⟩
  have szw1 := b1.size
  replace bel := bel.trans (b1.mono bel.size)
  replace q := q.kept b1
  replace p := p.kept b1
  clear b1
  obtain ⟨p_0, p_1, p_2, p_3⟩ := p.c4
  have p_lt := p.lt
  obtain ⟨q_0, q_1, q_2, q_3⟩ := q.c4
  have q_lt := q.lt
  go_wp2_with fail
  refine (sAddrOk_c gg gb R C b 0 0 _).mono ?_
  rintro x w2 ⟨rfl, b2⟩
  rw [HA.out]
  clear p_0 p_1 p_2 p_3 p_lt q_0 q_1 q_2 q_3 q_lt
  have szw2 := b2.size
  replace bel := bel.trans (b2.mono bel.size)
  replace q := q.kept b2
  replace p := p.kept b2
  clear b2
  go_wp2
  go_ret
  exact ⟨rfl, bel⟩
set_option maxRecDepth 100000 in
set_option maxHeartbeats 2000000 in
theorem l08May_pre (A : Option Addr) (n c : Nat) (ks : List Bnk) (b : Nat)  (row0 : Int) (w : World) (hA : Bnks w A n ks) (hn : n ≤ 1048576) (hk : ks[b]? = some ⟨true, row0⟩) :
    Calls Try.prog 135 #[.agg #[.slice A n c, .int .i64 0], .agg #[.int .i64 4, .int .i64 (b : Int), .int .i64 0, .int .i64 0]] w fun e w' => e = .returned (.bool true) ∧ Below w.heap.size w w' := by
  have hbn : b < n := by have := hA.len; have := (List.getElem?_eq_some_iff.1 hk).1; omega
  obtain ⟨g, o, opn, row9, rfl, hg, z0, z1, hz⟩ := hA.at_ hbn
  have he := hz.out.symm.trans hk
  injection he with he
  injection he with he0 he1
  subst he0 he1
  have hg1 : g < w.heap.size + 1 := by omega
  have hg2 : g < w.heap.size + 1 + 1 := by omega
  have i0 : (0 : Int) ≤ (b : Int) := by omega
  have i1 : (b : Int) < (n : Int) := by omega
  clear hz hk hA
  go_enter Try.func135, Try.ntmps135
  go_wp2
  go_ret
  exact ⟨rfl, ((Below.refl _ _).alloc (Nat.le_refl _) _).alloc (by simp) _⟩

def rkOk (R : Nat) (ks : List Bnk) : Prop := ∀ r ∈ ks, (0 ≤ r.row ∧ r.row ≤ (R : Int) - 1) ∧ (r.opn = false → r.row = 0)
set_option maxRecDepth 100000 in
set_option maxHeartbeats 4000000 in
theorem sRankOk_c (gg gb : Int) (nb R C : Nat) (A : Option Addr) (c : Nat) (ks : List Bnk) (w : World) (h : geoOk gg gb R C = true) (e : bankCnt gg gb R C = (nb : Int)) (h8 : nb ≤ 8) (h16 : R ≤ 16) (hA : Bnks w A nb ks) (hk : rkOk R ks) :
    Calls Try.prog 133 #[.agg #[.int .i64 gg, .int .i64 gb, .int .i64 (R : Int), .int .i64 (C : Int)], .agg #[.slice A nb c, .int .i64 0]] w fun e w' => e = .returned (.bool true) ∧ Below w.heap.size w w' := by
  have bel : Below w.heap.size w w := Below.refl _ _
  go_enter Try.func133, Try.ntmps133
  go_wp2
  refine abs_code ?_
  intro W hW
  have szW : w.heap.size + 1 + 1 ≤ W.heap.size := by rw [hW]; simp [World.setCell]
  have szW_ := bel.size
  replace bel : Below w.heap.size w W := by rw [hW]; exact ((bel).alloc (by first | omega | (simp [World.setCell] <;> omega)) _).alloc (by first | omega | (simp [World.setCell] <;> omega)) _
  have q : Box W w.heap.size 25 #[.int .i64 gg, .int .i64 gb, .int .i64 (R : Int), .int .i64 (C : Int)] := by rw [hW]; exact ((Box.newAt (by simp [World.setCell]))).alloc _
  have p : Box W (w.heap.size + 1) 43 #[.slice A nb c, .int .i64 0] := by rw [hW]; exact (Box.newAt (by simp [World.setCell]))
  clear hW
  have hB := hA.below bel
  obtain ⟨p_0, p_1⟩ := p.c2
  have p_lt := p.lt
  obtain ⟨q_0, q_1, q_2, q_3⟩ := q.c4
  have q_lt := q.lt
  have t1 : ((nb : Int) != (nb : Int)) = false := by simp
  have l0 := later_cell q_lt q_0
  have l1 := later_cell q_lt q_1
  have l2 := later_cell q_lt q_2
  have l3 := later_cell q_lt q_3
  have m0 := later_cell p_lt p_0
  have m1 := later_cell p_lt p_1
  have cG : ∀ z : Later W, Calls Try.prog 79 #[.agg #[.int .i64 gg, .int .i64 gb, .int .i64 (R : Int), .int .i64 (C : Int)]] z.w fun e w' => e = .returned (.bool true) ∧ Below z.w.heap.size z.w w' := fun z => by
    have h' := sGeometryOk_c gg gb R C z.w
    rw [h] at h'
    exact h'
  have cB : ∀ z : Later W, Calls Try.prog 21 #[.agg #[.int .i64 gg, .int .i64 gb, .int .i64 (R : Int), .int .i64 (C : Int)]] z.w fun e w' => e = .returned (.int .i64 (nb : Int)) ∧ Below z.w.heap.size z.w w' := fun z => by
    have h := sBankCount_c gg gb R C z.w
    rw [e] at h
    exact h
  have cI : ∀ z : Later W, Calls Try.prog 70 #[.int .i64 0, .int .i64 0, .int .i64 2] z.w fun e w' => e = .returned (.bool true) ∧ Below z.w.heap.size z.w w' := fun z => (in_c 0 0 2 z.w).mono fun e w' ⟨h1, h2⟩ => ⟨by rw [h1, inB_mk (by omega) (by omega)], by rw [← h2]; exact Below.refl _ _⟩
  refine wp_region_later (by kernel_rfl) (by kernel_rfl) ?_
  repeat (go_big_quiet_step ((first | (go_at_call 79; exact later_call (cG _)) | (go_at_call 21; exact later_call (cB _)) | (go_at_call 70; exact later_call (cI _)))))
  refine wpQuiet_nil ?_
  intro Z hw'
  obtain ⟨z, hw''⟩ := hw'
  have bZ := z.bel
  rw [← hw''] at bZ
  clear hw'' z l0 l1 l2 l3 m0 m1 cG cB cI
  replace hB := hB.below bZ
  clear p_0 p_1 p_lt q_0 q_1 q_2 q_3 q_lt
  have szZ := bZ.size
  replace bel := bel.trans (bZ.mono bel.size)
  replace q := q.kept bZ
  replace p := p.kept bZ
  clear bZ
  go_wp2
  go_loopw [5] (fun i wr => ∃ k : Nat, k ≤ nb ∧ i = .int .i64 k ∧ Below w.heap.size w wr ∧ Box wr w.heap.size 25 #[.int .i64 gg, .int .i64 gb, .int .i64 (R : Int), .int .i64 (C : Int)] ∧ Box wr (w.heap.size + 1) 43 #[.slice A nb c, .int .i64 0] ∧ Bnks wr A nb ks) (fun i _ => nb - (intOf i).toNat)
  case atStart => exact ⟨0, Nat.zero_le _, rfl, bel, q, p, hB⟩
  case round =>
    clear bel q p hB
    obtain ⟨k, hk', rfl, bel, q, p, hB⟩ := hrel
    by_cases hlt : k < nb
    · obtain ⟨g, o, opn, row9, rfl, hg, z0, z1, hz⟩ := hB.at_ hlt
      have hr := hk ⟨opn, row9⟩ (List.mem_of_getElem? hz.out)
      obtain ⟨⟨hr0, hr1⟩, hr2⟩ := hr
      dsimp only at hr0 hr1 hr2
      have i0 : (0 : Int) ≤ (k : Int) := by omega
      have i1 : (k : Int) < (nb : Int) := by omega
      obtain ⟨p_0, p_1⟩ := p.c2
      have p_lt := p.lt
      obtain ⟨q_0, q_1, q_2, q_3⟩ := q.c4
      have q_lt := q.lt
      go_wp2_with fail
      refine (in_c _ _ _ _).mono ?_
      rintro x w2 ⟨rfl, rfl⟩
      rw [inB_mk hr0 hr1]
      cases opn
      · obtain rfl := hr2 rfl
        go_wp2
        go_roundw
        case rel => exact ⟨k + 1, by omega, by go_num, bel.alloc bel.size _, q.alloc _, p.alloc _, hB.below ((Below.refl _ _).alloc (Nat.le_refl _) _)⟩
        case measure => simp [intOf]; omega
      · go_wp2
        go_roundw
        case rel => exact ⟨k + 1, by omega, by go_num, bel.alloc bel.size _, q.alloc _, p.alloc _, hB.below ((Below.refl _ _).alloc (Nat.le_refl _) _)⟩
        case measure => simp [intOf]; omega
    · skip
      obtain rfl : nb = k := by omega
      obtain ⟨p_0, p_1⟩ := p.c2
      have p_lt := p.lt
      obtain ⟨q_0, q_1, q_2, q_3⟩ := q.c4
      have q_lt := q.lt
      go_wp2
      go_ret
      exact ⟨rfl, bel⟩
end Go.Proofs.Ytbapamfomfbmmaa
