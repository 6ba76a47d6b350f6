/-
  Arrays in order: ArrayOk, LineCount, in the reference and in the program.
-/
import Derived.Test.YtbapamfomfbmmaaSenA
import Derived.Test.YtbapamfomfbmmaaNeA
import Derived.Deep.DeepCutAuto
import Derived.Deep.RegionHeld3
namespace Go.Proofs.Ytbapamfomfbmmaa
open Go.RowKit
set_option linter.unusedSimpArgs false
set_option linter.unusedVariables false

def ageF (z : Int) : Bool := inB z 0 100000
def celF (v : CV) : Bool := symOkN v.1 11
/-- A valid array. -/
def arrOk (gg gb gr gc : Int) (vs : List CV) (ag ht : List Int) : Bool :=
  geoOk gg gb gr gc && (decide ((vs.length : Int) = bankCnt gg gb gr gc * gr * gc) && (decide ((ag.length : Int) = bankCnt gg gb gr gc * gr) && (decide ((ht.length : Int) = bankCnt gg gb gr gc * gr) && (vs.all celF && (ag.all ageF && ht.all ageF)))))
theorem arrOk_geo {gg gb gr gc : Int} {vs : List CV} {ag ht : List Int} (h : geoOk gg gb gr gc = false) : arrOk gg gb gr gc vs ag ht = false := by unfold arrOk; rw [h]; rfl
theorem arrOk_len {gg gb : Int} {nb R C : Nat} {vs : List CV} {ag ht : List Int} (e : bankCnt gg gb R C = (nb : Int)) (h : vs.length ≠ nb * R * C ∨ ag.length ≠ nb * R ∨ ht.length ≠ nb * R) : arrOk gg gb R C vs ag ht = false := by
  unfold arrOk
  rw [e]
  have e1 : (nb : Int) * (R : Int) = ((nb * R : Nat) : Int) := by simp
  have e2 : ((nb * R : Nat) : Int) * (C : Int) = ((nb * R * C : Nat) : Int) := by simp
  rw [e1, e2]
  cases geoOk gg gb R C
  · rfl
  · rcases h with h | h | h
    · rw [show decide ((vs.length : Int) = ((nb * R * C : Nat) : Int)) = false from decide_eq_false (fun e => h (by exact_mod_cast e))]; rfl
    · rw [show decide ((ag.length : Int) = ((nb * R : Nat) : Int)) = false from decide_eq_false (fun e => h (by exact_mod_cast e))]; simp
    · rw [show decide ((ht.length : Int) = ((nb * R : Nat) : Int)) = false from decide_eq_false (fun e => h (by exact_mod_cast e))]; simp
theorem arrOk_all {gg gb : Int} {nb R C : Nat} {vs : List CV} {ag ht : List Int} (hg : geoOk gg gb R C = true) (e : bankCnt gg gb R C = (nb : Int)) (h1 : vs.length = nb * R * C) (h2 : ag.length = nb * R) (h3 : ht.length = nb * R) : arrOk gg gb R C vs ag ht = (vs.all celF && (ag.all ageF && ht.all ageF)) := by
  unfold arrOk
  rw [hg, e]
  have e1 : (nb : Int) * (R : Int) = ((nb * R : Nat) : Int) := by simp
  have e2 : ((nb * R : Nat) : Int) * (C : Int) = ((nb * R * C : Nat) : Int) := by simp
  rw [e1, e2, h1, h2, h3]
  simp
/-- A valid array's numbers. -/
theorem arrOk_parts {gg gb gr gc : Int} {vs : List CV} {ag ht : List Int} (h : arrOk gg gb gr gc vs ag ht = true) : ∃ nb R C : Nat, gr = (R : Int) ∧ gc = (C : Int) ∧ geoOk gg gb R C = true ∧ bankCnt gg gb R C = (nb : Int) ∧ 1 ≤ nb ∧ nb ≤ 8 ∧ 2 ≤ R ∧ R ≤ 16 ∧ 1 ≤ C ∧ C ≤ 8 ∧ vs.length = nb * R * C ∧ ag.length = nb * R ∧ ht.length = nb * R ∧ vs.all celF = true ∧ ag.all ageF = true ∧ ht.all ageF = true := by
  unfold arrOk at h
  simp only [Bool.and_eq_true, decide_eq_true_eq] at h
  obtain ⟨hg, h1, h2, h3, h4, h5, h6⟩ := h
  obtain ⟨-, -, ⟨r1, r2⟩, ⟨c1, c2⟩⟩ := geo_parts hg
  have b1 := bankCnt_bd gg gb gr gc
  have b2 := bankCnt_pos hg
  obtain ⟨nb, enb⟩ := Int.eq_ofNat_of_zero_le b1.1
  obtain ⟨R, hR⟩ := Int.eq_ofNat_of_zero_le (show 0 ≤ gr by omega)
  obtain ⟨C, hC⟩ := Int.eq_ofNat_of_zero_le (show 0 ≤ gc by omega)
  subst hR hC
  rw [enb] at h1 h2 h3
  rw [← Int.natCast_mul] at h1 h2 h3
  rw [← Int.natCast_mul] at h1
  exact ⟨nb, R, C, rfl, rfl, hg, enb, by omega, by omega, by omega, by omega, by omega, by omega, by exact_mod_cast h1, by exact_mod_cast h2, by exact_mod_cast h3, h4, h5, h6⟩
set_option maxHeartbeats 2000000 in
theorem iLineCount_c (gg gb : Int) (nb R C : Nat) (w : World) (e : bankCnt gg gb R C = (nb : Int)) (h8 : nb ≤ 8) (h16 : R ≤ 16) (hC : C ≤ 8) :
    Calls Try.prog 120 #[.agg #[.int .i64 gg, .int .i64 gb, .int .i64 (R : Int), .int .i64 (C : Int)]] w (LinesR ((nb * R * C : Nat) : Int) w) := by
  have bel : Below w.heap.size w w := Below.refl _ _
  obtain ⟨M, hM⟩ : ∃ M, nb * R = M := ⟨_, rfl⟩
  obtain ⟨L, hL⟩ : ∃ L, M * C = L := ⟨_, rfl⟩
  have hM2 : M ≤ 128 := by rw [← hM]; exact le_mul8 h8 h16
  have hL2 : L ≤ 1024 := by rw [← hL]; exact Nat.le_trans (Nat.mul_le_mul hM2 hC) (by omega)
  have hw1 : IntKind.i64.wrap ((nb : Int) * (R : Int)) = (M : Int) := by rw [← Int.natCast_mul, hM]; exact IntWalk.i64_in _ (by omega)
  have hw2 : IntKind.i64.wrap ((M : Int) * (C : Int)) = (L : Int) := by rw [← Int.natCast_mul, hL]; exact IntWalk.i64_in _ (by omega)
  have HL : Hid (nb * R * C = L) := by unfold Hid; rw [hM, hL]
  clear hM hL
  go_enter Try.func120, Try.ntmps120
  go_wp2_with fail
  refine abs_code ?_
  intro W hW
  have szW : w.heap.size + 1 ≤ W.heap.size := by rw [hW]; simp [World.setCell]
  have szW_ := bel.size
  replace bel : Below w.heap.size w W := by rw [hW]; exact (bel).alloc (by first | omega | (simp [World.setCell] <;> omega)) _
  have p : Box W w.heap.size 25 #[.int .i64 gg, .int .i64 gb, .int .i64 (R : Int), .int .i64 (C : Int)] := by rw [hW]; exact (Box.newAt (by simp [World.setCell]))
  clear hW
  obtain ⟨p_0, p_1, p_2, p_3⟩ := p.c4
  have p_lt := p.lt
  have l0 := later_cell p_lt p_0
  have l1 := later_cell p_lt p_1
  have l2 := later_cell p_lt p_2
  have l3 := later_cell p_lt p_3
  have cB : ∀ z : Later W, Calls Try.prog 73 #[.agg #[.int .i64 gg, .int .i64 gb, .int .i64 (R : Int), .int .i64 (C : Int)]] z.w fun e w' => e = .returned (.int .i64 (nb : Int)) ∧ Below z.w.heap.size z.w w' := fun z => by
    have h := iBankCount_c gg gb R C z.w
    rw [e] at h
    exact h
  refine wp_region_later (by kernel_rfl) (by kernel_rfl) ?_
  repeat (go_big_quiet_step ((go_at_call 73; exact later_call (cB _))))
  refine wpQuiet_nil ?_
  intro Z hw'
  obtain ⟨z, hw''⟩ := hw'
  have bZ := z.bel
  rw [← hw''] at bZ
  clear hw'' z l0 l1 l2 l3 cB
  clear p_0 p_1 p_2 p_3 p_lt
  have szZ := bZ.size
  replace bel := bel.trans (bZ.mono bel.size)
  replace p := p.kept bZ
  clear bZ
  go_wp2
  go_ret
  exact ⟨ret_int (by rw [HL.out]), bel⟩
set_option maxRecDepth 100000 in
set_option maxHeartbeats 16000000 in
theorem sArrayOk_c (gg gb gr gc : Int) (A : Option Addr) (n c : Nat) (B : Option Addr) (m d : Nat) (D : Option Addr) (p q : Nat) (vs : List CV) (ag ht : List Int) (w : World) (hA : Cs w A n vs) (hB : Ints w B m ag) (hD : Ints w D p ht) (hn : csz vs ≤ 1048576) (hm : m ≤ 1048576) (hp : p ≤ 1048576) :
    Calls Try.prog 108 #[.agg #[.int .i64 gg, .int .i64 gb, .int .i64 gr, .int .i64 gc], .agg #[.slice A n c, .slice B m d, .slice D p q]] w fun e w' => e = .returned (.bool (arrOk gg gb gr gc vs ag ht)) ∧ Below w.heap.size w w' := by
  have bel : Below w.heap.size w w := Below.refl _ _
  have hlA := Lib.hid hA.len
  have hlB := Lib.hid hB.1
  have hlD := Lib.hid hD.1
  have hn1 : n ≤ 1048576 := by have := hA.len; have := csz_len vs; omega
  by_cases hg : geoOk gg gb gr gc = true
  case neg =>
    have hg' : geoOk gg gb gr gc = false := by simpa using hg
    have HR := Lib.hid (arrOk_geo (vs := vs) (ag := ag) (ht := ht) hg')
    have e0 : IntKind.i64.wrap ((0 : Int) * gr) = 0 := by rw [Int.zero_mul]; exact IntWalk.i64_in _ (by omega)
    have HB0 := Lib.hid (bankCnt_no hg')
    go_enter Try.func108, Try.ntmps108
    go_wp2_with fail
    refine abs_code ?_
    intro W hW
    have szW : w.heap.size + 1 + 1 ≤ W.heap.size := by rw [hW]; simp [World.setCell]
    have szW_ := bel.size
    replace bel : Below w.heap.size w W := by rw [hW]; exact ((bel).alloc (by first | omega | (simp [World.setCell] <;> omega)) _).alloc (by first | omega | (simp [World.setCell] <;> omega)) _
    have gq : Box W w.heap.size 25 #[.int .i64 gg, .int .i64 gb, .int .i64 gr, .int .i64 gc] := by rw [hW]; exact ((Box.newAt (by simp [World.setCell]))).alloc _
    have x : Box W (w.heap.size + 1) 87 #[.slice A n c, .slice B m d, .slice D p q] := by rw [hW]; exact (Box.newAt (by simp [World.setCell]))
    clear hW
    obtain ⟨gq_0, gq_1, gq_2, gq_3⟩ := gq.c4
    have gq_lt := gq.lt
    obtain ⟨x_0, x_1, x_2⟩ := x.c3
    have x_lt := x.lt
    have l0 := later_cell gq_lt gq_0
    have l1 := later_cell gq_lt gq_1
    have l2 := later_cell gq_lt gq_2
    have l3 := later_cell gq_lt gq_3
    have m0 := later_cell x_lt x_0
    have m1 := later_cell x_lt x_1
    have m2 := later_cell x_lt x_2
    have cG : ∀ z : Later W, Calls Try.prog 79 #[.agg #[.int .i64 gg, .int .i64 gb, .int .i64 gr, .int .i64 gc]] z.w fun e w' => e = .returned (.bool false) ∧ Below z.w.heap.size z.w w' := fun z => by
      have h := sGeometryOk_c gg gb gr gc z.w
      rw [hg'] at h
      exact h
    have cB : ∀ z : Later W, Calls Try.prog 21 #[.agg #[.int .i64 gg, .int .i64 gb, .int .i64 gr, .int .i64 gc]] z.w fun e w' => e = .returned (.int .i64 0) ∧ Below z.w.heap.size z.w w' := fun z => by
      have h := sBankCount_c gg gb gr gc z.w
      rw [HB0.out] at h
      exact h
    refine wp_region_later (by kernel_rfl) (by kernel_rfl) ?_
    repeat (go_big_quiet_step ((first | (go_at_call 79; exact later_call (cG _)) | (go_at_call 21; exact later_call (cB _)))))
    refine wpQuiet_nil ?_
    intro ZZ hw'
    obtain ⟨z, hw''⟩ := hw'
    have bZ := z.bel
    rw [← hw''] at bZ
    clear hw'' z
    clear l0 l1 l2 l3 m0 m1 m2 cG cB
    clear gq_0 gq_1 gq_2 gq_3 gq_lt x_0 x_1 x_2 x_lt
    have szZZ := bZ.size
    replace bel := bel.trans (bZ.mono bel.size)
    replace gq := gq.kept bZ
    replace x := x.kept bZ
    clear bZ
    go_wp2
    go_ret
    exact ⟨ret_bool HR.out.symm, bel⟩
  obtain ⟨-, -, ⟨r1, r2⟩, ⟨c1, c2⟩⟩ := geo_parts hg
  have b1 := bankCnt_bd gg gb gr gc
  have b2 := bankCnt_pos hg
  obtain ⟨nb, enb⟩ := Int.eq_ofNat_of_zero_le b1.1
  obtain ⟨R, hR⟩ := Int.eq_ofNat_of_zero_le (show 0 ≤ gr by omega)
  obtain ⟨C, hC⟩ := Int.eq_ofNat_of_zero_le (show 0 ≤ gc by omega)
  subst hR hC
  have nb8 : nb ≤ 8 := by omega
  have R16 : R ≤ 16 := by omega
  have C8 : C ≤ 8 := by omega
  obtain ⟨M, hM⟩ : ∃ M, nb * R = M := ⟨_, rfl⟩
  obtain ⟨L, hL⟩ : ∃ L, nb * R * C = L := ⟨_, rfl⟩
  have hM2 : M ≤ 128 := by rw [← hM]; exact le_mul8 nb8 R16
  have hL2 : L ≤ 1024 := by rw [← hL, hM]; exact Nat.le_trans (Nat.mul_le_mul hM2 C8) (by omega)
  have hw1 : IntKind.i64.wrap ((nb : Int) * (R : Int)) = (M : Int) := by rw [← Int.natCast_mul, hM]; exact IntWalk.i64_in _ (by omega)
  have HG := Lib.hid hg
  have HNB := Lib.hid enb
  have HM := Lib.hid hM
  have HL := Lib.hid hL
  clear hg enb hM hL b1 b2 r1 r2 c1 c2
  go_enter Try.func108, Try.ntmps108
  go_wp2_with fail
  refine abs_code ?_
  intro W hW
  have szW : w.heap.size + 1 + 1 ≤ W.heap.size := by rw [hW]; simp [World.setCell]
  have szW_ := bel.size
  replace bel : Below w.heap.size w W := by rw [hW]; exact ((bel).alloc (by first | omega | (simp [World.setCell] <;> omega)) _).alloc (by first | omega | (simp [World.setCell] <;> omega)) _
  replace gq : Box W w.heap.size 25 #[.int .i64 gg, .int .i64 gb, .int .i64 (R : Int), .int .i64 (C : Int)] := by rw [hW]; exact ((Box.newAt (by simp [World.setCell]))).alloc _
  replace x : Box W (w.heap.size + 1) 87 #[.slice A n c, .slice B m d, .slice D p q] := by rw [hW]; exact (Box.newAt (by simp [World.setCell]))
  clear hW
  obtain ⟨gq_0, gq_1, gq_2, gq_3⟩ := gq.c4
  have gq_lt := gq.lt
  obtain ⟨x_0, x_1, x_2⟩ := x.c3
  have x_lt := x.lt
  have l0 := later_cell gq_lt gq_0
  have l1 := later_cell gq_lt gq_1
  have l2 := later_cell gq_lt gq_2
  have l3 := later_cell gq_lt gq_3
  have m0 := later_cell x_lt x_0
  have m1 := later_cell x_lt x_1
  have m2 := later_cell x_lt x_2
  have cG : ∀ z : Later W, Calls Try.prog 79 #[.agg #[.int .i64 gg, .int .i64 gb, .int .i64 (R : Int), .int .i64 (C : Int)]] z.w fun e w' => e = .returned (.bool true) ∧ Below z.w.heap.size z.w w' := fun z => by
    have h := sGeometryOk_c gg gb R C z.w
    rw [HG.out] at h
    exact h
  have cB : ∀ z : Later W, Calls Try.prog 21 #[.agg #[.int .i64 gg, .int .i64 gb, .int .i64 (R : Int), .int .i64 (C : Int)]] z.w fun e w' => e = .returned (.int .i64 (nb : Int)) ∧ Below z.w.heap.size z.w w' := fun z => by
    have h := sBankCount_c gg gb R C z.w
    rw [HNB.out] at h
    exact h
  have cL : ∀ z : Later W, Calls Try.prog 25 #[.agg #[.int .i64 gg, .int .i64 gb, .int .i64 (R : Int), .int .i64 (C : Int)]] z.w fun e w' => e = .returned (.int .i64 (L : Int)) ∧ Below z.w.heap.size z.w w' := fun z => by
    have h := sLineCount_c gg gb nb R C z.w HG.out HNB.out nb8 R16 C8
    rw [HL.out] at h
    exact h
  have hBB : True := trivial
  by_cases k1 : n = L
  case neg =>
    have HR := Lib.hid (arrOk_len (vs := vs) (ag := ag) (ht := ht) HNB.out (.inl (by rw [hlA.out, HL.out]; exact k1)))
    have t1 : ((n : Int) != (L : Int)) = true := by simp; omega
    refine wp_region_later (by kernel_rfl) (by kernel_rfl) ?_
    repeat (go_big_quiet_step ((first | (go_at_call 79; exact later_call (cG _)) | (go_at_call 25; exact later_call (cL _)) | (go_at_call 21; exact later_call (cB _)))))
    refine wpQuiet_nil ?_
    intro ZZ hw'
    obtain ⟨z, hw''⟩ := hw'
    have bZ := z.bel
    rw [← hw''] at bZ
    clear hw'' z
    clear l0 l1 l2 l3 m0 m1 m2 cG cL cB
    clear gq_0 gq_1 gq_2 gq_3 gq_lt x_0 x_1 x_2 x_lt
    have szZZ := bZ.size
    replace bel := bel.trans (bZ.mono bel.size)
    replace gq := gq.kept bZ
    replace x := x.kept bZ
    clear bZ
    go_wp2
    go_ret
    exact ⟨ret_bool HR.out.symm, bel⟩
  subst k1
  have t1 : ((n : Int) != (n : Int)) = false := by simp
  by_cases k2 : m = M
  case neg =>
    have HR := Lib.hid (arrOk_len (vs := vs) (ag := ag) (ht := ht) HNB.out (.inr (.inl (by rw [hlB.out, HM.out]; exact k2))))
    have t2 : ((m : Int) != (M : Int)) = true := by simp; omega
    refine wp_region_later (by kernel_rfl) (by kernel_rfl) ?_
    repeat (go_big_quiet_step ((first | (go_at_call 79; exact later_call (cG _)) | (go_at_call 25; exact later_call (cL _)) | (go_at_call 21; exact later_call (cB _)))))
    refine wpQuiet_nil ?_
    intro ZZ hw'
    obtain ⟨z, hw''⟩ := hw'
    have bZ := z.bel
    rw [← hw''] at bZ
    clear hw'' z
    clear l0 l1 l2 l3 m0 m1 m2 cG cL cB
    have szZZ := bZ.size
    replace bel := bel.trans (bZ.mono bel.size)
    replace gq := gq.kept bZ
    replace x := x.kept bZ
    clear bZ
    go_wp2
    go_ret
    exact ⟨ret_bool HR.out.symm, bel⟩
  subst k2
  have t2 : ((m : Int) != (m : Int)) = false := by simp
  by_cases k3 : p = m
  case neg =>
    have HR := Lib.hid (arrOk_len (vs := vs) (ag := ag) (ht := ht) HNB.out (.inr (.inr (by rw [hlD.out, HM.out]; exact k3))))
    have t3 : ((p : Int) != (m : Int)) = true := by simp; omega
    refine wp_region_later (by kernel_rfl) (by kernel_rfl) ?_
    repeat (go_big_quiet_step ((first | (go_at_call 79; exact later_call (cG _)) | (go_at_call 25; exact later_call (cL _)) | (go_at_call 21; exact later_call (cB _)))))
    refine wpQuiet_nil ?_
    intro ZZ hw'
    obtain ⟨z, hw''⟩ := hw'
    have bZ := z.bel
    rw [← hw''] at bZ
    clear hw'' z
    clear l0 l1 l2 l3 m0 m1 m2 cG cL cB
    have szZZ := bZ.size
    replace bel := bel.trans (bZ.mono bel.size)
    replace gq := gq.kept bZ
    replace x := x.kept bZ
    clear bZ
    go_wp2
    go_ret
    exact ⟨ret_bool HR.out.symm, bel⟩
  subst k3
  have t3 : ((p : Int) != (p : Int)) = false := by simp
  have HAll := Lib.hid (arrOk_all (vs := vs) (ag := ag) (ht := ht) HG.out HNB.out (by rw [hlA.out, HL.out]) (by rw [hlB.out, HM.out]) (by rw [hlD.out, HM.out]))
  refine wp_region_later (by kernel_rfl) (by kernel_rfl) ?_
  repeat (go_big_quiet_step ((first | (go_at_call 79; exact later_call (cG _)) | (go_at_call 25; exact later_call (cL _)) | (go_at_call 21; exact later_call (cB _)))))
  refine wpQuiet_nil ?_
  intro ZZ hw'
  obtain ⟨z, hw''⟩ := hw'
  have bZ := z.bel
  rw [← hw''] at bZ
  clear hw'' z
  clear l0 l1 l2 l3 m0 m1 m2 cG cL cB
  have szZZ := bZ.size
  replace bel := bel.trans (bZ.mono bel.size)
  replace gq := gq.kept bZ
  replace x := x.kept bZ
  clear bZ
  clear t1 t2 t3 hw1 hBB
  obtain ⟨x_0, x_1, x_2⟩ := x.c3
  have x_lt := x.lt
  go_wp2_with fail
  clear x_0 x_1 x_2 x_lt
  go_loopw [5] (fun i wr => ∃ (j : Nat), j ≤ n ∧ i = .int .i64 j ∧ Hid ((vs.take j).all celF = true) ∧ Below w.heap.size w wr ∧ Box wr (w.heap.size + 1) 87 #[.slice A n c, .slice B p d, .slice D p q]) (fun i _ => n - (intOf i).toNat)
  case atStart => exact ⟨0, Nat.zero_le _, rfl, rfl, bel, x⟩
  case round =>
    clear bel x gq
    obtain ⟨j, hj, rfl, HS, bel, x⟩ := hrel
    by_cases hlt : j < n
    · obtain ⟨g, o, sa, sn, sc, zs, psn, rfl, hg, h0, h1, hI, hv⟩ := (hA.below bel).at_ hlt
      have hsn : sn ≤ 1048576 := by have := hI.1; have := csz_take hv.out; have := csz_le vs (j + 1); dsimp only at *; omega
      have i0 : (0 : Int) ≤ (j : Int) := by omega
      have i1 : (j : Int) < (n : Int) := by omega
      obtain ⟨x_0, x_1, x_2⟩ := x.c3
      have x_lt := x.lt
      go_wp2_with fail
      refine (sSymbolsOk_c sa sn sc zs 11 _ hI hsn).mono ?_
      rintro e w' ⟨rfl, rfl⟩
      cases hf : symOkN zs 11
      · have HR : Hid (arrOk gg gb R C vs ag ht = false) := by unfold Hid; rw [HAll.out, all_no (f := celF) hv.out hf]; rfl
        go_wp2
        go_ret
        exact ⟨ret_bool HR.out.symm, bel⟩
      · have HA2 : Hid ((vs.take (j + 1)).all celF = true) := by unfold Hid; rw [all_take hv.out, HS.out]; exact hf
        go_wp2
        go_roundw
        case rel => exact ⟨j + 1, by omega, by go_num, HA2, bel, x⟩
        case measure => simp [intOf]; omega
    · skip
      obtain rfl : n = j := by omega
      have HS1 : Hid (vs.all celF = true) := by have := HS.out; rw [List.take_of_length_le (by rw [hlA.out]; omega)] at this; exact this
      obtain ⟨x_0, x_1, x_2⟩ := x.c3
      have x_lt := x.lt
      go_wp2_with fail
      clear x_0 x_1 x_2 x_lt
      go_loopw [6] (fun i wr => ∃ (j : Nat), j ≤ p ∧ i = .int .i64 j ∧ Hid ((ag.take j).all ageF = true ∧ (ht.take j).all ageF = true) ∧ Below w.heap.size w wr ∧ Box wr (w.heap.size + 1) 87 #[.slice A n c, .slice B p d, .slice D p q]) (fun i _ => p - (intOf i).toNat)
      case atStart => exact ⟨0, Nat.zero_le _, rfl, ⟨rfl, rfl⟩, bel, x⟩
      case round =>
        clear bel x
        obtain ⟨k, hk, rfl, HK, bel, x⟩ := hrel
        by_cases hlk : k < p
        · obtain ⟨g1, o1, y1, rfl, hc1, hy1⟩ := (hB.below bel).at_ hlk
          obtain ⟨g2, o2, y2, rfl, hc2, hy2⟩ := (hD.below bel).at_ hlk
          have i0 : (0 : Int) ≤ (k : Int) := by omega
          have i1 : (k : Int) < (p : Int) := by omega
          obtain ⟨x_0, x_1, x_2⟩ := x.c3
          have x_lt := x.lt
          go_wp2_with fail
          refine (in_c y1 0 100000 _).mono ?_
          rintro e w' ⟨rfl, rfl⟩
          cases hf1 : inB y1 0 100000
          · have HR : Hid (arrOk gg gb R C vs ag ht = false) := by unfold Hid; rw [HAll.out, all_no (f := ageF) hy1.out hf1]; simp
            go_wp2
            go_ret
            exact ⟨ret_bool HR.out.symm, bel⟩
          · go_wp2_with fail
            refine (in_c y2 0 100000 _).mono ?_
            rintro e w' ⟨rfl, rfl⟩
            cases hf2 : inB y2 0 100000
            · have HR : Hid (arrOk gg gb R C vs ag ht = false) := by unfold Hid; rw [HAll.out, all_no (f := ageF) hy2.out hf2]; simp
              go_wp2
              go_ret
              exact ⟨ret_bool HR.out.symm, bel⟩
            · have HA2 : Hid ((ag.take (k + 1)).all ageF = true ∧ (ht.take (k + 1)).all ageF = true) := ⟨by rw [all_take hy1.out, HK.out.1]; exact hf1, by rw [all_take hy2.out, HK.out.2]; exact hf2⟩
              go_wp2
              go_roundw
              case rel => exact ⟨k + 1, by omega, by go_num, HA2, bel, x⟩
              case measure => simp [intOf]; omega
        · skip
          obtain rfl : p = k := by omega
          have HR : Hid (arrOk gg gb R C vs ag ht = true) := by
            have h1 := HK.out.1
            have h2 := HK.out.2
            rw [List.take_of_length_le (by rw [hlB.out]; omega)] at h1
            rw [List.take_of_length_le (by rw [hlD.out]; omega)] at h2
            unfold Hid
            rw [HAll.out, HS1.out, h1, h2]
            rfl
          obtain ⟨x_0, x_1, x_2⟩ := x.c3
          have x_lt := x.lt
          go_wp2
          go_ret
          exact ⟨ret_bool HR.out.symm, bel⟩
set_option maxRecDepth 100000 in
set_option maxHeartbeats 16000000 in
theorem iArrayOk_c (gg gb gr gc : Int) (A : Option Addr) (n c : Nat) (B : Option Addr) (m d : Nat) (D : Option Addr) (p q : Nat) (vs : List CV) (ag ht : List Int) (w : World) (hA : Cs w A n vs) (hB : Ints w B m ag) (hD : Ints w D p ht) (hn : csz vs ≤ 1048576) (hm : m ≤ 1048576) (hp : p ≤ 1048576) :
    Calls Try.prog 62 #[.agg #[.int .i64 gg, .int .i64 gb, .int .i64 gr, .int .i64 gc], .agg #[.slice A n c, .slice B m d, .slice D p q]] w fun e w' => e = .returned (.bool (arrOk gg gb gr gc vs ag ht)) ∧ Below w.heap.size w w' := by
  have bel : Below w.heap.size w w := Below.refl _ _
  have hlA := Lib.hid hA.len
  have hlB := Lib.hid hB.1
  have hlD := Lib.hid hD.1
  have hn1 : n ≤ 1048576 := by have := hA.len; have := csz_len vs; omega
  by_cases hg : geoOk gg gb gr gc = true
  case neg =>
    have hg' : geoOk gg gb gr gc = false := by simpa using hg
    have HR := Lib.hid (arrOk_geo (vs := vs) (ag := ag) (ht := ht) hg')
    have e0 : IntKind.i64.wrap ((0 : Int) * gr) = 0 := by rw [Int.zero_mul]; exact IntWalk.i64_in _ (by omega)
    have HB0 := Lib.hid (bankCnt_no hg')
    go_enter Try.func62, Try.ntmps62
    go_wp2_with fail
    refine abs_code ?_
    intro W hW
    have szW : w.heap.size + 1 + 1 ≤ W.heap.size := by rw [hW]; simp [World.setCell]
    have szW_ := bel.size
    replace bel : Below w.heap.size w W := by rw [hW]; exact ((bel).alloc (by first | omega | (simp [World.setCell] <;> omega)) _).alloc (by first | omega | (simp [World.setCell] <;> omega)) _
    have gq : Box W w.heap.size 25 #[.int .i64 gg, .int .i64 gb, .int .i64 gr, .int .i64 gc] := by rw [hW]; exact ((Box.newAt (by simp [World.setCell]))).alloc _
    have x : Box W (w.heap.size + 1) 87 #[.slice A n c, .slice B m d, .slice D p q] := by rw [hW]; exact (Box.newAt (by simp [World.setCell]))
    clear hW
    obtain ⟨gq_0, gq_1, gq_2, gq_3⟩ := gq.c4
    have gq_lt := gq.lt
    obtain ⟨x_0, x_1, x_2⟩ := x.c3
    have x_lt := x.lt
    have l0 := later_cell gq_lt gq_0
    have l1 := later_cell gq_lt gq_1
    have l2 := later_cell gq_lt gq_2
    have l3 := later_cell gq_lt gq_3
    have m0 := later_cell x_lt x_0
    have m1 := later_cell x_lt x_1
    have m2 := later_cell x_lt x_2
    have cG : ∀ z : Later W, Calls Try.prog 119 #[.agg #[.int .i64 gg, .int .i64 gb, .int .i64 gr, .int .i64 gc]] z.w fun e w' => e = .returned (.bool false) ∧ Below z.w.heap.size z.w w' := fun z => by
      have h := iGeometryOk_c gg gb gr gc z.w
      rw [hg'] at h
      exact h
    have cB : ∀ z : Later W, Calls Try.prog 73 #[.agg #[.int .i64 gg, .int .i64 gb, .int .i64 gr, .int .i64 gc]] z.w fun e w' => e = .returned (.int .i64 0) ∧ Below z.w.heap.size z.w w' := fun z => by
      have h := iBankCount_c gg gb gr gc z.w
      rw [HB0.out] at h
      exact h
    refine wp_region_later (by kernel_rfl) (by kernel_rfl) ?_
    repeat (go_big_quiet_step ((first | (go_at_call 119; exact later_call (cG _)) | (go_at_call 73; exact later_call (cB _)))))
    refine wpQuiet_nil ?_
    intro Z1 hw'
    obtain ⟨z, hw''⟩ := hw'
    have bZ := z.bel
    rw [← hw''] at bZ
    clear hw'' z
    clear l0 l1 l2 l3 m0 m1 m2 cG cB
    clear gq_0 gq_1 gq_2 gq_3 gq_lt x_0 x_1 x_2 x_lt
    have szZ1 := bZ.size
    replace bel := bel.trans (bZ.mono bel.size)
    replace gq := gq.kept bZ
    replace x := x.kept bZ
    clear bZ
    obtain ⟨gq_0, gq_1, gq_2, gq_3⟩ := gq.c4
    have gq_lt := gq.lt
    obtain ⟨x_0, x_1, x_2⟩ := x.c3
    have x_lt := x.lt
    go_wp2_with fail
    have l0 := later_cell gq_lt gq_0
    have l1 := later_cell gq_lt gq_1
    have l2 := later_cell gq_lt gq_2
    have l3 := later_cell gq_lt gq_3
    have m0 := later_cell x_lt x_0
    have m1 := later_cell x_lt x_1
    have m2 := later_cell x_lt x_2
    have cG : ∀ z : Later Z1, Calls Try.prog 119 #[.agg #[.int .i64 gg, .int .i64 gb, .int .i64 gr, .int .i64 gc]] z.w fun e w' => e = .returned (.bool false) ∧ Below z.w.heap.size z.w w' := fun z => by
      have h := iGeometryOk_c gg gb gr gc z.w
      rw [hg'] at h
      exact h
    have cB : True := trivial
    refine wp_region_later (by kernel_rfl) (by kernel_rfl) ?_
    repeat (go_big_quiet_step ((first | (go_at_call 119; exact later_call (cG _)))))
    refine wpQuiet_nil ?_
    intro ZZ hw'
    obtain ⟨z, hw''⟩ := hw'
    have bZ := z.bel
    rw [← hw''] at bZ
    clear hw'' z
    clear l0 l1 l2 l3 m0 m1 m2 cG cB
    clear gq_0 gq_1 gq_2 gq_3 gq_lt x_0 x_1 x_2 x_lt
    have szZZ := bZ.size
    replace bel := bel.trans (bZ.mono bel.size)
    replace gq := gq.kept bZ
    replace x := x.kept bZ
    clear bZ
    go_wp2
    go_ret
    exact ⟨ret_bool HR.out.symm, bel⟩
  obtain ⟨-, -, ⟨r1, r2⟩, ⟨c1, c2⟩⟩ := geo_parts hg
  have b1 := bankCnt_bd gg gb gr gc
  have b2 := bankCnt_pos hg
  obtain ⟨nb, enb⟩ := Int.eq_ofNat_of_zero_le b1.1
  obtain ⟨R, hR⟩ := Int.eq_ofNat_of_zero_le (show 0 ≤ gr by omega)
  obtain ⟨C, hC⟩ := Int.eq_ofNat_of_zero_le (show 0 ≤ gc by omega)
  subst hR hC
  have nb8 : nb ≤ 8 := by omega
  have R16 : R ≤ 16 := by omega
  have C8 : C ≤ 8 := by omega
  obtain ⟨M, hM⟩ : ∃ M, nb * R = M := ⟨_, rfl⟩
  obtain ⟨L, hL⟩ : ∃ L, nb * R * C = L := ⟨_, rfl⟩
  have hM2 : M ≤ 128 := by rw [← hM]; exact le_mul8 nb8 R16
  have hL2 : L ≤ 1024 := by rw [← hL, hM]; exact Nat.le_trans (Nat.mul_le_mul hM2 C8) (by omega)
  have hw1 : IntKind.i64.wrap ((nb : Int) * (R : Int)) = (M : Int) := by rw [← Int.natCast_mul, hM]; exact IntWalk.i64_in _ (by omega)
  have HG := Lib.hid hg
  have HNB := Lib.hid enb
  have HM := Lib.hid hM
  have HL := Lib.hid hL
  clear hg enb hM hL b1 b2 r1 r2 c1 c2
  go_enter Try.func62, Try.ntmps62
  go_wp2_with fail
  refine abs_code ?_
  intro W hW
  have szW : w.heap.size + 1 + 1 ≤ W.heap.size := by rw [hW]; simp [World.setCell]
  have szW_ := bel.size
  replace bel : Below w.heap.size w W := by rw [hW]; exact ((bel).alloc (by first | omega | (simp [World.setCell] <;> omega)) _).alloc (by first | omega | (simp [World.setCell] <;> omega)) _
  replace gq : Box W w.heap.size 25 #[.int .i64 gg, .int .i64 gb, .int .i64 (R : Int), .int .i64 (C : Int)] := by rw [hW]; exact ((Box.newAt (by simp [World.setCell]))).alloc _
  replace x : Box W (w.heap.size + 1) 87 #[.slice A n c, .slice B m d, .slice D p q] := by rw [hW]; exact (Box.newAt (by simp [World.setCell]))
  clear hW
  obtain ⟨gq_0, gq_1, gq_2, gq_3⟩ := gq.c4
  have gq_lt := gq.lt
  obtain ⟨x_0, x_1, x_2⟩ := x.c3
  have x_lt := x.lt
  have l0 := later_cell gq_lt gq_0
  have l1 := later_cell gq_lt gq_1
  have l2 := later_cell gq_lt gq_2
  have l3 := later_cell gq_lt gq_3
  have m0 := later_cell x_lt x_0
  have m1 := later_cell x_lt x_1
  have m2 := later_cell x_lt x_2
  have cG : ∀ z : Later W, Calls Try.prog 119 #[.agg #[.int .i64 gg, .int .i64 gb, .int .i64 (R : Int), .int .i64 (C : Int)]] z.w fun e w' => e = .returned (.bool true) ∧ Below z.w.heap.size z.w w' := fun z => by
    have h := iGeometryOk_c gg gb R C z.w
    rw [HG.out] at h
    exact h
  have cB : ∀ z : Later W, Calls Try.prog 73 #[.agg #[.int .i64 gg, .int .i64 gb, .int .i64 (R : Int), .int .i64 (C : Int)]] z.w fun e w' => e = .returned (.int .i64 (nb : Int)) ∧ Below z.w.heap.size z.w w' := fun z => by
    have h := iBankCount_c gg gb R C z.w
    rw [HNB.out] at h
    exact h
  have cL : ∀ z : Later W, Calls Try.prog 120 #[.agg #[.int .i64 gg, .int .i64 gb, .int .i64 (R : Int), .int .i64 (C : Int)]] z.w fun e w' => e = .returned (.int .i64 (L : Int)) ∧ Below z.w.heap.size z.w w' := fun z => by
    have h := iLineCount_c gg gb nb R C z.w HNB.out nb8 R16 C8
    rw [HL.out] at h
    exact h
  refine wp_region_later (by kernel_rfl) (by kernel_rfl) ?_
  repeat (go_big_quiet_step ((first | (go_at_call 119; exact later_call (cG _)) | (go_at_call 120; exact later_call (cL _)) | (go_at_call 73; exact later_call (cB _)))))
  refine wpQuiet_nil ?_
  intro Z1 hw'
  obtain ⟨z, hw''⟩ := hw'
  have bZ := z.bel
  rw [← hw''] at bZ
  clear hw'' z
  clear l0 l1 l2 l3 m0 m1 m2 cG cB cL
  clear gq_0 gq_1 gq_2 gq_3 gq_lt x_0 x_1 x_2 x_lt
  have szZ1 := bZ.size
  replace bel := bel.trans (bZ.mono bel.size)
  replace gq := gq.kept bZ
  replace x := x.kept bZ
  clear bZ
  obtain ⟨gq_0, gq_1, gq_2, gq_3⟩ := gq.c4
  have gq_lt := gq.lt
  obtain ⟨x_0, x_1, x_2⟩ := x.c3
  have x_lt := x.lt
  go_wp2_with fail
  have l0 := later_cell gq_lt gq_0
  have l1 := later_cell gq_lt gq_1
  have l2 := later_cell gq_lt gq_2
  have l3 := later_cell gq_lt gq_3
  have m0 := later_cell x_lt x_0
  have m1 := later_cell x_lt x_1
  have m2 := later_cell x_lt x_2
  have cG : ∀ z : Later Z1, Calls Try.prog 119 #[.agg #[.int .i64 gg, .int .i64 gb, .int .i64 (R : Int), .int .i64 (C : Int)]] z.w fun e w' => e = .returned (.bool true) ∧ Below z.w.heap.size z.w w' := fun z => by
    have h := iGeometryOk_c gg gb R C z.w
    rw [HG.out] at h
    exact h
  have cB : True := trivial
  have cL : ∀ z : Later Z1, Calls Try.prog 120 #[.agg #[.int .i64 gg, .int .i64 gb, .int .i64 (R : Int), .int .i64 (C : Int)]] z.w fun e w' => e = .returned (.int .i64 (L : Int)) ∧ Below z.w.heap.size z.w w' := fun z => by
    have h := iLineCount_c gg gb nb R C z.w HNB.out nb8 R16 C8
    rw [HL.out] at h
    exact h
  have hBB : True := trivial
  by_cases k1 : n = L
  case neg =>
    have HR := Lib.hid (arrOk_len (vs := vs) (ag := ag) (ht := ht) HNB.out (.inl (by rw [hlA.out, HL.out]; exact k1)))
    have t1 : ((n : Int) != (L : Int)) = true := by simp; omega
    refine wp_region_later (by kernel_rfl) (by kernel_rfl) ?_
    repeat (go_big_quiet_step ((first | (go_at_call 119; exact later_call (cG _)) | (go_at_call 120; exact later_call (cL _)))))
    refine wpQuiet_nil ?_
    intro ZZ hw'
    obtain ⟨z, hw''⟩ := hw'
    have bZ := z.bel
    rw [← hw''] at bZ
    clear hw'' z
    clear l0 l1 l2 l3 m0 m1 m2 cG cL cB
    clear gq_0 gq_1 gq_2 gq_3 gq_lt x_0 x_1 x_2 x_lt
    have szZZ := bZ.size
    replace bel := bel.trans (bZ.mono bel.size)
    replace gq := gq.kept bZ
    replace x := x.kept bZ
    clear bZ
    go_wp2
    go_ret
    exact ⟨ret_bool HR.out.symm, bel⟩
  subst k1
  have t1 : ((n : Int) != (n : Int)) = false := by simp
  by_cases k2 : m = M
  case neg =>
    have HR := Lib.hid (arrOk_len (vs := vs) (ag := ag) (ht := ht) HNB.out (.inr (.inl (by rw [hlB.out, HM.out]; exact k2))))
    have t2 : ((m : Int) != (M : Int)) = true := by simp; omega
    refine wp_region_later (by kernel_rfl) (by kernel_rfl) ?_
    repeat (go_big_quiet_step ((first | (go_at_call 119; exact later_call (cG _)) | (go_at_call 120; exact later_call (cL _)))))
    refine wpQuiet_nil ?_
    intro ZZ hw'
    obtain ⟨z, hw''⟩ := hw'
    have bZ := z.bel
    rw [← hw''] at bZ
    clear hw'' z
    clear l0 l1 l2 l3 m0 m1 m2 cG cL cB
    have szZZ := bZ.size
    replace bel := bel.trans (bZ.mono bel.size)
    replace gq := gq.kept bZ
    replace x := x.kept bZ
    clear bZ
    go_wp2
    go_ret
    exact ⟨ret_bool HR.out.symm, bel⟩
  subst k2
  have t2 : ((m : Int) != (m : Int)) = false := by simp
  by_cases k3 : p = m
  case neg =>
    have HR := Lib.hid (arrOk_len (vs := vs) (ag := ag) (ht := ht) HNB.out (.inr (.inr (by rw [hlD.out, HM.out]; exact k3))))
    have t3 : ((p : Int) != (m : Int)) = true := by simp; omega
    refine wp_region_later (by kernel_rfl) (by kernel_rfl) ?_
    repeat (go_big_quiet_step ((first | (go_at_call 119; exact later_call (cG _)) | (go_at_call 120; exact later_call (cL _)))))
    refine wpQuiet_nil ?_
    intro ZZ hw'
    obtain ⟨z, hw''⟩ := hw'
    have bZ := z.bel
    rw [← hw''] at bZ
    clear hw'' z
    clear l0 l1 l2 l3 m0 m1 m2 cG cL cB
    have szZZ := bZ.size
    replace bel := bel.trans (bZ.mono bel.size)
    replace gq := gq.kept bZ
    replace x := x.kept bZ
    clear bZ
    go_wp2
    go_ret
    exact ⟨ret_bool HR.out.symm, bel⟩
  subst k3
  have t3 : ((p : Int) != (p : Int)) = false := by simp
  have HAll := Lib.hid (arrOk_all (vs := vs) (ag := ag) (ht := ht) HG.out HNB.out (by rw [hlA.out, HL.out]) (by rw [hlB.out, HM.out]) (by rw [hlD.out, HM.out]))
  refine wp_region_later (by kernel_rfl) (by kernel_rfl) ?_
  repeat (go_big_quiet_step ((first | (go_at_call 119; exact later_call (cG _)) | (go_at_call 120; exact later_call (cL _)))))
  refine wpQuiet_nil ?_
  intro ZZ hw'
  obtain ⟨z, hw''⟩ := hw'
  have bZ := z.bel
  rw [← hw''] at bZ
  clear hw'' z
  clear l0 l1 l2 l3 m0 m1 m2 cG cL cB
  have szZZ := bZ.size
  replace bel := bel.trans (bZ.mono bel.size)
  replace gq := gq.kept bZ
  replace x := x.kept bZ
  clear bZ
  clear t1 t2 t3 hw1 hBB
  obtain ⟨x_0, x_1, x_2⟩ := x.c3
  have x_lt := x.lt
  go_wp2_with fail
  clear x_0 x_1 x_2 x_lt
  go_loopw [42] (fun i wr => ∃ (j : Nat), j ≤ n ∧ i = .int .i64 j ∧ Hid ((vs.take j).all celF = true) ∧ Below w.heap.size w wr ∧ Box wr (w.heap.size + 1) 87 #[.slice A n c, .slice B p d, .slice D p q]) (fun i _ => n - (intOf i).toNat)
  case atStart => exact ⟨0, Nat.zero_le _, rfl, rfl, bel, x⟩
  case round =>
    clear bel x gq
    obtain ⟨j, hj, rfl, HS, bel, x⟩ := hrel
    by_cases hlt : j < n
    · obtain ⟨g, o, sa, sn, sc, zs, psn, rfl, hg, h0, h1, hI, hv⟩ := (hA.below bel).at_ hlt
      have hsn : sn ≤ 1048576 := by have := hI.1; have := csz_take hv.out; have := csz_le vs (j + 1); dsimp only at *; omega
      have i0 : (0 : Int) ≤ (j : Int) := by omega
      have i1 : (j : Int) < (n : Int) := by omega
      obtain ⟨x_0, x_1, x_2⟩ := x.c3
      have x_lt := x.lt
      go_wp2_with fail
      refine abs_call ?_
      intro W5 hW
      have hI0 := hI
      have b5 : Below wr.heap.size wr W5 := by rw [hW]; exact (Below.refl _ _).alloc (Nat.le_refl _) _
      clear x_0 x_1 x_2 x_lt
      have szW5 : wr.heap.size + 1 ≤ W5.heap.size := by rw [hW]; simp [World.setCell]
      have szW5_ := bel.size
      replace bel : Below w.heap.size w W5 := by rw [hW]; exact (bel).alloc (by first | omega | (simp [World.setCell] <;> omega)) _
      replace x : Box W5 (w.heap.size + 1) 87 #[.slice (some ⟨g, o, none⟩) n c, .slice B p d, .slice D p q] := by rw [hW]; exact x.alloc _
      clear hW
      replace hI := hI0.below b5
      refine (iSymbolsOk_c sa sn sc zs 11 _ hI hsn).mono ?_
      rintro e w' ⟨rfl, rfl⟩
      cases hf : symOkN zs 11
      · have HR : Hid (arrOk gg gb R C vs ag ht = false) := by unfold Hid; rw [HAll.out, all_no (f := celF) hv.out hf]; rfl
        go_wp2
        go_ret
        exact ⟨ret_bool HR.out.symm, bel⟩
      · have HA2 : Hid ((vs.take (j + 1)).all celF = true) := by unfold Hid; rw [all_take hv.out, HS.out]; exact hf
        go_wp2
        go_roundw
        case rel => exact ⟨j + 1, by omega, by go_num, HA2, bel, x⟩
        case measure => simp [intOf]; omega
    · skip
      obtain rfl : n = j := by omega
      have HS1 : Hid (vs.all celF = true) := by have := HS.out; rw [List.take_of_length_le (by rw [hlA.out]; omega)] at this; exact this
      obtain ⟨x_0, x_1, x_2⟩ := x.c3
      have x_lt := x.lt
      go_wp2_with fail
      clear x_0 x_1 x_2 x_lt
      go_loopw [54] (fun i wr => ∃ (j : Nat), j ≤ p ∧ i = .int .i64 j ∧ Hid ((ag.take j).all ageF = true ∧ (ht.take j).all ageF = true) ∧ Below w.heap.size w wr ∧ Box wr (w.heap.size + 1) 87 #[.slice A n c, .slice B p d, .slice D p q]) (fun i _ => p - (intOf i).toNat)
      case atStart => exact ⟨0, Nat.zero_le _, rfl, ⟨rfl, rfl⟩, bel, x⟩
      case round =>
        clear bel x
        obtain ⟨k, hk, rfl, HK, bel, x⟩ := hrel
        by_cases hlk : k < p
        · obtain ⟨g1, o1, y1, rfl, hc1, hy1⟩ := (hB.below bel).at_ hlk
          obtain ⟨g2, o2, y2, rfl, hc2, hy2⟩ := (hD.below bel).at_ hlk
          have i0 : (0 : Int) ≤ (k : Int) := by omega
          have i1 : (k : Int) < (p : Int) := by omega
          obtain ⟨x_0, x_1, x_2⟩ := x.c3
          have x_lt := x.lt
          go_wp2_with fail
          refine (between_c y1 0 100000 _).mono ?_
          rintro e w' ⟨rfl, rfl⟩
          cases hf1 : inB y1 0 100000
          · have HR : Hid (arrOk gg gb R C vs ag ht = false) := by unfold Hid; rw [HAll.out, all_no (f := ageF) hy1.out hf1]; simp
            go_wp2
            go_ret
            exact ⟨ret_bool HR.out.symm, bel⟩
          · go_wp2_with fail
            refine (between_c y2 0 100000 _).mono ?_
            rintro e w' ⟨rfl, rfl⟩
            cases hf2 : inB y2 0 100000
            · have HR : Hid (arrOk gg gb R C vs ag ht = false) := by unfold Hid; rw [HAll.out, all_no (f := ageF) hy2.out hf2]; simp
              go_wp2
              go_ret
              exact ⟨ret_bool HR.out.symm, bel⟩
            · have HA2 : Hid ((ag.take (k + 1)).all ageF = true ∧ (ht.take (k + 1)).all ageF = true) := ⟨by rw [all_take hy1.out, HK.out.1]; exact hf1, by rw [all_take hy2.out, HK.out.2]; exact hf2⟩
              go_wp2
              go_roundw
              case rel => exact ⟨k + 1, by omega, by go_num, HA2, bel, x⟩
              case measure => simp [intOf]; omega
        · skip
          obtain rfl : p = k := by omega
          have HR : Hid (arrOk gg gb R C vs ag ht = true) := by
            have h1 := HK.out.1
            have h2 := HK.out.2
            rw [List.take_of_length_le (by rw [hlB.out]; omega)] at h1
            rw [List.take_of_length_le (by rw [hlD.out]; omega)] at h2
            unfold Hid
            rw [HAll.out, HS1.out, h1, h2]
            rfl
          obtain ⟨x_0, x_1, x_2⟩ := x.c3
          have x_lt := x.lt
          go_wp2
          go_ret
          exact ⟨ret_bool HR.out.symm, bel⟩
end Go.Proofs.Ytbapamfomfbmmaa
