/-
  New arrays in the reference.
-/
import Derived.Test.YtbapamfomfbmmaaDrC
import Derived.Test.YtbapamfomfbmmaaNeA
import Derived.Test.YtbapamfomfbmmaaSenB
import Derived.Test.YtbapamfomfbmmaaSenF
import Derived.Deep.RegionLaw
import Derived.Deep.DeepCutAuto
namespace Go.Proofs.Ytbapamfomfbmmaa
open Go.RowKit
set_option linter.unusedSimpArgs false
set_option linter.unusedVariables false

def zeroC (L : Nat) : List CV := List.replicate L (List.replicate 11 0, false)
set_option maxRecDepth 100000 in
set_option maxHeartbeats 8000000 in
theorem arrayNew_c (gg gb : Int) (nb R C : Nat) (w : World) (hg : geoOk gg gb R C = true) (hnb : bankCnt gg gb R C = (nb : Int)) (nb8 : nb ≤ 8) (R16 : R ≤ 16) (C8 : C ≤ 8) :
    Calls Try.prog 64 #[.agg #[.int .i64 gg, .int .i64 gb, .int .i64 (R : Int), .int .i64 (C : Int)]] w (NewA (zeroC (nb * R * C)) (List.replicate (nb * R) 0) (List.replicate (nb * R) 0) w) := by
  have bel : Below w.heap.size w w := Below.refl _ _
  obtain ⟨M, hM⟩ : ∃ M, nb * R = M := ⟨_, rfl⟩
  obtain ⟨L, hL⟩ : ∃ L, M * C = L := ⟨_, rfl⟩
  have hM2 : M ≤ 128 := by rw [← hM]; exact le_mul8 nb8 R16
  have hL2 : L ≤ 1024 := by rw [← hL]; exact Nat.le_trans (Nat.mul_le_mul hM2 C8) (by omega)
  have hw1 : IntKind.i64.wrap ((nb : Int) * (R : Int)) = (M : Int) := by rw [← Int.natCast_mul, hM]; exact IntWalk.i64_in _ (by omega)
  rw [hM, hL]
  have cL : ∀ z : World, Calls Try.prog 25 #[.agg #[.int .i64 gg, .int .i64 gb, .int .i64 (R : Int), .int .i64 (C : Int)]] z fun e w' => e = .returned (.int .i64 (L : Int)) ∧ Below z.heap.size z w' := fun z => by
    have h := sLineCount_c gg gb nb R C z hg hnb nb8 R16 C8
    rw [hM, hL] at h
    exact h
  have cB : ∀ z : World, Calls Try.prog 21 #[.agg #[.int .i64 gg, .int .i64 gb, .int .i64 (R : Int), .int .i64 (C : Int)]] z fun e w' => e = .returned (.int .i64 (nb : Int)) ∧ Below z.heap.size z w' := fun z => by
    have h := sBankCount_c gg gb R C z
    rw [hnb] at h
    exact h
  have cG : ∀ z : World, Calls Try.prog 79 #[.agg #[.int .i64 gg, .int .i64 gb, .int .i64 (R : Int), .int .i64 (C : Int)]] z fun e w' => e = .returned (.bool true) ∧ Below z.heap.size z w' := fun z => by
    have h := sGeometryOk_c gg gb R C z
    rw [hg] at h
    exact h
  clear hM hL hg hnb
  obtain ⟨mk, hmk⟩ := makeI_fun 11 (by omega)
  have hrun : ∀ w : World, (Instr.makeSlice 26 (.int .i64 11) (.int .i64 11)).run Try.prog w = .ok (.slice (some ⟨w.heap.size, 0, none⟩) 11 11) (mk w) := fun w => (hmk w).1
  go_enter Try.func64, Try.ntmps64
  go_wp2_with fail
  refine abs_code ?_
  intro W hW
  have szW : w.heap.size + 1 + 1 + 1 ≤ W.heap.size := by rw [hW]; simp [World.setCell]
  have szW_ := bel.size
  replace bel : Below w.heap.size w W := by rw [hW]; exact (((bel).alloc (by first | omega | (simp [World.setCell] <;> omega)) _).alloc (by first | omega | (simp [World.setCell] <;> omega)) _).alloc (by first | omega | (simp [World.setCell] <;> omega)) _
  have p : Box W w.heap.size 25 #[.int .i64 gg, .int .i64 gb, .int .i64 (R : Int), .int .i64 (C : Int)] := by rw [hW]; exact (((Box.newAt (by simp [World.setCell]))).alloc _).alloc _
  have r : Box W (w.heap.size + 1) 87 #[.slice none 0 0, .slice none 0 0, .slice none 0 0] := by rw [hW]; exact ((Box.newAt (by simp [World.setCell]))).alloc _
  have y : Box W (w.heap.size + 1 + 1) 87 #[.slice none 0 0, .slice none 0 0, .slice none 0 0] := by rw [hW]; exact (Box.newAt (by simp [World.setCell]))
  clear hW
  go_loopw [4] (fun i wr => ∃ (j : Nat) (Ac : Option Addr) (cc : Nat) (hs : List Cel), j ≤ L ∧ i = .int .i64 j ∧ Below w.heap.size w wr ∧ Box wr w.heap.size 25 #[.int .i64 gg, .int .i64 gb, .int .i64 (R : Int), .int .i64 (C : Int)] ∧ Box wr (w.heap.size + 1) 87 #[.slice none 0 0, .slice none 0 0, .slice none 0 0] ∧ Box wr (w.heap.size + 1 + 1) 87 #[.slice Ac j cc, .slice none 0 0, .slice none 0 0] ∧ OwnC' wr W.heap.size wr.heap.size Ac j cc hs (zeroC j) ∧ W.heap.size ≤ wr.heap.size) (fun i _ => L - (intOf i).toNat)
  case atStart => exact ⟨0, none, 0, [], Nat.zero_le _, rfl, bel, p, r, y, OwnC'.nil _ _ _ _, Nat.le_refl _⟩
  case round =>
    clear bel p r y
    obtain ⟨j, Ac, cc, hs, hj, rfl, bel, p, r, y, HC, szr⟩ := hrel
    obtain ⟨p_0, p_1, p_2, p_3⟩ := p.c4
    have p_lt := p.lt
    go_wp2_with fail
    refine (cL _).mono ?_
    rintro e w2 ⟨rfl, b2⟩
    replace HC := (HC.below b2).mono (Nat.le_refl _) b2.size
    clear p_0 p_1 p_2 p_3 p_lt
    have szw2 := b2.size
    replace bel := bel.trans (b2.mono bel.size)
    replace p := p.kept b2
    replace r := r.kept b2
    replace y := y.kept b2
    clear b2
    by_cases hlt : j < L
    · have b5 : Below w2.heap.size w2 (mk w2.drew) := belA_of_d (hmk w2.drew).2.2
      have o5 : OwnH (mk w2.drew) w2.heap.size (w2.heap.size + 1) (some ⟨w2.heap.size, 0, none⟩) 11 11 (List.replicate 11 0) := (hmk w2.drew).2.1
      have s5 := b5.size
      have Ha := (HC.below b5).mono (Nat.le_refl _) b5.size
      have Fr := HC.fresh (Nat.le_refl _) o5
      have y5 := y.kept b5
      have y6 := y5.alloc (.cells #[.slice (some ⟨w2.heap.size, 0, none⟩) 11 11, .bool false] 104)
      obtain ⟨y5_0, -, -⟩ := y5.c3
      obtain ⟨y6_0, -, -⟩ := y6.c3
      obtain ⟨y_0, y_1, y_2⟩ := y.c3
      have y_lt := y.lt
      go_wp2_with fail
      go_region_law (refine step_appCel1 (by rfl) (.tmp 14) (.tmp 17) 85 (by rfl) Try.underlying85 infoCel Ac j cc W.heap.size hs (by rfl) (Ha.out.1.alloc _) (mk w2.drew).heap.size ⟨some ⟨w2.heap.size, 0, none⟩, 11, 11, false⟩ (by rfl) (Box.new _ _ _) (by omega) (by simp; omega) ?_; intro A3 c3 w3 o3 g3 at3; have Cg : Chg W.heap.size w2.heap.size ((mk w2.drew).alloc (.cells #[.slice (some ⟨w2.heap.size, 0, none⟩) 11 11, .bool false] 104)) w3 := (Chg.of_grown g3 (fun k hk => ⟨(HC.out.1.lt k hk).1, HC.out.2 k hk⟩)); have C3 : Chg W.heap.size w2.heap.size w2 w3 := ((Chg.of_below b5).alloc (.cells #[.slice (some ⟨w2.heap.size, 0, none⟩) 11 11, .bool false] 104)).trans Cg; have y3 := y.chg C3 (by omega); obtain ⟨y3_0, y3_1, y3_2⟩ := y3.c3; have y3f := y3.frozen; have y3l := y3.lt; have szc3 := C3.size)
      all_goals
        have hfin : OwnC' w3 W.heap.size w3.heap.size A3 (j + 1) c3 (hs ++ [⟨some ⟨w2.heap.size, 0, none⟩, 11, 11, false⟩]) (zeroC (j + 1)) := by
          have HX : OwnC' ((mk w2.drew).alloc (.cells #[.slice (some ⟨w2.heap.size, 0, none⟩) 11 11, .bool false] 104)) W.heap.size (mk w2.drew).heap.size Ac j cc hs (zeroC j) := Ha.below ((Below.refl _ _).alloc (Nat.le_refl _) _)
          have oX := (o5.mono (show W.heap.size ≤ w2.heap.size by omega) (show w2.heap.size + 1 ≤ (mk w2.drew).heap.size by have := (o5.1.lt w2.heap.size (blk_at (by omega))).2; omega)).alloc (.cells #[.slice (some ⟨w2.heap.size, 0, none⟩) 11 11, .bool false] 104)
          have HY := HX.push (by simp) ⟨some ⟨w2.heap.size, 0, none⟩, 11, 11, false⟩ (List.replicate 11 0, false) rfl oX Fr.1 Fr.2 o3 g3 at3
          have e : zeroC (j + 1) = zeroC j ++ [(List.replicate 11 0, false)] := by unfold zeroC; rw [List.replicate_succ']
          rw [e]
          exact HY
        have b9 : Below w.heap.size w (w3.setCell ⟨w.heap.size + 1 + 1, 0, none⟩ (.slice A3 (j + 1) c3)) := (C3.below bel (by omega)).setCell (by dsimp only; omega) _
        go_wp2
        go_roundw
        case rel => exact ⟨j + 1, A3, c3, _, by omega, by go_num, b9, (p.chg C3 (by omega)).far (by dsimp only; omega) _, (r.chg C3 (by omega)).far (by dsimp only; omega) _, y3.set_ 0 _, (hfin.setOut _ _ (.inl (by dsimp only; omega))).mono (Nat.le_refl _) (by simp [World.setCell]), by simp only [World.size_setCell]; omega⟩
        case measure => simp [intOf]; omega
    · skip
      obtain rfl : L = j := by omega
      have hNL := HC
      clear HC
      obtain ⟨i0, hi0, hz0, hz1, hz2⟩ := info_parts infoInt
      obtain ⟨p_0, p_1, p_2, p_3⟩ := p.c4
      have p_lt := p.lt
      go_wp2_with fail
      have l0 := later_cell p_lt p_0
      have l1 := later_cell p_lt p_1
      have l2 := later_cell p_lt p_2
      have l3 := later_cell p_lt p_3
      have cB' : ∀ z : Later w2, Calls Try.prog 21 #[.agg #[.int .i64 gg, .int .i64 gb, .int .i64 (R : Int), .int .i64 (C : Int)]] z.w fun e w' => e = .returned (.int .i64 (nb : Int)) ∧ Below z.w.heap.size z.w w' := fun z => cB z.w
      refine wp_region_later (by kernel_rfl) (by kernel_rfl) ?_
      repeat (go_big_quiet_step ((go_at_call 21; exact later_call (cB' _))))
      refine wpQuiet_nil ?_
      intro Z hw'
      obtain ⟨z, hw''⟩ := hw'
      have bZ := z.bel
      rw [← hw''] at bZ
      clear hw'' z l0 l1 l2 l3 cB'
      clear p_0 p_1 p_2 p_3 p_lt
      have szZ := bZ.size
      replace bel := bel.trans (bZ.mono bel.size)
      replace p := p.kept bZ
      replace r := r.kept bZ
      replace y := y.kept bZ
      replace hNL := hNL.below bZ
      clear bZ
      obtain ⟨p_0, p_1, p_2, p_3⟩ := p.c4
      have p_lt := p.lt
      go_wp2_with fail
      refine (cG _).mono ?_
      rintro e w6 ⟨rfl, b6⟩
      clear p_0 p_1 p_2 p_3 p_lt
      have szw6 := b6.size
      replace bel := bel.trans (b6.mono bel.size)
      replace p := p.kept b6
      replace r := r.kept b6
      replace y := y.kept b6
      replace hNL := hNL.below b6
      clear b6
      go_upto_region 10 with (at_make; refine wpList_make_full _ rfl (.tmp 32) (.tmp 32) 26 rfl w6.heap.size 3 i0 _ 1 Try.underlying26 hi0 hz0 hz1 .i64 .i64 M M M rfl rfl rfl rfl (by rw [hz2]; omega) (by unfold maxLen; omega) (Nat.le_refl _) ?_; intro w7 ho7 hg7; have b7 := grown_below hg7; have y7 := y.kept b7; obtain ⟨y7_0, y7_1, y7_2⟩ := y7.c3; have y7f := y7.frozen; have y7l := y7.lt)
      have o7 : OwnH w7 w6.heap.size w7.heap.size (some ⟨w6.heap.size, 0, none⟩) M M (List.replicate M 0) := by rw [madeI0] at ho7; exact OwnH.mk' (.inl (by simpa using ho7))
      clear ho7 hg7 y7 y7_0 y7_1 y7_2 y7f y7l
      refine abs_code ?_
      intro W8 hW
      have szw7 := b7.size
      replace bel := bel.trans (b7.mono bel.size)
      replace p := p.kept b7
      replace r := r.kept b7
      replace y := y.kept b7
      replace hNL := hNL.below b7
      clear b7
      have szW8 : w7.heap.size ≤ W8.heap.size := by rw [hW]; simp [World.setCell]
      have szW8_ := bel.size
      replace bel : Below w.heap.size w W8 := by rw [hW]; exact (bel).setCell (by dsimp only; omega) _
      replace p : Box W8 w.heap.size 25 #[.int .i64 gg, .int .i64 gb, .int .i64 (R : Int), .int .i64 (C : Int)] := by rw [hW]; exact (p).far (by dsimp only; omega) _
      replace r : Box W8 (w.heap.size + 1) 87 #[.slice none 0 0, .slice none 0 0, .slice none 0 0] := by rw [hW]; exact (r).far (by dsimp only; omega) _
      replace y : Box W8 (w.heap.size + 1 + 1) 87 #[.slice Ac (L) cc, .slice (some ⟨w6.heap.size, 0, none⟩) M M, .slice none 0 0] := by rw [hW]; exact (y).set_ 1 _
      replace hNL : OwnC' W8 W.heap.size w2.heap.size Ac L cc hs (zeroC L) := by rw [hW]; exact (hNL).setCell _ _ (by dsimp only; omega)
      replace o7 : OwnH W8 w6.heap.size w7.heap.size (some ⟨w6.heap.size, 0, none⟩) M M (List.replicate M 0) := by rw [hW]; exact (o7).setCell _ _ (by dsimp only; omega)
      clear hW
      go_upto_region 11 with (at_make; refine wpList_make_full _ rfl (.tmp 35) (.tmp 35) 26 rfl W8.heap.size 3 i0 _ 1 Try.underlying26 hi0 hz0 hz1 .i64 .i64 M M M rfl rfl rfl rfl (by rw [hz2]; omega) (by unfold maxLen; omega) (Nat.le_refl _) ?_; intro w9 ho9 hg9; have b9 := grown_below hg9; have y9 := y.kept b9; obtain ⟨y9_0, y9_1, y9_2⟩ := y9.c3; have y9f := y9.frozen; have y9l := y9.lt)
      have o9 : OwnH w9 W8.heap.size w9.heap.size (some ⟨W8.heap.size, 0, none⟩) M M (List.replicate M 0) := by rw [madeI0] at ho9; exact OwnH.mk' (.inl (by simpa using ho9))
      clear ho9 hg9 y9 y9_0 y9_1 y9_2 y9f y9l
      refine abs_code ?_
      intro W10 hW
      have szw9 := b9.size
      replace bel := bel.trans (b9.mono bel.size)
      replace p := p.kept b9
      replace r := r.kept b9
      replace y := y.kept b9
      replace hNL := hNL.below b9
      replace o7 := o7.below b9
      clear b9
      have szW10 : w9.heap.size ≤ W10.heap.size := by rw [hW]; simp [World.setCell]
      have szW10_ := bel.size
      replace bel : Below w.heap.size w W10 := by rw [hW]; exact (bel).setCell (by dsimp only; omega) _
      replace p : Box W10 w.heap.size 25 #[.int .i64 gg, .int .i64 gb, .int .i64 (R : Int), .int .i64 (C : Int)] := by rw [hW]; exact (p).far (by dsimp only; omega) _
      replace r : Box W10 (w.heap.size + 1) 87 #[.slice none 0 0, .slice none 0 0, .slice none 0 0] := by rw [hW]; exact (r).far (by dsimp only; omega) _
      replace y : Box W10 (w.heap.size + 1 + 1) 87 #[.slice Ac (L) cc, .slice (some ⟨w6.heap.size, 0, none⟩) M M, .slice (some ⟨W8.heap.size, 0, none⟩) M M] := by rw [hW]; exact (y).set_ 2 _
      replace hNL : OwnC' W10 W.heap.size w2.heap.size Ac L cc hs (zeroC L) := by rw [hW]; exact (hNL).setCell _ _ (by dsimp only; omega)
      replace o7 : OwnH W10 w6.heap.size w7.heap.size (some ⟨w6.heap.size, 0, none⟩) M M (List.replicate M 0) := by rw [hW]; exact (o7).setCell _ _ (by dsimp only; omega)
      replace o9 : OwnH W10 W8.heap.size w9.heap.size (some ⟨W8.heap.size, 0, none⟩) M M (List.replicate M 0) := by rw [hW]; exact (o9).setCell _ _ (by dsimp only; omega)
      clear hW
      obtain ⟨r_0, r_1, r_2⟩ := r.c3
      have r_lt := r.lt
      obtain ⟨y_0, y_1, y_2⟩ := y.c3
      have y_lt := y.lt
      have r_f := r.frozen
      go_wp2
      refine abs_body ?_
      intro W11 hW
      clear r_0 r_1 r_2 r_lt y_0 y_1 y_2 y_lt r_f
      have szW11 : W10.heap.size ≤ W11.heap.size := by rw [hW]; simp [World.setCell]
      have szW11_ := bel.size
      replace bel : Below w.heap.size w W11 := by rw [hW]; exact (((bel).setCell (by dsimp only; omega) _).setCell (by dsimp only; omega) _).setCell (by dsimp only; omega) _
      replace p : Box W11 w.heap.size 25 #[.int .i64 gg, .int .i64 gb, .int .i64 (R : Int), .int .i64 (C : Int)] := by rw [hW]; exact (((p).far (by dsimp only; omega) _).far (by dsimp only; omega) _).far (by dsimp only; omega) _
      replace r : Box W11 (w.heap.size + 1) 87 #[.slice Ac L cc, .slice (some ⟨w6.heap.size, 0, none⟩) M M, .slice (some ⟨W8.heap.size, 0, none⟩) M M] := by rw [hW]; exact (((r).set_ 0 _).set_ 1 _).set_ 2 _
      replace y : Box W11 (w.heap.size + 1 + 1) 87 #[.slice Ac (L) cc, .slice (some ⟨w6.heap.size, 0, none⟩) M M, .slice (some ⟨W8.heap.size, 0, none⟩) M M] := by rw [hW]; exact (((y).far (by dsimp only; omega) _).far (by dsimp only; omega) _).far (by dsimp only; omega) _
      replace hNL : OwnC' W11 W.heap.size w2.heap.size Ac L cc hs (zeroC L) := by rw [hW]; exact (((hNL).setCell _ _ (by dsimp only; omega)).setCell _ _ (by dsimp only; omega)).setCell _ _ (by dsimp only; omega)
      replace o7 : OwnH W11 w6.heap.size w7.heap.size (some ⟨w6.heap.size, 0, none⟩) M M (List.replicate M 0) := by rw [hW]; exact (((o7).setCell _ _ (by dsimp only; omega)).setCell _ _ (by dsimp only; omega)).setCell _ _ (by dsimp only; omega)
      replace o9 : OwnH W11 W8.heap.size w9.heap.size (some ⟨W8.heap.size, 0, none⟩) M M (List.replicate M 0) := by rw [hW]; exact (((o9).setCell _ _ (by dsimp only; omega)).setCell _ _ (by dsimp only; omega)).setCell _ _ (by dsimp only; omega)
      clear hW
      obtain ⟨z0, z1, z2⟩ := r.c3
      refine bodyPost_ret (v := .agg #[.slice Ac L cc, .slice (some ⟨w6.heap.size, 0, none⟩) M M, .slice (some ⟨W8.heap.size, 0, none⟩) M M]) (by simp [results, Try.results64, go_sem, z0, z1, z2]) rfl ?_
      exact ⟨_, _, _, _, _, _, _, _, _, rfl, ⟨_, _, _, _, _, _, ⟨hs, hNL⟩, o7, o9, by omega, by omega, by omega, by omega, by omega, by omega⟩, bel⟩
end Go.Proofs.Ytbapamfomfbmmaa
