/-
  The reference's syndromes of a word of eleven symbols. The reference's CorrectWord for a word without fault and for one with too many; DataOf, WordOfSymbols, DecodeLine. The reference's DataOf, WordOfSymbols and DecodeLine for a word that is clean or lost.
-/
import Derived.Test.YtbapamfomfbmmaaDrB
import Derived.Deep.RegionLaw
import Derived.Deep.DeepCutAuto
import Derived.Test.YtbapamfomfbmmaaLater
import Derived.BigQuiet
namespace Go.Proofs.Ytbapamfomfbmmaa
open Go.RowKit
set_option linter.unusedSimpArgs false
set_option linter.unusedVariables false

/-- One symbol's part in the syndromes: j of them, and the next factor. -/
def synIn (z x : Int) (out : List Int) : Nat → List Int × Int
  | 0 => (out, 1)
  | j + 1 => ((synIn z x out j).1.set j (bits .xor .i64 ((synIn z x out j).1.getD j 0) (gf z (synIn z x out j).2)), gf (synIn z x out j).2 x)
/-- The syndromes of the first i symbols. -/
def synTo (zs : List Int) : Nat → List Int
  | 0 => List.replicate 3 0
  | i + 1 => (synIn (zs.getD i 0) (gfP 2 i) (synTo zs i) 3).1
def NewSy (ss : List Int) (w : World) (e : Ending) (w' : World) : Prop :=
  ∃ g d, e = .returned (.slice (some ⟨g, 0, none⟩) 3 d) ∧ OwnH w' w.heap.size w'.heap.size (some ⟨g, 0, none⟩) 3 d ss ∧ Below w.heap.size w w'
set_option maxRecDepth 100000 in
set_option maxHeartbeats 8000000 in
theorem syndromes_c (A : Option Addr) (n c : Nat) (zs : List Int) (w : World) (h : Ints w A n zs) (hok : symOkN zs 11 = true) : Calls Try.prog 162 #[.slice A n c] w (NewSy (synTo zs 11) w) := by
  have bel : Below w.heap.size w w := Below.refl _ _
  obtain ⟨hz, hn11⟩ : zs.all symF = true ∧ n = 11 := by
    unfold symOkN at hok
    simp only [Bool.and_eq_true, beq_iff_eq] at hok
    exact ⟨hok.1, by have := h.1; omega⟩
  subst hn11
  have HZ := Lib.hid hz
  clear hz
  go_enter Try.func162, Try.ntmps162
  go_wp2_with fail
  refine (sSymbolsOk_c A 11 c zs 11 _ h (by omega)).mono ?_
  rintro e w' ⟨rfl, rfl⟩
  rw [hok]
  obtain ⟨mk, hmk⟩ := makeI_fun 3 (by omega)
  have hrun : ∀ w : World, (Instr.makeSlice 26 (.int .i64 3) (.int .i64 3)).run Try.prog w = .ok (.slice (some ⟨w.heap.size, 0, none⟩) 3 3) (mk w) := fun w => (hmk w).1
  obtain ⟨-, o5, b5⟩ := hmk w
  have s5 := b5.size
  go_wp2_with fail
  obtain ⟨W, hW⟩ : ∃ v, v = mk w := ⟨_, rfl⟩
  rw [← hW] at o5 b5 s5 ⊢
  clear hW hrun hmk hok
  have sW : w.heap.size + 1 ≤ W.heap.size := by have := (o5.1.lt w.heap.size (blk_at (by omega))).2; omega
  go_loopw [4] (fun i wr => ∃ (k : Nat) (out : List Int), k ≤ 11 ∧ i = .int .i64 k ∧ OwnH wr w.heap.size (w.heap.size + 1) (some ⟨w.heap.size, 0, none⟩) 3 3 out ∧ Hid (synTo zs k = out) ∧ Chg w.heap.size (w.heap.size + 1) W wr) (fun i _ => 11 - (intOf i).toNat)
  case atStart => exact ⟨0, _, Nat.zero_le _, rfl, o5, rfl, Chg.refl _ _ _⟩
  case round =>
    clear o5
    obtain ⟨i, out, hi, rfl, oR, HO, CR⟩ := hrel
    obtain ⟨Wr, hWr⟩ : ∃ v : World, v = wr := ⟨_, rfl⟩
    subst hWr
    have szR := CR.size
    have bR : Below w.heap.size w Wr := CR.below b5 (by omega)
    by_cases hlt : i < 11
    · obtain ⟨X, hX⟩ : ∃ q, q = gfP 2 i := ⟨_, rfl⟩
      have hXs : symF X = true := by rw [hX]; exact gfP_ok rfl i
      have cP : ∀ z : World, Calls Try.prog 164 #[.int .i64 2, .int .i64 (i : Int)] z fun e w' => e = .returned (.int .i64 X) ∧ z = w' := fun z => by rw [hX]; exact gfPow_c 2 i z rfl (by omega)
      have HX := Lib.hid hX
      clear hX
      go_wp2_with fail
      refine (cP _).mono ?_
      rintro e w' ⟨rfl, rfl⟩
      clear cP
      go_wp2_with fail
      go_loopw [5, 7] (fun f jv wx => ∃ (j : Nat) (F : Int) (us : List Int), j ≤ 3 ∧ jv = .int .i64 j ∧ f = .int .i64 F ∧ OwnH wx w.heap.size (w.heap.size + 1) (some ⟨w.heap.size, 0, none⟩) 3 3 us ∧ Hid (synIn (zs.getD i 0) X out j = (us, F)) ∧ symF F = true ∧ Chg w.heap.size (w.heap.size + 1) W wx) (fun _ jv _ => 3 - (intOf jv).toNat)
      case atStart => exact ⟨0, 1, out, Nat.zero_le _, rfl, rfl, oR, rfl, rfl, CR⟩
      case round =>
        clear oR
        obtain ⟨j, F, us, hj, rfl, rfl, oX, HU, hF, CX⟩ := hrel
        have szx := CX.size
        have bX : Below w.heap.size w wr := CX.below b5 (by omega)
        have HFs := Lib.hid hF
        clear hF
        by_cases hlj : j < 3
        · obtain ⟨gA, oA, z, rfl, cz, hz⟩ := (h.below bX).at_ hlt
          have hzs : symF z = true := all_at HZ.out hz.out
          obtain ⟨gN, y, eN, cN, fN, hN, -, -⟩ := oX.at_ hlj
          injection eN with eN
          injection eN with eN _
          subst eN
          obtain ⟨M, hM⟩ : ∃ q, q = gf z F := ⟨_, rfl⟩
          obtain ⟨G, hG⟩ : ∃ q, q = gf F X := ⟨_, rfl⟩
          have hGs : symF G = true := by rw [hG]; exact gf_ok HFs.out hXs
          have cM : ∀ v : World, Calls Try.prog 165 #[.int .i64 z, .int .i64 F] v fun e w' => e = .returned (.int .i64 M) ∧ v = w' := fun v => by rw [hM]; exact gfMul_c z F v hzs HFs.out
          have cG : ∀ v : World, Calls Try.prog 165 #[.int .i64 F, .int .i64 X] v fun e w' => e = .returned (.int .i64 G) ∧ v = w' := fun v => by rw [hG]; exact gfMul_c F X v HFs.out hXs
          have HN : Hid (synIn (zs.getD i 0) X out (j + 1) = (us.set j (bits .xor .i64 y M), G)) := by
            unfold Hid
            rw [synIn, HU.out, List.getD_eq_getElem?_getD (l := zs), hz.out, List.getD_eq_getElem?_getD (l := us), hN.out, hM, hG]
            rfl
          have HGs := Lib.hid hGs
          have j0 : (0 : Int) ≤ (j : Int) := by omega
          have j1 : (j : Int) < 3 := by omega
          have i0 : (0 : Int) ≤ (i : Int) := by omega
          have i1 : (i : Int) < 11 := by omega
          clear hz hN hM hG hzs hGs
          go_wp2_with fail
          go_region_law (first | (go_simp; go_at_call 165; refine (cM _).mono ?_; rintro e w' ⟨rfl, rfl⟩))
          all_goals
            go_wp2_with fail
            refine (cG _).mono ?_
            rintro e w' ⟨rfl, rfl⟩
            go_wp2
            go_roundw
            case rel => exact ⟨j + 1, G, _, by omega, by go_num, rfl, ((oX.stored rfl hlj _).1).drewN 1, HN, HGs.out, (CX.setCell (.inl ⟨by dsimp only; omega, by dsimp only; omega⟩) _).drewN 1⟩
            case measure => simp [intOf]; omega
        · obtain rfl : j = 3 := by omega
          have HN : Hid (synTo zs (i + 1) = us) := by unfold Hid; rw [synTo, HO.out, ← HX.out, HU.out]
          go_wp2
          go_roundw
          case rel => exact ⟨i + 1, us, by omega, by go_num, oX, HN, CX⟩
          case measure => simp [intOf]; omega
    · obtain rfl : i = 11 := by omega
      go_wp2
      go_ret
      exact ⟨_, _, rfl, by rw [HO.out]; exact oR.mono (Nat.le_refl _) (by omega), bR⟩
set_option maxHeartbeats 4000000 in
theorem l12Zero_c (g d : Nat) (s0 s1 s2 : Int) (w : World) (lo hi : Nat) (o : OwnH w lo hi (some ⟨g, 0, none⟩) 3 d [s0, s1, s2]) (b : Bool) (hb : (b = true ∧ s0 = 0 ∧ s1 = 0 ∧ s2 = 0) ∨ (b = false ∧ s0 ≠ 0)) :
    Calls Try.prog 163 #[.slice (some ⟨g, 0, none⟩) 3 d] w fun e w' => e = .returned (.bool b) ∧ Below w.heap.size w w' := by
  have c0 := (o.cellv (show 0 < 3 by omega) rfl).1
  have c1 := (o.cellv (show 1 < 3 by omega) rfl).1
  have c2 := (o.cellv (show 2 < 3 by omega) rfl).1
  go_enter Try.func163, Try.ntmps163
  rcases hb with ⟨rfl, rfl, rfl, rfl⟩ | ⟨rfl, h0⟩
  · go_wp2_with fail
    go_ret
    exact ⟨rfl, Below.refl _ _⟩
  · have q0 : (s0 == 0) = false := by simpa using h0
    go_wp2_with fail
    go_ret
    exact ⟨rfl, Below.refl _ _⟩
end Go.Proofs.Ytbapamfomfbmmaa
namespace Go.Proofs.Ytbapamfomfbmmaa
open Go.RowKit
set_option linter.unusedSimpArgs false
set_option linter.unusedVariables false

/-- A word that is clean (0) or lost (2), by its syndromes. -/
def codeOf (zs : List Int) (k : Int) : Prop :=
  ∃ s0 s1 s2 : Int, synTo zs 11 = [s0, s1, s2] ∧ (symF s0 = true ∧ symF s1 = true) ∧ ((k = 0 ∧ s0 = 0 ∧ s1 = 0 ∧ s2 = 0) ∨ (k = 2 ∧ s0 ≠ 0 ∧ ∀ i, i < 11 → ¬ (gf s0 (gfP 2 i) = s1 ∧ gf s1 (gfP 2 i) = s2)))
def NewCor (zs : List Int) (k : Int) (w : World) (e : Ending) (w' : World) : Prop :=
  ∃ B d, e = .returned (.tuple #[.slice B 11 d, .int .i64 k, .int .i64 (-1)]) ∧ OwnH w' w.heap.size w'.heap.size B 11 d zs ∧ Below w.heap.size w w'
set_option maxRecDepth 100000 in
set_option maxHeartbeats 8000000 in
theorem correct_c (A : Option Addr) (n c : Nat) (zs : List Int) (k : Int) (w : World) (h : Ints w A n zs) (hok : symOkN zs 11 = true) (hk : codeOf zs k) : Calls Try.prog 126 #[.slice A n c] w (NewCor zs k w) := by
  have bel : Below w.heap.size w w := Below.refl _ _
  have hn11 : n = 11 := by
    unfold symOkN at hok
    simp only [Bool.and_eq_true, beq_iff_eq] at hok
    have := h.1
    omega
  subst hn11
  obtain ⟨s0, s1, s2, hS, ⟨hs0, hs1⟩, hcase⟩ := hk
  have HK := Lib.hid hok
  have HCase := Lib.hid hcase
  go_enter Try.func126, Try.ntmps126
  go_wp2_with fail
  refine (sSymbolsOk_c A 11 c zs 11 _ h (by omega)).mono ?_
  rintro e w' ⟨rfl, rfl⟩
  rw [hok]
  clear hok hcase
  have ba : Below w.heap.size w (w.alloc (.cells #[] 3)) := (Below.refl _ _).alloc (Nat.le_refl _) _
  go_wp2_with (at_builtin; refine wpList_appI rfl (.tmp 13) (.tmp 14) 26 rfl Try.underlying26 infoInt _ 0 0 w.heap.size [] rfl (OwnI.nil _ _ _) A 11 c zs rfl (h.below ba) (by omega) (by simp) ?_; intro A8 c8 w8 o8 g8 at8)
  have b8 : Below w.heap.size w w8 := below_app ba g8 (fun k hk => by rw [blk_zero] at hk; cases hk)
  have oW : OwnH w8 w.heap.size w8.heap.size A8 11 c8 zs := OwnH.mk' o8
  have s8 := b8.size
  clear o8 g8 at8 ba
  refine (syndromes_c A 11 c zs _ (h.below b8) HK.out).mono ?_
  rintro e w9 ⟨g, d, rfl, oS, b9⟩
  rw [hS] at oS
  have b10 : Below w.heap.size w w9 := b8.trans (b9.mono b8.size)
  have o9 := oW.below b9
  have s9 := b9.size
  clear oW hS b8 b9
  rcases HCase.out with ⟨rfl, rfl, rfl, rfl⟩ | ⟨rfl, h0, hL⟩
  · go_wp2_with fail
    refine (l12Zero_c g d 0 0 0 _ _ _ oS true (.inl ⟨rfl, rfl, rfl, rfl⟩)).mono ?_
    rintro e w11 ⟨rfl, b11⟩
    have s11 := b11.size
    go_wp2
    go_ret3
    exact ⟨_, _, rfl, (o9.below b11).mono (Nat.le_refl _) (by omega), b10.trans (b11.mono b10.size)⟩
  · have HL := Lib.hid hL
    clear hL
    go_wp2_with fail
    refine (l12Zero_c g d s0 s1 s2 _ _ _ oS false (.inr ⟨rfl, h0⟩)).mono ?_
    rintro e w11 ⟨rfl, b11⟩
    have s11 := b11.size
    have oS1 := oS.below b11
    have oA1 := (o9.below b11).mono (Nat.le_refl w.heap.size) (show w8.heap.size ≤ w11.heap.size by omega)
    have bB : Below w.heap.size w w11 := b10.trans (b11.mono b10.size)
    clear oS o9 b10 b11
    go_wp2_with fail
    go_loopw [7] (fun i wr => ∃ (j : Nat), j ≤ 11 ∧ i = .int .i64 j ∧ Below w11.heap.size w11 wr) (fun i _ => 11 - (intOf i).toNat)
    case atStart => exact ⟨0, Nat.zero_le _, rfl, Below.refl _ _⟩
    case round =>
      obtain ⟨j, hj, rfl, bR⟩ := hrel
      have szR := bR.size
      have oS := oS1.below bR
      obtain ⟨c0, f0⟩ := oS.cellv (show 0 < 3 by omega) rfl
      obtain ⟨c1, f1⟩ := oS.cellv (show 1 < 3 by omega) rfl
      obtain ⟨c2, f2⟩ := oS.cellv (show 2 < 3 by omega) rfl
      have gl : g < wr.heap.size := by have := (oS.1.lt g (blk_at (by have := oS.1.cap; omega))).2; omega
      by_cases hlt : j < 11
      · obtain ⟨X, hX⟩ : ∃ q, q = gfP 2 j := ⟨_, rfl⟩
        have hXs : symF X = true := by rw [hX]; exact gfP_ok rfl j
        have cP : ∀ z : World, Calls Try.prog 164 #[.int .i64 2, .int .i64 (j : Int)] z fun e w' => e = .returned (.int .i64 X) ∧ z = w' := fun z => by rw [hX]; exact gfPow_c 2 j z rfl (by omega)
        have hno := HL.out j hlt
        rw [← hX] at hno
        obtain ⟨M, hM⟩ : ∃ q, q = gf s0 X := ⟨_, rfl⟩
        obtain ⟨M2, hM2⟩ : ∃ q, q = gf s1 X := ⟨_, rfl⟩
        rw [← hM, ← hM2] at hno
        have cM : ∀ z : Later wr, Calls Try.prog 165 #[.int .i64 s0, .int .i64 X] z.w fun e w' => e = .returned (.int .i64 M) ∧ z.w = w' := fun z => by rw [hM]; exact gfMul_c s0 X z.w hs0 hXs
        have cM2 : ∀ z : Later wr, Calls Try.prog 165 #[.int .i64 s1, .int .i64 X] z.w fun e w' => e = .returned (.int .i64 M2) ∧ z.w = w' := fun z => by rw [hM2]; exact gfMul_c s1 X z.w hs1 hXs
        clear hX hM hM2
        go_wp2_with fail
        refine (cP _).mono ?_
        rintro e w' ⟨rfl, rfl⟩
        clear cP
        have q0 : (s0 != 0) = true := by simpa using h0
        have l0 := later_cell gl c0
        have l1 := later_cell gl c1
        have l2 := later_cell gl c2
        by_cases e1 : M = s1
        · have q1 : (M == s1) = true := by simpa using e1
          have q2 : (M2 == s2) = false := by simpa using (fun e => hno ⟨e1, e⟩)
          clear e1 hno
          go_wp2_with fail
          refine wp_region_later (by kernel_rfl) (by kernel_rfl) ?_
          repeat (go_big_quiet_step ((go_at_call 165; first | (with_reducible exact later_same (cM _)) | (with_reducible exact later_same (cM2 _)))))
          refine wpQuiet_nil ?_
          intro Z hw'
          obtain ⟨z, hw''⟩ := hw'
          have bZ := z.bel
          rw [← hw''] at bZ
          clear hw'' z l0 l1 l2 cM cM2
          go_wp2
          go_roundw
          case rel => exact ⟨j + 1, by omega, by go_num, bR.trans (bZ.mono szR)⟩
          case measure => simp [intOf]; omega
        · have q1 : (M == s1) = false := by simpa using e1
          clear e1 hno
          go_wp2_with fail
          refine wp_region_later (by kernel_rfl) (by kernel_rfl) ?_
          repeat (go_big_quiet_step ((go_at_call 165; first | (with_reducible exact later_same (cM _)) | (with_reducible exact later_same (cM2 _)))))
          refine wpQuiet_nil ?_
          intro Z hw'
          obtain ⟨z, hw''⟩ := hw'
          have bZ := z.bel
          rw [← hw''] at bZ
          clear hw'' z l0 l1 l2 cM cM2
          go_wp2
          go_roundw
          case rel => exact ⟨j + 1, by omega, by go_num, bR.trans (bZ.mono szR)⟩
          case measure => simp [intOf]; omega
      · obtain rfl : j = 11 := by omega
        go_wp2
        go_ret3
        exact ⟨_, _, rfl, (oA1.below bR).mono (Nat.le_refl _) szR, bB.trans (bR.mono bB.size)⟩
end Go.Proofs.Ytbapamfomfbmmaa
namespace Go.Proofs.Ytbapamfomfbmmaa
open Go.RowKit
set_option linter.unusedSimpArgs false
set_option linter.unusedVariables false

theorem Ints.from3 {w : World} {g o : Nat} {zs : List Int} (h : Ints w (some ⟨g, o, none⟩) 11 zs) : Ints w (some ⟨g, o + 3, none⟩) 8 (zs.drop 3) := by
  refine ⟨by have := h.1; simp; omega, fun hn => ?_⟩
  obtain ⟨g', o', e, hg, hc⟩ := h.2 (by omega)
  injection e with e
  injection e with e1 e2
  subst e1 e2
  refine ⟨g, o + 3, rfl, hg, fun i hi => ?_⟩
  have := hc (3 + i) (by omega)
  rw [show o + 3 + i = o + (3 + i) by omega, this]
  congr 2
  simp [List.getD_eq_getElem?_getD]
theorem drop3_ok {zs : List Int} (h : symOkN zs 11 = true) : symOkN (zs.drop 3) 8 = true := by
  unfold symOkN at h ⊢
  simp only [Bool.and_eq_true, beq_iff_eq] at h ⊢
  refine ⟨?_, by rw [List.length_drop]; omega⟩
  have := h.1
  rw [List.all_eq_true] at this ⊢
  exact fun x hx => this x (List.mem_of_mem_drop hx)
def NewDat (zs : List Int) (w : World) (e : Ending) (w' : World) : Prop :=
  ∃ B d, e = .returned (.slice B 8 d) ∧ OwnH w' w.heap.size w'.heap.size B 8 d zs ∧ Below w.heap.size w w'
set_option maxHeartbeats 4000000 in
theorem dataOf_c (A : Option Addr) (c : Nat) (zs : List Int) (w : World) (h : Ints w A 11 zs) (hc : 11 ≤ c) (hc2 : c ≤ maxLen) (hok : symOkN zs 11 = true) : Calls Try.prog 128 #[.slice A 11 c] w (NewDat (zs.drop 3) w) := by
  obtain ⟨g, o, x, rfl, -, -⟩ := h.at_ (show 0 < 11 by omega)
  have ba : Below w.heap.size w (w.alloc (.cells #[] 3)) := (Below.refl _ _).alloc (Nat.le_refl _) _
  have h3 := h.from3.below ba
  have c3 : c ≠ 3 := by omega
  have c3' : (3 : Int) ≤ (c : Int) := by omega
  go_enter Try.func128, Try.ntmps128
  go_wp2_with fail
  refine (sSymbolsOk_c _ 11 c zs 11 _ h (by omega)).mono ?_
  rintro e w' ⟨rfl, rfl⟩
  rw [hok]
  go_wp2_with (at_builtin; refine wpList_appI rfl (.tmp 7) (.tmp 9) 26 rfl Try.underlying26 infoInt _ 0 0 w.heap.size [] rfl (OwnI.nil _ _ _) (some ⟨g, o + 3, none⟩) 8 (c - 3) (zs.drop 3) rfl h3 (by omega) (by simp) ?_; intro A8 c8 w8 o8 g8 at8)
  have b8 : Below w.heap.size w w8 := below_app ba g8 (fun k hk => by rw [blk_zero] at hk; cases hk)
  have oW : OwnH w8 w.heap.size w8.heap.size A8 8 c8 (zs.drop 3) := OwnH.mk' o8
  go_ret
  exact ⟨_, _, rfl, oW, b8⟩
set_option maxRecDepth 100000 in
set_option maxHeartbeats 4000000 in
theorem wordOf_c (A : Option Addr) (c : Nat) (zs : List Int) (w : World) (h : Ints w A 8 zs) (hok : symOkN zs 8 = true) : Calls Try.prog 127 #[.slice A 8 c] w fun e w' => ∃ x : Int, e = .returned (.tuple #[.int .i64 x, .bool true]) ∧ w = w' := by
  go_enter Try.func127, Try.ntmps127
  go_wp2_with fail
  refine (sSymbolsOk_c _ 8 c zs 8 _ h (by omega)).mono ?_
  rintro e w' ⟨rfl, rfl⟩
  rw [hok]
  go_wp2_with fail
  go_loopw [4, 5] (fun v i wr => ∃ (j : Nat) (x : Int), j ≤ 8 ∧ i = .int .i64 j ∧ v = .int .i64 x ∧ wr = w) (fun _ i _ => 8 - (intOf i).toNat)
  case atStart => exact ⟨0, 0, Nat.zero_le _, rfl, rfl, rfl⟩
  case round =>
    obtain ⟨j, x, hj, rfl, rfl, rfl⟩ := hrel
    by_cases hlt : j < 8
    · obtain ⟨g, o, y, rfl, cy, hy⟩ := h.at_ hlt
      have i0 : (0 : Int) ≤ (j : Int) := by omega
      have i1 : (j : Int) < 8 := by omega
      obtain ⟨q, hq⟩ : ∃ q : Nat, q = 4 * j := ⟨_, rfl⟩
      have q28 : q ≤ 28 := by omega
      have e4 : (4 : Int) * (j : Int) = (q : Int) := by omega
      have eW : IntKind.i64.wrap ((4 : Int) * (j : Int)) = (q : Int) := by rw [e4]; exact IntWalk.i64_in _ (by omega)
      clear hq e4
      clear hy
      go_wp2
      go_roundw
      case rel => exact ⟨j + 1, _, by omega, by go_num, rfl, trivial⟩
      case measure => simp [intOf]; omega
    · obtain rfl : j = 8 := by omega
      go_wp2
      go_ret2
      exact ⟨_, rfl, rfl⟩
set_option maxHeartbeats 4000000 in
theorem decode_c (A : Option Addr) (n c : Nat) (zs : List Int) (k : Int) (w : World) (h : Ints w A n zs) (hok : symOkN zs 11 = true) (hk : codeOf zs k) : Calls Try.prog 66 #[.slice A n c] w fun e w' => (∃ x : Int, e = .returned (.tuple #[.int .i64 x, .int .i64 k, .int .i64 (-1)])) ∧ Below w.heap.size w w' := by
  have HC := Lib.hid hk
  have hk2 : k = 0 ∨ k = 2 := by obtain ⟨_, _, _, _, _, h | h⟩ := hk; exact .inl h.1; exact .inr h.1
  have HK := Lib.hid hok
  clear hk hok
  go_enter Try.func66, Try.ntmps66
  go_wp2_with fail
  refine (correct_c A n c zs k _ h HK.out HC.out).mono ?_
  rintro e w1 ⟨B, d, rfl, o1, b1⟩
  rcases hk2 with rfl | rfl
  · go_wp2_with fail
    refine (dataOf_c B d zs _ o1.ints o1.1.cap.1 o1.1.cap.2 HK.out).mono ?_
    rintro e w2 ⟨B2, d2, rfl, o2, b2⟩
    go_wp2_with fail
    refine (wordOf_c B2 d2 _ _ o2.ints (drop3_ok HK.out)).mono ?_
    rintro e w3 ⟨x, rfl, rfl⟩
    go_wp2
    go_ret3
    exact ⟨⟨x, rfl⟩, b1.trans (b2.mono b1.size)⟩
  · go_wp2
    go_ret3
    exact ⟨⟨_, rfl⟩, b1⟩
end Go.Proofs.Ytbapamfomfbmmaa
