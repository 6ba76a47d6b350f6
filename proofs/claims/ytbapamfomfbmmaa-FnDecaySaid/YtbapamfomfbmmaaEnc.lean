/-
  EncodeSymbols, in the reference: eleven symbols in order, in new memory.
-/
import Derived.Test.YtbapamfomfbmmaaGf
import Derived.Test.YtbapamfomfbmmaaSenE
import Derived.Test.YtbapamfomfbmmaaPat3
import Derived.Deep.AppendLies
import Derived.Deep.RegionLaw
import Derived.Deep.DeepCutAuto
namespace Go.Proofs.Ytbapamfomfbmmaa
open Go.RowKit
set_option linter.unusedSimpArgs false
set_option linter.unusedVariables false

/-- Eleven symbols in order, in new memory; all that was there is as it was. -/
def NewS (w : World) (e : Ending) (w' : World) : Prop :=
  ∃ B d ys, e = .returned (.slice B 11 d) ∧ OwnH w' w.heap.size w'.heap.size B 11 d ys ∧ ys.all symF = true ∧ Below w.heap.size w w'
theorem all_at {f : Int → Bool} {l : List Int} {i : Nat} {x : Int} (h : l.all f = true) (hx : l[i]? = some x) : f x = true := by
  rw [List.all_eq_true] at h
  exact h x (List.mem_of_getElem? hx)
theorem OwnI.lit2 (w : World) (lo : Nat) (h : lo ≤ w.heap.size) (x y : Int) : OwnI (w.alloc (.cells #[.int .i64 x, .int .i64 y] 3)) lo (some ⟨w.heap.size, 0, none⟩) 2 2 [x, y] :=
  .inl ⟨rfl, .inr ⟨w.heap.size, 2, #[.int .i64 x, .int .i64 y], rfl, h, heap_alloc_new w _, Nat.le_refl _, by unfold maxLen; omega, rfl, rfl⟩⟩
theorem madeI0 (m : Nat) : (madeCells (Value.int .i64 0).cells (m * 1)).toList = mapI (List.replicate m 0) := by
  simp [Value.cells, toList_madeCells_one, mapI]
theorem makeI_fun (K : Nat) (hK : K ≤ 100) : ∃ mk : World → World, ∀ w : World, (Instr.makeSlice 26 (.int .i64 (K : Int)) (.int .i64 (K : Int))).run Try.prog w = .ok (.slice (some ⟨w.heap.size, 0, none⟩) K K) (mk w) ∧
    OwnH (mk w) w.heap.size (w.heap.size + 1) (some ⟨w.heap.size, 0, none⟩) K K (List.replicate K 0) ∧ Below w.heap.size w (mk w) := by
  obtain ⟨i0, hi0, hz0, hz1, hz2⟩ := info_parts infoInt
  refine Classical.axiomOfChoice (r := fun (w mkw : World) => (Instr.makeSlice 26 (.int .i64 (K : Int)) (.int .i64 (K : Int))).run Try.prog w = .ok (.slice (some ⟨w.heap.size, 0, none⟩) K K) mkw ∧ OwnH mkw w.heap.size (w.heap.size + 1) (some ⟨w.heap.size, 0, none⟩) K K (List.replicate K 0) ∧ Below w.heap.size w mkw) fun w => ?_
  obtain ⟨w', h1, h2, h3⟩ := run_make_full (P := Try.prog) w w.heap.size 26 3 i0 _ 1 Try.underlying26 hi0 hz0 hz1 .i64 .i64 K (by rw [hz2]; omega) (by unfold maxLen; omega) (Nat.le_refl _)
  rw [madeI0] at h2
  refine ⟨w', h1, ⟨.inl (by simpa using h2), fun k hk => ?_⟩, grown_below h3⟩
  obtain ⟨hc, a, ha, hb⟩ := blk_some hk
  injection ha with ha
  rw [← hb, ← ha]
  exact Nat.lt_succ_self _
set_option maxRecDepth 100000 in
set_option maxHeartbeats 16000000 in
theorem encode_c (A : Option Addr) (n c : Nat) (zs : List Int) (w : World) (h : Ints w A n zs) (hok : symOkN zs 8 = true) : Calls Try.prog 173 #[.slice A n c] w (NewS w) := by
  have bel : Below w.heap.size w w := Below.refl _ _
  obtain ⟨hz, hn8⟩ : zs.all symF = true ∧ n = 8 := by
    unfold symOkN at hok
    simp only [Bool.and_eq_true, beq_iff_eq] at hok
    exact ⟨hok.1, by have := h.1; omega⟩
  subst hn8
  have HZ := Lib.hid hz
  clear hz
  obtain ⟨i0, hi0, hz0, hz1, hz2⟩ := info_parts infoInt
  go_enter Try.func173, Try.ntmps173
  go_wp2_with fail
  refine (sSymbolsOk_c A 8 c zs 8 _ h (by omega)).mono ?_
  rintro e w' ⟨rfl, rfl⟩
  rw [hok]
  obtain ⟨mk, hmk⟩ := makeI_fun 3 (by omega)
  have hrun : ∀ w : World, (Instr.makeSlice 26 (.int .i64 3) (.int .i64 3)).run Try.prog w = .ok (.slice (some ⟨w.heap.size, 0, none⟩) 3 3) (mk w) := fun w => (hmk w).1
  obtain ⟨-, o5, b5⟩ := hmk w
  have s5 := b5.size
  go_wp2_with (at_builtin; refine wpList_appI rfl (.tmp 18) (.tmp 19) 26 rfl Try.underlying26 infoInt _ 3 3 w.heap.size (List.replicate 3 0) rfl o5.1 A 8 c zs rfl (h.below b5) (by omega) (by omega) ?_; intro A6 c6 w6 o6 g6 at6)
  refine abs_code ?_
  intro W7 hW
  have b6 : Below w.heap.size w w6 := below_app b5 g6 (fun k hk => (o5.1.lt k hk).1)
  have b7 : Below w6.heap.size w6 W7 := by rw [hW]; exact (Below.refl _ _).alloc (Nat.le_refl _) _
  have oW0 : OwnH W7 w.heap.size w6.heap.size A6 11 c6 (List.replicate 3 0 ++ zs) := (OwnH.mk' o6).below b7
  have oB0 : OwnH W7 w6.heap.size W7.heap.size (some ⟨w6.heap.size, 0, none⟩) 2 2 [1, 1] := by rw [hW]; exact OwnH.mk' (OwnI.lit2 w6 _ (Nat.le_refl _) 1 1)
  have bW : Below w.heap.size w W7 := b6.trans (b7.mono b6.size)
  have sW : w6.heap.size + 1 ≤ W7.heap.size := by rw [hW]; simp
  have sW0 := b6.size
  clear hW b7 b6 g6 at6 o6 o5 b5 s5 hrun hmk hok
  obtain ⟨ys, hys⟩ : ∃ ys, ys = List.replicate 3 0 ++ zs := ⟨_, rfl⟩
  rw [← hys] at oW0
  have HY : Hid (ys.all symF = true) := by unfold Hid; rw [hys, List.all_append, HZ.out]; rfl
  clear hys HZ
  go_loopw [4, 5] (fun v i wr => ∃ (j : Nat) (B : Option Addr) (d : Nat) (bs : List Int) (lo hi : Nat), 1 ≤ j ∧ j ≤ 3 ∧ i = .int .i64 j ∧ v = .slice B (j + 1) d ∧ OwnH wr lo hi B (j + 1) d bs ∧ bs.all symF = true ∧ w6.heap.size ≤ lo ∧ hi ≤ wr.heap.size ∧ Below W7.heap.size W7 wr) (fun _ i _ => 3 - (intOf i).toNat)
  case atStart => exact ⟨1, _, _, _, _, _, Nat.le_refl _, by omega, rfl, rfl, oB0, rfl, Nat.le_refl _, Nat.le_refl _, Below.refl _ _⟩
  case round =>
    clear oB0
    obtain ⟨j, B, d, bs, lo, hi, j1, hj, rfl, rfl, oB, hb, l1, l2, br⟩ := hrel
    have HB := Lib.hid hb
    clear hb
    have szr := br.size
    obtain ⟨Wr, hWr⟩ : ∃ v : World, v = wr := ⟨_, rfl⟩
    subst hWr
    by_cases hlt : j < 3
    · go_wp2_with (at_make; refine wpList_make_full _ rfl (.tmp 28) (.tmp 28) 26 rfl Wr.heap.size 3 i0 _ 1 Try.underlying26 hi0 hz0 hz1 .i64 .i64 (j + 2) (j + 2) (j + 2) rfl rfl rfl rfl (by rw [hz2]; omega) (by unfold maxLen; omega) (Nat.le_refl _) ?_; intro wn hon hgn)
      rw [madeI0] at hon
      have bn := grown_below hgn
      have oN : OwnH wn Wr.heap.size wn.heap.size (some ⟨Wr.heap.size, 0, none⟩) (j + 2) (j + 2) (List.replicate (j + 2) 0) := OwnH.mk' (.inl (by simpa using hon))
      have hn0 : (List.replicate (j + 2) (0 : Int)).all symF = true := by simp [symF, inB]
      have sn := bn.size
      clear hon hgn
      replace oB := oB.below bn
      go_loopw [7] (fun i wx => ∃ (k : Nat) (ns : List Int), k ≤ j + 1 ∧ i = .int .i64 k ∧ OwnH wx Wr.heap.size wn.heap.size (some ⟨Wr.heap.size, 0, none⟩) (j + 2) (j + 2) ns ∧ ns.all symF = true ∧ Chg Wr.heap.size wn.heap.size wn wx) (fun i _ => j + 1 - (intOf i).toNat)
      case atStart => exact ⟨0, _, Nat.zero_le _, rfl, oN, hn0, Chg.refl _ _ _⟩
      case round =>
        clear oN hn0
        obtain ⟨k, ns, hk, rfl, oX, hx, CX⟩ := hrel
        have HX := Lib.hid hx
        clear hx
        have szx := CX.size
        have oBx := oB.chg CX (by omega)
        by_cases hlk : k < j + 1
        · obtain ⟨gN, y1, eN, cN1, fN1, hN1, gN1, gN2⟩ := oX.at_ (show k + 1 < j + 2 by omega)
          injection eN with eN
          injection eN with eN _
          subst eN
          obtain ⟨gB, x, rfl, cB, fB, hB, gB1, gB2⟩ := oBx.at_ hlk
          have hxs : symF x = true := all_at HB.out hB.out
          have hy1 : symF y1 = true := all_at HX.out hN1.out
          have HN1 : Hid ((ns.set (k + 1) (bits .xor .i64 y1 x)).all symF = true) := set_all HX.out (xor_ok hy1 hxs)
          have k0 : (0 : Int) ≤ (k : Int) := by omega
          have k1 : (k : Int) < (j : Int) + 1 := by omega
          have k2 : (0 : Int) ≤ (k : Int) + 1 := by omega
          have k3 : (k : Int) + 1 < (j : Int) + 2 := by omega
          have eK : IntKind.i64.wrap ((k : Int) + 1) = (k : Int) + 1 := IntWalk.i64_in _ (by omega)
          have eT : ((k : Int) + 1).toNat = k + 1 := by omega
          clear hN1 hB
          go_wp2_with fail
          go_region
          go_wp2_with fail
          refine abs_code ?_
          intro W1 hW
          have oX1 : OwnH W1 Wr.heap.size wn.heap.size (some ⟨Wr.heap.size, 0, none⟩) (j + 2) (j + 2) (ns.set (k + 1) (bits .xor .i64 y1 x)) := by rw [hW]; exact ((oX.stored rfl (show k + 1 < j + 2 by omega) _).1).drewN 1
          have CX1 : Chg Wr.heap.size wn.heap.size wn W1 := by rw [hW]; exact (CX.setCell (.inl ⟨by dsimp only; omega, by dsimp only; omega⟩) _).drewN 1
          have szw1 := CX1.size
          have oB1 := oB.chg CX1 (by omega)
          clear hW cN1 fN1 cB fB oX CX oBx
          obtain ⟨ns1, hns1⟩ : ∃ v, v = ns.set (k + 1) (bits .xor .i64 y1 x) := ⟨_, rfl⟩
          rw [← hns1] at oX1 HN1
          clear hns1
          obtain ⟨gN, y0, eN, cN0, fN0, hN0, -, -⟩ := oX1.at_ (show k < j + 2 by omega)
          injection eN with eN
          injection eN with eN _
          subst eN
          obtain ⟨gB', x', eB, cB, fB, hB, -, -⟩ := oB1.at_ hlk
          injection eB with eB
          injection eB with eB _
          subst eB
          have hxs' : symF x' = true := all_at HB.out hB.out
          have hy0 : symF y0 = true := all_at HN1.out hN0.out
          obtain ⟨Q, hQ⟩ : ∃ q, q = gfP 2 j := ⟨_, rfl⟩
          have hQs : symF Q = true := by rw [hQ]; exact gfP_ok rfl j
          obtain ⟨M, hM⟩ : ∃ q, q = gf x' Q := ⟨_, rfl⟩
          have hMs : symF M = true := by rw [hM]; exact gf_ok hxs' hQs
          have cP : ∀ z : World, Calls Try.prog 164 #[.int .i64 2, .int .i64 (j : Int)] z fun e w' => e = .returned (.int .i64 Q) ∧ z = w' := fun z => by rw [hQ]; exact gfPow_c 2 j z rfl (by omega)
          have cM : ∀ z : World, Calls Try.prog 165 #[.int .i64 x', .int .i64 Q] z fun e w' => e = .returned (.int .i64 M) ∧ z = w' := fun z => by rw [hM]; exact gfMul_c x' Q z hxs' hQs
          have HN0 : Hid ((ns1.set k (bits .xor .i64 y0 M)).all symF = true) := set_all HN1.out (xor_ok hy0 hMs)
          have k4 : (k : Int) < (j : Int) + 2 := by omega
          clear hN0 hB hQ hM eK eT k2 k3
          go_region_law (first | (go_simp; go_at_call 164; refine (cP _).mono ?_; rintro e w' ⟨rfl, rfl⟩) | (go_simp; go_at_call 165; refine (cM _).mono ?_; rintro e w' ⟨rfl, rfl⟩))
          all_goals
            go_wp2
            go_roundw
            case rel => exact ⟨k + 1, _, by omega, by go_num, ((oX1.stored rfl (show k < j + 2 by omega) _).1).drewN 1, HN0.out, (CX1.setCell (.inl ⟨by dsimp only; omega, by dsimp only; omega⟩) _).drewN 1⟩
            case measure => simp [intOf]; omega
        · obtain rfl : k = j + 1 := by omega
          go_wp2
          go_roundw
          case rel => exact ⟨j + 1, _, _, ns, Wr.heap.size, wn.heap.size, by omega, by omega, by go_num, rfl, oX, HX.out, by omega, szx, CX.below (br.trans (bn.mono szr)) szr⟩
          case measure => simp [intOf]; omega
    · obtain rfl : j = 3 := by omega
      have oWr := oW0.below br
      have ba : Below Wr.heap.size Wr (Wr.alloc (.cells #[] 3)) := (Below.refl _ _).alloc (Nat.le_refl _) _
      go_wp2_with (at_builtin; refine wpList_appI rfl (.tmp 66) (.tmp 67) 26 rfl Try.underlying26 infoInt _ 0 0 Wr.heap.size [] rfl (OwnI.nil _ _ _) A6 11 c6 ys rfl (oWr.ints.below ba) (by omega) (by simp) ?_; intro A8 c8 w8 o8 g8 at8)
      have b8 : Below Wr.heap.size Wr w8 := below_app ba g8 (fun k hk => by rw [blk_zero] at hk; cases hk)
      have oR0 : OwnH w8 Wr.heap.size w8.heap.size A8 11 c8 ys := OwnH.mk' o8
      have oB8 := oB.below b8
      have oW8 := oWr.below b8
      have sz8 := b8.size
      clear o8 g8 at8 oB oWr ba oW0
      go_loopw [9] (fun i wx => ∃ (t : Nat) (rs : List Int), 2 ≤ t ∧ t ≤ 10 ∧ i = .int .i64 t ∧ OwnH wx Wr.heap.size w8.heap.size A8 11 c8 rs ∧ rs.all symF = true ∧ Chg Wr.heap.size w8.heap.size w8 wx) (fun i _ => (intOf i).toNat)
      case atStart => exact ⟨10, ys, by omega, by omega, rfl, oR0, HY.out, Chg.refl _ _ _⟩
      case round =>
        clear oR0
        obtain ⟨t, rs, t2, t10, rfl, oR, hr, CR⟩ := hrel
        have HR := Lib.hid hr
        clear hr
        have szR := CR.size
        obtain ⟨Wt, hWt⟩ : ∃ v : World, v = wr := ⟨_, rfl⟩
        subst hWt
        have oBt := oB8.chg CR (by omega)
        by_cases hlt3 : 3 ≤ t
        · obtain ⟨gR, f, rfl, cR, fR, hR, gR1, gR2⟩ := oR.at_ (show t < 11 by omega)
          have hfs : symF f = true := all_at HR.out hR.out
          have t0 : (0 : Int) ≤ (t : Int) := by omega
          have t1 : (t : Int) < 11 := by omega
          have t3 : (3 : Int) ≤ (t : Int) := by omega
          clear hR
          go_wp2_with fail
          clear cR fR
          go_loopw [11] (fun i wx => ∃ (k : Nat) (rs : List Int), k ≤ 4 ∧ i = .int .i64 k ∧ OwnH wx Wr.heap.size w8.heap.size (some ⟨gR, 0, none⟩) 11 c8 rs ∧ rs.all symF = true ∧ Chg Wr.heap.size w8.heap.size Wt wx) (fun i _ => 4 - (intOf i).toNat)
          case atStart => exact ⟨0, rs, by omega, rfl, oR, HR.out, Chg.refl _ _ _⟩
          case round =>
            clear oR HR
            obtain ⟨k, rs, hk, rfl, oX, hx, CX⟩ := hrel
            have HX := Lib.hid hx
            clear hx
            have szX := CX.size
            have oBx := oBt.chg CX (by omega)
            by_cases hlk : k < 4
            · obtain ⟨Z, hZ⟩ : ∃ z : Nat, z = t - 3 + k := ⟨_, rfl⟩
              have hZ11 : Z < 11 := by omega
              obtain ⟨gN, y, eN, cN, fN, hN, -, -⟩ := oX.at_ hZ11
              injection eN with eN
              injection eN with eN _
              subst eN
              obtain ⟨gB, x, rfl, cB, fB, hB, -, -⟩ := oBx.at_ (show k < 3 + 1 by omega)
              have hxs : symF x = true := all_at HB.out hB.out
              have hys : symF y = true := all_at HX.out hN.out
              obtain ⟨M, hM⟩ : ∃ q, q = gf x f := ⟨_, rfl⟩
              have hMs : symF M = true := by rw [hM]; exact gf_ok hxs hfs
              have cM : ∀ z : World, Calls Try.prog 165 #[.int .i64 x, .int .i64 f] z fun e w' => e = .returned (.int .i64 M) ∧ z = w' := fun z => by rw [hM]; exact gfMul_c x f z hxs hfs
              have HS : Hid ((rs.set Z (bits .xor .i64 y M)).all symF = true) := set_all HX.out (xor_ok hys hMs)
              have k0 : (0 : Int) ≤ (k : Int) := by omega
              have k1 : (k : Int) < 4 := by omega
              have z0 : (0 : Int) ≤ (Z : Int) := by omega
              have z1 : (Z : Int) < 11 := by omega
              have eZ : (t : Int) - 3 + (k : Int) = (Z : Int) := by omega
              clear hN hB hM hZ
              go_wp2_with fail
              go_region_law (first | (go_simp; go_at_call 165; refine (cM _).mono ?_; rintro e w' ⟨rfl, rfl⟩))
              all_goals
                go_wp2
                go_roundw
                case rel => exact ⟨k + 1, _, by omega, by go_num, ((oX.stored rfl hZ11 _).1).drewN 1, HS.out, (CX.setCell (.inl ⟨by dsimp only; omega, by dsimp only; omega⟩) _).drewN 1⟩
                case measure => simp [intOf]; omega
            · obtain rfl : k = 4 := by omega
              have et : (t : Int) - 1 = ((t - 1 : Nat) : Int) := by omega
              go_wp2
              go_roundw
              case rel => exact ⟨t - 1, rs, by omega, by omega, by go_num, oX, HX.out, CR.trans CX⟩
              case measure => simp [intOf]; omega
        · obtain rfl : t = 2 := by omega
          have oWt := oW8.chg CR (by omega)
          have bWt : Below w.heap.size w Wt := CR.below ((bW.trans (br.mono bW.size)).trans (b8.mono (by omega))) (by omega)
          go_wp2_with fail
          go_loopw [13] (fun i wx => ∃ (k : Nat) (vs : List Int), k ≤ 3 ∧ i = .int .i64 k ∧ OwnH wx w.heap.size w6.heap.size A6 11 c6 vs ∧ vs.all symF = true ∧ Chg w.heap.size w6.heap.size Wt wx) (fun i _ => 3 - (intOf i).toNat)
          case atStart => exact ⟨0, ys, by omega, rfl, oWt, HY.out, Chg.refl _ _ _⟩
          case round =>
            clear oWt
            obtain ⟨k, vs, hk, rfl, oV, hv, CV⟩ := hrel
            have HV := Lib.hid hv
            clear hv
            have szV := CV.size
            have oRx := oR.chg CV (by omega)
            by_cases hlk : k < 3
            · obtain ⟨gV, y, rfl, cV, fV, hV, gV1, gV2⟩ := oV.at_ (show k < 11 by omega)
              obtain ⟨gR, x, rfl, cR, fR, hR, -, -⟩ := oRx.at_ (show k < 11 by omega)
              have HS : Hid ((vs.set k x).all symF = true) := set_all HV.out (all_at HR.out hR.out)
              have k0 : (0 : Int) ≤ (k : Int) := by omega
              have k1 : (k : Int) < 11 := by omega
              clear hV hR
              go_wp2
              go_roundw
              case rel => exact ⟨k + 1, _, by omega, by go_num, (oV.stored rfl (show k < 11 by omega) _).1, HS.out, CV.setCell (.inl ⟨by dsimp only; omega, by dsimp only; omega⟩) _⟩
              case measure => simp [intOf]; omega
            · obtain rfl : k = 3 := by omega
              have s9 := bWt.size
              go_wp2
              go_ret
              exact ⟨_, _, vs, rfl, oV.mono (Nat.le_refl _) (by omega), HV.out, CV.below bWt (Nat.le_refl _)⟩
end Go.Proofs.Ytbapamfomfbmmaa
