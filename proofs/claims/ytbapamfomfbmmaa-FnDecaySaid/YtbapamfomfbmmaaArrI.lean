/-
  The laws' helpers on slices of cells (limit, marks) and on arrays.
-/
import Derived.Test.YtbapamfomfbmmaaArrH
namespace Go.Proofs.Ytbapamfomfbmmaa
open Go.RowKit
set_option linter.unusedSimpArgs false
set_option linter.unusedVariables false

set_option maxHeartbeats 2000000 in
theorem szCellS_n (A : Option Addr) (n c : Nat) (vs : List CV) (left : Int) (w : World) (h : Cs w A n vs) (h0 : 0 ≤ left) (h1 : left ≤ 1048576) (hm : n ≤ maxLen) (hz : ∀ v ∈ vs, v.1.length ≤ maxLen) (hn : left < (csz vs : Int)) :
    Calls Try.prog 105 #[.slice A n c, .int .i64 left] w fun e w' => e = .returned (.int .i64 (-1)) ∧ Below w.heap.size w w' := by
  have hl := Lib.hid h.len
  by_cases hs : left < (n : Int)
  · have t0 : decide (left - (n : Int) < 0) = true := by simp; omega
    unfold maxLen at hm
    clear hz h
    go_enter Try.func105, Try.ntmps105
    go_wp2
    go_ret
    exact ⟨rfl, Below.refl _ _⟩
  have t0 : decide (left - (n : Int) < 0) = false := by simp; omega
  go_enter Try.func105, Try.ntmps105
  go_wp2
  go_loopw [1, 5] (fun q i wr => ∃ (k : Nat) (L : Int), k ≤ n ∧ i = .int .i64 k ∧ q = .int .i64 L ∧ 0 ≤ L ∧ Hid (L + (csz (vs.take k) : Int) = left - n + k) ∧ Below w.heap.size w wr) (fun _ i _ => n - (intOf i).toNat)
  case atStart => exact ⟨0, _, Nat.zero_le _, rfl, rfl, by omega, by unfold Hid; simp [csz], Below.refl _ _⟩
  case round =>
    obtain ⟨k, L, hk, rfl, rfl, hL0, HL, bk⟩ := hrel
    by_cases hlt : k < n
    · obtain ⟨g, o, sa, sn, sc, zs, psn, rfl, hg, c0, c1, hI, hv⟩ := (h.below bk).at_ hlt
      have hs1 := csz_take hv.out
      have hs2 : k ≤ csz (vs.take k) := by have := csz_len (vs.take k); rw [List.length_take] at this; have := hl.out; omega
      have hLL := HL.out
      have hZ := hI.1
      have hL1 : L ≤ 1048576 := by omega
      by_cases hLy : (sn : Int) ≤ L
      · have t1 : decide (L - (sn : Int) < 0) = false := by simp; omega
        have HL2 : Hid (L - sn + (csz (vs.take (k + 1)) : Int) = left - n + ((k + 1 : Nat) : Int)) := by unfold Hid; dsimp only at hs1; omega
        clear hs1 hs2 hLL hZ hv
        go_wp2_with fail
        refine (szCell_y sa sn sc psn L _ hL1 hLy).mono ?_
        rintro x w2 ⟨rfl, b2⟩
        go_wp2
        go_roundw
        case rel => exact ⟨k + 1, _, by omega, by go_num, rfl, by omega, HL2, bk.trans (b2.mono bk.size)⟩
        case measure => simp [intOf]; omega
      · have hsm : sn ≤ maxLen := by have := hz _ (List.mem_of_getElem? hv.out); dsimp only at this; omega
        clear hs1 hs2 hLL hZ hv
        go_wp2_with fail
        refine (szCell_n sa sn sc psn L _ hL0 hL1 hsm (by omega)).mono ?_
        rintro x w2 ⟨rfl, b2⟩
        go_wp2
        go_ret
        exact ⟨rfl, bk.trans (b2.mono bk.size)⟩
    · exfalso
      obtain rfl : n = k := by omega
      have hLL := HL.out
      rw [csz_all (by rw [hl.out]; omega)] at hLL
      omega
theorem chg_none {lo hi : Nat} {w w' : World} (C : Chg 0 0 w w') : Chg lo hi w w' := ⟨C.os, C.tape, C.output, C.size, fun i hi _ => C.block i hi (.inr (Nat.zero_le _))⟩
set_option maxHeartbeats 2000000 in
theorem markCellS_h (A : Option Addr) (n c lo hi : Nat) (vs : List CV) (k : Int) (w : World) (h : OwnC w lo hi A n c vs) (hn : csz vs ≤ 1048576) (h0 : 0 ≤ k) (hk : k ≤ 90000000) :
    Calls Try.prog 115 #[.slice A n c, .int .i64 k] w fun e w' => e = .returned (.int .i64 (k + csz vs)) ∧ OwnC w' lo hi A n c (cmarks k vs) ∧ Chg lo hi w w' := by
  have hl := Lib.hid h.len
  have hn1 : n ≤ 1048576 := by have := h.len; have := csz_len vs; omega
  obtain ⟨hs0, H0⟩ := h
  go_enter Try.func115, Try.ntmps115
  go_wp2
  go_loopw [1, 5] (fun q i wr => ∃ (j : Nat) (K : Int) (hs : List Cel), j ≤ n ∧ i = .int .i64 j ∧ q = .int .i64 K ∧ Hid (K = k + (csz (vs.take j) : Int)) ∧ OwnC' wr lo hi A n c hs (upTo (cmarks k vs) vs j) ∧ Chg lo hi w wr) (fun _ i _ => n - (intOf i).toNat)
  case atStart => exact ⟨0, _, hs0, Nat.zero_le _, rfl, rfl, by unfold Hid; simp [csz], by rw [upTo_zero]; exact H0, Chg.refl _ _ _⟩
  case round =>
    clear H0
    obtain ⟨j, K, hs, hj, rfl, rfl, HK, ok, Cj⟩ := hrel
    by_cases hlt : j < n
    · obtain ⟨g, sa, sn, sc, zs, psn, rfl, gl, gh, hf, c0, c1, hI, hhs, hvs⟩ := ok.at_ hlt
      have hvj : vs[j]? = some (zs, psn) := by
        obtain ⟨v, hv⟩ : ∃ v, vs[j]? = some v := ⟨_, List.getElem?_eq_getElem (by have := hl.out; omega)⟩
        have := upTo_get (rs := cmarks k vs) (cmarks_len k vs) hv
        rw [hvs.out] at this
        rw [hv, this]
      have hs1 := csz_take hvj
      have hs2 := csz_le vs (j + 1)
      have hZ := hI.len
      have hKK := HK.out
      have hsn : sn ≤ 1048576 := by dsimp only at hs1; omega
      have hK0 : 0 ≤ K := by omega
      have hK1 : K ≤ 100000000 := by dsimp only at hs1; omega
      have HM := Lib.hid (cmarks_get (k := k) hvj)
      have HN : Hid (cmark (k + (csz (vs.take j) : Int)) (zs, psn) = (marks K sn, (K + (sn : Int)) % 3 == 0)) := by unfold Hid cmark; rw [← hKK]; dsimp only; rw [hZ]
      have HK2 : Hid (K + (sn : Int) + 1 = k + (csz (vs.take (j + 1)) : Int)) := by unfold Hid; dsimp only at hs1; omega
      clear hs1 hs2 hKK hvj
      go_wp2_with fail
      by_cases hb : ∃ gB, blk sa sc = some gB
      · obtain ⟨gB, hb⟩ := hb
        have hin := hI.blkIn hb
        refine (markIntS_h sa sn sc gB (gB + 1) zs K _ (hI.tight hb) hsn hK0 hK1).mono ?_
        rintro x w2 ⟨rfl, o2, C2⟩
        have R2 := ok.chgRow hhs.out hvs.out hb C2 (o2.mono hin.1 (by omega))
        have HC2 := Lib.hid (Cj.trans (C2.mono hin.1 (by omega)))
        obtain ⟨g2, sa', sn', sc', zs', psn', e2, gl2, gh2, hf2, c02, c12, hI2, hhs2, hvs2⟩ := R2.at_ hlt
        injection e2 with e2
        injection e2 with e2 _
        subst e2
        have HR2 := Lib.hid R2
        obtain ⟨bb, hbb⟩ : ∃ b : Bool, ((K + (sn : Int)) % 3 == 0) = b := ⟨_, rfl⟩
        rw [hbb] at HN
        clear ok C2 R2 o2 hI hI2 c0 c1 hf
        have i0 : (0 : Int) ≤ (j : Int) := by omega
        have i1 : (j : Int) < (n : Int) := by omega
        go_wp2
        go_roundw
        case rel =>
          obtain ⟨q1, q2⟩ := HR2.out.setPsn rfl hhs.out (v := (marks K sn, psn)) (List.getElem?_set_self (lt_of_get hvs.out)) bb
          rw [List.set_set, ← HN.out, upTo_set (by rw [cmarks_len]) HM.out] at q1
          exact ⟨j + 1, _, _, by omega, by go_num, rfl, HK2, q1, HC2.out.trans (q2.mono gl (by omega))⟩
        case measure => simp [intOf]; omega
      · have hc0 : sc = 0 := by
          refine Classical.byContradiction fun hc => hb ?_
          obtain ⟨gB, e, -, -⟩ := OwnV.form hI.1 hc
          exact ⟨gB, by rw [e]; exact blk_at hc⟩
        obtain ⟨hn0, hz0⟩ := OwnV.none_of hI.1 hc0
        have hzs : zs = [] := by rw [hn0] at hZ; exact List.eq_nil_of_length_eq_zero hZ
        subst hc0 hn0 hzs
        refine (markIntS_h sa 0 0 0 0 [] K _ (OwnH.nil _ _ _ _) hsn hK0 hK1).mono ?_
        rintro x w2 ⟨rfl, o2, C2⟩
        have R2 := ok.chgOut C2 (.inr (Nat.zero_le _))
        have HC2 := Lib.hid (Cj.trans (chg_none (lo := lo) (hi := hi) C2))
        obtain ⟨g2, sa', sn', sc', zs', psn', e2, gl2, gh2, hf2, c02, c12, hI2, hhs2, hvs2⟩ := R2.at_ hlt
        injection e2 with e2
        injection e2 with e2 _
        subst e2
        have HR2 := Lib.hid R2
        obtain ⟨bb, hbb⟩ : ∃ b : Bool, ((K + ((0 : Nat) : Int)) % 3 == 0) = b := ⟨_, rfl⟩
        rw [hbb] at HN
        have hbb2 : (K % 3 == 0) = bb := by rw [← hbb]; simp
        clear ok C2 R2 o2 hI hI2 c0 c1 hf
        have i0 : (0 : Int) ≤ (j : Int) := by omega
        have i1 : (j : Int) < (n : Int) := by omega
        go_wp2
        go_roundw
        case rel =>
          obtain ⟨q1, q2⟩ := HR2.out.setPsn rfl hhs.out hvs.out bb
          have hmk : (([] : List Int), bb) = (marks K 0, bb) := rfl
          dsimp only at q1
          rw [hmk, ← HN.out, upTo_set (by rw [cmarks_len]) HM.out] at q1
          refine ⟨j + 1, _, _, by omega, by go_num, rfl, ?_, q1, HC2.out.trans (q2.mono gl (by omega))⟩
          have := HK2.out
          unfold Hid
          omega
        case measure => simp [intOf]; omega
    · obtain rfl : n = j := by omega
      have hKK := HK.out
      rw [csz_all (by rw [hl.out]; omega)] at hKK
      go_wp2
      go_ret
      rw [upTo_all (by rw [cmarks_len, hl.out]; omega) (by rw [hl.out]; omega)] at ok
      exact ⟨ret_int (by omega), ⟨_, ok⟩, Cj⟩
set_option maxHeartbeats 2000000 in
theorem heldCellS_h (A : Option Addr) (n c : Nat) (vs : List CV) (k : Int) (w : World) (h : Cs w A n (cmarks k vs)) (hn : csz vs ≤ 1048576) (h0 : 0 ≤ k) (hk : k ≤ 90000000) :
    Calls Try.prog 116 #[.slice A n c, .int .i64 k] w fun e w' => e = .returned (.int .i64 (k + csz vs)) ∧ Below w.heap.size w w' := by
  have hl : Hid (vs.length = n) := by have := h.len; rw [cmarks_len] at this; exact this
  have hn1 : n ≤ 1048576 := by have := hl.out; have := csz_len vs; omega
  go_enter Try.func116, Try.ntmps116
  go_wp2
  go_loopw [1, 5] (fun q i wr => ∃ (j : Nat) (K : Int), j ≤ n ∧ i = .int .i64 j ∧ q = .int .i64 K ∧ Hid (K = k + (csz (vs.take j) : Int)) ∧ Below w.heap.size w wr) (fun _ i _ => n - (intOf i).toNat)
  case atStart => exact ⟨0, _, Nat.zero_le _, rfl, rfl, by unfold Hid; simp [csz], Below.refl _ _⟩
  case round =>
    obtain ⟨j, K, hj, rfl, rfl, HK, bj⟩ := hrel
    by_cases hlt : j < n
    · obtain ⟨g, o, sa, sn, sc, zs, psn, rfl, hg, c0, c1, hI, hv⟩ := (h.below bj).at_ hlt
      obtain ⟨v, hvj⟩ : ∃ v, vs[j]? = some v := ⟨_, List.getElem?_eq_getElem (by have := hl.out; omega)⟩
      have hm := cmarks_get (k := k) hvj
      rw [hv.out] at hm
      injection hm with hm
      unfold cmark at hm
      rw [← HK.out] at hm
      injection hm with hm1 hm2
      subst hm1
      have hs1 := csz_take hvj
      have hs2 := csz_le vs (j + 1)
      have hZ := hI.1
      rw [marks_len] at hZ
      rw [hZ] at hI hs1
      have hKK := HK.out
      have hsn : sn ≤ 1048576 := by omega
      have hK0 : 0 ≤ K := by omega
      have hK1 : K ≤ 100000000 := by omega
      have HK2 : Hid (K + (sn : Int) + 1 = k + (csz (vs.take (j + 1)) : Int)) := by unfold Hid; omega
      rw [hZ] at hm2
      have t0 : decide (K + (sn : Int) < 0) = false := by simp; omega
      obtain ⟨bb, hbb⟩ : ∃ b : Bool, ((K + (sn : Int)) % 3 == 0) = b := ⟨_, rfl⟩
      rw [hbb] at hm2
      subst hm2
      have t1 : (psn != psn) = false := by simp
      clear hs1 hs2 hKK hZ hv hvj
      go_wp2_with fail
      refine (heldIntS_h sa sn sc K _ hI hsn hK0 hK1).mono ?_
      rintro x w2 ⟨rfl, b2⟩
      have c12 := (b2.cell (p := ⟨g, o + j * 2 + 1, none⟩) hg).trans c1
      have i0 : (0 : Int) ≤ (j : Int) := by omega
      have i1 : (j : Int) < (n : Int) := by omega
      go_wp2
      go_roundw
      case rel => exact ⟨j + 1, _, by omega, by go_num, rfl, HK2, bj.trans (b2.mono bj.size)⟩
      case measure => simp [intOf]; omega
    · obtain rfl : n = j := by omega
      have hKK := HK.out
      rw [csz_all (by rw [hl.out]; omega)] at hKK
      go_wp2
      go_ret
      exact ⟨ret_int (by omega), bj⟩
end Go.Proofs.Ytbapamfomfbmmaa
