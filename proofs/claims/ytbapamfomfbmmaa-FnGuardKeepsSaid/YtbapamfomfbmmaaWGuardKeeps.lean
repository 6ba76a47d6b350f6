/-
  The walk of FnGuardKeeps.
-/
import Derived.Test.YtbapamfomfbmmaaGrB
import Derived.Test.YtbapamfomfbmmaaPatD
import Derived.Test.YtbapamfomfbmmaaExpo
import Derived.Test.YtbapamfomfbmmaaPlc
import Derived.Deep.DeepCutAuto
import Derived.Deep.RegionHeld3
namespace Go.Proofs.Ytbapamfomfbmmaa
open Go.RowKit
set_option linter.unusedSimpArgs false
set_option linter.unusedVariables false


theorem sub_hit {zs out : List Int} {i k : Nat} {x : Int} (h : (zs.drop k).Sublist (out.drop i)) (hx : out[i]? = some x) (hz : zs[k]? = some x) : (zs.drop (k + 1)).Sublist (out.drop (i + 1)) := by
  obtain ⟨h1, e1⟩ := List.getElem?_eq_some_iff.1 hx
  obtain ⟨h2, e2⟩ := List.getElem?_eq_some_iff.1 hz
  rw [List.drop_eq_getElem_cons h1, List.drop_eq_getElem_cons h2, e1, e2] at h
  exact List.Sublist.of_cons_cons h
theorem sub_miss {zs out : List Int} {i k : Nat} {x z : Int} (h : (zs.drop k).Sublist (out.drop i)) (hx : out[i]? = some x) (hz : zs[k]? = some z) (hne : x ≠ z) : (zs.drop k).Sublist (out.drop (i + 1)) := by
  obtain ⟨h1, e1⟩ := List.getElem?_eq_some_iff.1 hx
  obtain ⟨h2, e2⟩ := List.getElem?_eq_some_iff.1 hz
  rw [List.drop_eq_getElem_cons h1, e1] at h
  rw [List.drop_eq_getElem_cons h2, e2] at h ⊢
  cases h with
  | cons _ h => exact h
  | cons_cons _ h => exact absurd rfl hne
theorem sub_end {zs out : List Int} {i k : Nat} (h : (zs.drop k).Sublist (out.drop i)) (hi : out.length ≤ i) : zs.length ≤ k := by
  rw [List.drop_eq_nil_of_le hi] at h
  have := List.eq_nil_of_sublist_nil h
  exact List.drop_eq_nil_iff.1 this
set_option maxRecDepth 100000 in
set_option maxHeartbeats 8000000 in
theorem fnGuardKeeps_walk (A : Option Addr) (n c : Nat) (zs : List Int) (w : World) (hA : Bytes w A n zs) (hn : n ≤ maxLen) :
    Calls Try.prog 9 #[.slice A n c] w fun e w' => e = .returned (.bool true) ∧ Below w.heap.size w w' := by
  by_cases hb : 1048576 < n
  · have hd : decide (1048576 < n) = true := by simpa using hb
    go_enter Try.func9, Try.ntmps9
    go_wp2_with (go_at_call 14; refine (big_c A n c _ hn).mono ?_; rintro e w' ⟨rfl, rfl⟩)
    go_ret
    exact ⟨rfl, Below.refl _ _⟩
  · have hd : decide (1048576 < n) = false := by simpa using hb
    have bel : Below w.heap.size w w := Below.refl _ _
    go_enter Try.func9, Try.ntmps9
    go_wp2_with (first | (go_at_call 14; refine (big_c A n c _ hn).mono ?_; rintro e w' ⟨rfl, rfl⟩) | fail)
    refine (drawPattern_c A n c zs _ hA hn).mono ?_
    rintro e w1 ⟨R, A1, n1, c1, p, hR1, hR2, rfl, o1, hp, b1⟩
    have szw1 := b1.size
    replace bel := bel.trans (b1.mono bel.size)
    clear b1
    have hn1 : n1 ≤ 60 := by have := o1.len; have := hp.1; omega
    have hA1 := hA.below bel
    clear hp hA
    go_wp2_with fail
    refine (drawPlaces_c A n c zs _ hA1 hn).mono ?_
    rintro e w2 ⟨pl, hpl, A2, n2, c2, rfl, o2, b2⟩
    replace o1 := o1.below b2
    have szw2 := b2.size
    replace bel := bel.trans (b2.mono bel.size)
    clear b2
    obtain ⟨gp, hgp, P⟩ := places_at hpl o2
    obtain ⟨rfl, rfl, gp1, gp2⟩ := hgp
    obtain ⟨p0, p1, p2, p3, hp0, hp1, hp2, hp3, ⟨p0a, p0b⟩, ⟨p1a, p1b⟩, -, -⟩ := P
    clear hpl hA1 o2 hp2 hp3
    obtain ⟨m0, hm0, -, em0⟩ := rem_nat p0a (show 0 < 8 by omega)
    obtain ⟨m1, hm1, -, em1⟩ := rem_nat p1a (show 0 < 4 by omega)
    have et0 : p0.tmod 8 = (m0 : Int) := by exact_mod_cast em0
    have et1 : p1.tmod 4 = (m1 : Int) := by exact_mod_cast em1
    obtain ⟨KK, hKK⟩ : ∃ l : Int, l = 1 + (m0 : Int) := ⟨_, rfl⟩
    obtain ⟨LL, hLL⟩ : ∃ l : Int, l = 4 + (m1 : Int) := ⟨_, rfl⟩
    have hK1 : 1 ≤ KK := by omega
    have hK2 : KK ≤ 8 := by omega
    have hL1 : 4 ≤ LL := by omega
    have hL2 : LL ≤ 7 := by omega
    have ew0 : IntKind.i64.wrap (m0 : Int) = (m0 : Int) := IntWalk.i64_in _ (by omega)
    have ew1 : IntKind.i64.wrap (m1 : Int) = (m1 : Int) := IntWalk.i64_in _ (by omega)
    have eK : IntKind.i64.wrap (1 + (m0 : Int)) = KK := by rw [← hKK]; exact IntWalk.i64_in _ (by omega)
    have eL : IntKind.i64.wrap (4 + (m1 : Int)) = LL := by rw [← hLL]; exact IntWalk.i64_in _ (by omega)
    clear em0 em1 hKK hLL hm0 hm1
    have hS : ∀ Y : World, Below w2.heap.size w2 Y → (Y.cell? ⟨gp, 0, none⟩ = some (.int .i64 p0) ∧ Y.cell? ⟨gp, 1, none⟩ = some (.int .i64 p1)) :=
      fun Y hY => ⟨(hY.cell (p := ⟨gp, 0, none⟩) gp2).trans hp0, (hY.cell (p := ⟨gp, 1, none⟩) gp2).trans hp1⟩
    have iP := o1.ints
    have HPL := Lib.hid o1.len
    have e12 : ((12 : Nat) : Int) = 12 := rfl
    go_wp2_with fail
    go_cut [6, 7] (fun s6 s7 wx => ∃ (A8 : Option Addr) (n8 c8 : Nat), s6 = .slice A8 n8 c8 ∧ s7 = .bool (gOk (R : Int) KK LL p) ∧ OwnH wx w2.heap.size wx.heap.size A8 n8 c8 (gList (R : Int) KK LL p) ∧ Below w2.heap.size w2 wx)
    case first =>
      go_region_held3 (fun W' => W'.cell? ⟨gp, 0, none⟩ = some (.int .i64 p0) ∧ W'.cell? ⟨gp, 1, none⟩ = some (.int .i64 p1))
        (first | (with_reducible exact hS _ (Below.refl _ _)) | (with_reducible exact hS _ hbt1) | (with_reducible exact hS _ (lat_d (Below.refl _ _))) | fail)
        (first | (go_at_call 42; refine (iGuardedRun_c (R : Int) KK LL A1 n1 c1 p _ (by first | exact iP | exact iP.drew) (by omega)).mono ?_; rintro e w8 ⟨A8, n8, c8, rfl, o8, b8'⟩; have hbt1 : Below w2.heap.size w2 w8 := ⟨b8'.os, b8'.tape, b8'.output, b8'.size, b8'.block⟩) | fail)
      all_goals
        go_wp2_with fail
        go_meet
        exact ⟨A8, n8, c8, rfl, rfl, o8, hbt1⟩
    case rest =>
      obtain ⟨A8, n8, c8, rfl, rfl, o8, b8⟩ := hcut
      obtain ⟨W9, hW9⟩ : ∃ v : World, wc = v := ⟨_, rfl⟩
      subst hW9
      have bel9 := bel.trans (b8.mono bel.size)
      have HO8 := Lib.hid o8.len
      have hn8 : n8 ≤ 1000 := by have := o8.len; have := gList_len (R : Int) KK LL p; omega
      have gp9 : gp < wc.heap.size := by have := b8.size; omega
      have iP9 := iP.below b8
      obtain ⟨hp0', hp1'⟩ := hS _ b8
      clear hS iP hp0 hp1
      have hS : ∀ Y : World, Below wc.heap.size wc Y → (Y.cell? ⟨gp, 0, none⟩ = some (.int .i64 p0) ∧ Y.cell? ⟨gp, 1, none⟩ = some (.int .i64 p1)) :=
        fun Y hY => ⟨(hY.cell (p := ⟨gp, 0, none⟩) gp9).trans hp0', (hY.cell (p := ⟨gp, 1, none⟩) gp9).trans hp1'⟩
      cases hok : gOk (R : Int) KK LL p
      · have HO := Lib.hid hok
        clear hok
        go_wp2_with fail
        go_cut [9] (fun s9 wx => s9 = .bool false ∧ Below wc.heap.size wc wx)
        case first =>
          go_region_held3 (fun W' => W'.cell? ⟨gp, 0, none⟩ = some (.int .i64 p0) ∧ W'.cell? ⟨gp, 1, none⟩ = some (.int .i64 p1))
            (first | (with_reducible exact hS _ (Below.refl _ _)) | (with_reducible exact hS _ hbt1) | (with_reducible exact hS _ (lat_d (Below.refl _ _))) | fail)
            (first | (go_at_call 40; refine (sGuardedRun_c (R : Int) KK LL A1 n1 c1 p _ (by first | exact iP9 | exact iP9.drew) (by omega)).mono ?_; rintro e w8 ⟨A8', n8', c8', rfl, o8', b8'⟩; rw [HO.out]; have hbt1 : Below wc.heap.size wc w8 := ⟨b8'.os, b8'.tape, b8'.output, b8'.size, b8'.block⟩) | fail)
          all_goals
            go_wp2_with fail
            go_meet
            exact ⟨rfl, hbt1⟩
        case rest =>
          obtain ⟨rfl, b10⟩ := hcut
          go_wp2_with fail
          refine (iGuardBound_c 4 _).mono ?_
          rintro e w5 ⟨rfl, rfl⟩
          rw [guardB_in (by omega) (by omega)]
          go_wp2
          go_ret
          exact ⟨rfl, bel9.trans (b10.mono bel9.size)⟩
      · have HSub := Lib.hid (gList_sub hok)
        have hle : n1 ≤ n8 := by have := (gList_sub hok).length_le; have := HPL.out; have := HO8.out; omega
        have i8 := o8.ints
        generalize gList (R : Int) KK LL p = out at *
        clear hok hS hp0' hp1' o8
        go_wp2_with fail
        go_loopw [10, 11] (fun kv i wr => ∃ (k j : Nat), k ≤ n1 ∧ j ≤ n8 ∧ kv = .int .i64 k ∧ i = .int .i64 j ∧ Hid ((p.drop k).Sublist (out.drop j)) ∧ ∃ q, wr = wc.drewN q) (fun _ i _ => n8 - (intOf i).toNat)
        case atStart => exact ⟨0, 0, Nat.zero_le _, Nat.zero_le _, rfl, rfl, by unfold Hid; rw [List.drop_zero, List.drop_zero]; exact HSub.out, 0, rfl⟩
        case round =>
          obtain ⟨k, j, hk, hj, rfl, rfl, HQ, q, rfl⟩ := hrel
          by_cases hlt : j < n8 ∧ k < n1
          · obtain ⟨hj1, hk1⟩ := hlt
            obtain ⟨g8, x8, y8, rfl, hc8, hy8⟩ := i8.at_ hj1
            obtain ⟨g1, x1, y1, rfl, hc1, hy1⟩ := iP9.at_ hk1
            have j0 : (0 : Int) ≤ (j : Int) := by omega
            have j1 : (j : Int) < (n8 : Int) := by omega
            have k0 : (0 : Int) ≤ (k : Int) := by omega
            have k1 : (k : Int) < (n1 : Int) := by omega
            by_cases he : y8 = y1
            · subst he
              have HQ2 := Lib.hid (sub_hit HQ.out hy8.out hy1.out)
              have ht : (y8 == y8) = true := by simp
              go_wp2_with fail
              go_quiet (fail)
              go_wp2
              go_roundw
              case rel => exact ⟨k + 1, j + 1, by omega, by omega, by go_num, by go_num, HQ2, _, rfl⟩
              case measure => simp [intOf]; omega
            · have HQ2 := Lib.hid (sub_miss HQ.out hy8.out hy1.out he)
              have ht : (y8 == y1) = false := by simpa using he
              clear he
              go_wp2_with fail
              go_quiet (fail)
              go_wp2
              go_roundw
              case rel => exact ⟨k, j + 1, by omega, by omega, rfl, by go_num, HQ2, _, rfl⟩
              case measure => simp [intOf]; omega
          · obtain rfl : k = n1 := by
              by_cases hj1 : j < n8
              · omega
              · have := sub_end HQ.out (by rw [HO8.out]; omega)
                have := HPL.out
                omega
            have tk : decide ((k : Int) < (k : Int)) = false := by simp
            have te : ((k : Int) == (k : Int)) = true := by simp
            have tl : decide ((k : Int) ≤ (n8 : Int)) = true := by simp; omega
            by_cases hj1 : j < n8
            · go_wp2_with fail
              refine (iGuardBound_c 4 _).mono ?_
              rintro e w5 ⟨rfl, rfl⟩
              rw [guardB_in (by omega) (by omega)]
              go_wp2
              go_ret
              exact ⟨rfl, belowN bel9 _⟩
            · go_wp2_with fail
              refine (iGuardBound_c 4 _).mono ?_
              rintro e w5 ⟨rfl, rfl⟩
              rw [guardB_in (by omega) (by omega)]
              go_wp2
              go_ret
              exact ⟨rfl, belowN bel9 _⟩
end Go.Proofs.Ytbapamfomfbmmaa
