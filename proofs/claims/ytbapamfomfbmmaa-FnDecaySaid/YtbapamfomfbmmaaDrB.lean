/-
  Draws: words with some wrong symbols; time that passes over an array of one's own.
-/
import Derived.Test.YtbapamfomfbmmaaDrA
import Derived.Deep.RegionLaw
import Derived.Deep.DeepCutAuto
namespace Go.Proofs.Ytbapamfomfbmmaa
open Go.RowKit
set_option linter.unusedSimpArgs false
set_option linter.unusedVariables false

theorem chgA_of_d {lo hi : Nat} {w w' : World} (C : Chg lo hi w.drew w') : Chg lo hi w w' := ⟨C.os, C.tape, C.output, C.size, C.block⟩
theorem curA_d {lo g : Nat} {w : World} (k : Cur lo w g) : Cur lo w.drew g := k.below (belowN (Below.refl _ _) 1)
theorem OwnH.cellv {w : World} {lo hi g n c k : Nat} {zs : List Int} {v : Int} (o : OwnH w lo hi (some ⟨g, 0, none⟩) n c zs) (hk : k < n) (hv : zs[k]? = some v) : w.cell? ⟨g, k, none⟩ = some (.int .i64 v) ∧ w.frozen? ⟨g, k, none⟩ = false := by
  obtain ⟨g', v', e, hc, hf, hv', -, -⟩ := o.at_ hk
  injection e with e
  injection e with e _
  subst e
  have := hv.symm.trans hv'.out
  injection this with this
  subst this
  exact ⟨hc, hf⟩
set_option maxRecDepth 100000 in
set_option maxHeartbeats 4000000 in
theorem l12Bent_c (lo g : Nat) (w : World) (k : Cur lo w g) :
    Calls Try.prog 158 #[.pointer (some ⟨g, 0, none⟩)] w (DrawnSyms lo g 11 w) := by
  have klt := k.lt
  go_enter Try.func158, Try.ntmps158
  go_wp2_with fail
  refine (l12Data_c lo g _ k).mono ?_
  rintro e w1 ⟨B1, d1, ys, rfl, o1, h1, k1, C1⟩
  have sz1 := C1.size
  go_wp2_with fail
  refine (encode_c B1 8 d1 ys _ o1.ints (by unfold symOkN; rw [h1, o1.len]; rfl)).mono ?_
  rintro e w2 ⟨B, d, zs, rfl, o2, hz, b2⟩
  have k2 := k1.below b2
  have C2 : Chg g (g + 1) w w2 := C1.trans (Chg.of_below b2)
  have sz2 := b2.size
  obtain ⟨gB, -, rfl, -, -, -, gB1, gB2⟩ := o2.at_ (show 0 < 11 by omega)
  clear o1 h1 k1 k C1 b2
  go_wp2_with fail
  go_loopw [4] (fun i wr => ∃ (j : Nat) (zs : List Int), j ≤ 4 ∧ i = .int .i64 j ∧ OwnH wr w1.heap.size w2.heap.size (some ⟨gB, 0, none⟩) 11 d zs ∧ zs.all symF = true ∧ Cur lo wr g ∧ Chg g (g + 1) w wr ∧ w2.heap.size ≤ wr.heap.size) (fun i _ => 4 - (intOf i).toNat)
  case atStart => exact ⟨0, zs, by omega, rfl, o2, hz, k2, C2, Nat.le_refl _⟩
  case round =>
    clear o2 hz k2 C2
    obtain ⟨j, zs, hj, rfl, o, hz, kr, CC, szr⟩ := hrel
    have HZ := Lib.hid hz
    clear hz
    go_wp2_with fail
    refine (l01Below_c lo g 4 _ kr (by omega) (by omega)).mono ?_
    rintro e w3 ⟨x, x0, x1, -, rfl, k3, C3⟩
    have x2 := x1 (by omega)
    have sz3 := C3.size
    replace o := o.chg C3 (by omega)
    replace CC := CC.trans C3
    clear kr x1 C3
    by_cases hlt : (j : Int) < x
    · go_wp2_with fail
      refine (l01Below_c lo g 11 _ k3 (by omega) (by omega)).mono ?_
      rintro e w4 ⟨y, y0, y1, -, rfl, k4, C4⟩
      have y2 := y1 (by omega)
      have sz4 := C4.size
      replace o := o.chg C4 (by omega)
      replace CC := CC.trans C4
      clear k3 y1 C4
      obtain ⟨Y, rfl⟩ := Int.eq_ofNat_of_zero_le y0
      have hY : Y < 11 := by omega
      obtain ⟨g', v, eV, cV, fV, hV, -, -⟩ := o.at_ hY
      injection eV with eV
      injection eV with eV _
      subst eV
      have hvs : symF v = true := all_at HZ.out hV.out
      have HS0 := Lib.hid hV.out
      clear hV
      go_wp2_with fail
      go_region_law (first | (go_simp; go_at_call 78; refine (l01Below_c lo g 15 _ (by first | exact k4 | exact curA_d k4) (by omega) (by omega)).mono ?_; rintro e w5 ⟨u, u0, u1, -, rfl, k5, C5'⟩; have C5 : Chg g (g + 1) w4 w5 := (by first | exact C5' | exact chgA_of_d C5'); have u2 := u1 (by omega); have o5 := o.chg C5 (by omega); obtain ⟨cV5, fV5⟩ := o5.cellv hY HS0.out; have eU : IntKind.i64.wrap (1 + u) = 1 + u := IntWalk.i64_in _ (by omega)))
      all_goals
        have hus : symF (1 + u) = true := inB_mk (by omega) (by omega)
        have HS : Hid ((zs.set Y (bits .xor .i64 v (1 + u))).all symF = true) := set_all HZ.out (xor_ok hvs hus)
        have oY := (o5.stored rfl hY (bits .xor .i64 v (1 + u))).1
        have CY : Chg w1.heap.size w2.heap.size w5 (w5.setCell ⟨gB, Y, none⟩ (.int .i64 (bits .xor .i64 v (1 + u)))) := (Chg.refl _ _ _).setCell (.inl ⟨by dsimp only; omega, by dsimp only; omega⟩) _
        have sz5 := C5.size
        have sY := CY.size
        have kY := k5.chg CY (by omega) (by omega)
        have CC9 := (CC.trans C5).freshA CY (by omega)
        have sY2 := Nat.le_trans szr (Nat.le_trans sz3 (Nat.le_trans sz4 (Nat.le_trans sz5 sY)))
        go_wp2
        go_roundw
        case rel => first | exact ⟨j + 1, _, by omega, by go_num, oY, HS.out, kY, CC9, sY2⟩ | exact ⟨j + 1, _, by omega, by go_num, oY.drewN 1, HS.out, curA_d kY, CC9.drewN 1, sY2⟩
        case measure => simp [intOf]; omega
    · go_wp2
      go_ret
      exact ⟨_, _, zs, rfl, o.mono (by omega) (by omega), HZ.out, k3, CC⟩
end Go.Proofs.Ytbapamfomfbmmaa
