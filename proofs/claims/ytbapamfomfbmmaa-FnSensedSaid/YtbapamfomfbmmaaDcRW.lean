/-
  RowDecayed of the program for a valid array and a row that exists. LoadCell of the program for a valid array and an address that exists.
-/
import Derived.Test.YtbapamfomfbmmaaSenH
import Derived.Deep.DeepCutAuto
import Derived.Deep.RegionHeld3
namespace Go.Proofs.Ytbapamfomfbmmaa
open Go.RowKit
set_option linter.unusedSimpArgs false
set_option linter.unusedVariables false

set_option maxRecDepth 100000 in
set_option maxHeartbeats 8000000 in
theorem iRowDecayed_c (gg gb : Int) (nb R C b r : Nat) (la lh : Int) (A : Option Addr) (n c : Nat) (B : Option Addr) (m d : Nat) (D : Option Addr) (p q : Nat) (vs : List CV) (ag ht : List Int) (w : World) (hA : Cs w A n vs) (hB : Ints w B m ag) (hD : Ints w D p ht) (hn : csz vs ≤ 1048576) (hm : m ≤ 1048576) (hp : p ≤ 1048576)
    (hok : arrOk gg gb R C vs ag ht = true) (hnb : bankCnt gg gb R C = (nb : Int)) (nb8 : nb ≤ 8) (R16 : R ≤ 16) (C1 : 1 ≤ C) (hb : b < nb) (hr : r < R) (hmR : m = nb * R) (hpR : p = nb * R) :
    Calls Try.prog 63 #[.agg #[.int .i64 gg, .int .i64 gb, .int .i64 (R : Int), .int .i64 (C : Int)], .agg #[.int .i64 la, .int .i64 lh], .agg #[.slice A n c, .slice B m d, .slice D p q], .int .i64 (b : Int), .int .i64 (r : Int)] w fun e w' => e = .returned (.bool (goneB la lh ag ht (b * R + r))) ∧ Below w.heap.size w w' := by
  have bel : Below w.heap.size w w := Below.refl _ _
  have hg : geoOk gg gb R C = true := by
    unfold arrOk at hok
    simp only [Bool.and_eq_true] at hok
    exact hok.1
  have HA : Hid (addrOk gg gb R C b r 0 = true) := by
    unfold Hid addrOk
    rw [hg, hnb, inB_mk (show (0 : Int) ≤ (b : Int) by omega) (show (b : Int) ≤ (nb : Int) - 1 by omega), inB_mk (show (0 : Int) ≤ (r : Int) by omega) (show (r : Int) ≤ (R : Int) - 1 by omega), inB_mk (show (0 : Int) ≤ (0 : Int) by omega) (show (0 : Int) ≤ (C : Int) - 1 by omega)]
    rfl
  have HO := Lib.hid hok
  have hk : b * R + r < m := by rw [hmR]; exact row_lt hb hr
  have hk' : b * R + r < p := by rw [hpR]; exact row_lt hb hr
  obtain ⟨K, hK⟩ : ∃ K, b * R + r = K := ⟨_, rfl⟩
  have HK := Lib.hid hK
  rw [hK] at hk hk' ⊢
  clear hok hK hmR hpR
  go_enter Try.func63, Try.ntmps63
  go_wp2_with fail
  refine abs_call ?_
  intro W hW
  have szW : w.heap.size + 1 + 1 + 1 ≤ W.heap.size := by rw [hW]; simp [World.setCell]
  have szW_ := bel.size
  replace bel : Below w.heap.size w W := by rw [hW]; exact (((bel).alloc (by first | omega | (simp [World.setCell] <;> omega)) _).alloc (by first | omega | (simp [World.setCell] <;> omega)) _).alloc (by first | omega | (simp [World.setCell] <;> omega)) _
  have gq : Box W w.heap.size 25 #[.int .i64 gg, .int .i64 gb, .int .i64 (R : Int), .int .i64 (C : Int)] := by rw [hW]; exact (((Box.newAt (by simp [World.setCell]))).alloc _).alloc _
  have l : Box W (w.heap.size + 1) 90 #[.int .i64 la, .int .i64 lh] := by rw [hW]; exact ((Box.newAt (by simp [World.setCell]))).alloc _
  have x : Box W (w.heap.size + 1 + 1) 87 #[.slice A n c, .slice B m d, .slice D p q] := by rw [hW]; exact (Box.newAt (by simp [World.setCell]))
  clear hW
  refine (iArrayOk_c gg gb R C A n c B m d D p q vs ag ht _ (hA.below bel) (hB.below bel) (hD.below bel) hn hm hp).mono ?_
  rintro e w1 ⟨rfl, b1⟩
  rw [HO.out]
  have szw1 := b1.size
  replace bel := bel.trans (b1.mono bel.size)
  replace gq := gq.kept b1
  replace l := l.kept b1
  replace x := x.kept b1
  clear b1
  obtain ⟨gq_0, gq_1, gq_2, gq_3⟩ := gq.c4
  have gq_lt := gq.lt
  go_wp2_with fail
  refine (iRowExists_c gg gb R C b r _).mono ?_
  rintro e w2 ⟨rfl, b2⟩
  rw [HA.out]
  clear gq_0 gq_1 gq_2 gq_3 gq_lt
  have szw2 := b2.size
  replace bel := bel.trans (b2.mono bel.size)
  replace gq := gq.kept b2
  replace l := l.kept b2
  replace x := x.kept b2
  clear b2
  obtain ⟨gq_0, gq_1, gq_2, gq_3⟩ := gq.c4
  have gq_lt := gq.lt
  obtain ⟨l_0, l_1⟩ := l.c2
  have l_lt := l.lt
  obtain ⟨x_0, x_1, x_2⟩ := x.c3
  have x_lt := x.lt
  go_wp2_with fail
  refine (decayed_c gg gb R C la lh A n c B m d D p q ag ht b r K HK.out (by omega) R16 (by omega) _ (hB.below bel) (hD.below bel) hk hk').mono ?_
  rintro e w3 ⟨rfl, b3⟩
  clear gq_0 gq_1 gq_2 gq_3 gq_lt l_0 l_1 l_lt x_0 x_1 x_2 x_lt
  have szw3 := b3.size
  replace bel := bel.trans (b3.mono bel.size)
  replace gq := gq.kept b3
  replace l := l.kept b3
  replace x := x.kept b3
  clear b3
  go_wp2
  go_ret
  exact ⟨rfl, bel⟩
end Go.Proofs.Ytbapamfomfbmmaa
namespace Go.Proofs.Ytbapamfomfbmmaa
open Go.RowKit
set_option linter.unusedSimpArgs false
set_option linter.unusedVariables false

theorem belL_of_d {w w' : World} (C : Below w.drew.heap.size w.drew w') : Below w.heap.size w w' := ⟨C.os, C.tape, C.output, C.size, C.block⟩
set_option maxRecDepth 100000 in
set_option maxHeartbeats 8000000 in
theorem iLoadCell_c (gg gb : Int) (nb R C b r k : Nat) (A : Option Addr) (n c : Nat) (B : Option Addr) (m d : Nat) (D : Option Addr) (p q : Nat) (vs : List CV) (ag ht : List Int) (w : World) (hA : Cs w A n vs) (hB : Ints w B m ag) (hD : Ints w D p ht) (hn : csz vs ≤ 1048576) (hm : m ≤ 1048576) (hp : p ≤ 1048576)
    (hok : arrOk gg gb R C vs ag ht = true) (hg : geoOk gg gb R C = true) (hnb : bankCnt gg gb R C = (nb : Int)) (nb8 : nb ≤ 8) (R16 : R ≤ 16) (C8 : C ≤ 8) (hb : b < nb) (hr : r < R) (hk : k < C) (hnR : n = nb * R * C) {zs : List Int} {psn : Bool} (hv : vs[(b * R + r) * C + k]? = some (zs, psn)) (hl : zs.length = 11) :
    Calls Try.prog 65 #[.agg #[.int .i64 gg, .int .i64 gb, .int .i64 (R : Int), .int .i64 (C : Int)], .agg #[.slice A n c, .slice B m d, .slice D p q], .agg #[.int .i64 (b : Int), .int .i64 (r : Int), .int .i64 (k : Int)]] w fun e w' => (∃ S d, e = .returned (.tuple #[.agg #[.slice S 11 d, .bool psn], .bool true]) ∧ OwnH w' w.heap.size w'.heap.size S 11 d zs) ∧ Below w.heap.size w w' := by
  have bel : Below w.heap.size w w := Below.refl _ _
  have HA : Hid (addrOk gg gb R C b r k = true) := by
    unfold Hid addrOk
    rw [hg, hnb, inB_mk (show (0 : Int) ≤ (b : Int) by omega) (show (b : Int) ≤ (nb : Int) - 1 by omega), inB_mk (show (0 : Int) ≤ (r : Int) by omega) (show (r : Int) ≤ (R : Int) - 1 by omega), inB_mk (show (0 : Int) ≤ (k : Int) by omega) (show (k : Int) ≤ (C : Int) - 1 by omega)]
    rfl
  have HO := Lib.hid hok
  have hJ0 : (b * R + r) * C + k < n := by rw [hnR]; exact row_lt (row_lt hb hr) hk
  obtain ⟨J, hJe⟩ : ∃ J, (b * R + r) * C + k = J := ⟨_, rfl⟩
  rw [hJe] at hv hJ0
  have cX : ∀ Y, Calls Try.prog 125 #[.agg #[.int .i64 gg, .int .i64 gb, .int .i64 (R : Int), .int .i64 (C : Int)], .agg #[.int .i64 (b : Int), .int .i64 (r : Int), .int .i64 (k : Int)]] Y fun e w' => e = .returned (.int .i64 (J : Int)) ∧ Below Y.heap.size Y w' := fun Y => by
    have h := iAddrIndex_c gg gb nb R C b r k Y hg hnb nb8 R16 C8 hb hr hk
    rw [hJe] at h
    exact h
  have HV := Lib.hid hv
  clear hok hJe hnR hv
  go_enter Try.func65, Try.ntmps65
  go_wp2_with fail
  refine abs_call ?_
  intro W hW
  have szW : w.heap.size + 1 + 1 + 1 + 1 ≤ W.heap.size := by rw [hW]; simp [World.setCell]
  have szW_ := bel.size
  replace bel : Below w.heap.size w W := by rw [hW]; exact ((((bel).alloc (by first | omega | (simp [World.setCell] <;> omega)) _).alloc (by first | omega | (simp [World.setCell] <;> omega)) _).alloc (by first | omega | (simp [World.setCell] <;> omega)) _).alloc (by first | omega | (simp [World.setCell] <;> omega)) _
  have gq : Box W w.heap.size 25 #[.int .i64 gg, .int .i64 gb, .int .i64 (R : Int), .int .i64 (C : Int)] := by rw [hW]; exact ((((Box.newAt (by simp [World.setCell]))).alloc _).alloc _).alloc _
  have x : Box W (w.heap.size + 1) 87 #[.slice A n c, .slice B m d, .slice D p q] := by rw [hW]; exact (((Box.newAt (by simp [World.setCell]))).alloc _).alloc _
  have at_ : Box W (w.heap.size + 1 + 1) 38 #[.int .i64 (b : Int), .int .i64 (r : Int), .int .i64 (k : Int)] := by rw [hW]; exact ((Box.newAt (by simp [World.setCell]))).alloc _
  have z : Box W (w.heap.size + 1 + 1 + 1) 104 #[.slice none 0 0, .bool false] := by rw [hW]; exact (Box.newAt (by simp [World.setCell]))
  clear hW
  refine (iArrayOk_c gg gb R C A n c B m d D p q vs ag ht _ (hA.below bel) (hB.below bel) (hD.below bel) hn hm hp).mono ?_
  rintro e w1 ⟨rfl, b1⟩
  rw [HO.out]
  have szw1 := b1.size
  replace bel := bel.trans (b1.mono bel.size)
  replace gq := gq.kept b1
  replace x := x.kept b1
  replace at_ := at_.kept b1
  replace z := z.kept b1
  clear b1
  obtain ⟨gq_0, gq_1, gq_2, gq_3⟩ := gq.c4
  have gq_lt := gq.lt
  obtain ⟨at__0, at__1, at__2⟩ := at_.c3
  have at__lt := at_.lt
  go_wp2_with fail
  refine (iAddrOk_c gg gb R C b r k _).mono ?_
  rintro e w2 ⟨rfl, b2⟩
  rw [HA.out]
  clear gq_0 gq_1 gq_2 gq_3 gq_lt at__0 at__1 at__2 at__lt
  have szw2 := b2.size
  replace bel := bel.trans (b2.mono bel.size)
  replace gq := gq.kept b2
  replace x := x.kept b2
  replace at_ := at_.kept b2
  replace z := z.kept b2
  clear b2
  obtain ⟨gA, oA, sa, sn, sc, zs2, psn2, rfl, hgA, c0, c1, hI, hv2⟩ := (hA.below bel).at_ hJ0
  have ev := hv2.out.symm.trans HV.out
  injection ev with ev
  injection ev with e1 e2
  subst e1 e2
  have hsn : sn = 11 := by have := hI.1; omega
  subst hsn
  have i0 : (0 : Int) ≤ (J : Int) := by omega
  have i1 : (J : Int) < (n : Int) := by omega
  have cC : ∀ Y, Below w2.heap.size w2 Y → Calls Try.prog 124 #[.agg #[.slice sa 11 sc, .bool psn2]] Y (NewCel1 zs2 psn2 Y) := fun Y hY => copyCell_c sa 11 sc zs2 psn2 Y (hI.below hY) (by omega)
  have hS : ∀ Y : World, Below w2.heap.size w2 Y → (Y.cell? ⟨w.heap.size + 1, 0, none⟩ = some (.slice (some ⟨gA, oA, none⟩) n c) ∧ Y.cell? ⟨w.heap.size, 0, none⟩ = some (.int .i64 gg) ∧ Y.cell? ⟨w.heap.size, 1, none⟩ = some (.int .i64 gb) ∧ Y.cell? ⟨w.heap.size, 2, none⟩ = some (.int .i64 (R : Int)) ∧ Y.cell? ⟨w.heap.size, 3, none⟩ = some (.int .i64 (C : Int)) ∧ Y.cell? ⟨w.heap.size + 1 + 1, 0, none⟩ = some (.int .i64 (b : Int)) ∧ Y.cell? ⟨w.heap.size + 1 + 1, 1, none⟩ = some (.int .i64 (r : Int)) ∧ Y.cell? ⟨w.heap.size + 1 + 1, 2, none⟩ = some (.int .i64 (k : Int)) ∧ Y.cell? ⟨gA, oA + J * 2, none⟩ = some (.slice sa 11 sc) ∧ Y.cell? ⟨gA, oA + J * 2 + 1, none⟩ = some (.bool psn2)) := fun Y hY => by
    obtain ⟨a0, -, -⟩ := (x.kept hY).c3
    obtain ⟨b0, b1, b2, b3⟩ := (gq.kept hY).c4
    obtain ⟨d0, d1, d2⟩ := (at_.kept hY).c3
    exact ⟨a0, b0, b1, b2, b3, d0, d1, d2, (hY.cell (p := ⟨gA, oA + J * 2, none⟩) hgA).trans c0, (hY.cell (p := ⟨gA, oA + J * 2 + 1, none⟩) hgA).trans c1⟩
  have gAw : gA < w.heap.size := by obtain ⟨g9, o9, _, _, _, _, _, e9, h9, -⟩ := hA.at_ hJ0; injection e9 with e9; injection e9 with e9 _; omega
  have hS2 : ∀ (Y Z : World) (v1 v2 : Value), Below w2.heap.size w2 Y → Z = (Y.setCell ⟨w.heap.size + 1 + 1 + 1, 0, none⟩ v1).setCell ⟨w.heap.size + 1 + 1 + 1, 1, none⟩ v2 → (Z.cell? ⟨w.heap.size + 1, 0, none⟩ = some (.slice (some ⟨gA, oA, none⟩) n c) ∧ Z.cell? ⟨w.heap.size, 0, none⟩ = some (.int .i64 gg) ∧ Z.cell? ⟨w.heap.size, 1, none⟩ = some (.int .i64 gb) ∧ Z.cell? ⟨w.heap.size, 2, none⟩ = some (.int .i64 (R : Int)) ∧ Z.cell? ⟨w.heap.size, 3, none⟩ = some (.int .i64 (C : Int)) ∧ Z.cell? ⟨w.heap.size + 1 + 1, 0, none⟩ = some (.int .i64 (b : Int)) ∧ Z.cell? ⟨w.heap.size + 1 + 1, 1, none⟩ = some (.int .i64 (r : Int)) ∧ Z.cell? ⟨w.heap.size + 1 + 1, 2, none⟩ = some (.int .i64 (k : Int)) ∧ Z.cell? ⟨gA, oA + J * 2, none⟩ = some (.slice sa 11 sc) ∧ Z.cell? ⟨gA, oA + J * 2 + 1, none⟩ = some (.bool psn2)) := fun Y Z v1 v2 hY hZ => by
    have hZ2 : ∀ (g i : Nat) (v : Value), g ≠ w.heap.size + 1 + 1 + 1 → Y.cell? ⟨g, i, none⟩ = some v → Z.cell? ⟨g, i, none⟩ = some v := fun g i v hne hc => by rw [hZ, cell_far (by dsimp only; omega), cell_far (by dsimp only; omega)]; exact hc
    obtain ⟨a0, b0, b1, b2, b3, d0, d1, d2, e0, e1⟩ := hS Y hY
    exact ⟨hZ2 _ _ _ (by omega) a0, hZ2 _ _ _ (by omega) b0, hZ2 _ _ _ (by omega) b1, hZ2 _ _ _ (by omega) b2, hZ2 _ _ _ (by omega) b3, hZ2 _ _ _ (by omega) d0, hZ2 _ _ _ (by omega) d1, hZ2 _ _ _ (by omega) d2, hZ2 _ _ _ (by omega) e0, hZ2 _ _ _ (by omega) e1⟩
  clear c0 c1
  go_wp2_with fail
  go_region_held3 (fun Y => (Y.cell? ⟨w.heap.size + 1, 0, none⟩ = some (.slice (some ⟨gA, oA, none⟩) n c) ∧ Y.cell? ⟨w.heap.size, 0, none⟩ = some (.int .i64 gg) ∧ Y.cell? ⟨w.heap.size, 1, none⟩ = some (.int .i64 gb) ∧ Y.cell? ⟨w.heap.size, 2, none⟩ = some (.int .i64 (R : Int)) ∧ Y.cell? ⟨w.heap.size, 3, none⟩ = some (.int .i64 (C : Int)) ∧ Y.cell? ⟨w.heap.size + 1 + 1, 0, none⟩ = some (.int .i64 (b : Int)) ∧ Y.cell? ⟨w.heap.size + 1 + 1, 1, none⟩ = some (.int .i64 (r : Int)) ∧ Y.cell? ⟨w.heap.size + 1 + 1, 2, none⟩ = some (.int .i64 (k : Int)) ∧ Y.cell? ⟨gA, oA + J * 2, none⟩ = some (.slice sa 11 sc) ∧ Y.cell? ⟨gA, oA + J * 2 + 1, none⟩ = some (.bool psn2)))
    (first | (with_reducible exact hS _ (Below.refl _ _)) | (with_reducible exact hS _ (belowN (Below.refl _ _) 1)) | (with_reducible exact hS _ bA) | (with_reducible exact hS _ bB) | (with_reducible exact hS2 _ _ _ _ bB rfl) | fail)
    (first
     | (go_at_call 125; (with_reducible refine (cX _).mono ?_); rintro e wA ⟨rfl, bA'⟩; have bA : Below w2.heap.size w2 wA := (by first | with_reducible exact bA' | with_reducible exact belL_of_d bA'); have szA := bA.size)
     | (go_at_call 124; (with_reducible refine (cC _ bA).mono ?_); rintro e wB ⟨S1, n3, d3, rfl, oB, bB'⟩; have bB : Below w2.heap.size w2 wB := bA.trans (bB'.mono bA.size); have szB := bB.size; have szB2 := bB'.size; have zB := z.kept bB; obtain ⟨zB_0, zB_1⟩ := zB.c2; have zB_f := zB.frozen; have zB_lt := zB.lt)
     | fail)
  have hn3 : n3 = 11 := by have := oB.len; omega
  subst hn3
  go_wp2
  refine abs_body ?_
  intro W9 hW
  have z9 : Box W9 (w.heap.size + 1 + 1 + 1) 104 #[.slice S1 11 d3, .bool psn2] := by rw [hW]; exact (zB.set_ 0 _).set_ 1 _
  have b9 : Below w.heap.size w W9 := by rw [hW]; exact ((bel.trans (bB.mono bel.size)).setCell (by dsimp only; omega) _).setCell (by dsimp only; omega) _
  have o9 : OwnH W9 wA.heap.size wB.heap.size S1 11 d3 zs2 := by rw [hW]; exact (oB.setCell _ _ (by dsimp only; omega)).setCell _ _ (by dsimp only; omega)
  have s9 : wB.heap.size ≤ W9.heap.size := by rw [hW]; simp [World.setCell]
  have szb := bel.size
  clear hW
  obtain ⟨y0, y1⟩ := z9.c2
  refine bodyPost_ret (v := .tuple #[.agg #[.slice S1 11 d3, .bool psn2], .bool true]) (by simp [results, Try.results65, go_sem, y0, y1]) rfl ?_
  exact ⟨⟨_, _, rfl, o9.mono (by omega) s9⟩, b9⟩
end Go.Proofs.Ytbapamfomfbmmaa
