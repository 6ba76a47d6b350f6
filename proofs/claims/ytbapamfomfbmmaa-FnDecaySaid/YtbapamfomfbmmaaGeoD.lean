/-
  Contracts of the drawn geometry: l03Geo, DrawGeometry.
-/
import Derived.Test.YtbapamfomfbmmaaDraw
import Derived.Test.YtbapamfomfbmmaaSpM
namespace Go.Proofs.Ytbapamfomfbmmaa
open Go.RowKit
set_option linter.unusedSimpArgs false
set_option linter.unusedVariables false

/-- A drawn geometry. -/
def GeoIn (gg gb gr gc : Int) : Prop := (1 ≤ gg ∧ gg ≤ 2) ∧ (1 ≤ gb ∧ gb ≤ 4) ∧ (2 ≤ gr ∧ gr ≤ 8) ∧ (1 ≤ gc ∧ gc ≤ 4)
theorem GeoIn.ok {gg gb gr gc : Int} (h : GeoIn gg gb gr gc) : geoOk gg gb gr gc = true := by
  obtain ⟨⟨a1, a2⟩, ⟨b1, b2⟩, ⟨c1, c2⟩, d1, d2⟩ := h
  unfold geoOk
  rw [inB_mk a1 a2, inB_mk b1 b2, inB_mk c1 (show gr ≤ 16 by omega), inB_mk d1 (show gc ≤ 8 by omega)]
  rfl
def DrawnGeo (lo g : Nat) (w : World) (e : Ending) (w' : World) : Prop :=
  ∃ gg gb gr gc : Int, GeoIn gg gb gr gc ∧ e = .returned (.agg #[.int .i64 gg, .int .i64 gb, .int .i64 gr, .int .i64 gc]) ∧ Cur lo w' g ∧ Chg g (g + 1) w w'
def NewGeo (w : World) (e : Ending) (w' : World) : Prop :=
  ∃ gg gb gr gc : Int, GeoIn gg gb gr gc ∧ e = .returned (.agg #[.int .i64 gg, .int .i64 gb, .int .i64 gr, .int .i64 gc]) ∧ Below w.heap.size w w'
set_option maxHeartbeats 1000000 in
theorem l03Geo_c (lo g : Nat) (w : World) (k : Cur lo w g) :
    Calls Try.prog 80 #[.pointer (some ⟨g, 0, none⟩)] w (DrawnGeo lo g w) := by
  have klt := k.lt
  go_enter Try.func80, Try.ntmps80
  go_wp2_with fail
  refine abs_call ?_
  intro W hW
  have b0 : Below w.heap.size w W := by rw [hW]; exact (Below.refl _ _).alloc (Nat.le_refl _) _
  have r : Box W w.heap.size 25 #[.int .i64 0, .int .i64 0, .int .i64 0, .int .i64 0] := by rw [hW]; exact Box.new _ _ _
  have k0 := k.below b0
  clear hW k
  refine (l01Below_c lo g 2 _ k0 (by omega) (by omega)).mono ?_
  rintro e w1 ⟨x1, a1, c1, -, rfl, k1, C1⟩
  have d1 := c1 (by omega)
  replace r := r.chg C1 (by omega)
  clear c1 k0
  go_wp2_with fail
  refine (l01Below_c lo g 4 _ k1 (by omega) (by omega)).mono ?_
  rintro e w2 ⟨x2, a2, c2, -, rfl, k2, C2⟩
  have d2 := c2 (by omega)
  replace r := r.chg C2 (by omega)
  clear c2 k1
  go_wp2_with fail
  refine (l01Below_c lo g 7 _ k2 (by omega) (by omega)).mono ?_
  rintro e w3 ⟨x3, a3, c3, -, rfl, k3, C3⟩
  have d3 := c3 (by omega)
  replace r := r.chg C3 (by omega)
  clear c3 k2
  go_wp2_with fail
  refine (l01Below_c lo g 4 _ k3 (by omega) (by omega)).mono ?_
  rintro e w4 ⟨x4, a4, c4, -, rfl, k4, C4⟩
  have d4 := c4 (by omega)
  replace r := r.chg C4 (by omega)
  clear c4 k3
  have CC : Chg g (g + 1) w w4 := (((Chg.of_below b0).trans C1).trans ((C2.trans C3).trans C4))
  obtain ⟨r0, r1, r2, r3⟩ := r.c4
  have rf := r.frozen
  have rl := r.lt
  go_wp2
  refine abs_body ?_
  intro W9 hW
  have r9 : Box W9 w.heap.size 25 #[.int .i64 (1 + x1), .int .i64 (1 + x2), .int .i64 (2 + x3), .int .i64 (1 + x4)] := by rw [hW]; exact (((r.set_ 0 _).set_ 1 _).set_ 2 _).set_ 3 _
  have C9 : Chg g (g + 1) w W9 := by rw [hW]; exact (((CC.setCell (.inr (by dsimp only; omega)) _).setCell (.inr (by dsimp only; omega)) _).setCell (.inr (by dsimp only; omega)) _).setCell (.inr (by dsimp only; omega)) _
  have D4 : Chg w.heap.size (w.heap.size + 1) w4 W9 := by rw [hW]; exact ((((Chg.refl _ _ _).setCell (.inl (by dsimp only; omega)) _).setCell (.inl (by dsimp only; omega)) _).setCell (.inl (by dsimp only; omega)) _).setCell (.inl (by dsimp only; omega)) _
  have k9 := k4.chg D4 (by omega) (by omega)
  clear hW
  obtain ⟨z0, z1, z2, z3⟩ := r9.c4
  refine bodyPost_ret (v := .agg #[.int .i64 (1 + x1), .int .i64 (1 + x2), .int .i64 (2 + x3), .int .i64 (1 + x4)]) (by simp [results, Try.results80, go_sem, z0, z1, z2, z3]) rfl ?_
  exact ⟨_, _, _, _, ⟨by omega, by omega, by omega, by omega⟩, rfl, k9, C9⟩
set_option maxHeartbeats 1000000 in
theorem drawGeometry_c (A : Option Addr) (n c : Nat) (zs : List Int) (w : World) (hA : Bytes w A n zs) (hn : n ≤ maxLen) :
    Calls Try.prog 23 #[.slice A n c] w (NewGeo w) := by
  go_enter Try.func23, Try.ntmps23
  go_wp2_with fail
  refine abs_call ?_
  intro W hW
  have b0 : Below w.heap.size w W := by rw [hW]; exact (Below.refl _ _).alloc (Nat.le_refl _) _
  have r : Box W w.heap.size 25 #[.int .i64 0, .int .i64 0, .int .i64 0, .int .i64 0] := by rw [hW]; exact Box.new _ _ _
  clear hW
  refine (l01New_c A n c zs _ (hA.below b0) hn).mono ?_
  rintro e w1 ⟨g, rfl, k1, b1⟩
  have szg := k1.lt
  have sz0 := r.lt
  have b01 : Below w.heap.size w w1 := b0.trans (b1.mono b0.size)
  replace r := r.kept b1
  clear b1
  go_wp2_with fail
  refine (l03Geo_c _ g _ k1).mono ?_
  rintro e w2 ⟨gg, gb, gr, gc, hG, rfl, -, C2⟩
  replace r := r.chg C2 (by omega)
  have b2 : Below w.heap.size w w2 := Below.chg b01 C2 b01.size (by omega)
  obtain ⟨r0, r1, r2, r3⟩ := r.c4
  have rf := r.frozen
  have rl := r.lt
  go_wp2
  refine abs_body ?_
  intro W9 hW
  have r9 : Box W9 w.heap.size 25 #[.int .i64 gg, .int .i64 gb, .int .i64 gr, .int .i64 gc] := by rw [hW]; exact (((r.set_ 0 _).set_ 1 _).set_ 2 _).set_ 3 _
  have b9 : Below w.heap.size w W9 := by rw [hW]; exact (((b2.setCell (by dsimp only; omega) _).setCell (by dsimp only; omega) _).setCell (by dsimp only; omega) _).setCell (by dsimp only; omega) _
  clear hW
  obtain ⟨z0, z1, z2, z3⟩ := r9.c4
  refine bodyPost_ret (v := .agg #[.int .i64 gg, .int .i64 gb, .int .i64 gr, .int .i64 gc]) (by simp [results, Try.results23, go_sem, z0, z1, z2, z3]) rfl ?_
  exact ⟨_, _, _, _, hG, rfl, b9⟩
end Go.Proofs.Ytbapamfomfbmmaa
