/-
  Draws: small geometries, limits, data and words with some wrong symbols.
-/
import Derived.Test.YtbapamfomfbmmaaDraw
import Derived.Test.YtbapamfomfbmmaaEnc
import Derived.Test.YtbapamfomfbmmaaGeoD
namespace Go.Proofs.Ytbapamfomfbmmaa
open Go.RowKit
set_option linter.unusedSimpArgs false
set_option linter.unusedVariables false

theorem Ints.lit (w : World) (zs : List Int) (t : TypeId) : Ints (w.alloc (.cells (mapI zs).toArray t)) (some ⟨w.heap.size, 0, none⟩) zs.length zs := by
  refine ⟨rfl, fun _ => ⟨w.heap.size, 0, rfl, by simp, fun i hi => ?_⟩⟩
  rw [Nat.zero_add]
  refine (Box.new w t (mapI zs).toArray).cell i _ ?_
  rw [List.getElem?_toArray]
  exact mapI_get zs i hi
def DrawnOf (lo g : Nat) (zs : List Int) (w : World) (e : Ending) (w' : World) : Prop := ∃ x : Int, x ∈ zs ∧ e = .returned (.int .i64 x) ∧ Cur lo w' g ∧ Chg g (g + 1) w w'
def DrawnBool (lo g : Nat) (w : World) (e : Ending) (w' : World) : Prop := ∃ b : Bool, e = .returned (.bool b) ∧ Cur lo w' g ∧ Chg g (g + 1) w w'
set_option maxHeartbeats 1000000 in
theorem l01Once_c (lo g : Nat) (n : Int) (w : World) (k : Cur lo w g) (hn : n ≤ 9223372036854775807) (hn' : -9223372036854775808 ≤ n) :
    Calls Try.prog 159 #[.pointer (some ⟨g, 0, none⟩), .int .i64 n] w (DrawnBool lo g w) := by
  go_enter Try.func159, Try.ntmps159
  go_wp2_with fail
  refine (l01Below_c lo g n _ k hn hn').mono ?_
  rintro e w1 ⟨x, a1, c1, -, rfl, k1, C1⟩
  go_wp2
  go_ret
  exact ⟨_, rfl, k1, C1⟩

set_option maxHeartbeats 1000000 in
theorem l01PickInt_c (lo g : Nat) (A : Option Addr) (n c : Nat) (zs : List Int) (w : World) (k : Cur lo w g) (h : Ints w A n zs) (h0 : 0 < n) (hn : n ≤ 1000) (hg : ∀ g' o, A = some ⟨g', o, none⟩ → g' < g ∨ g + 1 ≤ g') :
    Calls Try.prog 130 #[.pointer (some ⟨g, 0, none⟩), .slice A n c] w (DrawnOf lo g zs w) := by
  go_enter Try.func130, Try.ntmps130
  go_wp2_with fail
  refine (l01Below_c lo g n _ k (by omega) (by omega)).mono ?_
  rintro e w1 ⟨x, a1, c1, -, rfl, k1, C1⟩
  have d1 := c1 (by omega)
  obtain ⟨j, hj⟩ := Int.eq_ofNat_of_zero_le a1
  subst hj
  have hlt : j < n := by omega
  obtain ⟨g', o, y, rfl, hc, hy⟩ := (h.chg C1 hg).at_ hlt
  clear c1 h
  go_wp2
  go_ret
  exact ⟨y, List.mem_of_getElem? hy.out, rfl, k1, C1⟩

theorem Chg.freshA {lo hi lo' hi' : Nat} {a b c : World} (h : Chg lo hi a b) (k : Chg lo' hi' b c) (hl : a.heap.size ≤ lo') : Chg lo hi a c :=
  ⟨k.os.trans h.os, k.tape.trans h.tape, k.output.trans h.output, Nat.le_trans h.size k.size, fun i hi hne => (k.block i (Nat.lt_of_lt_of_le hi h.size) (by omega)).trans (h.block i hi hne)⟩
/-- A small drawn geometry. -/
def SmallIn (gg gb gr gc : Int) : Prop := gg = 1 ∧ (1 ≤ gb ∧ gb ≤ 2) ∧ (2 ≤ gr ∧ gr ≤ 4) ∧ (1 ≤ gc ∧ gc ≤ 2)
theorem SmallIn.geo {gg gb gr gc : Int} (h : SmallIn gg gb gr gc) : GeoIn gg gb gr gc := by
  obtain ⟨rfl, h1, h2, h3⟩ := h
  exact ⟨by omega, by omega, by omega, by omega⟩
def DrawnSmall (lo g : Nat) (w : World) (e : Ending) (w' : World) : Prop :=
  ∃ gg gb gr gc : Int, SmallIn gg gb gr gc ∧ e = .returned (.agg #[.int .i64 gg, .int .i64 gb, .int .i64 gr, .int .i64 gc]) ∧ Cur lo w' g ∧ Chg g (g + 1) w w'
set_option maxHeartbeats 1000000 in
theorem l14Small_c (lo g : Nat) (w : World) (k : Cur lo w g) :
    Calls Try.prog 154 #[.pointer (some ⟨g, 0, none⟩)] w (DrawnSmall lo g w) := by
  have klt := k.lt
  go_enter Try.func154, Try.ntmps154
  go_wp2_with fail
  refine abs_call ?_
  intro W hW
  have b0 : Below w.heap.size w W := by rw [hW]; exact (Below.refl _ _).alloc (Nat.le_refl _) _
  have r : Box W w.heap.size 25 #[.int .i64 0, .int .i64 0, .int .i64 0, .int .i64 0] := by rw [hW]; exact Box.new _ _ _
  have k0 := k.below b0
  clear hW k
  refine (l01Below_c lo g 2 _ k0 (by omega) (by omega)).mono ?_
  rintro e w1 ⟨x1, a1, c1, -, rfl, k1, C1⟩
  have d1 := c1 (by omega)
  replace r := r.chg C1 (by omega)
  clear c1 k0
  go_wp2_with fail
  refine (l01Below_c lo g 3 _ k1 (by omega) (by omega)).mono ?_
  rintro e w2 ⟨x2, a2, c2, -, rfl, k2, C2⟩
  have d2 := c2 (by omega)
  replace r := r.chg C2 (by omega)
  clear c2 k1
  go_wp2_with fail
  refine (l01Below_c lo g 2 _ k2 (by omega) (by omega)).mono ?_
  rintro e w3 ⟨x3, a3, c3, -, rfl, k3, C3⟩
  have d3 := c3 (by omega)
  replace r := r.chg C3 (by omega)
  clear c3 k2
  have CC : Chg g (g + 1) w w3 := (((Chg.of_below b0).trans C1).trans (C2.trans C3))
  obtain ⟨r0, r1, r2, r3⟩ := r.c4
  have rf := r.frozen
  have rl := r.lt
  go_wp2
  refine abs_body ?_
  intro W9 hW
  have r9 : Box W9 w.heap.size 25 #[.int .i64 1, .int .i64 (1 + x1), .int .i64 (2 + x2), .int .i64 (1 + x3)] := by rw [hW]; exact (((r.set_ 0 _).set_ 1 _).set_ 2 _).set_ 3 _
  have C9 : Chg g (g + 1) w W9 := by rw [hW]; exact (((CC.setCell (.inr (by dsimp only; omega)) _).setCell (.inr (by dsimp only; omega)) _).setCell (.inr (by dsimp only; omega)) _).setCell (.inr (by dsimp only; omega)) _
  have D4 : Chg w.heap.size (w.heap.size + 1) w3 W9 := by rw [hW]; exact ((((Chg.refl _ _ _).setCell (.inl (by dsimp only; omega)) _).setCell (.inl (by dsimp only; omega)) _).setCell (.inl (by dsimp only; omega)) _).setCell (.inl (by dsimp only; omega)) _
  have k9 := k3.chg D4 (by omega) (by omega)
  clear hW
  obtain ⟨z0, z1, z2, z3⟩ := r9.c4
  refine bodyPost_ret (v := .agg #[.int .i64 1, .int .i64 (1 + x1), .int .i64 (2 + x2), .int .i64 (1 + x3)]) (by simp [results, Try.results154, go_sem, z0, z1, z2, z3]) rfl ?_
  exact ⟨_, _, _, _, ⟨rfl, by omega, by omega, by omega⟩, rfl, k9, C9⟩
/-- Drawn limits. -/
def DrawnLim (lo g : Nat) (w : World) (e : Ending) (w' : World) : Prop :=
  ∃ la lh : Int, (0 ≤ la ∧ la ≤ 100) ∧ (0 ≤ lh ∧ lh ≤ 20) ∧ e = .returned (.agg #[.int .i64 la, .int .i64 lh]) ∧ Cur lo w' g ∧ Chg g (g + 1) w w'
set_option maxHeartbeats 1000000 in
theorem l14Limits_c (lo g : Nat) (w : World) (k : Cur lo w g) :
    Calls Try.prog 155 #[.pointer (some ⟨g, 0, none⟩)] w (DrawnLim lo g w) := by
  have klt := k.lt
  go_enter Try.func155, Try.ntmps155
  go_wp2_with fail
  refine abs_call ?_
  intro W hW
  have b0 : Below w.heap.size w W := by rw [hW]; exact ((Below.refl _ _).alloc (Nat.le_refl _) _).alloc (by simp) _
  have sz0 : w.heap.size + 2 ≤ W.heap.size := by rw [hW]; simp
  have r : Box W w.heap.size 90 #[.int .i64 0, .int .i64 0] := by rw [hW]; exact (Box.new _ _ _).alloc _
  have i1 : Ints W (some ⟨w.heap.size + 1, 0, none⟩) 4 [0, 10, 50, 100] := by rw [hW]; have := Ints.lit (w.alloc (.cells #[.int .i64 0, .int .i64 0] 90)) [0, 10, 50, 100] 3; simpa [mapI] using this
  have k0 := k.below b0
  clear hW k
  refine (l01PickInt_c lo g _ 4 _ _ _ k0 i1 (by omega) (by omega) (by intro g' o e; injection e with e; injection e with e1 e2; omega)).mono ?_
  rintro e w1 ⟨x1, m1, rfl, k1, C1⟩
  have d1 : 0 ≤ x1 ∧ x1 ≤ 100 := by simp at m1; omega
  replace r := r.chg C1 (by omega)
  have sz1 := C1.size
  clear m1 i1 k0
  go_wp2_with fail
  refine abs_call ?_
  intro W2 hW
  have b2 : Below w1.heap.size w1 W2 := by rw [hW]; exact (Below.refl _ _).alloc (Nat.le_refl _) _
  have sz2 : w1.heap.size + 1 ≤ W2.heap.size := by rw [hW]; simp
  have i2 : Ints W2 (some ⟨w1.heap.size, 0, none⟩) 4 [0, 2, 5, 20] := by rw [hW]; have := Ints.lit w1 [0, 2, 5, 20] 3; simpa [mapI] using this
  have k2 := k1.below b2
  replace r := r.kept b2
  clear hW k1
  refine (l01PickInt_c lo g _ 4 _ _ _ k2 i2 (by omega) (by omega) (by intro g' o e; injection e with e; injection e with e1 e2; omega)).mono ?_
  rintro e w3 ⟨x2, m2, rfl, k3, C3⟩
  have d2 : 0 ≤ x2 ∧ x2 ≤ 20 := by simp at m2; omega
  replace r := r.chg C3 (by omega)
  clear m2 i2 k2
  have CC : Chg g (g + 1) w w3 := (((Chg.of_below b0).trans C1).trans ((Chg.of_below b2).trans C3))
  obtain ⟨r0, r1⟩ := r.c2
  have rf := r.frozen
  have rl := r.lt
  go_wp2
  refine abs_body ?_
  intro W9 hW
  have r9 : Box W9 w.heap.size 90 #[.int .i64 x1, .int .i64 x2] := by rw [hW]; exact (r.set_ 0 _).set_ 1 _
  have C9 : Chg g (g + 1) w W9 := by rw [hW]; exact (CC.setCell (.inr (by dsimp only; omega)) _).setCell (.inr (by dsimp only; omega)) _
  have D4 : Chg w.heap.size (w.heap.size + 1) w3 W9 := by rw [hW]; exact ((Chg.refl _ _ _).setCell (.inl (by dsimp only; omega)) _).setCell (.inl (by dsimp only; omega)) _
  have k9 := k3.chg D4 (by omega) (by omega)
  clear hW
  obtain ⟨z0, z1⟩ := r9.c2
  refine bodyPost_ret (v := .agg #[.int .i64 x1, .int .i64 x2]) (by simp [results, Try.results155, go_sem, z0, z1]) rfl ?_
  exact ⟨_, _, d1, d2, rfl, k9, C9⟩
/-- Drawn symbols in order, n of them, in new memory. -/
def DrawnSyms (lo g n : Nat) (w : World) (e : Ending) (w' : World) : Prop :=
  ∃ B d ys, e = .returned (.slice B n d) ∧ OwnH w' w.heap.size w'.heap.size B n d ys ∧ ys.all symF = true ∧ Cur lo w' g ∧ Chg g (g + 1) w w'
set_option maxHeartbeats 2000000 in
theorem l12Data_c (lo g : Nat) (w : World) (k : Cur lo w g) :
    Calls Try.prog 174 #[.pointer (some ⟨g, 0, none⟩)] w (DrawnSyms lo g 8 w) := by
  have klt := k.lt
  go_enter Try.func174, Try.ntmps174
  go_wp2_with fail
  refine abs_code ?_
  intro W hW
  have bW : Below w.heap.size w W := by rw [hW]; exact (Below.refl _ _).alloc (Nat.le_refl _) _
  have szW := bW.size
  have kW := k.below bW
  clear hW k
  go_loopw [3, 4] (fun v i wr => ∃ (k : Nat) (B : Option Addr) (d : Nat) (p : List Int), k ≤ 8 ∧ i = .int .i64 k ∧ v = .slice B k d ∧ OwnI wr W.heap.size B k d p ∧ p.all symF = true ∧ Cur lo wr g ∧ Chg g (g + 1) w wr ∧ W.heap.size ≤ wr.heap.size) (fun _ i _ => 8 - (intOf i).toNat)
  case atStart => exact ⟨0, _, 0, [], Nat.zero_le _, rfl, rfl, OwnI.nil _ _ _, rfl, kW, Chg.of_below bW, Nat.le_refl _⟩
  case round =>
    obtain ⟨k, B, d, p, hk, rfl, rfl, ok, hp, kr, br, szr⟩ := hrel
    have HP := Lib.hid hp
    clear hp
    by_cases hlt : k < 8
    · go_wp2_with (first | (go_at_call 78; refine (l01Below_c lo g 16 _ kr (by omega) (by omega)).mono ?_; rintro e w2 ⟨x, x0, x1, x2, rfl, k2, C2⟩; replace ok := ok.chg C2 (fun j hj => by have := ok.lt j hj; omega); have sz2 := C2.size; have br2 := br.trans C2; clear kr) | (at_builtin; refine wpList_app1 rfl (.tmp 10) (.tmp 13) 26 rfl Try.underlying26 infoInt B k d W.heap.size p rfl (ok.alloc _) w2.heap.size x rfl (by simp) (by omega) (by simp; omega) ?_; intro B3 d3 w3 o3 g3 at3))
      go_roundw
      case rel =>
        have sz3 := g3.size
        simp at sz3
        have C3 : Chg W.heap.size w2.heap.size (w2.alloc (.cells #[.int .i64 x] 3)) w3 := Chg.of_grown g3 (fun j hj => ok.lt j hj)
        have ba : Below w2.heap.size w2 (w2.alloc (.cells #[.int .i64 x] 3)) := (Below.refl _ _).alloc (Nat.le_refl _) _
        refine ⟨k + 1, B3, d3, p ++ [x], by omega, by go_num, rfl, o3, ?_, (k2.below ba).chg C3 (by omega) (by omega), (br2.trans (Chg.of_below ba)).freshA C3 (by omega), by omega⟩
        rw [List.all_append, HP.out]
        simp [symF, inB]
        have := x1 (by omega)
        omega
      case measure => simp [intOf]; omega
    · obtain rfl : k = 8 := by omega
      go_wp2
      go_ret
      exact ⟨_, _, p, rfl, OwnH.mk' (ok.mono (by omega)), HP.out, kr, br⟩
end Go.Proofs.Ytbapamfomfbmmaa
