/-
  The draws of words, of requests and of queues: they end, and return what lies in memory of their own.
-/
import Derived.Test.YtbapamfomfbmmaaDraw
import Derived.Test.YtbapamfomfbmmaaReqE
namespace Go.Proofs.Ytbapamfomfbmmaa
open Go.RowKit
set_option linter.unusedSimpArgs false
set_option linter.unusedVariables false

theorem Ints.lit (w : World) (zs : List Int) (t : TypeId) : Ints (w.alloc (.cells (mapI zs).toArray t)) (some ⟨w.heap.size, 0, none⟩) zs.length zs := by
  refine ⟨rfl, fun _ => ⟨w.heap.size, 0, rfl, by simp, fun i hi => ?_⟩⟩
  rw [Nat.zero_add]
  refine (Box.new w t (mapI zs).toArray).cell i _ ?_
  rw [List.getElem?_toArray]
  exact mapI_get zs i hi
def DrawnAny (lo g : Nat) (w : World) (e : Ending) (w' : World) : Prop := ∃ x : Int, e = .returned (.int .i64 x) ∧ Cur lo w' g ∧ Chg g (g + 1) w w'
def DrawnOf (lo g : Nat) (zs : List Int) (w : World) (e : Ending) (w' : World) : Prop := ∃ x : Int, x ∈ zs ∧ e = .returned (.int .i64 x) ∧ Cur lo w' g ∧ Chg g (g + 1) w w'
def DrawnBool (lo g : Nat) (w : World) (e : Ending) (w' : World) : Prop := ∃ b : Bool, e = .returned (.bool b) ∧ Cur lo w' g ∧ Chg g (g + 1) w w'
def DrawnReq (lo g : Nat) (w : World) (e : Ending) (w' : World) : Prop :=
  ∃ (id ten line : Int) (wrt : Bool) (dat att : Int), e = .returned (.agg #[.int .i64 id, .int .i64 ten, .int .i64 line, .bool wrt, .int .i64 dat, .int .i64 att]) ∧ Cur lo w' g ∧ Chg g (g + 1) w w'
theorem DrawnAny.after {lo g : Nat} {w W : World} {e : Ending} {w' : World} (h : DrawnAny lo g W e w') (C : Chg g (g + 1) w W) : DrawnAny lo g w e w' := by
  obtain ⟨x, e, k, C'⟩ := h; exact ⟨x, e, k, C.trans C'⟩

set_option maxHeartbeats 1000000 in
theorem l01Once_c (lo g : Nat) (n : Int) (w : World) (k : Cur lo w g) (hn : n ≤ 9223372036854775807) (hn' : -9223372036854775808 ≤ n) :
    Calls Try.prog 159 #[.pointer (some ⟨g, 0, none⟩), .int .i64 n] w (DrawnBool lo g w) := by
  go_enter Try.func159, Try.ntmps159
  go_wp2_with fail
  refine (l01Below_c lo g n _ k hn hn').mono ?_
  rintro e w1 ⟨x, a1, c1, -, rfl, k1, C1⟩
  go_wp2
  go_ret
  exact ⟨_, rfl, k1, C1⟩

set_option maxHeartbeats 1000000 in
theorem l01PickInt_c (lo g : Nat) (A : Option Addr) (n c : Nat) (zs : List Int) (w : World) (k : Cur lo w g) (h : Ints w A n zs) (h0 : 0 < n) (hn : n ≤ 1000) (hg : ∀ g' o, A = some ⟨g', o, none⟩ → g' < g ∨ g + 1 ≤ g') :
    Calls Try.prog 130 #[.pointer (some ⟨g, 0, none⟩), .slice A n c] w (DrawnOf lo g zs w) := by
  go_enter Try.func130, Try.ntmps130
  go_wp2_with fail
  refine (l01Below_c lo g n _ k (by omega) (by omega)).mono ?_
  rintro e w1 ⟨x, a1, c1, -, rfl, k1, C1⟩
  have d1 := c1 (by omega)
  obtain ⟨j, hj⟩ := Int.eq_ofNat_of_zero_le a1
  subst hj
  have hlt : j < n := by omega
  obtain ⟨g', o, y, rfl, hc, hy⟩ := (h.chg C1 hg).at_ hlt
  clear c1 h
  go_wp2
  go_ret
  exact ⟨y, List.mem_of_getElem? hy.out, rfl, k1, C1⟩

set_option maxHeartbeats 2000000 in
theorem l02Word_c (lo g : Nat) (w : World) (k : Cur lo w g) :
    Calls Try.prog 169 #[.pointer (some ⟨g, 0, none⟩)] w (DrawnAny lo g w) := by
  have klt := k.lt
  go_enter Try.func169, Try.ntmps169
  go_wp2_with fail
  refine (l01Below_c lo g 4 _ k (by omega) (by omega)).mono ?_
  rintro e w1 ⟨x, a1, c1, -, rfl, k1, C1⟩
  have d1 := c1 (by omega)
  have sz1 := C1.size
  clear c1
  by_cases e0 : x = 0
  · subst e0
    go_wp2_with fail
    refine abs_call ?_
    intro W hW
    have bW : Below w1.heap.size w1 W := by rw [hW]; exact (Below.refl _ _).alloc (Nat.le_refl _) _
    have hI : Ints W (some ⟨w1.heap.size, 0, none⟩) 6 [0, 1, 4294967295, 2147483648, 65536, 305419896] := by rw [hW]; exact Ints.lit _ [0, 1, 4294967295, 2147483648, 65536, 305419896] _
    clear hW
    refine (l01PickInt_c lo g _ 6 6 _ _ (k1.below bW) hI (by omega) (by omega) (by intro g' o e; injection e with e; injection e; omega)).mono ?_
    rintro e w2 ⟨y, -, rfl, k2, C2⟩
    go_wp2
    go_ret
    exact ⟨y, rfl, k2, (C1.trans (Chg.of_below bW)).trans C2⟩
  · have f0 : (x == 0) = false := by simpa using e0
    by_cases e1 : x = 1
    · subst e1
      go_wp2_with fail
      refine (l01Below_c lo g 200 _ k1 (by omega) (by omega)).mono ?_
      rintro e w2 ⟨y, a2, c2, -, rfl, k2, C2⟩
      go_wp2
      go_ret
      exact ⟨y, rfl, k2, C1.trans C2⟩
    · have f1 : (x == 1) = false := by simpa using e1
      go_wp2_with fail
      refine (l01Below_c lo g 65536 _ k1 (by omega) (by omega)).mono ?_
      rintro e w2 ⟨y, a2, c2, -, rfl, k2, C2⟩
      have d2 := c2 (by omega)
      clear c2
      go_wp2_with fail
      refine (l01Below_c lo g 65536 _ k2 (by omega) (by omega)).mono ?_
      rintro e w3 ⟨z, a3, c3, -, rfl, k3, C3⟩
      have d3 := c3 (by omega)
      clear c3
      go_wp2
      go_ret
      exact ⟨_, rfl, k3, (C1.trans C2).trans C3⟩
set_option maxHeartbeats 2000000 in
theorem l02Any_c (lo g : Nat) (w : World) (k : Cur lo w g) :
    Calls Try.prog 138 #[.pointer (some ⟨g, 0, none⟩)] w (DrawnAny lo g w) := by
  have klt := k.lt
  go_enter Try.func138, Try.ntmps138
  go_wp2_with fail
  refine (l01Once_c lo g 8 _ k (by omega) (by omega)).mono ?_
  rintro e w1 ⟨b, rfl, k1, C1⟩
  have sz1 := C1.size
  cases b
  · go_wp2_with fail
    refine (l02Word_c lo g _ k1).mono ?_
    rintro e w2 ⟨y, rfl, k2, C2⟩
    go_wp2
    go_ret
    exact ⟨y, rfl, k2, C1.trans C2⟩
  · go_wp2_with fail
    refine abs_call ?_
    intro W hW
    have bW : Below w1.heap.size w1 W := by rw [hW]; exact (Below.refl _ _).alloc (Nat.le_refl _) _
    have hI : Ints W (some ⟨w1.heap.size, 0, none⟩) 4 [-1, 4294967296, 9223372036854775807, -9223372036854775808] := by rw [hW]; exact Ints.lit _ [-1, 4294967296, 9223372036854775807, -9223372036854775808] _
    clear hW
    refine (l01PickInt_c lo g _ 4 4 _ _ (k1.below bW) hI (by omega) (by omega) (by intro g' o e; injection e with e; injection e; omega)).mono ?_
    rintro e w2 ⟨y, -, rfl, k2, C2⟩
    go_wp2
    go_ret
    exact ⟨y, rfl, k2, (C1.trans (Chg.of_below bW)).trans C2⟩
set_option maxHeartbeats 4000000 in
theorem l19Req_c (lo g : Nat) (lines : Int) (w : World) (k : Cur lo w g) (h1 : lines ≤ 9223372036854775807) (h0 : -9223372036854775808 ≤ lines) :
    Calls Try.prog 137 #[.pointer (some ⟨g, 0, none⟩), .int .i64 lines] w (DrawnReq lo g w) := by
  have klt := k.lt
  go_enter Try.func137, Try.ntmps137
  go_wp2_with fail
  refine abs_call ?_
  intro W hW
  have b0 : Below w.heap.size w W := by rw [hW]; exact (Below.refl _ _).alloc (Nat.le_refl _) _
  have r : Box W w.heap.size 58 #[.int .i64 0, .int .i64 0, .int .i64 0, .bool false, .int .i64 0, .int .i64 0] := by rw [hW]; exact Box.new _ _ _
  have szW : W.heap.size = w.heap.size + 1 := by rw [hW]; simp
  have k0 := k.below b0
  clear hW k
  refine (l01Below_c lo g 60 _ k0 (by omega) (by omega)).mono ?_
  rintro e w1 ⟨x1, a1, c1, -, rfl, k1, C1⟩
  have d1 := c1 (by omega)
  replace r := r.chg C1 (by omega)
  clear c1 k0
  go_wp2_with fail
  refine (l01Below_c lo g 3 _ k1 (by omega) (by omega)).mono ?_
  rintro e w2 ⟨x2, a2, c2, -, rfl, k2, C2⟩
  replace r := r.chg C2 (by omega)
  clear c2 k1
  go_wp2_with fail
  refine (l01Below_c lo g lines _ k2 (by omega) (by omega)).mono ?_
  rintro e w3 ⟨x3, a3, c3, -, rfl, k3, C3⟩
  replace r := r.chg C3 (by omega)
  clear c3 k2
  go_wp2_with fail
  refine (l01Below_c lo g 50 _ k3 (by omega) (by omega)).mono ?_
  rintro e w4 ⟨x4, a4, c4, -, rfl, k4, C4⟩
  replace r := r.chg C4 (by omega)
  clear c4 k3
  have CC : Chg g (g + 1) w w4 := (((Chg.of_below b0).trans C1).trans ((C2.trans C3).trans C4))
  have sz4 := CC.size
  have sz5 : W.heap.size ≤ w4.heap.size := by have := C1.size; have := C2.size; have := C3.size; have := C4.size; omega
  clear C1 C2 C3 C4 b0
  go_wp2_with fail
  refine abs_call ?_
  intro W5 hW
  have b5 : Below w4.heap.size w4 W5 := by rw [hW]; exact (Below.refl _ _).alloc (Nat.le_refl _) _
  have p : Box W5 w4.heap.size 58 #[.int .i64 (1 + x1), .int .i64 x2, .int .i64 x3, .bool false, .int .i64 0, .int .i64 x4] := by rw [hW]; exact Box.new _ _ _
  replace r := r.kept b5
  have k5 := k4.below b5
  replace CC := CC.trans (Chg.of_below b5)
  clear hW k4
  refine (l01Once_c lo g 2 _ k5 (by omega) (by omega)).mono ?_
  rintro e w6 ⟨b, rfl, k6, C6⟩
  replace r := r.chg C6 (by omega)
  replace p := p.chg C6 (by omega)
  replace CC := CC.trans C6
  have sz6 := CC.size
  have r_l := r.lt
  have p_l := p.lt
  clear k5 C6
  cases b
  · obtain ⟨p0, p1, p2, p3, p4, p5⟩ := p.c6
    obtain ⟨r0, r1, r2, r3, r4, r5⟩ := r.c6
    have rf := r.frozen
    have rl := r.lt
    go_wp2
    refine abs_body ?_
    intro W9 hW
    have r9 : Box W9 w.heap.size 58 #[.int .i64 (1 + x1), .int .i64 x2, .int .i64 x3, .bool false, .int .i64 0, .int .i64 x4] := by rw [hW]; exact (((((r.set_ 0 _).set_ 1 _).set_ 2 _).set_ 3 _).set_ 4 _).set_ 5 _
    have C9 : Chg g (g + 1) w W9 := by rw [hW]; exact ((((((CC).setCell (.inr (by dsimp only; omega)) _).setCell (.inr (by dsimp only; omega)) _).setCell (.inr (by dsimp only; omega)) _).setCell (.inr (by dsimp only; omega)) _).setCell (.inr (by dsimp only; omega)) _).setCell (.inr (by dsimp only; omega)) _
    have D4 : Chg w.heap.size (w.heap.size + 1) w6 W9 := by rw [hW]; exact ((((((Chg.refl _ _ _).setCell (.inl (by dsimp only; omega)) _).setCell (.inl (by dsimp only; omega)) _).setCell (.inl (by dsimp only; omega)) _).setCell (.inl (by dsimp only; omega)) _).setCell (.inl (by dsimp only; omega)) _).setCell (.inl (by dsimp only; omega)) _
    have k9 := k6.chg D4 (by omega) (by omega)
    clear hW
    obtain ⟨z0, z1, z2, z3, z4, z5⟩ := r9.c6
    refine bodyPost_ret (v := .agg #[.int .i64 (1 + x1), .int .i64 x2, .int .i64 x3, .bool false, .int .i64 0, .int .i64 x4]) (by simp [results, Try.results137, go_sem, z0, z1, z2, z3, z4, z5]) rfl ?_
    exact ⟨_, _, _, _, _, _, rfl, k9, C9⟩
  · obtain ⟨p0, p1, p2, p3, p4, p5⟩ := p.c6
    have pf := p.frozen
    go_wp2_with fail
    refine abs_call ?_
    intro W7 hW
    replace p : Box W7 w4.heap.size 58 #[.int .i64 (1 + x1), .int .i64 x2, .int .i64 x3, .bool true, .int .i64 0, .int .i64 x4] := by rw [hW]; exact p.set_ 3 _
    replace r : Box W7 w.heap.size 58 #[.int .i64 0, .int .i64 0, .int .i64 0, .bool false, .int .i64 0, .int .i64 0] := by rw [hW]; exact r.far (by dsimp only; omega) _
    have D7 : Chg w4.heap.size (w4.heap.size + 1) w6 W7 := by rw [hW]; exact (Chg.refl _ _ _).setCell (.inl (by dsimp only; omega)) _
    replace CC : Chg g (g + 1) w W7 := by rw [hW]; exact CC.setCell (.inr (by dsimp only; omega)) _
    have k7 := k6.chg D7 (by omega) (by omega)
    clear hW p0 p1 p2 p3 p4 p5 pf k6 D7
    refine (l02Word_c lo g _ k7).mono ?_
    rintro e w8 ⟨y, rfl, k8, C8⟩
    replace r := r.chg C8 (by omega)
    replace p := p.chg C8 (by omega)
    replace CC := CC.trans C8
    have sz8 := CC.size
    have r_l := r.lt
    have p_l := p.lt
    clear C8 k7
    obtain ⟨p0, p1, p2, p3, p4, p5⟩ := p.c6
    have pf := p.frozen
    obtain ⟨r0, r1, r2, r3, r4, r5⟩ := r.c6
    have rf := r.frozen
    have rl := r.lt
    have ne1 : w.heap.size ≠ w4.heap.size := by omega
    have ne2 : w4.heap.size ≠ w.heap.size := by omega
    go_wp2
    refine abs_body ?_
    intro W9 hW
    have r9 : Box W9 w.heap.size 58 #[.int .i64 (1 + x1), .int .i64 x2, .int .i64 x3, .bool true, .int .i64 y, .int .i64 x4] := by rw [hW]; exact ((((((r.far (by dsimp only; omega) _).set_ 0 _).set_ 1 _).set_ 2 _).set_ 3 _).set_ 4 _).set_ 5 _
    have C9 : Chg g (g + 1) w W9 := by rw [hW]; exact ((((((CC.setCell (.inr (by dsimp only; omega)) _).setCell (.inr (by dsimp only; omega)) _).setCell (.inr (by dsimp only; omega)) _).setCell (.inr (by dsimp only; omega)) _).setCell (.inr (by dsimp only; omega)) _).setCell (.inr (by dsimp only; omega)) _).setCell (.inr (by dsimp only; omega)) _
    have D4 : Chg w.heap.size (w4.heap.size + 1) w8 W9 := by rw [hW]; exact (((((((Chg.refl _ _ _).setCell (.inl (by dsimp only; omega)) _).setCell (.inl (by dsimp only; omega)) _).setCell (.inl (by dsimp only; omega)) _).setCell (.inl (by dsimp only; omega)) _).setCell (.inl (by dsimp only; omega)) _).setCell (.inl (by dsimp only; omega)) _).setCell (.inl (by dsimp only; omega)) _
    have k9 := k8.chg D4 (by omega) (by omega)
    clear hW
    obtain ⟨z0, z1, z2, z3, z4, z5⟩ := r9.c6
    refine bodyPost_ret (v := .agg #[.int .i64 (1 + x1), .int .i64 x2, .int .i64 x3, .bool true, .int .i64 y, .int .i64 x4]) (by simp [results, Try.results137, go_sem, z0, z1, z2, z3, z4, z5]) rfl ?_
    exact ⟨_, _, _, _, _, _, rfl, k9, C9⟩
set_option maxHeartbeats 8000000 in
theorem l19AnyReq_c (lo g : Nat) (lines : Int) (w : World) (k : Cur lo w g) (h1 : lines ≤ 9223372036854775807) (h0 : -9223372036854775808 ≤ lines) :
    Calls Try.prog 86 #[.pointer (some ⟨g, 0, none⟩), .int .i64 lines] w (DrawnReq lo g w) := by
  have klt := k.lt
  go_enter Try.func86, Try.ntmps86
  go_wp2_with fail
  refine abs_call ?_
  intro W0 hW
  have b0 : Below w.heap.size w W0 := by rw [hW]; exact (Below.refl _ _).alloc (Nat.le_refl _) _
  have r : Box W0 w.heap.size 58 #[.int .i64 0, .int .i64 0, .int .i64 0, .bool false, .int .i64 0, .int .i64 0] := by rw [hW]; exact Box.new _ _ _
  have szW : W0.heap.size = w.heap.size + 1 := by rw [hW]; simp
  have k0 := k.below b0
  clear hW k
  refine (l19Req_c lo g lines _ k0 h1 h0).mono ?_
  rintro e w1 ⟨id, ten, line, wrt, dat, att, rfl, k1, C1⟩
  replace r := r.chg C1 (by omega)
  have CC : Chg g (g + 1) w w1 := (Chg.of_below b0).trans C1
  have sz1 := C1.size
  clear b0 C1 k0
  go_wp2_with fail
  refine abs_call ?_
  intro W2 hW
  have b2 : Below w1.heap.size w1 W2 := by rw [hW]; exact (Below.refl _ _).alloc (Nat.le_refl _) _
  have p : Box W2 w1.heap.size 58 #[.int .i64 id, .int .i64 ten, .int .i64 line, .bool wrt, .int .i64 dat, .int .i64 att] := by rw [hW]; exact Box.new _ _ _
  have sz2 : W2.heap.size = w1.heap.size + 1 := by rw [hW]; simp
  replace r := r.kept b2
  have k2 := k1.below b2
  replace CC := CC.trans (Chg.of_below b2)
  clear hW k1 b2
  refine (l01Below_c lo g 16 _ k2 (by omega) (by omega)).mono ?_
  rintro e w3 ⟨x, a1, c1, -, rfl, k3, C3⟩
  have d1 := c1 (by omega)
  replace r := r.chg C3 (by omega)
  replace p := p.chg C3 (by omega)
  replace CC := CC.trans C3
  have sz3 := C3.size
  clear c1 k2 C3
  by_cases e0 : x = 0
  · subst e0
    go_wp2_with fail
    refine abs_call ?_
    intro W hW
    have bW : Below w3.heap.size w3 W := by rw [hW]; exact (Below.refl _ _).alloc (Nat.le_refl _) _
    have hI : Ints W (some ⟨w3.heap.size, 0, none⟩) 4 [0, -1, 100000, 100001] := by rw [hW]; exact Ints.lit _ [0, -1, 100000, 100001] _
    clear hW
    refine (l01PickInt_c lo g _ 4 4 _ _ (k3.below bW) hI (by omega) (by omega) (by intro g' o e; injection e with e; injection e; omega)).mono ?_
    rintro e w4 ⟨y, -, rfl, k4, C4⟩
    have sW := bW.size
    replace r := (r.kept bW).chg C4 (by omega)
    replace p := (p.kept bW).chg C4 (by omega)
    replace CC := (CC.trans (Chg.of_below bW)).trans C4
    clear bW hI C4 k3
    have sz4 := CC.size
    have r_l := r.lt
    have p_l := p.lt
    obtain ⟨p0, p1, p2, p3, p4, p5⟩ := p.c6
    have pf := p.frozen
    obtain ⟨r0, r1, r2, r3, r4, r5⟩ := r.c6
    have rf := r.frozen
    have ne1 : w.heap.size ≠ w1.heap.size := by omega
    have ne2 : w1.heap.size ≠ w.heap.size := by omega
    go_wp2
    refine abs_body ?_
    intro W9 hW
    have r9 : Box W9 w.heap.size 58 #[.int .i64 y, .int .i64 ten, .int .i64 line, .bool wrt, .int .i64 dat, .int .i64 att] := by rw [hW]; exact ((((((r.far (by dsimp only; omega) _).set_ 0 _).set_ 1 _).set_ 2 _).set_ 3 _).set_ 4 _).set_ 5 _
    have C9 : Chg g (g + 1) w W9 := by rw [hW]; exact ((((((CC.setCell (.inr (by dsimp only; omega)) _).setCell (.inr (by dsimp only; omega)) _).setCell (.inr (by dsimp only; omega)) _).setCell (.inr (by dsimp only; omega)) _).setCell (.inr (by dsimp only; omega)) _).setCell (.inr (by dsimp only; omega)) _).setCell (.inr (by dsimp only; omega)) _
    have D4 : Chg w.heap.size (w1.heap.size + 1) w4 W9 := by rw [hW]; exact (((((((Chg.refl _ _ _).setCell (.inl (by dsimp only; omega)) _).setCell (.inl (by dsimp only; omega)) _).setCell (.inl (by dsimp only; omega)) _).setCell (.inl (by dsimp only; omega)) _).setCell (.inl (by dsimp only; omega)) _).setCell (.inl (by dsimp only; omega)) _).setCell (.inl (by dsimp only; omega)) _
    have k9 := k4.chg D4 (by omega) (by omega)
    clear hW
    obtain ⟨z0, z1, z2, z3, z4, z5⟩ := r9.c6
    refine bodyPost_ret (v := .agg #[.int .i64 y, .int .i64 ten, .int .i64 line, .bool wrt, .int .i64 dat, .int .i64 att]) (by simp [results, Try.results86, go_sem, z0, z1, z2, z3, z4, z5]) rfl ?_
    exact ⟨_, _, _, _, _, _, rfl, k9, C9⟩
  have f0 : (x == 0) = false := by simpa using e0
  by_cases e1 : x = 1
  · subst e1
    go_wp2_with fail
    refine abs_call ?_
    intro W hW
    have bW : Below w3.heap.size w3 W := by rw [hW]; exact (Below.refl _ _).alloc (Nat.le_refl _) _
    have hI : Ints W (some ⟨w3.heap.size, 0, none⟩) 3 [-1, 3, 4] := by rw [hW]; exact Ints.lit _ [-1, 3, 4] _
    clear hW
    refine (l01PickInt_c lo g _ 3 3 _ _ (k3.below bW) hI (by omega) (by omega) (by intro g' o e; injection e with e; injection e; omega)).mono ?_
    rintro e w4 ⟨y, -, rfl, k4, C4⟩
    have sW := bW.size
    replace r := (r.kept bW).chg C4 (by omega)
    replace p := (p.kept bW).chg C4 (by omega)
    replace CC := (CC.trans (Chg.of_below bW)).trans C4
    clear bW hI C4 k3
    have sz4 := CC.size
    have r_l := r.lt
    have p_l := p.lt
    obtain ⟨p0, p1, p2, p3, p4, p5⟩ := p.c6
    have pf := p.frozen
    obtain ⟨r0, r1, r2, r3, r4, r5⟩ := r.c6
    have rf := r.frozen
    have ne1 : w.heap.size ≠ w1.heap.size := by omega
    have ne2 : w1.heap.size ≠ w.heap.size := by omega
    go_wp2
    refine abs_body ?_
    intro W9 hW
    have r9 : Box W9 w.heap.size 58 #[.int .i64 id, .int .i64 y, .int .i64 line, .bool wrt, .int .i64 dat, .int .i64 att] := by rw [hW]; exact ((((((r.far (by dsimp only; omega) _).set_ 0 _).set_ 1 _).set_ 2 _).set_ 3 _).set_ 4 _).set_ 5 _
    have C9 : Chg g (g + 1) w W9 := by rw [hW]; exact ((((((CC.setCell (.inr (by dsimp only; omega)) _).setCell (.inr (by dsimp only; omega)) _).setCell (.inr (by dsimp only; omega)) _).setCell (.inr (by dsimp only; omega)) _).setCell (.inr (by dsimp only; omega)) _).setCell (.inr (by dsimp only; omega)) _).setCell (.inr (by dsimp only; omega)) _
    have D4 : Chg w.heap.size (w1.heap.size + 1) w4 W9 := by rw [hW]; exact (((((((Chg.refl _ _ _).setCell (.inl (by dsimp only; omega)) _).setCell (.inl (by dsimp only; omega)) _).setCell (.inl (by dsimp only; omega)) _).setCell (.inl (by dsimp only; omega)) _).setCell (.inl (by dsimp only; omega)) _).setCell (.inl (by dsimp only; omega)) _).setCell (.inl (by dsimp only; omega)) _
    have k9 := k4.chg D4 (by omega) (by omega)
    clear hW
    obtain ⟨z0, z1, z2, z3, z4, z5⟩ := r9.c6
    refine bodyPost_ret (v := .agg #[.int .i64 id, .int .i64 y, .int .i64 line, .bool wrt, .int .i64 dat, .int .i64 att]) (by simp [results, Try.results86, go_sem, z0, z1, z2, z3, z4, z5]) rfl ?_
    exact ⟨_, _, _, _, _, _, rfl, k9, C9⟩
  have f1 : (x == 1) = false := by simpa using e1
  by_cases e2 : x = 2
  · subst e2
    go_wp2_with fail
    refine abs_call ?_
    intro W hW
    have bW : Below w3.heap.size w3 W := by rw [hW]; exact (Below.refl _ _).alloc (Nat.le_refl _) _
    have hI : Ints W (some ⟨w3.heap.size, 0, none⟩) 3 [-1, lines, 9223372036854775807] := by rw [hW]; exact Ints.lit _ [-1, lines, 9223372036854775807] _
    clear hW
    refine (l01PickInt_c lo g _ 3 3 _ _ (k3.below bW) hI (by omega) (by omega) (by intro g' o e; injection e with e; injection e; omega)).mono ?_
    rintro e w4 ⟨y, -, rfl, k4, C4⟩
    have sW := bW.size
    replace r := (r.kept bW).chg C4 (by omega)
    replace p := (p.kept bW).chg C4 (by omega)
    replace CC := (CC.trans (Chg.of_below bW)).trans C4
    clear bW hI C4 k3
    have sz4 := CC.size
    have r_l := r.lt
    have p_l := p.lt
    obtain ⟨p0, p1, p2, p3, p4, p5⟩ := p.c6
    have pf := p.frozen
    obtain ⟨r0, r1, r2, r3, r4, r5⟩ := r.c6
    have rf := r.frozen
    have ne1 : w.heap.size ≠ w1.heap.size := by omega
    have ne2 : w1.heap.size ≠ w.heap.size := by omega
    go_wp2
    refine abs_body ?_
    intro W9 hW
    have r9 : Box W9 w.heap.size 58 #[.int .i64 id, .int .i64 ten, .int .i64 y, .bool wrt, .int .i64 dat, .int .i64 att] := by rw [hW]; exact ((((((r.far (by dsimp only; omega) _).set_ 0 _).set_ 1 _).set_ 2 _).set_ 3 _).set_ 4 _).set_ 5 _
    have C9 : Chg g (g + 1) w W9 := by rw [hW]; exact ((((((CC.setCell (.inr (by dsimp only; omega)) _).setCell (.inr (by dsimp only; omega)) _).setCell (.inr (by dsimp only; omega)) _).setCell (.inr (by dsimp only; omega)) _).setCell (.inr (by dsimp only; omega)) _).setCell (.inr (by dsimp only; omega)) _).setCell (.inr (by dsimp only; omega)) _
    have D4 : Chg w.heap.size (w1.heap.size + 1) w4 W9 := by rw [hW]; exact (((((((Chg.refl _ _ _).setCell (.inl (by dsimp only; omega)) _).setCell (.inl (by dsimp only; omega)) _).setCell (.inl (by dsimp only; omega)) _).setCell (.inl (by dsimp only; omega)) _).setCell (.inl (by dsimp only; omega)) _).setCell (.inl (by dsimp only; omega)) _).setCell (.inl (by dsimp only; omega)) _
    have k9 := k4.chg D4 (by omega) (by omega)
    clear hW
    obtain ⟨z0, z1, z2, z3, z4, z5⟩ := r9.c6
    refine bodyPost_ret (v := .agg #[.int .i64 id, .int .i64 ten, .int .i64 y, .bool wrt, .int .i64 dat, .int .i64 att]) (by simp [results, Try.results86, go_sem, z0, z1, z2, z3, z4, z5]) rfl ?_
    exact ⟨_, _, _, _, _, _, rfl, k9, C9⟩
  have f2 : (x == 2) = false := by simpa using e2
  by_cases e3 : x = 3
  · subst e3
    go_wp2_with fail
    refine (l02Any_c lo g _ k3).mono ?_
    rintro e w4 ⟨y, rfl, k4, C4⟩
    replace r := r.chg C4 (by omega)
    replace p := p.chg C4 (by omega)
    replace CC := CC.trans C4
    clear C4 k3
    have sz4 := CC.size
    have r_l := r.lt
    have p_l := p.lt
    obtain ⟨p0, p1, p2, p3, p4, p5⟩ := p.c6
    have pf := p.frozen
    obtain ⟨r0, r1, r2, r3, r4, r5⟩ := r.c6
    have rf := r.frozen
    have ne1 : w.heap.size ≠ w1.heap.size := by omega
    have ne2 : w1.heap.size ≠ w.heap.size := by omega
    go_wp2
    refine abs_body ?_
    intro W9 hW
    have r9 : Box W9 w.heap.size 58 #[.int .i64 id, .int .i64 ten, .int .i64 line, .bool wrt, .int .i64 y, .int .i64 att] := by rw [hW]; exact ((((((r.far (by dsimp only; omega) _).set_ 0 _).set_ 1 _).set_ 2 _).set_ 3 _).set_ 4 _).set_ 5 _
    have C9 : Chg g (g + 1) w W9 := by rw [hW]; exact ((((((CC.setCell (.inr (by dsimp only; omega)) _).setCell (.inr (by dsimp only; omega)) _).setCell (.inr (by dsimp only; omega)) _).setCell (.inr (by dsimp only; omega)) _).setCell (.inr (by dsimp only; omega)) _).setCell (.inr (by dsimp only; omega)) _).setCell (.inr (by dsimp only; omega)) _
    have D4 : Chg w.heap.size (w1.heap.size + 1) w4 W9 := by rw [hW]; exact (((((((Chg.refl _ _ _).setCell (.inl (by dsimp only; omega)) _).setCell (.inl (by dsimp only; omega)) _).setCell (.inl (by dsimp only; omega)) _).setCell (.inl (by dsimp only; omega)) _).setCell (.inl (by dsimp only; omega)) _).setCell (.inl (by dsimp only; omega)) _).setCell (.inl (by dsimp only; omega)) _
    have k9 := k4.chg D4 (by omega) (by omega)
    clear hW
    obtain ⟨z0, z1, z2, z3, z4, z5⟩ := r9.c6
    refine bodyPost_ret (v := .agg #[.int .i64 id, .int .i64 ten, .int .i64 line, .bool wrt, .int .i64 y, .int .i64 att]) (by simp [results, Try.results86, go_sem, z0, z1, z2, z3, z4, z5]) rfl ?_
    exact ⟨_, _, _, _, _, _, rfl, k9, C9⟩
  have f3 : (x == 3) = false := by simpa using e3
  by_cases e4 : x = 4
  · subst e4
    go_wp2_with fail
    refine abs_call ?_
    intro W hW
    have bW : Below w3.heap.size w3 W := by rw [hW]; exact (Below.refl _ _).alloc (Nat.le_refl _) _
    have hI : Ints W (some ⟨w3.heap.size, 0, none⟩) 3 [-1, 1000000, 1000001] := by rw [hW]; exact Ints.lit _ [-1, 1000000, 1000001] _
    clear hW
    refine (l01PickInt_c lo g _ 3 3 _ _ (k3.below bW) hI (by omega) (by omega) (by intro g' o e; injection e with e; injection e; omega)).mono ?_
    rintro e w4 ⟨y, -, rfl, k4, C4⟩
    have sW := bW.size
    replace r := (r.kept bW).chg C4 (by omega)
    replace p := (p.kept bW).chg C4 (by omega)
    replace CC := (CC.trans (Chg.of_below bW)).trans C4
    clear bW hI C4 k3
    have sz4 := CC.size
    have r_l := r.lt
    have p_l := p.lt
    obtain ⟨p0, p1, p2, p3, p4, p5⟩ := p.c6
    have pf := p.frozen
    obtain ⟨r0, r1, r2, r3, r4, r5⟩ := r.c6
    have rf := r.frozen
    have ne1 : w.heap.size ≠ w1.heap.size := by omega
    have ne2 : w1.heap.size ≠ w.heap.size := by omega
    go_wp2
    refine abs_body ?_
    intro W9 hW
    have r9 : Box W9 w.heap.size 58 #[.int .i64 id, .int .i64 ten, .int .i64 line, .bool wrt, .int .i64 dat, .int .i64 y] := by rw [hW]; exact ((((((r.far (by dsimp only; omega) _).set_ 0 _).set_ 1 _).set_ 2 _).set_ 3 _).set_ 4 _).set_ 5 _
    have C9 : Chg g (g + 1) w W9 := by rw [hW]; exact ((((((CC.setCell (.inr (by dsimp only; omega)) _).setCell (.inr (by dsimp only; omega)) _).setCell (.inr (by dsimp only; omega)) _).setCell (.inr (by dsimp only; omega)) _).setCell (.inr (by dsimp only; omega)) _).setCell (.inr (by dsimp only; omega)) _).setCell (.inr (by dsimp only; omega)) _
    have D4 : Chg w.heap.size (w1.heap.size + 1) w4 W9 := by rw [hW]; exact (((((((Chg.refl _ _ _).setCell (.inl (by dsimp only; omega)) _).setCell (.inl (by dsimp only; omega)) _).setCell (.inl (by dsimp only; omega)) _).setCell (.inl (by dsimp only; omega)) _).setCell (.inl (by dsimp only; omega)) _).setCell (.inl (by dsimp only; omega)) _).setCell (.inl (by dsimp only; omega)) _
    have k9 := k4.chg D4 (by omega) (by omega)
    clear hW
    obtain ⟨z0, z1, z2, z3, z4, z5⟩ := r9.c6
    refine bodyPost_ret (v := .agg #[.int .i64 id, .int .i64 ten, .int .i64 line, .bool wrt, .int .i64 dat, .int .i64 y]) (by simp [results, Try.results86, go_sem, z0, z1, z2, z3, z4, z5]) rfl ?_
    exact ⟨_, _, _, _, _, _, rfl, k9, C9⟩
  have f4 : (x == 4) = false := by simpa using e4
  have r_l := r.lt
  have p_l := p.lt
  have sz4 := CC.size
  obtain ⟨p0, p1, p2, p3, p4, p5⟩ := p.c6
  obtain ⟨r0, r1, r2, r3, r4, r5⟩ := r.c6
  have rf := r.frozen
  have rl := r.lt
  go_wp2
  refine abs_body ?_
  intro W9 hW
  have r9 : Box W9 w.heap.size 58 #[.int .i64 id, .int .i64 ten, .int .i64 line, .bool wrt, .int .i64 dat, .int .i64 att] := by rw [hW]; exact (((((r.set_ 0 _).set_ 1 _).set_ 2 _).set_ 3 _).set_ 4 _).set_ 5 _
  have C9 : Chg g (g + 1) w W9 := by rw [hW]; exact ((((((CC).setCell (.inr (by dsimp only; omega)) _).setCell (.inr (by dsimp only; omega)) _).setCell (.inr (by dsimp only; omega)) _).setCell (.inr (by dsimp only; omega)) _).setCell (.inr (by dsimp only; omega)) _).setCell (.inr (by dsimp only; omega)) _
  have D4 : Chg w.heap.size (w.heap.size + 1) w3 W9 := by rw [hW]; exact ((((((Chg.refl _ _ _).setCell (.inl (by dsimp only; omega)) _).setCell (.inl (by dsimp only; omega)) _).setCell (.inl (by dsimp only; omega)) _).setCell (.inl (by dsimp only; omega)) _).setCell (.inl (by dsimp only; omega)) _).setCell (.inl (by dsimp only; omega)) _
  have k9 := k3.chg D4 (by omega) (by omega)
  clear hW
  obtain ⟨z0, z1, z2, z3, z4, z5⟩ := r9.c6
  refine bodyPost_ret (v := .agg #[.int .i64 id, .int .i64 ten, .int .i64 line, .bool wrt, .int .i64 dat, .int .i64 att]) (by simp [results, Try.results86, go_sem, z0, z1, z2, z3, z4, z5]) rfl ?_
  exact ⟨_, _, _, _, _, _, rfl, k9, C9⟩
end Go.Proofs.Ytbapamfomfbmmaa
