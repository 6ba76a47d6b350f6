/-
  The draws of tables of spare rows, by existence.
-/
import Derived.Test.YtbapamfomfbmmaaQuD
import Derived.Test.YtbapamfomfbmmaaGeoD
import Derived.Test.YtbapamfomfbmmaaSpAs
import Derived.Test.YtbapamfomfbmmaaSpF
import Derived.Deep.DeepCutAuto
import Derived.Deep.RegionHeld3
import Derived.Handy
namespace Go.Proofs.Ytbapamfomfbmmaa
open Go.RowKit
set_option linter.unusedSimpArgs false
set_option linter.unusedVariables false

def DrawnG4 (lo g : Nat) (w : World) (e : Ending) (w' : World) : Prop :=
  ∃ gg gb gr gc : Int, e = .returned (.agg #[.int .i64 gg, .int .i64 gb, .int .i64 gr, .int .i64 gc]) ∧ Cur lo w' g ∧ Chg g (g + 1) w w'
def DrawnSpC (lo g : Nat) (w : World) (e : Ending) (w' : World) : Prop :=
  ∃ (gg gb gr gc s : Int) (A : Option Addr) (n c : Nat) (zs : List Int), 4 ≤ gr ∧ gr ≤ 7 ∧ 1 < n ∧ n ≤ 128 ∧ e = .returned (.tuple #[.agg #[.int .i64 gg, .int .i64 gb, .int .i64 gr, .int .i64 gc], .agg #[.int .i64 s, .slice A n c]]) ∧ OwnH w' w.heap.size w'.heap.size A n c zs ∧ Cur lo w' g ∧ Chg g (g + 1) w w'
def DrawnSp (lo g : Nat) (w : World) (e : Ending) (w' : World) : Prop :=
  ∃ (gg gb gr gc s : Int) (A : Option Addr) (n c : Nat) (zs : List Int), n ≤ 128 ∧ n ≤ c ∧ c ≤ maxLen ∧ (∀ g' o, A = some ⟨g', o, none⟩ → w.heap.size ≤ g') ∧ e = .returned (.tuple #[.agg #[.int .i64 gg, .int .i64 gb, .int .i64 gr, .int .i64 gc], .agg #[.int .i64 s, .slice A n c]]) ∧ Ints w' A n zs ∧ Cur lo w' g ∧ Chg g (g + 1) w w'
def NewSpD (w : World) (e : Ending) (w' : World) : Prop :=
  ∃ (gg gb gr gc s : Int) (A : Option Addr) (n c : Nat) (zs : List Int), n ≤ 128 ∧ n ≤ c ∧ c ≤ maxLen ∧ e = .returned (.tuple #[.agg #[.int .i64 gg, .int .i64 gb, .int .i64 gr, .int .i64 gc], .agg #[.int .i64 s, .slice A n c]]) ∧ Ints w' A n zs ∧ Below w.heap.size w w'
theorem chg_of_d {lo hi : Nat} {w w' : World} (C : Chg lo hi w.drew w') : Chg lo hi w w' := ⟨C.os, C.tape, C.output, C.size, C.block⟩
theorem bel_of_d {w w' : World} (C : Below w.drew.heap.size w.drew w') : Below w.heap.size w w' := ⟨C.os, C.tape, C.output, C.size, C.block⟩
theorem chg_d {lo hi : Nat} {w w' : World} (C : Chg lo hi w w') : Chg lo hi w w'.drew := C.drewN 1
theorem chg_a {lo hi : Nat} {w w' : World} (C : Chg lo hi w w') {o : Obj} : Chg lo hi w (w'.alloc o) := C.alloc o
theorem cur_d {lo g : Nat} {w : World} (k : Cur lo w g) : Cur lo w.drew g := k.below (belowN (Below.refl _ _) 1)
theorem cur_a {lo g : Nat} {w : World} (k : Cur lo w g) {o : Obj} : Cur lo (w.alloc o) g := k.below ((Below.refl _ _).alloc (Nat.le_refl _) o)
/-- A fresh table. -/
theorem case_ok {gg gb gr gc x gr2 : Int} (h : GeoIn gg gb gr gc) (h1 : 4 ≤ gr2) (h2 : gr2 ≤ 7) (x0 : 0 ≤ x) (x1 : x < 3) :
    spOk gg gb gr2 gc x = true ∧ spSp gg gb gr2 gc x = x ∧ 1 < (spMap gg gb gr2 gc x).length ∧ (spMap gg gb gr2 gc x).length ≤ 128 ∧ 1 ≤ bankCnt gg gb gr2 gc ∧ bankCnt gg gb gr2 gc ≤ 8 := by
  obtain ⟨⟨a1, a2⟩, ⟨b1, b2⟩, ⟨c1, c2⟩, d1, d2⟩ := h
  have hg : geoOk gg gb gr2 gc = true := by
    unfold geoOk
    rw [inB_mk a1 a2, inB_mk b1 b2, inB_mk (show 2 ≤ gr2 by omega) (show gr2 ≤ 16 by omega), inB_mk d1 (show gc ≤ 8 by omega)]
    rfl
  have hs : spOk gg gb gr2 gc x = true := by
    unfold spOk
    rw [hg, inB_mk x0 (show x ≤ 2 by omega)]
    simp; omega
  obtain ⟨nb, n, e1, e2, e3, e4, n1, n8, n2, n16, -, -, -⟩ := spOk_nums hs
  refine ⟨hs, (sp_yes hs).2, ?_, ?_, bankCnt_pos hg, (bankCnt_bd _ _ _ _).2⟩
  · rw [(sp_yes hs).1, freshTo_len, e3, e4]
    have := Nat.mul_le_mul n1 n2
    omega
  · rw [(sp_yes hs).1, freshTo_len, e3, e4]
    exact le_mul8 n8 n16

set_option maxRecDepth 100000 in
set_option maxHeartbeats 4000000 in
theorem l03Any_c (lo g : Nat) (w : World) (k : Cur lo w g) :
    Calls Try.prog 131 #[.pointer (some ⟨g, 0, none⟩)] w (DrawnG4 lo g w) := by
  have klt := k.lt
  have CC := Chg.refl g (g + 1) w
  go_enter Try.func131, Try.ntmps131
  go_wp2_with fail
  refine abs_call ?_
  intro W hW
  have szW : w.heap.size + 1 ≤ W.heap.size := by rw [hW]; simp [World.setCell]
  have szWc := CC.size
  replace k : Cur lo W g := by rw [hW]; exact (Cur.below (k) ((Below.refl _ _).alloc (Nat.le_refl _) _))
  replace CC : Chg g (g + 1) w W := by rw [hW]; exact ((CC).trans (Chg.of_below ((Below.refl _ _).alloc (Nat.le_refl _) _)))
  have r : Box W w.heap.size 25 #[.int .i64 0, .int .i64 0, .int .i64 0, .int .i64 0] := by rw [hW]; exact (Box.newAt (by simp [World.setCell]))
  clear hW
  refine (l03Geo_c lo g _ k).mono ?_
  rintro e w1 ⟨gg, gb, gr, gc, -, rfl, k1, C1⟩
  have szw1 := C1.size
  clear k
  have k := k1
  replace CC := CC.trans C1
  clear k1
  replace r := r.chg C1 (by omega)
  clear C1
  go_wp2_with fail
  refine abs_call ?_
  intro W2 hW
  have szW2 : w1.heap.size + 1 ≤ W2.heap.size := by rw [hW]; simp [World.setCell]
  have szW2c := CC.size
  replace k : Cur lo W2 g := by rw [hW]; exact (Cur.below (k) ((Below.refl _ _).alloc (Nat.le_refl _) _))
  replace CC : Chg g (g + 1) w W2 := by rw [hW]; exact ((CC).trans (Chg.of_below ((Below.refl _ _).alloc (Nat.le_refl _) _)))
  replace r : Box W2 w.heap.size 25 #[.int .i64 0, .int .i64 0, .int .i64 0, .int .i64 0] := by rw [hW]; exact r.alloc _
  have q : Box W2 w1.heap.size 25 #[.int .i64 gg, .int .i64 gb, .int .i64 gr, .int .i64 gc] := by rw [hW]; exact (Box.newAt (by simp [World.setCell]))
  clear hW
  refine (l01Below_c lo g 16 _ k (by omega) (by omega)).mono ?_
  rintro e w3 ⟨x, a3, c3, -, rfl, k3, C3⟩
  have szw3 := C3.size
  clear k
  have k := k3
  replace CC := CC.trans C3
  clear k3
  replace r := r.chg C3 (by omega)
  replace q := q.chg C3 (by omega)
  clear C3
  clear c3 a3
  by_cases e0 : x = 0
  · skip
    subst e0
    go_wp2_with fail
    refine abs_call ?_
    intro W4 hW
    have bW : Below w3.heap.size w3 W4 := by rw [hW]; exact (Below.refl _ _).alloc (Nat.le_refl _) _
    have hI : Ints W4 (some ⟨w3.heap.size, 0, none⟩) 3 [0, 3, -1] := by rw [hW]; exact Ints.lit _ [0, 3, -1] _
    clear hW
    have sz3 : g < w3.heap.size := by omega
    have szW4 := bW.size
    replace k := k.below bW
    replace CC := CC.trans (Chg.of_below bW)
    replace r := r.kept bW
    replace q := q.kept bW
    clear bW
    refine (l01PickInt_c lo g _ 3 3 _ _ k hI (by omega) (by omega) (by intro g' o e; injection e with e; injection e; omega)).mono ?_
    rintro e w5 ⟨y, -, rfl, k5, C5⟩
    have szw5 := C5.size
    clear k
    have k := k5
    replace CC := CC.trans C5
    clear k5
    replace r := r.chg C5 (by omega)
    replace q := q.chg C5 (by omega)
    clear C5
    obtain ⟨q_0, q_1, q_2, q_3⟩ := q.c4
    have q_lt := q.lt
    obtain ⟨r_0, r_1, r_2, r_3⟩ := r.c4
    have r_lt := r.lt
    have q_f := q.frozen
    have r_f := r.frozen
    go_wp2
    refine abs_body ?_
    intro W9 hW
    clear q_0 q_1 q_2 q_3 q_lt r_0 r_1 r_2 r_3 r_lt q_f r_f
    have szW9 : w5.heap.size ≤ W9.heap.size := by rw [hW]; simp [World.setCell]
    have szW9c := CC.size
    replace k : Cur lo W9 g := by rw [hW]; exact (Cur.chg ((Cur.chg ((Cur.chg ((Cur.chg ((Cur.chg (k) ((Chg.refl w1.heap.size (w1.heap.size + 1) _).setCell (.inl (by dsimp only; omega)) _) (by omega) (by omega))) ((Chg.refl w.heap.size (w.heap.size + 1) _).setCell (.inl (by dsimp only; omega)) _) (by omega) (by omega))) ((Chg.refl w.heap.size (w.heap.size + 1) _).setCell (.inl (by dsimp only; omega)) _) (by omega) (by omega))) ((Chg.refl w.heap.size (w.heap.size + 1) _).setCell (.inl (by dsimp only; omega)) _) (by omega) (by omega))) ((Chg.refl w.heap.size (w.heap.size + 1) _).setCell (.inl (by dsimp only; omega)) _) (by omega) (by omega))
    replace CC : Chg g (g + 1) w W9 := by rw [hW]; exact ((((((((((CC).setCell (.inr (by dsimp only; omega)) _)).setCell (.inr (by dsimp only; omega)) _)).setCell (.inr (by dsimp only; omega)) _)).setCell (.inr (by dsimp only; omega)) _)).setCell (.inr (by dsimp only; omega)) _)
    replace r : Box W9 w.heap.size 25 #[.int .i64 y, .int .i64 gb, .int .i64 gr, .int .i64 gc] := by rw [hW]; exact (((((r).far (by dsimp only; omega) _).set_ 0 _).set_ 1 _).set_ 2 _).set_ 3 _
    replace q : Box W9 w1.heap.size 25 #[.int .i64 y, .int .i64 gb, .int .i64 gr, .int .i64 gc] := by rw [hW]; exact (((((q).set_ 0 _).far (by dsimp only; omega) _).far (by dsimp only; omega) _).far (by dsimp only; omega) _).far (by dsimp only; omega) _
    clear hW
    obtain ⟨z0, z1, z2, z3⟩ := r.c4
    refine bodyPost_ret (v := .agg #[.int .i64 y, .int .i64 gb, .int .i64 gr, .int .i64 gc]) (by simp [results, Try.results131, go_sem, z0, z1, z2, z3]) rfl ?_
    exact ⟨_, _, _, _, rfl, k, CC⟩
  have f0 : (x == 0) = false := by simpa using e0
  by_cases e1 : x = 1
  · skip
    subst e1
    go_wp2_with fail
    refine abs_call ?_
    intro W4 hW
    have bW : Below w3.heap.size w3 W4 := by rw [hW]; exact (Below.refl _ _).alloc (Nat.le_refl _) _
    have hI : Ints W4 (some ⟨w3.heap.size, 0, none⟩) 3 [0, 5, 9223372036854775807] := by rw [hW]; exact Ints.lit _ [0, 5, 9223372036854775807] _
    clear hW
    have sz3 : g < w3.heap.size := by omega
    have szW4 := bW.size
    replace k := k.below bW
    replace CC := CC.trans (Chg.of_below bW)
    replace r := r.kept bW
    replace q := q.kept bW
    clear bW
    refine (l01PickInt_c lo g _ 3 3 _ _ k hI (by omega) (by omega) (by intro g' o e; injection e with e; injection e; omega)).mono ?_
    rintro e w5 ⟨y, -, rfl, k5, C5⟩
    have szw5 := C5.size
    clear k
    have k := k5
    replace CC := CC.trans C5
    clear k5
    replace r := r.chg C5 (by omega)
    replace q := q.chg C5 (by omega)
    clear C5
    obtain ⟨q_0, q_1, q_2, q_3⟩ := q.c4
    have q_lt := q.lt
    obtain ⟨r_0, r_1, r_2, r_3⟩ := r.c4
    have r_lt := r.lt
    have q_f := q.frozen
    have r_f := r.frozen
    go_wp2
    refine abs_body ?_
    intro W9 hW
    clear q_0 q_1 q_2 q_3 q_lt r_0 r_1 r_2 r_3 r_lt q_f r_f
    have szW9 : w5.heap.size ≤ W9.heap.size := by rw [hW]; simp [World.setCell]
    have szW9c := CC.size
    replace k : Cur lo W9 g := by rw [hW]; exact (Cur.chg ((Cur.chg ((Cur.chg ((Cur.chg ((Cur.chg (k) ((Chg.refl w1.heap.size (w1.heap.size + 1) _).setCell (.inl (by dsimp only; omega)) _) (by omega) (by omega))) ((Chg.refl w.heap.size (w.heap.size + 1) _).setCell (.inl (by dsimp only; omega)) _) (by omega) (by omega))) ((Chg.refl w.heap.size (w.heap.size + 1) _).setCell (.inl (by dsimp only; omega)) _) (by omega) (by omega))) ((Chg.refl w.heap.size (w.heap.size + 1) _).setCell (.inl (by dsimp only; omega)) _) (by omega) (by omega))) ((Chg.refl w.heap.size (w.heap.size + 1) _).setCell (.inl (by dsimp only; omega)) _) (by omega) (by omega))
    replace CC : Chg g (g + 1) w W9 := by rw [hW]; exact ((((((((((CC).setCell (.inr (by dsimp only; omega)) _)).setCell (.inr (by dsimp only; omega)) _)).setCell (.inr (by dsimp only; omega)) _)).setCell (.inr (by dsimp only; omega)) _)).setCell (.inr (by dsimp only; omega)) _)
    replace r : Box W9 w.heap.size 25 #[.int .i64 gg, .int .i64 y, .int .i64 gr, .int .i64 gc] := by rw [hW]; exact (((((r).far (by dsimp only; omega) _).set_ 0 _).set_ 1 _).set_ 2 _).set_ 3 _
    replace q : Box W9 w1.heap.size 25 #[.int .i64 gg, .int .i64 y, .int .i64 gr, .int .i64 gc] := by rw [hW]; exact (((((q).set_ 1 _).far (by dsimp only; omega) _).far (by dsimp only; omega) _).far (by dsimp only; omega) _).far (by dsimp only; omega) _
    clear hW
    obtain ⟨z0, z1, z2, z3⟩ := r.c4
    refine bodyPost_ret (v := .agg #[.int .i64 gg, .int .i64 y, .int .i64 gr, .int .i64 gc]) (by simp [results, Try.results131, go_sem, z0, z1, z2, z3]) rfl ?_
    exact ⟨_, _, _, _, rfl, k, CC⟩
  have f1 : (x == 1) = false := by simpa using e1
  by_cases e2 : x = 2
  · skip
    subst e2
    go_wp2_with fail
    refine abs_call ?_
    intro W4 hW
    have bW : Below w3.heap.size w3 W4 := by rw [hW]; exact (Below.refl _ _).alloc (Nat.le_refl _) _
    have hI : Ints W4 (some ⟨w3.heap.size, 0, none⟩) 3 [1, 16, 17] := by rw [hW]; exact Ints.lit _ [1, 16, 17] _
    clear hW
    have sz3 : g < w3.heap.size := by omega
    have szW4 := bW.size
    replace k := k.below bW
    replace CC := CC.trans (Chg.of_below bW)
    replace r := r.kept bW
    replace q := q.kept bW
    clear bW
    refine (l01PickInt_c lo g _ 3 3 _ _ k hI (by omega) (by omega) (by intro g' o e; injection e with e; injection e; omega)).mono ?_
    rintro e w5 ⟨y, -, rfl, k5, C5⟩
    have szw5 := C5.size
    clear k
    have k := k5
    replace CC := CC.trans C5
    clear k5
    replace r := r.chg C5 (by omega)
    replace q := q.chg C5 (by omega)
    clear C5
    obtain ⟨q_0, q_1, q_2, q_3⟩ := q.c4
    have q_lt := q.lt
    obtain ⟨r_0, r_1, r_2, r_3⟩ := r.c4
    have r_lt := r.lt
    have q_f := q.frozen
    have r_f := r.frozen
    go_wp2
    refine abs_body ?_
    intro W9 hW
    clear q_0 q_1 q_2 q_3 q_lt r_0 r_1 r_2 r_3 r_lt q_f r_f
    have szW9 : w5.heap.size ≤ W9.heap.size := by rw [hW]; simp [World.setCell]
    have szW9c := CC.size
    replace k : Cur lo W9 g := by rw [hW]; exact (Cur.chg ((Cur.chg ((Cur.chg ((Cur.chg ((Cur.chg (k) ((Chg.refl w1.heap.size (w1.heap.size + 1) _).setCell (.inl (by dsimp only; omega)) _) (by omega) (by omega))) ((Chg.refl w.heap.size (w.heap.size + 1) _).setCell (.inl (by dsimp only; omega)) _) (by omega) (by omega))) ((Chg.refl w.heap.size (w.heap.size + 1) _).setCell (.inl (by dsimp only; omega)) _) (by omega) (by omega))) ((Chg.refl w.heap.size (w.heap.size + 1) _).setCell (.inl (by dsimp only; omega)) _) (by omega) (by omega))) ((Chg.refl w.heap.size (w.heap.size + 1) _).setCell (.inl (by dsimp only; omega)) _) (by omega) (by omega))
    replace CC : Chg g (g + 1) w W9 := by rw [hW]; exact ((((((((((CC).setCell (.inr (by dsimp only; omega)) _)).setCell (.inr (by dsimp only; omega)) _)).setCell (.inr (by dsimp only; omega)) _)).setCell (.inr (by dsimp only; omega)) _)).setCell (.inr (by dsimp only; omega)) _)
    replace r : Box W9 w.heap.size 25 #[.int .i64 gg, .int .i64 gb, .int .i64 y, .int .i64 gc] := by rw [hW]; exact (((((r).far (by dsimp only; omega) _).set_ 0 _).set_ 1 _).set_ 2 _).set_ 3 _
    replace q : Box W9 w1.heap.size 25 #[.int .i64 gg, .int .i64 gb, .int .i64 y, .int .i64 gc] := by rw [hW]; exact (((((q).set_ 2 _).far (by dsimp only; omega) _).far (by dsimp only; omega) _).far (by dsimp only; omega) _).far (by dsimp only; omega) _
    clear hW
    obtain ⟨z0, z1, z2, z3⟩ := r.c4
    refine bodyPost_ret (v := .agg #[.int .i64 gg, .int .i64 gb, .int .i64 y, .int .i64 gc]) (by simp [results, Try.results131, go_sem, z0, z1, z2, z3]) rfl ?_
    exact ⟨_, _, _, _, rfl, k, CC⟩
  have f2 : (x == 2) = false := by simpa using e2
  by_cases e3 : x = 3
  · skip
    subst e3
    go_wp2_with fail
    refine abs_call ?_
    intro W4 hW
    have bW : Below w3.heap.size w3 W4 := by rw [hW]; exact (Below.refl _ _).alloc (Nat.le_refl _) _
    have hI : Ints W4 (some ⟨w3.heap.size, 0, none⟩) 3 [0, 8, 9] := by rw [hW]; exact Ints.lit _ [0, 8, 9] _
    clear hW
    have sz3 : g < w3.heap.size := by omega
    have szW4 := bW.size
    replace k := k.below bW
    replace CC := CC.trans (Chg.of_below bW)
    replace r := r.kept bW
    replace q := q.kept bW
    clear bW
    refine (l01PickInt_c lo g _ 3 3 _ _ k hI (by omega) (by omega) (by intro g' o e; injection e with e; injection e; omega)).mono ?_
    rintro e w5 ⟨y, -, rfl, k5, C5⟩
    have szw5 := C5.size
    clear k
    have k := k5
    replace CC := CC.trans C5
    clear k5
    replace r := r.chg C5 (by omega)
    replace q := q.chg C5 (by omega)
    clear C5
    obtain ⟨q_0, q_1, q_2, q_3⟩ := q.c4
    have q_lt := q.lt
    obtain ⟨r_0, r_1, r_2, r_3⟩ := r.c4
    have r_lt := r.lt
    have q_f := q.frozen
    have r_f := r.frozen
    go_wp2
    refine abs_body ?_
    intro W9 hW
    clear q_0 q_1 q_2 q_3 q_lt r_0 r_1 r_2 r_3 r_lt q_f r_f
    have szW9 : w5.heap.size ≤ W9.heap.size := by rw [hW]; simp [World.setCell]
    have szW9c := CC.size
    replace k : Cur lo W9 g := by rw [hW]; exact (Cur.chg ((Cur.chg ((Cur.chg ((Cur.chg ((Cur.chg (k) ((Chg.refl w1.heap.size (w1.heap.size + 1) _).setCell (.inl (by dsimp only; omega)) _) (by omega) (by omega))) ((Chg.refl w.heap.size (w.heap.size + 1) _).setCell (.inl (by dsimp only; omega)) _) (by omega) (by omega))) ((Chg.refl w.heap.size (w.heap.size + 1) _).setCell (.inl (by dsimp only; omega)) _) (by omega) (by omega))) ((Chg.refl w.heap.size (w.heap.size + 1) _).setCell (.inl (by dsimp only; omega)) _) (by omega) (by omega))) ((Chg.refl w.heap.size (w.heap.size + 1) _).setCell (.inl (by dsimp only; omega)) _) (by omega) (by omega))
    replace CC : Chg g (g + 1) w W9 := by rw [hW]; exact ((((((((((CC).setCell (.inr (by dsimp only; omega)) _)).setCell (.inr (by dsimp only; omega)) _)).setCell (.inr (by dsimp only; omega)) _)).setCell (.inr (by dsimp only; omega)) _)).setCell (.inr (by dsimp only; omega)) _)
    replace r : Box W9 w.heap.size 25 #[.int .i64 gg, .int .i64 gb, .int .i64 gr, .int .i64 y] := by rw [hW]; exact (((((r).far (by dsimp only; omega) _).set_ 0 _).set_ 1 _).set_ 2 _).set_ 3 _
    replace q : Box W9 w1.heap.size 25 #[.int .i64 gg, .int .i64 gb, .int .i64 gr, .int .i64 y] := by rw [hW]; exact (((((q).set_ 3 _).far (by dsimp only; omega) _).far (by dsimp only; omega) _).far (by dsimp only; omega) _).far (by dsimp only; omega) _
    clear hW
    obtain ⟨z0, z1, z2, z3⟩ := r.c4
    refine bodyPost_ret (v := .agg #[.int .i64 gg, .int .i64 gb, .int .i64 gr, .int .i64 y]) (by simp [results, Try.results131, go_sem, z0, z1, z2, z3]) rfl ?_
    exact ⟨_, _, _, _, rfl, k, CC⟩
  have f3 : (x == 3) = false := by simpa using e3
  obtain ⟨q_0, q_1, q_2, q_3⟩ := q.c4
  have q_lt := q.lt
  obtain ⟨r_0, r_1, r_2, r_3⟩ := r.c4
  have r_lt := r.lt
  have r_f := r.frozen
  go_wp2
  refine abs_body ?_
  intro W9 hW
  clear q_0 q_1 q_2 q_3 q_lt r_0 r_1 r_2 r_3 r_lt r_f
  have szW9 : w3.heap.size ≤ W9.heap.size := by rw [hW]; simp [World.setCell]
  have szW9c := CC.size
  replace k : Cur lo W9 g := by rw [hW]; exact (Cur.chg ((Cur.chg ((Cur.chg ((Cur.chg (k) ((Chg.refl w.heap.size (w.heap.size + 1) _).setCell (.inl (by dsimp only; omega)) _) (by omega) (by omega))) ((Chg.refl w.heap.size (w.heap.size + 1) _).setCell (.inl (by dsimp only; omega)) _) (by omega) (by omega))) ((Chg.refl w.heap.size (w.heap.size + 1) _).setCell (.inl (by dsimp only; omega)) _) (by omega) (by omega))) ((Chg.refl w.heap.size (w.heap.size + 1) _).setCell (.inl (by dsimp only; omega)) _) (by omega) (by omega))
  replace CC : Chg g (g + 1) w W9 := by rw [hW]; exact ((((((((CC).setCell (.inr (by dsimp only; omega)) _)).setCell (.inr (by dsimp only; omega)) _)).setCell (.inr (by dsimp only; omega)) _)).setCell (.inr (by dsimp only; omega)) _)
  replace r : Box W9 w.heap.size 25 #[.int .i64 gg, .int .i64 gb, .int .i64 gr, .int .i64 gc] := by rw [hW]; exact ((((r).set_ 0 _).set_ 1 _).set_ 2 _).set_ 3 _
  replace q : Box W9 w1.heap.size 25 #[.int .i64 gg, .int .i64 gb, .int .i64 gr, .int .i64 gc] := by rw [hW]; exact ((((q).far (by dsimp only; omega) _).far (by dsimp only; omega) _).far (by dsimp only; omega) _).far (by dsimp only; omega) _
  clear hW
  obtain ⟨z0, z1, z2, z3⟩ := r.c4
  refine bodyPost_ret (v := .agg #[.int .i64 gg, .int .i64 gb, .int .i64 gr, .int .i64 gc]) (by simp [results, Try.results131, go_sem, z0, z1, z2, z3]) rfl ?_
  exact ⟨_, _, _, _, rfl, k, CC⟩
theorem box_new_c {w w' : World} {t : TypeId} {cs : Array Value} {lo hi : Nat} (C : Chg lo hi (w.alloc (.cells cs t)).drew w') (h : w.heap.size < lo ∨ hi ≤ w.heap.size) : Box w' w.heap.size t cs :=
  Box.chg (show Box (w.alloc (.cells cs t)).drew w.heap.size t cs from Box.new w t cs) C h
theorem cur_s2 {lo g u : Nat} {w : World} {a b : Value} (k : Cur lo w g) (hg : g < u) : Cur lo ((w.setCell ⟨u, 0, none⟩ a).setCell ⟨u, 1, none⟩ b) g :=
  k.chg (((Chg.refl u (u + 1) w).setCell (.inl ⟨Nat.le_refl _, Nat.lt_succ_self _⟩) a).setCell (.inl ⟨Nat.le_refl _, Nat.lt_succ_self _⟩) b) (.inl hg) (by have := k.lt; omega)
theorem chg_s2 {lo hi u : Nat} {w X : World} {a b : Value} (C : Chg lo hi w X) (h : w.heap.size ≤ u) : Chg lo hi w ((X.setCell ⟨u, 0, none⟩ a).setCell ⟨u, 1, none⟩ b) := (C.setCell (.inr h) _).setCell (.inr h) _
theorem own_s2q {w : World} {lo hi n c u : Nat} {A : Option Addr} {zs : List Int} {a b : Value} (h : OwnH w lo hi A n c zs) (hne : u < lo ∨ hi ≤ u) : OwnH ((w.setCell ⟨u, 0, none⟩ a).setCell ⟨u, 1, none⟩ b) lo hi A n c zs := (h.setCell _ _ hne).setCell _ _ hne
theorem chg_of_ad {lo hi : Nat} {w w' : World} {o : Obj} (C : Chg lo hi (w.alloc o).drew w') : Chg lo hi w w' := (chg_a (Chg.refl lo hi w)).trans (chg_of_d C)
set_option maxRecDepth 100000 in
set_option maxHeartbeats 16000000 in
theorem l17Case_c (lo g : Nat) (w : World) (k : Cur lo w g) :
    Calls Try.prog 129 #[.pointer (some ⟨g, 0, none⟩)] w (DrawnSpC lo g w) := by
  have klt := k.lt
  have CC := Chg.refl g (g + 1) w
  go_enter Try.func129, Try.ntmps129
  go_wp2_with fail
  refine abs_call ?_
  intro W hW
  have szW : w.heap.size + 1 + 1 ≤ W.heap.size := by rw [hW]; simp [World.setCell]
  have szWc := CC.size
  replace k : Cur lo W g := by rw [hW]; exact (Cur.below ((Cur.below (k) ((Below.refl _ _).alloc (Nat.le_refl _) _))) ((Below.refl _ _).alloc (Nat.le_refl _) _))
  replace CC : Chg g (g + 1) w W := by rw [hW]; exact ((((CC).trans (Chg.of_below ((Below.refl _ _).alloc (Nat.le_refl _) _)))).trans (Chg.of_below ((Below.refl _ _).alloc (Nat.le_refl _) _)))
  have r : Box W w.heap.size 25 #[.int .i64 0, .int .i64 0, .int .i64 0, .int .i64 0] := by rw [hW]; exact ((Box.newAt (by simp [World.setCell]))).alloc _
  have u : Box W (w.heap.size + 1) 28 #[.int .i64 0, .slice none 0 0] := by rw [hW]; exact (Box.newAt (by simp [World.setCell]))
  clear hW
  refine (l03Geo_c lo g _ k).mono ?_
  rintro e w1 ⟨gg, gb, gr, gc, hG, rfl, k1, C1⟩
  have szw1 := C1.size
  clear k
  have k := k1
  replace CC := CC.trans C1
  clear k1
  replace r := r.chg C1 (by omega)
  replace u := u.chg C1 (by omega)
  clear C1
  go_wp2_with fail
  refine abs_call ?_
  intro W2 hW
  have szW2 : w1.heap.size + 1 ≤ W2.heap.size := by rw [hW]; simp [World.setCell]
  have szW2c := CC.size
  replace k : Cur lo W2 g := by rw [hW]; exact (Cur.below (k) ((Below.refl _ _).alloc (Nat.le_refl _) _))
  replace CC : Chg g (g + 1) w W2 := by rw [hW]; exact ((CC).trans (Chg.of_below ((Below.refl _ _).alloc (Nat.le_refl _) _)))
  replace r : Box W2 w.heap.size 25 #[.int .i64 0, .int .i64 0, .int .i64 0, .int .i64 0] := by rw [hW]; exact r.alloc _
  replace u : Box W2 (w.heap.size + 1) 28 #[.int .i64 0, .slice none 0 0] := by rw [hW]; exact u.alloc _
  have q : Box W2 w1.heap.size 25 #[.int .i64 gg, .int .i64 gb, .int .i64 gr, .int .i64 gc] := by rw [hW]; exact (Box.newAt (by simp [World.setCell]))
  clear hW
  refine (l01Below_c lo g 4 _ k (by omega) (by omega)).mono ?_
  rintro e w3 ⟨x2, a3, c3, -, rfl, k3, C3⟩
  have szw3 := C3.size
  clear k
  have k := k3
  replace CC := CC.trans C3
  clear k3
  replace r := r.chg C3 (by omega)
  replace u := u.chg C3 (by omega)
  replace q := q.chg C3 (by omega)
  clear C3
  have d3 := c3 (by omega)
  clear c3
  obtain ⟨G2, hG2⟩ : ∃ z : Int, z = 4 + x2 := ⟨_, rfl⟩
  have hG24 : 4 ≤ G2 ∧ G2 ≤ 7 := by omega
  obtain ⟨hG24, hG27⟩ := hG24
  obtain rfl : x2 = G2 - 4 := by omega
  have e42 : 4 + (G2 - 4) = G2 := by omega
  clear hG2
  obtain ⟨q_0, q_1, q_2, q_3⟩ := q.c4
  have q_lt := q.lt
  have q_f := q.frozen
  go_wp2_with fail
  refine abs_code ?_
  intro W4 hW
  clear q_0 q_1 q_2 q_3 q_lt q_f
  have szW4 : w3.heap.size ≤ W4.heap.size := by rw [hW]; simp [World.setCell]
  have szW4c := CC.size
  replace k : Cur lo W4 g := by rw [hW]; exact (Cur.chg (k) ((Chg.refl w1.heap.size (w1.heap.size + 1) _).setCell (.inl (by dsimp only; omega)) _) (by omega) (by omega))
  replace CC : Chg g (g + 1) w W4 := by rw [hW]; exact ((CC).setCell (.inr (by dsimp only; omega)) _)
  replace r : Box W4 w.heap.size 25 #[.int .i64 0, .int .i64 0, .int .i64 0, .int .i64 0] := by rw [hW]; exact (r).far (by dsimp only; omega) _
  replace u : Box W4 (w.heap.size + 1) 28 #[.int .i64 0, .slice none 0 0] := by rw [hW]; exact (u).far (by dsimp only; omega) _
  replace q : Box W4 w1.heap.size 25 #[.int .i64 gg, .int .i64 gb, .int .i64 G2, .int .i64 gc] := by rw [hW]; exact (q).set_ 2 _
  clear hW
  obtain ⟨q_0, q_1, q_2, q_3⟩ := q.c4
  have q_lt := q.lt
  clear e42 a3 d3
  have hS : ∀ Y : World, Chg g (g + 1) W4 Y → (Y.cell? ⟨w1.heap.size, 0, none⟩ = some (.int .i64 gg) ∧ Y.cell? ⟨w1.heap.size, 1, none⟩ = some (.int .i64 gb) ∧ Y.cell? ⟨w1.heap.size, 2, none⟩ = some (.int .i64 G2) ∧ Y.cell? ⟨w1.heap.size, 3, none⟩ = some (.int .i64 gc)) := fun Y hY => by
    obtain ⟨y0, y1, y2, y3⟩ := (q.chg hY (by omega)).c4
    exact ⟨y0, y1, y2, y3⟩
  have g4 : g < W4.heap.size := by omega
  have NN : W4.heap.size < g ∨ g + 1 ≤ W4.heap.size := by omega
  go_cut [5] (fun s5 wx => ∃ (u5 : Nat) (s : Int) (A : Option Addr) (n c : Nat) (zs : List Int) (l h : Nat), s5 = .pointer (some ⟨u5, 0, none⟩) ∧ 0 ≤ s ∧ s ≤ 2 ∧ 1 < n ∧ n ≤ 128 ∧ W4.heap.size ≤ u5 ∧ Box wx u5 28 #[.int .i64 s, .slice A n c] ∧ OwnH wx l h A n c zs ∧ W4.heap.size ≤ l ∧ h ≤ wx.heap.size ∧ (u5 < l ∨ h ≤ u5) ∧ Cur lo wx g ∧ Chg g (g + 1) W4 wx)
  case first =>
    go_region_held3 (fun Y => Y.cell? ⟨w1.heap.size, 0, none⟩ = some (.int .i64 gg) ∧ Y.cell? ⟨w1.heap.size, 1, none⟩ = some (.int .i64 gb) ∧ Y.cell? ⟨w1.heap.size, 2, none⟩ = some (.int .i64 G2) ∧ Y.cell? ⟨w1.heap.size, 3, none⟩ = some (.int .i64 gc))
      (first | (with_reducible exact hS _ (chg_d (Chg.refl _ _ _))) | (with_reducible exact hS _ CB) | (with_reducible exact hS _ CA) | (with_reducible exact hS _ (chg_a CB)) | (with_reducible exact hS _ (chg_a CA)) | (with_reducible exact hS _ (chg_d (chg_a (Chg.refl _ _ _)))) | (exact hS _ ((CB.setCell (.inr (by dsimp only; omega)) _).setCell (.inr (by dsimp only; omega)) _)) | fail)
      (first
       | (go_at_call 78; refine (l01Below_c lo g 3 _ (by first | (with_reducible exact cur_d k) | (with_reducible exact cur_d (cur_a k))) (by omega) (by omega)).mono ?_; rintro e wA ⟨x, xa, xc, -, rfl, kA, CA'⟩; have xd := xc (by omega); have HC := Lib.hid (case_ok hG hG24 hG27 xa xd); have CA : Chg g (g + 1) W4 wA := (by first | (with_reducible exact chg_of_d CA') | (with_reducible exact chg_of_ad CA')); have szA := CA.size; (first | (have bxA : Box wA W4.heap.size 28 #[.int .i64 0, .slice none 0 0] := (by with_reducible exact box_new_c CA' NN)); (have bxAl := bxA.lt)| skip))
       | (go_at_call 69; refine (sSpareNew_c gg gb G2 gc x _).mono ?_; rintro e wB ⟨A4, n4, c4, rfl, o4, b4⟩; rw [HC.out.2.1]; have kB : Cur lo wB g := (by first | (with_reducible exact kA.below b4) | (with_reducible exact (cur_a kA).below b4)); have CB : Chg g (g + 1) W4 wB := (by first | (with_reducible exact CA.trans (Chg.of_below b4)) | (with_reducible exact (chg_a CA).trans (Chg.of_below b4))); have szB := b4.size; (try simp only [heap_size_alloc] at szB); (first | (have bxB : Box wB W4.heap.size 28 #[.int .i64 0, .slice none 0 0] := (by with_reducible exact bxA.kept b4); obtain ⟨bxB_0, bxB_1⟩ := bxB.c2; have bxBf := bxB.frozen; have bxBl := bxB.lt) | (have bxB : Box wB wA.heap.size 28 #[.int .i64 0, .slice none 0 0] := (by with_reducible exact (Box.new wA _ _).kept b4); obtain ⟨bxB_0, bxB_1⟩ := bxB.c2; have bxBf := bxB.frozen; have bxBl := bxB.lt) | skip))
       | fail)
    all_goals
      have hn4 := o4.len
      obtain ⟨hn5, hn6, -, -⟩ := HC.out.2.2
      try simp only [World.size_alloc] at szB
      go_wp2_with fail
      go_meet
    · exact ⟨_, x, A4, n4, c4, _, _, _, rfl, xa, by omega, by omega, by omega, by omega, Box.new _ _ _, o4.alloc _, by go_size, by go_size, by omega, cur_a kB, chg_a CB⟩
    · exact ⟨_, x, A4, n4, c4, _, _, _, rfl, xa, by omega, by omega, by omega, by omega, (bxB.set_ 0 _).set_ 1 _, own_s2q o4 (by left; go_size), by go_size, by go_size, by left; go_size, cur_s2 kB (by omega), chg_s2 CB (by omega)⟩
    · exact ⟨_, x, A4, n4, c4, _, _, _, rfl, xa, by omega, by omega, by omega, by omega, (bxB.set_ 0 _).set_ 1 _, own_s2q o4 (by left; go_size), by go_size, by go_size, by left; go_size, cur_s2 kB (by omega), chg_s2 CB (by omega)⟩
  case rest =>
    obtain ⟨u5, s, A5, n5, c5, zs5, l5, h5, rfl, s0, s2, hn0, hn1, hu, v, o5, hl, hh, hsep, k5, C5⟩ := hcut
    obtain ⟨W9, hW9⟩ : ∃ v : World, wc = v := ⟨_, rfl⟩
    subst hW9
    have h4w : w.heap.size + 2 ≤ W4.heap.size := by omega
    have hq1 : w1.heap.size < W4.heap.size := by omega
    have hq2 : w.heap.size + 2 ≤ w1.heap.size := by omega
    clear hS
    clear q_0 q_1 q_2 q_3 q_lt
    have szwc := C5.size
    clear k
    have k := k5
    replace CC := CC.trans C5
    clear k5
    replace r := r.chg C5 (by omega)
    replace u := u.chg C5 (by omega)
    replace q := q.chg C5 (by omega)
    clear C5
    clear szW szWc szw1 szW2 szW2c szw3 szW4 szW4c
    go_wp2_with fail
    go_loopw [7] (fun i wr => ∃ (j : Nat) (A : Option Addr) (n c : Nat) (zs : List Int) (l h : Nat), j ≤ 5 ∧ i = .int .i64 j ∧ 1 < n ∧ n ≤ 128 ∧ Box wr w.heap.size 25 #[.int .i64 0, .int .i64 0, .int .i64 0, .int .i64 0] ∧ Box wr (w.heap.size + 1) 28 #[.int .i64 0, .slice none 0 0] ∧ Box wr w1.heap.size 25 #[.int .i64 gg, .int .i64 gb, .int .i64 G2, .int .i64 gc] ∧ Box wr u5 28 #[.int .i64 s, .slice A n c] ∧ OwnH wr l h A n c zs ∧ W4.heap.size ≤ l ∧ h ≤ wr.heap.size ∧ (u5 < l ∨ h ≤ u5) ∧ Cur lo wr g ∧ Chg g (g + 1) w wr) (fun i _ => 5 - (intOf i).toNat)
    case atStart => exact ⟨0, A5, n5, c5, zs5, l5, h5, by omega, rfl, hn0, hn1, r, u, q, v, o5, hl, hh, hsep, k, CC⟩
    case round =>
      clear r u q v o5 hl hh hsep k CC hn0 hn1
      obtain ⟨j, A, n, c, zs, l, h, hj, rfl, hn0, hn1, r, u, q, v, o5, hl, hh, hsep, k, CC⟩ := hrel
      have szCC := CC.size
      have szv := v.lt
      go_wp2_with fail
      refine (l01Below_c lo g 5 _ k (by omega) (by omega)).mono ?_
      rintro e w5 ⟨x5, a5, c5', -, rfl, k6, C6⟩
      have d5 := c5' (by omega)
      have szw5 := C6.size
      clear k
      have k := k6
      replace CC := CC.trans C6
      clear k6
      replace r := r.chg C6 (by omega)
      replace u := u.chg C6 (by omega)
      replace q := q.chg C6 (by omega)
      replace v := v.chg C6 (by omega)
      replace o5 := o5.chg C6 (by omega)
      clear C6
      clear c5'
      have HL := Lib.hid o5.len
      by_cases hlt : (j : Int) < x5
      · have t1 : decide ((j : Int) < x5) = true := by simpa using hlt
        have hj3 : j ≤ 3 := by omega
        obtain ⟨NB, hNB⟩ : ∃ z : Int, z = bankCnt gg gb G2 gc := ⟨_, rfl⟩
        have cB : ∀ Y, Calls Try.prog 21 #[.agg #[.int .i64 gg, .int .i64 gb, .int .i64 G2, .int .i64 gc]] Y fun e w' => e = .returned (.int .i64 NB) ∧ Below Y.heap.size Y w' := by intro Y; rw [hNB]; exact sBankCount_c gg gb G2 gc Y
        have hNB8 : 0 ≤ NB ∧ NB ≤ 8 := by rw [hNB]; exact bankCnt_bd gg gb G2 gc
        obtain ⟨hNB0, hNB8⟩ := hNB8
        clear hNB
        have hS : ∀ Y : World, Chg g (g + 1) w5 Y → (Y.cell? ⟨w1.heap.size, 0, none⟩ = some (.int .i64 gg) ∧ Y.cell? ⟨w1.heap.size, 1, none⟩ = some (.int .i64 gb) ∧ Y.cell? ⟨w1.heap.size, 2, none⟩ = some (.int .i64 G2) ∧ Y.cell? ⟨w1.heap.size, 3, none⟩ = some (.int .i64 gc) ∧ Y.cell? ⟨u5, 0, none⟩ = some (.int .i64 s)) := fun Y hY => by
          obtain ⟨y0, y1, y2, y3⟩ := (q.chg hY (by omega)).c4
          obtain ⟨y4, -⟩ := (v.chg hY (by omega)).c2
          exact ⟨y0, y1, y2, y3, y4⟩
        obtain ⟨q_0, q_1, q_2, q_3⟩ := q.c4
        have q_lt := q.lt
        obtain ⟨v_0, v_1⟩ := v.c2
        have v_lt := v.lt
        obtain ⟨DD, hDD⟩ : ∃ z : Int, z = G2 - s := ⟨_, rfl⟩
        have hD1 : 2 ≤ DD := by omega
        have hD2 : DD ≤ 7 := by omega
        have e39 : IntKind.i64.wrap (G2 - s) = DD := by rw [← hDD]; exact IntWalk.i64_in _ (by omega)
        clear hDD
        go_wp2_with fail
        refine wp_region_noPanic ?_
        refine wp_region_held_drew (S := (fun Y => Y.cell? ⟨w1.heap.size, 0, none⟩ = some (.int .i64 gg) ∧ Y.cell? ⟨w1.heap.size, 1, none⟩ = some (.int .i64 gb) ∧ Y.cell? ⟨w1.heap.size, 2, none⟩ = some (.int .i64 G2) ∧ Y.cell? ⟨w1.heap.size, 3, none⟩ = some (.int .i64 gc) ∧ Y.cell? ⟨u5, 0, none⟩ = some (.int .i64 s))) (by kernel_rfl) (by exact hS _ (chg_d (Chg.refl _ _ _))) (fun hHeld => ?_)
        refine wpAnyH_take (i := 0) (oi := _) (v := ?_) rfl (by kernel_rfl) (by kernel_rfl) (by kernel_rfl) (fun _ _ _ h => h) (Or.inl ⟨by kernel_rfl, ?_⟩) (by assumption) ?_
        rotate_left 1
        focus (intro w hSw; (try dsimp only at hSw); go_simp; try with_reducible rfl)
        try simp only [Act.put, List.setIfInBounds_toArray, List.set_cons_zero, List.set_cons_succ]
        refine wpAnyH_take (i := 2) (oi := _) (v := ?_) rfl (by kernel_rfl) (by kernel_rfl) (by kernel_rfl) (fun _ _ _ h => h) (Or.inl ⟨by kernel_rfl, ?_⟩) (by assumption) ?_
        rotate_left 1
        focus (intro w hSw; (try dsimp only at hSw); go_simp; try with_reducible rfl)
        try simp only [Act.put, List.setIfInBounds_toArray, List.set_cons_zero, List.set_cons_succ]
        refine wpAnyH_take (i := 3) (oi := _) (v := ?_) rfl (by kernel_rfl) (by kernel_rfl) (by kernel_rfl) (fun _ _ _ h => h) (Or.inl ⟨by kernel_rfl, ?_⟩) (by assumption) ?_
        rotate_left 1
        focus (intro w hSw; (try dsimp only at hSw); go_simp; try with_reducible rfl)
        try simp only [Act.put, List.setIfInBounds_toArray, List.set_cons_zero, List.set_cons_succ]
        refine wpAnyH_take (i := 6) (oi := _) (v := ?_) rfl (by kernel_rfl) (by kernel_rfl) (by kernel_rfl) (fun _ _ _ h => h) (Or.inl ⟨by kernel_rfl, ?_⟩) (by assumption) ?_
        rotate_left 1
        focus (intro w hSw; (try dsimp only at hSw); go_simp; try with_reducible rfl)
        try simp only [Act.put, List.setIfInBounds_toArray, List.set_cons_zero, List.set_cons_succ]
        refine wpAnyH_take (i := 7) (oi := _) (v := ?_) rfl (by kernel_rfl) (by kernel_rfl) (by kernel_rfl) (fun _ _ _ h => h) (Or.inl ⟨by kernel_rfl, ?_⟩) (by assumption) ?_
        rotate_left 1
        focus (intro w hSw; (try dsimp only at hSw); go_simp; try with_reducible rfl)
        try simp only [Act.put, List.setIfInBounds_toArray, List.set_cons_zero, List.set_cons_succ]
        refine wpAnyH_take (i := 8) (oi := _) (v := ?_) rfl (by kernel_rfl) (by kernel_rfl) (by kernel_rfl) (fun _ _ _ h => h) (Or.inl ⟨by kernel_rfl, ?_⟩) (by assumption) ?_
        rotate_left 1
        focus (intro w hSw; (try dsimp only at hSw); go_simp; try with_reducible rfl)
        try simp only [Act.put, List.setIfInBounds_toArray, List.set_cons_zero, List.set_cons_succ]
        refine wpAnyH_take (i := 9) (oi := _) (v := ?_) rfl (by kernel_rfl) (by kernel_rfl) (by kernel_rfl) (fun _ _ _ h => h) (Or.inl ⟨by kernel_rfl, ?_⟩) (by assumption) ?_
        rotate_left 1
        focus (intro w hSw; (try dsimp only at hSw); go_simp; try with_reducible rfl)
        try simp only [Act.put, List.setIfInBounds_toArray, List.set_cons_zero, List.set_cons_succ]
        refine wpAnyH_take (i := 10) (oi := _) (v := ?_) rfl (by kernel_rfl) (by kernel_rfl) (by kernel_rfl) (fun _ _ _ h => h) (Or.inl ⟨by kernel_rfl, ?_⟩) (by assumption) ?_
        rotate_left 1
        focus (intro w hSw; (try dsimp only at hSw); go_simp; try with_reducible rfl)
        try simp only [Act.put, List.setIfInBounds_toArray, List.set_cons_zero, List.set_cons_succ]
        refine wpAnyH_take (i := 11) (oi := _) (v := ?_) rfl (by kernel_rfl) (by kernel_rfl) (by kernel_rfl) (fun _ _ _ h => h) (Or.inl ⟨by kernel_rfl, ?_⟩) (by assumption) ?_
        rotate_left 1
        focus (intro w hSw; (try dsimp only at hSw); go_simp; try with_reducible rfl)
        try simp only [Act.put, List.setIfInBounds_toArray, List.set_cons_zero, List.set_cons_succ]
        refine wpAnyH_ready (rs := [1, 4]) (by kernel_rfl) (by simp) ?_
        refine AllReadyH.cons (o := _) rfl (fun K hK => ?_) ?_
        · go_simp
          refine hK.out _ _ ?_ (fun hNew => ?_)
          focus ((try dsimp only); exact hHeld)
          clear hK K hHeld
          have hHeld := hNew
          clear hNew
          try simp only [Act.put, List.setIfInBounds_toArray, List.set_cons_zero, List.set_cons_succ]
          refine wpAnyH_ready (rs := [4]) (by kernel_rfl) (by simp) ?_
          refine AllReadyH.cons (o := _) rfl (fun K hK => ?_) ?_
          rotate_left 1
          focus (exact AllReadyH.nil)
          go_simp
          refine (cB _).mono ?_
          rintro e wa ⟨rfl, ba'⟩
          have ba := bel_of_d ba'
          have ka := k.below ba
          have va := v.kept ba
          have oa := o5.below ba
          have Ca : Chg g (g + 1) w5 wa := Chg.of_below ba
          obtain ⟨va_0, va_1⟩ := va.c2
          have sza := ba.size
          go_wp2_with fail
          refine hK.out _ _ ?_ (fun hNew => ?_)
          focus ((try dsimp only); exact hS _ Ca)
          clear hK K hHeld
          have hHeld := hNew
          clear hNew
          try simp only [Act.put, List.setIfInBounds_toArray, List.set_cons_zero, List.set_cons_succ]
          refine wpAnyH_ready (rs := [5]) (by kernel_rfl) (by simp) ?_
          refine AllReadyH.cons (o := _) rfl (fun K hK => ?_) ?_
          rotate_left 1
          focus (exact AllReadyH.nil)
          go_simp
          refine (l01Below_c lo g NB _ ka (by omega) (by omega)).mono ?_
          rintro e wb ⟨xb, -, -, -, rfl, kb, Cb'⟩
          have vb := va.chg Cb' (by omega)
          have ob := oa.chg Cb' (by omega)
          have Cb := Ca.trans Cb'
          obtain ⟨vb_0, vb_1⟩ := vb.c2
          have szb := Cb.size
          go_wp2_with fail
          refine hK.out _ _ ?_ (fun hNew => ?_)
          focus ((try dsimp only); exact hS _ Cb)
          clear hK K hHeld
          have hHeld := hNew
          clear hNew
          try simp only [Act.put, List.setIfInBounds_toArray, List.set_cons_zero, List.set_cons_succ]
          refine wpAnyH_ready (rs := [12]) (by kernel_rfl) (by simp) ?_
          refine AllReadyH.cons (o := _) rfl (fun K hK => ?_) ?_
          rotate_left 1
          focus (exact AllReadyH.nil)
          go_simp
          refine (l01Below_c lo g DD _ kb (by omega) (by omega)).mono ?_
          rintro e wd ⟨xd, -, -, -, rfl, kd, Cd'⟩
          have vd := vb.chg Cd' (by omega)
          have od := ob.chg Cd' (by omega)
          have Cd := Cb.trans Cd'
          obtain ⟨vd_0, vd_1⟩ := vd.c2
          have szd := Cd.size
          have vdl := vd.lt
          go_wp2_with fail
          refine hK.out _ _ ?_ (fun hNew => ?_)
          focus ((try dsimp only); exact hS _ Cd)
          clear hK K hHeld
          have hHeld := hNew
          clear hNew
          try simp only [Act.put, List.setIfInBounds_toArray, List.set_cons_zero, List.set_cons_succ]
          refine wpAnyH_ready (rs := [13]) (by kernel_rfl) (by simp) ?_
          refine AllReadyH.cons (o := _) rfl (fun K hK => ?_) ?_
          rotate_left 1
          focus (exact AllReadyH.nil)
          go_simp
          refine (sRetireRow_c gg gb G2 gc s A n c zs xb xd _ od.ints (by omega) od.1.cap).mono ?_
          rintro e we ⟨A8, n8, c8, rfl, o8, b8⟩
          have ke := kd.below b8
          have ve := vd.kept b8
          have Ce := Cd.trans (Chg.of_below b8)
          have sze := b8.size
          have n8e : n8 = n := by have := o8.len; rw [retMap_len] at this; have := HL.out; omega
          subst n8e
          obtain ⟨ve_0, ve_1⟩ := ve.c2
          have ve_f := ve.frozen
          have ve_l := ve.lt
          go_wp2_with fail
          refine hK.out _ _ ?_ (fun hNew => ?_)
          focus ((try dsimp only); exact hS _ Ce)
          clear hK K hHeld
          have hHeld := hNew
          clear hNew
          try simp only [Act.put, List.setIfInBounds_toArray, List.set_cons_zero, List.set_cons_succ]
          refine wpAnyH_take (i := 14) (oi := _) (v := ?_) rfl (by kernel_rfl) (by kernel_rfl) (by kernel_rfl) (fun _ _ _ h => h) (Or.inl ⟨by kernel_rfl, ?_⟩) (by assumption) ?_
          rotate_left 1
          focus (intro w hSw; (try dsimp only at hSw); go_simp; try with_reducible rfl)
          try simp only [Act.put, List.setIfInBounds_toArray, List.set_cons_zero, List.set_cons_succ]
          refine wpAnyH_take (i := 15) (oi := _) (v := ?_) rfl (by kernel_rfl) (by kernel_rfl) (by kernel_rfl) (fun _ _ _ h => h) (Or.inl ⟨by kernel_rfl, ?_⟩) (by assumption) ?_
          rotate_left 1
          focus (intro w hSw; (try dsimp only at hSw); go_simp; try with_reducible rfl)
          try simp only [Act.put, List.setIfInBounds_toArray, List.set_cons_zero, List.set_cons_succ]
          refine wpAnyH_take (i := 16) (oi := _) (v := ?_) rfl (by kernel_rfl) (by kernel_rfl) (by kernel_rfl) (fun _ _ _ h => h) (Or.inl ⟨by kernel_rfl, ?_⟩) (by assumption) ?_
          rotate_left 1
          focus (intro w hSw; (try dsimp only at hSw); go_simp; try with_reducible rfl)
          try simp only [Act.put, List.setIfInBounds_toArray, List.set_cons_zero, List.set_cons_succ]
          have qe := box_s2f (a := .int .i64 s) (b := .slice A8 n8 c8) (q.chg Ce (by omega)) (show w1.heap.size ≠ u5 by omega)
          have v9 := (ve.set_ 0 (.int .i64 s)).set_ 1 (.slice A8 n8 c8)
          refine wpAnyH_ready (rs := [17]) (by kernel_rfl) (by simp) ?_
          refine AllReadyH.cons (o := _) rfl (fun K hK => ?_) ?_
          rotate_left 1
          focus (exact AllReadyH.nil)
          go_simp
          refine hK.out _ _ ?_ (fun hNew => ?_)
          focus ((try dsimp only); (obtain ⟨y0, y1, y2, y3⟩ := qe.c4; obtain ⟨y4, -⟩ := v9.c2; exact ⟨y0, y1, y2, y3, y4⟩))
          clear hK K hHeld
          have hHeld := hNew
          clear hNew
          try simp only [Act.put, List.setIfInBounds_toArray, List.set_cons_zero, List.set_cons_succ]
          refine wpAnyH_done (by kernel_rfl) ?_ _
          refine NoPanic.normal ?_
          go_wp2
          go_roundw
          case rel => exact ⟨j + 1, A8, n8, c8, _, _, _, by omega, by go_num, hn0, hn1, box_s2f (r.chg Ce (by omega)) (by omega), box_s2f (u.chg Ce (by omega)) (by omega), qe, v9, own_s2q o8 (by omega), by omega, by go_size, by omega, cur_s2 ke (by omega), chg_s2 (CC.trans Ce) (by omega)⟩
          case measure => simp [intOf]; omega
        refine AllReadyH.cons (o := _) rfl (fun K hK => ?_) ?_
        · go_simp
          refine (cB _).mono ?_
          rintro e wa ⟨rfl, ba'⟩
          have ba := bel_of_d ba'
          have ka := k.below ba
          have va := v.kept ba
          have oa := o5.below ba
          have Ca : Chg g (g + 1) w5 wa := Chg.of_below ba
          obtain ⟨va_0, va_1⟩ := va.c2
          have sza := ba.size
          go_wp2_with fail
          refine hK.out _ _ ?_ (fun hNew => ?_)
          focus ((try dsimp only); exact hS _ Ca)
          clear hK K hHeld
          have hHeld := hNew
          clear hNew
          try simp only [Act.put, List.setIfInBounds_toArray, List.set_cons_zero, List.set_cons_succ]
          refine wpAnyH_ready (rs := [1, 5]) (by kernel_rfl) (by simp) ?_
          refine AllReadyH.cons (o := _) rfl (fun K hK => ?_) ?_
          · go_simp
            refine hK.out _ _ ?_ (fun hNew => ?_)
            focus ((try dsimp only); exact hHeld)
            clear hK K hHeld
            have hHeld := hNew
            clear hNew
            try simp only [Act.put, List.setIfInBounds_toArray, List.set_cons_zero, List.set_cons_succ]
            refine wpAnyH_ready (rs := [5]) (by kernel_rfl) (by simp) ?_
            refine AllReadyH.cons (o := _) rfl (fun K hK => ?_) ?_
            rotate_left 1
            focus (exact AllReadyH.nil)
            go_simp
            refine (l01Below_c lo g NB _ ka (by omega) (by omega)).mono ?_
            rintro e wb ⟨xb, -, -, -, rfl, kb, Cb'⟩
            have vb := va.chg Cb' (by omega)
            have ob := oa.chg Cb' (by omega)
            have Cb := Ca.trans Cb'
            obtain ⟨vb_0, vb_1⟩ := vb.c2
            have szb := Cb.size
            go_wp2_with fail
            refine hK.out _ _ ?_ (fun hNew => ?_)
            focus ((try dsimp only); exact hS _ Cb)
            clear hK K hHeld
            have hHeld := hNew
            clear hNew
            try simp only [Act.put, List.setIfInBounds_toArray, List.set_cons_zero, List.set_cons_succ]
            refine wpAnyH_ready (rs := [12]) (by kernel_rfl) (by simp) ?_
            refine AllReadyH.cons (o := _) rfl (fun K hK => ?_) ?_
            rotate_left 1
            focus (exact AllReadyH.nil)
            go_simp
            refine (l01Below_c lo g DD _ kb (by omega) (by omega)).mono ?_
            rintro e wd ⟨xd, -, -, -, rfl, kd, Cd'⟩
            have vd := vb.chg Cd' (by omega)
            have od := ob.chg Cd' (by omega)
            have Cd := Cb.trans Cd'
            obtain ⟨vd_0, vd_1⟩ := vd.c2
            have szd := Cd.size
            have vdl := vd.lt
            go_wp2_with fail
            refine hK.out _ _ ?_ (fun hNew => ?_)
            focus ((try dsimp only); exact hS _ Cd)
            clear hK K hHeld
            have hHeld := hNew
            clear hNew
            try simp only [Act.put, List.setIfInBounds_toArray, List.set_cons_zero, List.set_cons_succ]
            refine wpAnyH_ready (rs := [13]) (by kernel_rfl) (by simp) ?_
            refine AllReadyH.cons (o := _) rfl (fun K hK => ?_) ?_
            rotate_left 1
            focus (exact AllReadyH.nil)
            go_simp
            refine (sRetireRow_c gg gb G2 gc s A n c zs xb xd _ od.ints (by omega) od.1.cap).mono ?_
            rintro e we ⟨A8, n8, c8, rfl, o8, b8⟩
            have ke := kd.below b8
            have ve := vd.kept b8
            have Ce := Cd.trans (Chg.of_below b8)
            have sze := b8.size
            have n8e : n8 = n := by have := o8.len; rw [retMap_len] at this; have := HL.out; omega
            subst n8e
            obtain ⟨ve_0, ve_1⟩ := ve.c2
            have ve_f := ve.frozen
            have ve_l := ve.lt
            go_wp2_with fail
            refine hK.out _ _ ?_ (fun hNew => ?_)
            focus ((try dsimp only); exact hS _ Ce)
            clear hK K hHeld
            have hHeld := hNew
            clear hNew
            try simp only [Act.put, List.setIfInBounds_toArray, List.set_cons_zero, List.set_cons_succ]
            refine wpAnyH_take (i := 14) (oi := _) (v := ?_) rfl (by kernel_rfl) (by kernel_rfl) (by kernel_rfl) (fun _ _ _ h => h) (Or.inl ⟨by kernel_rfl, ?_⟩) (by assumption) ?_
            rotate_left 1
            focus (intro w hSw; (try dsimp only at hSw); go_simp; try with_reducible rfl)
            try simp only [Act.put, List.setIfInBounds_toArray, List.set_cons_zero, List.set_cons_succ]
            refine wpAnyH_take (i := 15) (oi := _) (v := ?_) rfl (by kernel_rfl) (by kernel_rfl) (by kernel_rfl) (fun _ _ _ h => h) (Or.inl ⟨by kernel_rfl, ?_⟩) (by assumption) ?_
            rotate_left 1
            focus (intro w hSw; (try dsimp only at hSw); go_simp; try with_reducible rfl)
            try simp only [Act.put, List.setIfInBounds_toArray, List.set_cons_zero, List.set_cons_succ]
            refine wpAnyH_take (i := 16) (oi := _) (v := ?_) rfl (by kernel_rfl) (by kernel_rfl) (by kernel_rfl) (fun _ _ _ h => h) (Or.inl ⟨by kernel_rfl, ?_⟩) (by assumption) ?_
            rotate_left 1
            focus (intro w hSw; (try dsimp only at hSw); go_simp; try with_reducible rfl)
            try simp only [Act.put, List.setIfInBounds_toArray, List.set_cons_zero, List.set_cons_succ]
            have qe := box_s2f (a := .int .i64 s) (b := .slice A8 n8 c8) (q.chg Ce (by omega)) (show w1.heap.size ≠ u5 by omega)
            have v9 := (ve.set_ 0 (.int .i64 s)).set_ 1 (.slice A8 n8 c8)
            refine wpAnyH_ready (rs := [17]) (by kernel_rfl) (by simp) ?_
            refine AllReadyH.cons (o := _) rfl (fun K hK => ?_) ?_
            rotate_left 1
            focus (exact AllReadyH.nil)
            go_simp
            refine hK.out _ _ ?_ (fun hNew => ?_)
            focus ((try dsimp only); (obtain ⟨y0, y1, y2, y3⟩ := qe.c4; obtain ⟨y4, -⟩ := v9.c2; exact ⟨y0, y1, y2, y3, y4⟩))
            clear hK K hHeld
            have hHeld := hNew
            clear hNew
            try simp only [Act.put, List.setIfInBounds_toArray, List.set_cons_zero, List.set_cons_succ]
            refine wpAnyH_done (by kernel_rfl) ?_ _
            refine NoPanic.normal ?_
            go_wp2
            go_roundw
            case rel => exact ⟨j + 1, A8, n8, c8, _, _, _, by omega, by go_num, hn0, hn1, box_s2f (r.chg Ce (by omega)) (by omega), box_s2f (u.chg Ce (by omega)) (by omega), qe, v9, own_s2q o8 (by omega), by omega, by go_size, by omega, cur_s2 ke (by omega), chg_s2 (CC.trans Ce) (by omega)⟩
            case measure => simp [intOf]; omega
          refine AllReadyH.cons (o := _) rfl (fun K hK => ?_) ?_
          · go_simp
            refine (l01Below_c lo g NB _ ka (by omega) (by omega)).mono ?_
            rintro e wb ⟨xb, -, -, -, rfl, kb, Cb'⟩
            have vb := va.chg Cb' (by omega)
            have ob := oa.chg Cb' (by omega)
            have Cb := Ca.trans Cb'
            obtain ⟨vb_0, vb_1⟩ := vb.c2
            have szb := Cb.size
            go_wp2_with fail
            refine hK.out _ _ ?_ (fun hNew => ?_)
            focus ((try dsimp only); exact hS _ Cb)
            clear hK K hHeld
            have hHeld := hNew
            clear hNew
            try simp only [Act.put, List.setIfInBounds_toArray, List.set_cons_zero, List.set_cons_succ]
            refine wpAnyH_ready (rs := [1, 12]) (by kernel_rfl) (by simp) ?_
            refine AllReadyH.cons (o := _) rfl (fun K hK => ?_) ?_
            · go_simp
              refine hK.out _ _ ?_ (fun hNew => ?_)
              focus ((try dsimp only); exact hHeld)
              clear hK K hHeld
              have hHeld := hNew
              clear hNew
              try simp only [Act.put, List.setIfInBounds_toArray, List.set_cons_zero, List.set_cons_succ]
              refine wpAnyH_ready (rs := [12]) (by kernel_rfl) (by simp) ?_
              refine AllReadyH.cons (o := _) rfl (fun K hK => ?_) ?_
              rotate_left 1
              focus (exact AllReadyH.nil)
              go_simp
              refine (l01Below_c lo g DD _ kb (by omega) (by omega)).mono ?_
              rintro e wd ⟨xd, -, -, -, rfl, kd, Cd'⟩
              have vd := vb.chg Cd' (by omega)
              have od := ob.chg Cd' (by omega)
              have Cd := Cb.trans Cd'
              obtain ⟨vd_0, vd_1⟩ := vd.c2
              have szd := Cd.size
              have vdl := vd.lt
              go_wp2_with fail
              refine hK.out _ _ ?_ (fun hNew => ?_)
              focus ((try dsimp only); exact hS _ Cd)
              clear hK K hHeld
              have hHeld := hNew
              clear hNew
              try simp only [Act.put, List.setIfInBounds_toArray, List.set_cons_zero, List.set_cons_succ]
              refine wpAnyH_ready (rs := [13]) (by kernel_rfl) (by simp) ?_
              refine AllReadyH.cons (o := _) rfl (fun K hK => ?_) ?_
              rotate_left 1
              focus (exact AllReadyH.nil)
              go_simp
              refine (sRetireRow_c gg gb G2 gc s A n c zs xb xd _ od.ints (by omega) od.1.cap).mono ?_
              rintro e we ⟨A8, n8, c8, rfl, o8, b8⟩
              have ke := kd.below b8
              have ve := vd.kept b8
              have Ce := Cd.trans (Chg.of_below b8)
              have sze := b8.size
              have n8e : n8 = n := by have := o8.len; rw [retMap_len] at this; have := HL.out; omega
              subst n8e
              obtain ⟨ve_0, ve_1⟩ := ve.c2
              have ve_f := ve.frozen
              have ve_l := ve.lt
              go_wp2_with fail
              refine hK.out _ _ ?_ (fun hNew => ?_)
              focus ((try dsimp only); exact hS _ Ce)
              clear hK K hHeld
              have hHeld := hNew
              clear hNew
              try simp only [Act.put, List.setIfInBounds_toArray, List.set_cons_zero, List.set_cons_succ]
              refine wpAnyH_take (i := 14) (oi := _) (v := ?_) rfl (by kernel_rfl) (by kernel_rfl) (by kernel_rfl) (fun _ _ _ h => h) (Or.inl ⟨by kernel_rfl, ?_⟩) (by assumption) ?_
              rotate_left 1
              focus (intro w hSw; (try dsimp only at hSw); go_simp; try with_reducible rfl)
              try simp only [Act.put, List.setIfInBounds_toArray, List.set_cons_zero, List.set_cons_succ]
              refine wpAnyH_take (i := 15) (oi := _) (v := ?_) rfl (by kernel_rfl) (by kernel_rfl) (by kernel_rfl) (fun _ _ _ h => h) (Or.inl ⟨by kernel_rfl, ?_⟩) (by assumption) ?_
              rotate_left 1
              focus (intro w hSw; (try dsimp only at hSw); go_simp; try with_reducible rfl)
              try simp only [Act.put, List.setIfInBounds_toArray, List.set_cons_zero, List.set_cons_succ]
              refine wpAnyH_take (i := 16) (oi := _) (v := ?_) rfl (by kernel_rfl) (by kernel_rfl) (by kernel_rfl) (fun _ _ _ h => h) (Or.inl ⟨by kernel_rfl, ?_⟩) (by assumption) ?_
              rotate_left 1
              focus (intro w hSw; (try dsimp only at hSw); go_simp; try with_reducible rfl)
              try simp only [Act.put, List.setIfInBounds_toArray, List.set_cons_zero, List.set_cons_succ]
              have qe := box_s2f (a := .int .i64 s) (b := .slice A8 n8 c8) (q.chg Ce (by omega)) (show w1.heap.size ≠ u5 by omega)
              have v9 := (ve.set_ 0 (.int .i64 s)).set_ 1 (.slice A8 n8 c8)
              refine wpAnyH_ready (rs := [17]) (by kernel_rfl) (by simp) ?_
              refine AllReadyH.cons (o := _) rfl (fun K hK => ?_) ?_
              rotate_left 1
              focus (exact AllReadyH.nil)
              go_simp
              refine hK.out _ _ ?_ (fun hNew => ?_)
              focus ((try dsimp only); (obtain ⟨y0, y1, y2, y3⟩ := qe.c4; obtain ⟨y4, -⟩ := v9.c2; exact ⟨y0, y1, y2, y3, y4⟩))
              clear hK K hHeld
              have hHeld := hNew
              clear hNew
              try simp only [Act.put, List.setIfInBounds_toArray, List.set_cons_zero, List.set_cons_succ]
              refine wpAnyH_done (by kernel_rfl) ?_ _
              refine NoPanic.normal ?_
              go_wp2
              go_roundw
              case rel => exact ⟨j + 1, A8, n8, c8, _, _, _, by omega, by go_num, hn0, hn1, box_s2f (r.chg Ce (by omega)) (by omega), box_s2f (u.chg Ce (by omega)) (by omega), qe, v9, own_s2q o8 (by omega), by omega, by go_size, by omega, cur_s2 ke (by omega), chg_s2 (CC.trans Ce) (by omega)⟩
              case measure => simp [intOf]; omega
            refine AllReadyH.cons (o := _) rfl (fun K hK => ?_) ?_
            · go_simp
              refine (l01Below_c lo g DD _ kb (by omega) (by omega)).mono ?_
              rintro e wd ⟨xd, -, -, -, rfl, kd, Cd'⟩
              have vd := vb.chg Cd' (by omega)
              have od := ob.chg Cd' (by omega)
              have Cd := Cb.trans Cd'
              obtain ⟨vd_0, vd_1⟩ := vd.c2
              have szd := Cd.size
              have vdl := vd.lt
              go_wp2_with fail
              refine hK.out _ _ ?_ (fun hNew => ?_)
              focus ((try dsimp only); exact hS _ Cd)
              clear hK K hHeld
              have hHeld := hNew
              clear hNew
              try simp only [Act.put, List.setIfInBounds_toArray, List.set_cons_zero, List.set_cons_succ]
              refine wpAnyH_ready (rs := [1]) (by kernel_rfl) (by simp) ?_
              refine AllReadyH.cons (o := _) rfl (fun K hK => ?_) ?_
              rotate_left 1
              focus (exact AllReadyH.nil)
              go_simp
              refine hK.out _ _ ?_ (fun hNew => ?_)
              focus ((try dsimp only); exact hHeld)
              clear hK K hHeld
              have hHeld := hNew
              clear hNew
              try simp only [Act.put, List.setIfInBounds_toArray, List.set_cons_zero, List.set_cons_succ]
              refine wpAnyH_ready (rs := [13]) (by kernel_rfl) (by simp) ?_
              refine AllReadyH.cons (o := _) rfl (fun K hK => ?_) ?_
              rotate_left 1
              focus (exact AllReadyH.nil)
              go_simp
              refine (sRetireRow_c gg gb G2 gc s A n c zs xb xd _ od.ints (by omega) od.1.cap).mono ?_
              rintro e we ⟨A8, n8, c8, rfl, o8, b8⟩
              have ke := kd.below b8
              have ve := vd.kept b8
              have Ce := Cd.trans (Chg.of_below b8)
              have sze := b8.size
              have n8e : n8 = n := by have := o8.len; rw [retMap_len] at this; have := HL.out; omega
              subst n8e
              obtain ⟨ve_0, ve_1⟩ := ve.c2
              have ve_f := ve.frozen
              have ve_l := ve.lt
              go_wp2_with fail
              refine hK.out _ _ ?_ (fun hNew => ?_)
              focus ((try dsimp only); exact hS _ Ce)
              clear hK K hHeld
              have hHeld := hNew
              clear hNew
              try simp only [Act.put, List.setIfInBounds_toArray, List.set_cons_zero, List.set_cons_succ]
              refine wpAnyH_take (i := 14) (oi := _) (v := ?_) rfl (by kernel_rfl) (by kernel_rfl) (by kernel_rfl) (fun _ _ _ h => h) (Or.inl ⟨by kernel_rfl, ?_⟩) (by assumption) ?_
              rotate_left 1
              focus (intro w hSw; (try dsimp only at hSw); go_simp; try with_reducible rfl)
              try simp only [Act.put, List.setIfInBounds_toArray, List.set_cons_zero, List.set_cons_succ]
              refine wpAnyH_take (i := 15) (oi := _) (v := ?_) rfl (by kernel_rfl) (by kernel_rfl) (by kernel_rfl) (fun _ _ _ h => h) (Or.inl ⟨by kernel_rfl, ?_⟩) (by assumption) ?_
              rotate_left 1
              focus (intro w hSw; (try dsimp only at hSw); go_simp; try with_reducible rfl)
              try simp only [Act.put, List.setIfInBounds_toArray, List.set_cons_zero, List.set_cons_succ]
              refine wpAnyH_take (i := 16) (oi := _) (v := ?_) rfl (by kernel_rfl) (by kernel_rfl) (by kernel_rfl) (fun _ _ _ h => h) (Or.inl ⟨by kernel_rfl, ?_⟩) (by assumption) ?_
              rotate_left 1
              focus (intro w hSw; (try dsimp only at hSw); go_simp; try with_reducible rfl)
              try simp only [Act.put, List.setIfInBounds_toArray, List.set_cons_zero, List.set_cons_succ]
              have qe := box_s2f (a := .int .i64 s) (b := .slice A8 n8 c8) (q.chg Ce (by omega)) (show w1.heap.size ≠ u5 by omega)
              have v9 := (ve.set_ 0 (.int .i64 s)).set_ 1 (.slice A8 n8 c8)
              refine wpAnyH_ready (rs := [17]) (by kernel_rfl) (by simp) ?_
              refine AllReadyH.cons (o := _) rfl (fun K hK => ?_) ?_
              rotate_left 1
              focus (exact AllReadyH.nil)
              go_simp
              refine hK.out _ _ ?_ (fun hNew => ?_)
              focus ((try dsimp only); (obtain ⟨y0, y1, y2, y3⟩ := qe.c4; obtain ⟨y4, -⟩ := v9.c2; exact ⟨y0, y1, y2, y3, y4⟩))
              clear hK K hHeld
              have hHeld := hNew
              clear hNew
              try simp only [Act.put, List.setIfInBounds_toArray, List.set_cons_zero, List.set_cons_succ]
              refine wpAnyH_done (by kernel_rfl) ?_ _
              refine NoPanic.normal ?_
              go_wp2
              go_roundw
              case rel => exact ⟨j + 1, A8, n8, c8, _, _, _, by omega, by go_num, hn0, hn1, box_s2f (r.chg Ce (by omega)) (by omega), box_s2f (u.chg Ce (by omega)) (by omega), qe, v9, own_s2q o8 (by omega), by omega, by go_size, by omega, cur_s2 ke (by omega), chg_s2 (CC.trans Ce) (by omega)⟩
              case measure => simp [intOf]; omega
            exact AllReadyH.nil
          exact AllReadyH.nil
        exact AllReadyH.nil
      · skip
        have t1 : decide ((j : Int) < x5) = false := by simpa using hlt
        obtain ⟨q_0, q_1, q_2, q_3⟩ := q.c4
        have q_lt := q.lt
        obtain ⟨v_0, v_1⟩ := v.c2
        have v_lt := v.lt
        obtain ⟨r_0, r_1, r_2, r_3⟩ := r.c4
        have r_lt := r.lt
        obtain ⟨u_0, u_1⟩ := u.c2
        have u_lt := u.lt
        have r_f := r.frozen
        have u_f := u.frozen
        go_wp2_with fail
        go_region
        go_wp2
        refine abs_body ?_
        intro W9 hW
        clear q_0 q_1 q_2 q_3 q_lt v_0 v_1 v_lt r_0 r_1 r_2 r_3 r_lt u_0 u_1 u_lt r_f u_f
        have szW9 : w5.heap.size ≤ W9.heap.size := by rw [hW]; simp [World.setCell]
        have szW9c := CC.size
        replace k : Cur lo W9 g := by rw [hW]; exact (Cur.below ((Cur.chg ((Cur.chg ((Cur.chg ((Cur.chg ((Cur.chg ((Cur.chg (k) ((Chg.refl w.heap.size (w.heap.size + 1) _).setCell (.inl (by dsimp only; omega)) _) (by omega) (by omega))) ((Chg.refl w.heap.size (w.heap.size + 1) _).setCell (.inl (by dsimp only; omega)) _) (by omega) (by omega))) ((Chg.refl w.heap.size (w.heap.size + 1) _).setCell (.inl (by dsimp only; omega)) _) (by omega) (by omega))) ((Chg.refl w.heap.size (w.heap.size + 1) _).setCell (.inl (by dsimp only; omega)) _) (by omega) (by omega))) ((Chg.refl (w.heap.size + 1) ((w.heap.size + 1) + 1) _).setCell (.inl (by dsimp only; omega)) _) (by omega) (by omega))) ((Chg.refl (w.heap.size + 1) ((w.heap.size + 1) + 1) _).setCell (.inl (by dsimp only; omega)) _) (by omega) (by omega))) (belowN (Below.refl _ _) 1))
        replace CC : Chg g (g + 1) w W9 := by rw [hW]; exact ((((((((((((((CC).setCell (.inr (by dsimp only; omega)) _)).setCell (.inr (by dsimp only; omega)) _)).setCell (.inr (by dsimp only; omega)) _)).setCell (.inr (by dsimp only; omega)) _)).setCell (.inr (by dsimp only; omega)) _)).setCell (.inr (by dsimp only; omega)) _)).drewN 1)
        replace r : Box W9 w.heap.size 25 #[.int .i64 gg, .int .i64 gb, .int .i64 G2, .int .i64 gc] := by rw [hW]; exact (((((((r).set_ 0 _).set_ 1 _).set_ 2 _).set_ 3 _).far (by dsimp only; omega) _).far (by dsimp only; omega) _).drewN 1
        replace u : Box W9 (w.heap.size + 1) 28 #[.int .i64 s, .slice A n c] := by rw [hW]; exact (((((((u).far (by dsimp only; omega) _).far (by dsimp only; omega) _).far (by dsimp only; omega) _).far (by dsimp only; omega) _).set_ 0 _).set_ 1 _).drewN 1
        replace q : Box W9 w1.heap.size 25 #[.int .i64 gg, .int .i64 gb, .int .i64 G2, .int .i64 gc] := by rw [hW]; exact (((((((q).far (by dsimp only; omega) _).far (by dsimp only; omega) _).far (by dsimp only; omega) _).far (by dsimp only; omega) _).far (by dsimp only; omega) _).far (by dsimp only; omega) _).drewN 1
        replace v : Box W9 u5 28 #[.int .i64 s, .slice A n c] := by rw [hW]; exact (((((((v).far (by dsimp only; omega) _).far (by dsimp only; omega) _).far (by dsimp only; omega) _).far (by dsimp only; omega) _).far (by dsimp only; omega) _).far (by dsimp only; omega) _).drewN 1
        replace o5 : OwnH W9 l h A n c zs := by rw [hW]; exact (((((((o5).setCell _ _ (by dsimp only; omega)).setCell _ _ (by dsimp only; omega)).setCell _ _ (by dsimp only; omega)).setCell _ _ (by dsimp only; omega)).setCell _ _ (by dsimp only; omega)).setCell _ _ (by dsimp only; omega)).drewN 1
        clear hW
        obtain ⟨z0, z1, z2, z3⟩ := r.c4
        obtain ⟨y0, y1⟩ := u.c2
        refine bodyPost_ret (v := .tuple #[.agg #[.int .i64 gg, .int .i64 gb, .int .i64 G2, .int .i64 gc], .agg #[.int .i64 s, .slice A n c]]) (by simp [results, Try.results129, go_sem, z0, z1, z2, z3, y0, y1]) rfl ?_
        exact ⟨gg, gb, G2, gc, s, A, n, c, zs, hG24, hG27, hn0, hn1, rfl, o5.mono (by omega) (by omega), k, CC⟩
end Go.Proofs.Ytbapamfomfbmmaa
