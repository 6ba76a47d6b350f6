/-
  The draws of tables of spare rows, by existence: l17Any, DrawSpareOk.
-/
import Derived.Test.YtbapamfomfbmmaaSpQ
import Derived.Deep.DeepCutAuto
import Derived.Deep.RegionHeld3
import Derived.Handy
namespace Go.Proofs.Ytbapamfomfbmmaa
open Go.RowKit
set_option linter.unusedSimpArgs false
set_option linter.unusedVariables false

theorem ints_lit_c {w w' : World} {g : Nat} {zs : List Int} {t : TypeId} (C : Chg g (g + 1) (w.alloc (.cells (mapI zs).toArray t)).drew w') (hg : g < w.heap.size) : Ints w' (some ⟨w.heap.size, 0, none⟩) zs.length zs :=
  Ints.chg (show Ints (w.alloc (.cells (mapI zs).toArray t)).drew (some ⟨w.heap.size, 0, none⟩) zs.length zs from Ints.lit w zs t) C (by intro g' o e; injection e with e; injection e; omega)

set_option maxRecDepth 100000 in
set_option maxHeartbeats 16000000 in
theorem l17Any_c (lo g : Nat) (w : World) (k : Cur lo w g) :
    Calls Try.prog 67 #[.pointer (some ⟨g, 0, none⟩)] w (DrawnSp lo g w) := by
  have klt := k.lt
  have CC := Chg.refl g (g + 1) w
  go_enter Try.func67, Try.ntmps67
  go_wp2_with fail
  refine abs_call ?_
  intro W hW
  have szW : w.heap.size + 1 + 1 ≤ W.heap.size := by rw [hW]; simp [World.setCell]
  have szWc := CC.size
  replace k : Cur lo W g := by rw [hW]; exact (Cur.below ((Cur.below (k) ((Below.refl _ _).alloc (Nat.le_refl _) _))) ((Below.refl _ _).alloc (Nat.le_refl _) _))
  replace CC : Chg g (g + 1) w W := by rw [hW]; exact ((((CC).trans (Chg.of_below ((Below.refl _ _).alloc (Nat.le_refl _) _)))).trans (Chg.of_below ((Below.refl _ _).alloc (Nat.le_refl _) _)))
  have r : Box W w.heap.size 25 #[.int .i64 0, .int .i64 0, .int .i64 0, .int .i64 0] := by rw [hW]; exact ((Box.newAt (by simp [World.setCell]))).alloc _
  have u : Box W (w.heap.size + 1) 28 #[.int .i64 0, .slice none 0 0] := by rw [hW]; exact (Box.newAt (by simp [World.setCell]))
  clear hW
  refine (l17Case_c lo g _ k).mono ?_
  rintro e w1 ⟨gg, gb, gr, gc, s, A, n, c, zs, hG4, hG7, hn0, hn1, rfl, o, k1, C1⟩
  have szw1 := C1.size
  clear k
  have k := k1
  replace CC := CC.trans C1
  clear k1
  replace r := r.chg C1 (by omega)
  replace u := u.chg C1 (by omega)
  clear C1
  obtain ⟨g0, x0, eA, -, -, -, g01, g02⟩ := o.at_ hn0
  subst eA
  have hcap := o.1.cap
  have hA0 : ∀ g' o', (some ⟨g0, 0, none⟩ : Option Addr) = some ⟨g', o', none⟩ → w.heap.size ≤ g' := by intro g' o' e; injection e with e; injection e; omega
  have hA1 : ∀ g' o', (some ⟨g0, 1, none⟩ : Option Addr) = some ⟨g', o', none⟩ → w.heap.size ≤ g' := by intro g' o' e; injection e with e; injection e; omega
  go_wp2_with fail
  refine abs_call ?_
  intro W2 hW
  have szW2 : w1.heap.size + 1 + 1 ≤ W2.heap.size := by rw [hW]; simp [World.setCell]
  have szW2c := CC.size
  replace k : Cur lo W2 g := by rw [hW]; exact (Cur.below ((Cur.below (k) ((Below.refl _ _).alloc (Nat.le_refl _) _))) ((Below.refl _ _).alloc (Nat.le_refl _) _))
  replace CC : Chg g (g + 1) w W2 := by rw [hW]; exact ((((CC).trans (Chg.of_below ((Below.refl _ _).alloc (Nat.le_refl _) _)))).trans (Chg.of_below ((Below.refl _ _).alloc (Nat.le_refl _) _)))
  replace r : Box W2 w.heap.size 25 #[.int .i64 0, .int .i64 0, .int .i64 0, .int .i64 0] := by rw [hW]; exact (r.alloc _).alloc _
  replace u : Box W2 (w.heap.size + 1) 28 #[.int .i64 0, .slice none 0 0] := by rw [hW]; exact (u.alloc _).alloc _
  have q : Box W2 w1.heap.size 25 #[.int .i64 gg, .int .i64 gb, .int .i64 gr, .int .i64 gc] := by rw [hW]; exact ((Box.newAt (by simp [World.setCell]))).alloc _
  have v : Box W2 (w1.heap.size + 1) 28 #[.int .i64 s, .slice (some ⟨g0, 0, none⟩) n c] := by rw [hW]; exact (Box.newAt (by simp [World.setCell]))
  replace o : OwnH W2 W.heap.size w1.heap.size (some ⟨g0, 0, none⟩) n c zs := by rw [hW]; exact (o.alloc _).alloc _
  clear hW
  refine (l01Below_c lo g 12 _ k (by omega) (by omega)).mono ?_
  rintro e w3 ⟨x, a3, c3, -, rfl, k3, C3⟩
  have szw3 := C3.size
  clear k
  have k := k3
  replace CC := CC.trans C3
  clear k3
  replace r := r.chg C3 (by omega)
  replace u := u.chg C3 (by omega)
  replace q := q.chg C3 (by omega)
  replace v := v.chg C3 (by omega)
  replace o := o.chg C3 (by omega)
  clear C3
  clear c3 a3
  by_cases e0 : x = 0
  · skip
    subst e0
    obtain ⟨q_0, q_1, q_2, q_3⟩ := q.c4
    have q_lt := q.lt
    obtain ⟨v_0, v_1⟩ := v.c2
    have v_lt := v.lt
    go_wp2_with fail
    have hS : ∀ Y : World, Chg g (g + 1) w3 Y → (Y.cell? ⟨w1.heap.size, 2, none⟩ = some (.int .i64 gr) ∧ Y.cell? ⟨w1.heap.size + 1, 1, none⟩ = some (.slice (some ⟨g0, 0, none⟩) n c)) := fun Y hY => by
      obtain ⟨-, -, y2, -⟩ := (q.chg hY (by omega)).c4
      obtain ⟨-, y4⟩ := (v.chg hY (by omega)).c2
      exact ⟨y2, y4⟩
    have NN : w3.heap.size < g ∨ g + 1 ≤ w3.heap.size := by omega
    have hD : g + 1 ≤ W.heap.size := by omega
    obtain ⟨GM, hGM⟩ : ∃ z : Int, z = gr - 1 := ⟨_, rfl⟩
    have e25 : IntKind.i64.wrap (gr - 1) = GM := by rw [hGM]; exact IntWalk.i64_in _ (by omega)
    clear hGM
    have hg3 : g < w3.heap.size := by omega
    have n128 : (n : Int) ≤ 128 := by omega
    have n1 : 0 < (n : Int) := by omega
    go_region_held3 (fun Y => Y.cell? ⟨w1.heap.size, 2, none⟩ = some (.int .i64 gr) ∧ Y.cell? ⟨w1.heap.size + 1, 1, none⟩ = some (.slice (some ⟨g0, 0, none⟩) n c))
      (first | (with_reducible exact hS _ (chg_d (Chg.refl _ _ _))) | (with_reducible exact hS _ CA) | (with_reducible exact hS _ (chg_a CA)) | (with_reducible exact hS _ CB) | (with_reducible exact hS _ (chg_d (chg_a (Chg.refl _ _ _)))) | (exact hF) | fail)
      (first
       | (go_at_call 78; refine (l01Below_c lo g n _ (by first | (with_reducible exact cur_d k) | (with_reducible exact cur_d (cur_a k))) (by omega) (by omega)).mono ?_; rintro e wA ⟨x, xa, xc, -, rfl, kA, CA'⟩; have xd := xc n1; obtain ⟨j, hj⟩ := Int.eq_ofNat_of_zero_le xa; subst hj; have jlt : j < n := (by omega); have j0 : (0 : Int) ≤ (j : Int) := (by omega); have j1 : (j : Int) < (n : Int) := (by omega); have CA : Chg g (g + 1) w3 wA := (by first | (with_reducible exact chg_of_d CA') | (with_reducible exact chg_of_ad CA')); have szA := CA.size; (first | (have iA : Ints wA (some ⟨w3.heap.size, 0, none⟩) 5 [-1, 0, 1, GM, gr] := (by exact ints_lit_c (zs := [-1, 0, 1, GM, gr]) CA' hg3)) | skip))
       | (go_at_call 130; (first | (refine (l01PickInt_c lo g _ 5 5 [-1, 0, 1, GM, gr] _ kA iA (by omega) (by omega) (by intro g' o e; injection e with e; injection e; omega)).mono ?_) | (refine (l01PickInt_c lo g _ 5 5 [-1, 0, 1, GM, gr] _ (cur_a kA) (Ints.lit wA [-1, 0, 1, GM, gr] _) (by omega) (by omega) (by intro g' o e; injection e with e; injection e; omega)).mono ?_)); rintro e wB ⟨y, -, rfl, kB, CB'⟩; have CB : Chg g (g + 1) w3 wB := (by first | (with_reducible exact CA.trans CB') | (with_reducible exact (chg_a CA).trans CB')); have szB := CB.size; have oB := o.chg CB (by omega); obtain ⟨gx, yx, ex, hxc, hxf, -, -, -⟩ := oB.at_ jlt; obtain rfl : g0 = gx := (by injection ex with ex; injection ex); have hF : ((wB.setCell ⟨g0, j, none⟩ (.int .i64 y)).cell? ⟨w1.heap.size, 2, none⟩ = some (.int .i64 gr)) ∧ ((wB.setCell ⟨g0, j, none⟩ (.int .i64 y)).cell? ⟨w1.heap.size + 1, 1, none⟩ = some (.slice (some ⟨g0, 0, none⟩) n c)) := (by obtain ⟨-, -, y2, -⟩ := ((q.chg CB (by omega)).far (p := ⟨g0, j, none⟩) (by dsimp only; omega) (.int .i64 y)).c4; obtain ⟨-, y4⟩ := ((v.chg CB (by omega)).far (p := ⟨g0, j, none⟩) (by dsimp only; omega) (.int .i64 y)).c2; exact ⟨y2, y4⟩))
       | fail)
    all_goals
      clear hS e25 hF
      clear q_0 q_1 q_2 q_3 q_lt v_0 v_1 v_lt
      have szwB := CB.size
      clear k
      have k := kB
      replace CC := CC.trans CB
      clear kB
      replace r := r.chg CB (by omega)
      replace u := u.chg CB (by omega)
      replace q := q.chg CB (by omega)
      replace v := v.chg CB (by omega)
      replace o := o.chg CB (by omega)
      clear CB
      go_wp2_with fail
      refine abs_code ?_
      intro W6 hW
      have szW6 : wB.heap.size ≤ W6.heap.size := by rw [hW]; simp [World.setCell]
      have szW6c := CC.size
      replace k : Cur lo W6 g := by rw [hW]; exact (Cur.chg (k) ((o).stored rfl jlt _).2 (by omega) (by omega))
      replace CC : Chg g (g + 1) w W6 := by rw [hW]; exact ((CC).setCell (.inr (by dsimp only; omega)) _)
      replace r : Box W6 w.heap.size 25 #[.int .i64 0, .int .i64 0, .int .i64 0, .int .i64 0] := by rw [hW]; exact (r).far (by dsimp only; omega) _
      replace u : Box W6 (w.heap.size + 1) 28 #[.int .i64 0, .slice none 0 0] := by rw [hW]; exact (u).far (by dsimp only; omega) _
      replace q : Box W6 w1.heap.size 25 #[.int .i64 gg, .int .i64 gb, .int .i64 gr, .int .i64 gc] := by rw [hW]; exact (q).far (by dsimp only; omega) _
      replace v : Box W6 (w1.heap.size + 1) 28 #[.int .i64 s, .slice (some ⟨g0, 0, none⟩) n c] := by rw [hW]; exact (v).far (by dsimp only; omega) _
      replace o : OwnH W6 W.heap.size w1.heap.size (some ⟨g0, 0, none⟩) n c (zs.set j y) := by rw [hW]; exact ((o).stored rfl jlt _).1
      clear hW
      obtain ⟨q_0, q_1, q_2, q_3⟩ := q.c4
      have q_lt := q.lt
      obtain ⟨v_0, v_1⟩ := v.c2
      have v_lt := v.lt
      obtain ⟨r_0, r_1, r_2, r_3⟩ := r.c4
      have r_lt := r.lt
      obtain ⟨u_0, u_1⟩ := u.c2
      have u_lt := u.lt
      have r_f := r.frozen
      have u_f := u.frozen
      go_wp2_with fail
      go_region
      go_wp2
      refine abs_body ?_
      intro W9 hW
      clear q_0 q_1 q_2 q_3 q_lt v_0 v_1 v_lt r_0 r_1 r_2 r_3 r_lt u_0 u_1 u_lt r_f u_f
      have szW9 : W6.heap.size ≤ W9.heap.size := by rw [hW]; simp [World.setCell]
      have szW9c := CC.size
      replace k : Cur lo W9 g := by rw [hW]; exact (Cur.below ((Cur.chg ((Cur.chg ((Cur.chg ((Cur.chg ((Cur.chg ((Cur.chg (k) ((Chg.refl w.heap.size (w.heap.size + 1) _).setCell (.inl (by dsimp only; omega)) _) (by omega) (by omega))) ((Chg.refl w.heap.size (w.heap.size + 1) _).setCell (.inl (by dsimp only; omega)) _) (by omega) (by omega))) ((Chg.refl w.heap.size (w.heap.size + 1) _).setCell (.inl (by dsimp only; omega)) _) (by omega) (by omega))) ((Chg.refl w.heap.size (w.heap.size + 1) _).setCell (.inl (by dsimp only; omega)) _) (by omega) (by omega))) ((Chg.refl (w.heap.size + 1) ((w.heap.size + 1) + 1) _).setCell (.inl (by dsimp only; omega)) _) (by omega) (by omega))) ((Chg.refl (w.heap.size + 1) ((w.heap.size + 1) + 1) _).setCell (.inl (by dsimp only; omega)) _) (by omega) (by omega))) (belowN (Below.refl _ _) 1))
      replace CC : Chg g (g + 1) w W9 := by rw [hW]; exact ((((((((((((((CC).setCell (.inr (by dsimp only; omega)) _)).setCell (.inr (by dsimp only; omega)) _)).setCell (.inr (by dsimp only; omega)) _)).setCell (.inr (by dsimp only; omega)) _)).setCell (.inr (by dsimp only; omega)) _)).setCell (.inr (by dsimp only; omega)) _)).drewN 1)
      replace r : Box W9 w.heap.size 25 #[.int .i64 gg, .int .i64 gb, .int .i64 gr, .int .i64 gc] := by rw [hW]; exact (((((((r).set_ 0 _).set_ 1 _).set_ 2 _).set_ 3 _).far (by dsimp only; omega) _).far (by dsimp only; omega) _).drewN 1
      replace u : Box W9 (w.heap.size + 1) 28 #[.int .i64 s, .slice (some ⟨g0, 0, none⟩) n c] := by rw [hW]; exact (((((((u).far (by dsimp only; omega) _).far (by dsimp only; omega) _).far (by dsimp only; omega) _).far (by dsimp only; omega) _).set_ 0 _).set_ 1 _).drewN 1
      replace q : Box W9 w1.heap.size 25 #[.int .i64 gg, .int .i64 gb, .int .i64 gr, .int .i64 gc] := by rw [hW]; exact (((((((q).far (by dsimp only; omega) _).far (by dsimp only; omega) _).far (by dsimp only; omega) _).far (by dsimp only; omega) _).far (by dsimp only; omega) _).far (by dsimp only; omega) _).drewN 1
      replace v : Box W9 (w1.heap.size + 1) 28 #[.int .i64 s, .slice (some ⟨g0, 0, none⟩) n c] := by rw [hW]; exact (((((((v).far (by dsimp only; omega) _).far (by dsimp only; omega) _).far (by dsimp only; omega) _).far (by dsimp only; omega) _).far (by dsimp only; omega) _).far (by dsimp only; omega) _).drewN 1
      replace o : OwnH W9 W.heap.size w1.heap.size (some ⟨g0, 0, none⟩) n c (zs.set j y) := by rw [hW]; exact (((((((o).setCell _ _ (by dsimp only; omega)).setCell _ _ (by dsimp only; omega)).setCell _ _ (by dsimp only; omega)).setCell _ _ (by dsimp only; omega)).setCell _ _ (by dsimp only; omega)).setCell _ _ (by dsimp only; omega)).drewN 1
      clear hW
      obtain ⟨z0, z1, z2, z3⟩ := r.c4
      obtain ⟨y0, y1⟩ := u.c2
      refine bodyPost_ret (v := .tuple #[.agg #[.int .i64 gg, .int .i64 gb, .int .i64 gr, .int .i64 gc], .agg #[.int .i64 s, .slice (some ⟨g0, 0, none⟩) n c]]) (by simp [results, Try.results67, go_sem, z0, z1, z2, z3, y0, y1]) rfl ?_
      exact ⟨_, _, _, _, _, _, _, _, _, hn1, hcap.1, hcap.2, hA0, rfl, o.ints, k, CC⟩
  have f0 : (x == 0) = false := by simpa using e0
  by_cases e1 : x = 1
  · skip
    subst e1
    go_wp2_with fail
    refine abs_call ?_
    intro W4 hW
    have bW : Below w3.heap.size w3 W4 := by rw [hW]; exact (Below.refl _ _).alloc (Nat.le_refl _) _
    have hI : Ints W4 (some ⟨w3.heap.size, 0, none⟩) 4 [-1, 0, 2, 3] := by rw [hW]; exact Ints.lit _ [-1, 0, 2, 3] _
    clear hW
    have sz3 : g < w3.heap.size := by omega
    have szW4 := bW.size
    replace k := k.below bW
    replace CC := CC.trans (Chg.of_below bW)
    replace r := r.kept bW
    replace u := u.kept bW
    replace q := q.kept bW
    replace v := v.kept bW
    replace o := o.below bW
    clear bW
    refine (l01PickInt_c lo g _ 4 4 _ _ k hI (by omega) (by omega) (by intro g' o e; injection e with e; injection e; omega)).mono ?_
    rintro e w5 ⟨y, -, rfl, k5, C5⟩
    have szw5 := C5.size
    clear k
    have k := k5
    replace CC := CC.trans C5
    clear k5
    replace r := r.chg C5 (by omega)
    replace u := u.chg C5 (by omega)
    replace q := q.chg C5 (by omega)
    replace v := v.chg C5 (by omega)
    replace o := o.chg C5 (by omega)
    clear C5
    obtain ⟨v_0, v_1⟩ := v.c2
    have v_lt := v.lt
    have v_f := v.frozen
    go_wp2_with fail
    refine abs_code ?_
    intro W6 hW
    clear v_0 v_1 v_lt v_f
    have szW6 : w5.heap.size ≤ W6.heap.size := by rw [hW]; simp [World.setCell]
    have szW6c := CC.size
    replace k : Cur lo W6 g := by rw [hW]; exact (Cur.chg (k) ((Chg.refl (w1.heap.size + 1) ((w1.heap.size + 1) + 1) _).setCell (.inl (by dsimp only; omega)) _) (by omega) (by omega))
    replace CC : Chg g (g + 1) w W6 := by rw [hW]; exact ((CC).setCell (.inr (by dsimp only; omega)) _)
    replace r : Box W6 w.heap.size 25 #[.int .i64 0, .int .i64 0, .int .i64 0, .int .i64 0] := by rw [hW]; exact (r).far (by dsimp only; omega) _
    replace u : Box W6 (w.heap.size + 1) 28 #[.int .i64 0, .slice none 0 0] := by rw [hW]; exact (u).far (by dsimp only; omega) _
    replace q : Box W6 w1.heap.size 25 #[.int .i64 gg, .int .i64 gb, .int .i64 gr, .int .i64 gc] := by rw [hW]; exact (q).far (by dsimp only; omega) _
    replace v : Box W6 (w1.heap.size + 1) 28 #[.int .i64 y, .slice (some ⟨g0, 0, none⟩) n c] := by rw [hW]; exact (v).set_ 0 _
    replace o : OwnH W6 W.heap.size w1.heap.size (some ⟨g0, 0, none⟩) n c zs := by rw [hW]; exact (o).setCell _ _ (by dsimp only; omega)
    clear hW
    obtain ⟨q_0, q_1, q_2, q_3⟩ := q.c4
    have q_lt := q.lt
    obtain ⟨v_0, v_1⟩ := v.c2
    have v_lt := v.lt
    obtain ⟨r_0, r_1, r_2, r_3⟩ := r.c4
    have r_lt := r.lt
    obtain ⟨u_0, u_1⟩ := u.c2
    have u_lt := u.lt
    have r_f := r.frozen
    have u_f := u.frozen
    go_wp2_with fail
    go_region
    go_wp2
    refine abs_body ?_
    intro W9 hW
    clear q_0 q_1 q_2 q_3 q_lt v_0 v_1 v_lt r_0 r_1 r_2 r_3 r_lt u_0 u_1 u_lt r_f u_f
    have szW9 : W6.heap.size ≤ W9.heap.size := by rw [hW]; simp [World.setCell]
    have szW9c := CC.size
    replace k : Cur lo W9 g := by rw [hW]; exact (Cur.below ((Cur.chg ((Cur.chg ((Cur.chg ((Cur.chg ((Cur.chg ((Cur.chg (k) ((Chg.refl w.heap.size (w.heap.size + 1) _).setCell (.inl (by dsimp only; omega)) _) (by omega) (by omega))) ((Chg.refl w.heap.size (w.heap.size + 1) _).setCell (.inl (by dsimp only; omega)) _) (by omega) (by omega))) ((Chg.refl w.heap.size (w.heap.size + 1) _).setCell (.inl (by dsimp only; omega)) _) (by omega) (by omega))) ((Chg.refl w.heap.size (w.heap.size + 1) _).setCell (.inl (by dsimp only; omega)) _) (by omega) (by omega))) ((Chg.refl (w.heap.size + 1) ((w.heap.size + 1) + 1) _).setCell (.inl (by dsimp only; omega)) _) (by omega) (by omega))) ((Chg.refl (w.heap.size + 1) ((w.heap.size + 1) + 1) _).setCell (.inl (by dsimp only; omega)) _) (by omega) (by omega))) (belowN (Below.refl _ _) 1))
    replace CC : Chg g (g + 1) w W9 := by rw [hW]; exact ((((((((((((((CC).setCell (.inr (by dsimp only; omega)) _)).setCell (.inr (by dsimp only; omega)) _)).setCell (.inr (by dsimp only; omega)) _)).setCell (.inr (by dsimp only; omega)) _)).setCell (.inr (by dsimp only; omega)) _)).setCell (.inr (by dsimp only; omega)) _)).drewN 1)
    replace r : Box W9 w.heap.size 25 #[.int .i64 gg, .int .i64 gb, .int .i64 gr, .int .i64 gc] := by rw [hW]; exact (((((((r).set_ 0 _).set_ 1 _).set_ 2 _).set_ 3 _).far (by dsimp only; omega) _).far (by dsimp only; omega) _).drewN 1
    replace u : Box W9 (w.heap.size + 1) 28 #[.int .i64 y, .slice (some ⟨g0, 0, none⟩) n c] := by rw [hW]; exact (((((((u).far (by dsimp only; omega) _).far (by dsimp only; omega) _).far (by dsimp only; omega) _).far (by dsimp only; omega) _).set_ 0 _).set_ 1 _).drewN 1
    replace q : Box W9 w1.heap.size 25 #[.int .i64 gg, .int .i64 gb, .int .i64 gr, .int .i64 gc] := by rw [hW]; exact (((((((q).far (by dsimp only; omega) _).far (by dsimp only; omega) _).far (by dsimp only; omega) _).far (by dsimp only; omega) _).far (by dsimp only; omega) _).far (by dsimp only; omega) _).drewN 1
    replace v : Box W9 (w1.heap.size + 1) 28 #[.int .i64 y, .slice (some ⟨g0, 0, none⟩) n c] := by rw [hW]; exact (((((((v).far (by dsimp only; omega) _).far (by dsimp only; omega) _).far (by dsimp only; omega) _).far (by dsimp only; omega) _).far (by dsimp only; omega) _).far (by dsimp only; omega) _).drewN 1
    replace o : OwnH W9 W.heap.size w1.heap.size (some ⟨g0, 0, none⟩) n c zs := by rw [hW]; exact (((((((o).setCell _ _ (by dsimp only; omega)).setCell _ _ (by dsimp only; omega)).setCell _ _ (by dsimp only; omega)).setCell _ _ (by dsimp only; omega)).setCell _ _ (by dsimp only; omega)).setCell _ _ (by dsimp only; omega)).drewN 1
    clear hW
    obtain ⟨z0, z1, z2, z3⟩ := r.c4
    obtain ⟨y0, y1⟩ := u.c2
    refine bodyPost_ret (v := .tuple #[.agg #[.int .i64 gg, .int .i64 gb, .int .i64 gr, .int .i64 gc], .agg #[.int .i64 y, .slice (some ⟨g0, 0, none⟩) n c]]) (by simp [results, Try.results67, go_sem, z0, z1, z2, z3, y0, y1]) rfl ?_
    exact ⟨_, _, _, _, _, _, _, _, _, hn1, hcap.1, hcap.2, hA0, rfl, o.ints, k, CC⟩
  have f1 : (x == 1) = false := by simpa using e1
  by_cases e2 : x = 2
  · skip
    subst e2
    have hn1' : (1 : Int) ≤ (n : Int) := by omega
    have hc1' : (1 : Int) ≤ (c : Int) := by omega
    have hc2 : ¬ (c = 1) := by omega
    have hc3 : ¬ ((c : Int) = 1) := by omega
    obtain ⟨v_0, v_1⟩ := v.c2
    have v_lt := v.lt
    have v_f := v.frozen
    go_wp2_with fail
    refine abs_code ?_
    intro W6 hW
    clear v_0 v_1 v_lt v_f
    have szW6 : w3.heap.size ≤ W6.heap.size := by rw [hW]; simp [World.setCell]
    have szW6c := CC.size
    replace k : Cur lo W6 g := by rw [hW]; exact (Cur.chg (k) ((Chg.refl (w1.heap.size + 1) ((w1.heap.size + 1) + 1) _).setCell (.inl (by dsimp only; omega)) _) (by omega) (by omega))
    replace CC : Chg g (g + 1) w W6 := by rw [hW]; exact ((CC).setCell (.inr (by dsimp only; omega)) _)
    replace r : Box W6 w.heap.size 25 #[.int .i64 0, .int .i64 0, .int .i64 0, .int .i64 0] := by rw [hW]; exact (r).far (by dsimp only; omega) _
    replace u : Box W6 (w.heap.size + 1) 28 #[.int .i64 0, .slice none 0 0] := by rw [hW]; exact (u).far (by dsimp only; omega) _
    replace q : Box W6 w1.heap.size 25 #[.int .i64 gg, .int .i64 gb, .int .i64 gr, .int .i64 gc] := by rw [hW]; exact (q).far (by dsimp only; omega) _
    replace v : Box W6 (w1.heap.size + 1) 28 #[.int .i64 s, .slice (some ⟨g0, 1, none⟩) (n - 1) (c - 1)] := by rw [hW]; exact (v).set_ 1 _
    replace o : OwnH W6 W.heap.size w1.heap.size (some ⟨g0, 0, none⟩) n c zs := by rw [hW]; exact (o).setCell _ _ (by dsimp only; omega)
    clear hW
    obtain ⟨q_0, q_1, q_2, q_3⟩ := q.c4
    have q_lt := q.lt
    obtain ⟨v_0, v_1⟩ := v.c2
    have v_lt := v.lt
    obtain ⟨r_0, r_1, r_2, r_3⟩ := r.c4
    have r_lt := r.lt
    obtain ⟨u_0, u_1⟩ := u.c2
    have u_lt := u.lt
    have r_f := r.frozen
    have u_f := u.frozen
    go_wp2_with fail
    go_region
    go_wp2
    refine abs_body ?_
    intro W9 hW
    clear q_0 q_1 q_2 q_3 q_lt v_0 v_1 v_lt r_0 r_1 r_2 r_3 r_lt u_0 u_1 u_lt r_f u_f
    have szW9 : W6.heap.size ≤ W9.heap.size := by rw [hW]; simp [World.setCell]
    have szW9c := CC.size
    replace k : Cur lo W9 g := by rw [hW]; exact (Cur.below ((Cur.chg ((Cur.chg ((Cur.chg ((Cur.chg ((Cur.chg ((Cur.chg (k) ((Chg.refl w.heap.size (w.heap.size + 1) _).setCell (.inl (by dsimp only; omega)) _) (by omega) (by omega))) ((Chg.refl w.heap.size (w.heap.size + 1) _).setCell (.inl (by dsimp only; omega)) _) (by omega) (by omega))) ((Chg.refl w.heap.size (w.heap.size + 1) _).setCell (.inl (by dsimp only; omega)) _) (by omega) (by omega))) ((Chg.refl w.heap.size (w.heap.size + 1) _).setCell (.inl (by dsimp only; omega)) _) (by omega) (by omega))) ((Chg.refl (w.heap.size + 1) ((w.heap.size + 1) + 1) _).setCell (.inl (by dsimp only; omega)) _) (by omega) (by omega))) ((Chg.refl (w.heap.size + 1) ((w.heap.size + 1) + 1) _).setCell (.inl (by dsimp only; omega)) _) (by omega) (by omega))) (belowN (Below.refl _ _) 1))
    replace CC : Chg g (g + 1) w W9 := by rw [hW]; exact ((((((((((((((CC).setCell (.inr (by dsimp only; omega)) _)).setCell (.inr (by dsimp only; omega)) _)).setCell (.inr (by dsimp only; omega)) _)).setCell (.inr (by dsimp only; omega)) _)).setCell (.inr (by dsimp only; omega)) _)).setCell (.inr (by dsimp only; omega)) _)).drewN 1)
    replace r : Box W9 w.heap.size 25 #[.int .i64 gg, .int .i64 gb, .int .i64 gr, .int .i64 gc] := by rw [hW]; exact (((((((r).set_ 0 _).set_ 1 _).set_ 2 _).set_ 3 _).far (by dsimp only; omega) _).far (by dsimp only; omega) _).drewN 1
    replace u : Box W9 (w.heap.size + 1) 28 #[.int .i64 s, .slice (some ⟨g0, 1, none⟩) (n - 1) (c - 1)] := by rw [hW]; exact (((((((u).far (by dsimp only; omega) _).far (by dsimp only; omega) _).far (by dsimp only; omega) _).far (by dsimp only; omega) _).set_ 0 _).set_ 1 _).drewN 1
    replace q : Box W9 w1.heap.size 25 #[.int .i64 gg, .int .i64 gb, .int .i64 gr, .int .i64 gc] := by rw [hW]; exact (((((((q).far (by dsimp only; omega) _).far (by dsimp only; omega) _).far (by dsimp only; omega) _).far (by dsimp only; omega) _).far (by dsimp only; omega) _).far (by dsimp only; omega) _).drewN 1
    replace v : Box W9 (w1.heap.size + 1) 28 #[.int .i64 s, .slice (some ⟨g0, 1, none⟩) (n - 1) (c - 1)] := by rw [hW]; exact (((((((v).far (by dsimp only; omega) _).far (by dsimp only; omega) _).far (by dsimp only; omega) _).far (by dsimp only; omega) _).far (by dsimp only; omega) _).far (by dsimp only; omega) _).drewN 1
    replace o : OwnH W9 W.heap.size w1.heap.size (some ⟨g0, 0, none⟩) n c zs := by rw [hW]; exact (((((((o).setCell _ _ (by dsimp only; omega)).setCell _ _ (by dsimp only; omega)).setCell _ _ (by dsimp only; omega)).setCell _ _ (by dsimp only; omega)).setCell _ _ (by dsimp only; omega)).setCell _ _ (by dsimp only; omega)).drewN 1
    clear hW
    obtain ⟨z0, z1, z2, z3⟩ := r.c4
    obtain ⟨y0, y1⟩ := u.c2
    refine bodyPost_ret (v := .tuple #[.agg #[.int .i64 gg, .int .i64 gb, .int .i64 gr, .int .i64 gc], .agg #[.int .i64 s, .slice (some ⟨g0, 1, none⟩) (n - 1) (c - 1)]]) (by simp [results, Try.results67, go_sem, z0, z1, z2, z3, y0, y1]) rfl ?_
    exact ⟨_, _, _, _, _, _, _, _, _, by omega, by omega, by omega, hA1, rfl, Ints.cut o.ints (lo := 1) (n := n - 1) (by omega), k, CC⟩
  have f2 : (x == 2) = false := by simpa using e2
  by_cases e3 : x = 3
  · skip
    subst e3
    go_wp2_with fail
    refine (l03Any_c lo g _ k).mono ?_
    rintro e w5 ⟨gg', gb', gr', gc', rfl, k5, C5⟩
    have szw5 := C5.size
    clear k
    have k := k5
    replace CC := CC.trans C5
    clear k5
    replace r := r.chg C5 (by omega)
    replace u := u.chg C5 (by omega)
    replace q := q.chg C5 (by omega)
    replace v := v.chg C5 (by omega)
    replace o := o.chg C5 (by omega)
    clear C5
    obtain ⟨q_0, q_1, q_2, q_3⟩ := q.c4
    have q_lt := q.lt
    have q_f := q.frozen
    go_wp2_with fail
    refine abs_code ?_
    intro W6 hW
    clear q_0 q_1 q_2 q_3 q_lt q_f
    have szW6 : w5.heap.size ≤ W6.heap.size := by rw [hW]; simp [World.setCell]
    have szW6c := CC.size
    replace k : Cur lo W6 g := by rw [hW]; exact (Cur.chg ((Cur.chg ((Cur.chg ((Cur.chg (k) ((Chg.refl w1.heap.size (w1.heap.size + 1) _).setCell (.inl (by dsimp only; omega)) _) (by omega) (by omega))) ((Chg.refl w1.heap.size (w1.heap.size + 1) _).setCell (.inl (by dsimp only; omega)) _) (by omega) (by omega))) ((Chg.refl w1.heap.size (w1.heap.size + 1) _).setCell (.inl (by dsimp only; omega)) _) (by omega) (by omega))) ((Chg.refl w1.heap.size (w1.heap.size + 1) _).setCell (.inl (by dsimp only; omega)) _) (by omega) (by omega))
    replace CC : Chg g (g + 1) w W6 := by rw [hW]; exact ((((((((CC).setCell (.inr (by dsimp only; omega)) _)).setCell (.inr (by dsimp only; omega)) _)).setCell (.inr (by dsimp only; omega)) _)).setCell (.inr (by dsimp only; omega)) _)
    replace r : Box W6 w.heap.size 25 #[.int .i64 0, .int .i64 0, .int .i64 0, .int .i64 0] := by rw [hW]; exact ((((r).far (by dsimp only; omega) _).far (by dsimp only; omega) _).far (by dsimp only; omega) _).far (by dsimp only; omega) _
    replace u : Box W6 (w.heap.size + 1) 28 #[.int .i64 0, .slice none 0 0] := by rw [hW]; exact ((((u).far (by dsimp only; omega) _).far (by dsimp only; omega) _).far (by dsimp only; omega) _).far (by dsimp only; omega) _
    replace q : Box W6 w1.heap.size 25 #[.int .i64 gg', .int .i64 gb', .int .i64 gr', .int .i64 gc'] := by rw [hW]; exact ((((q).set_ 0 _).set_ 1 _).set_ 2 _).set_ 3 _
    replace v : Box W6 (w1.heap.size + 1) 28 #[.int .i64 s, .slice (some ⟨g0, 0, none⟩) n c] := by rw [hW]; exact ((((v).far (by dsimp only; omega) _).far (by dsimp only; omega) _).far (by dsimp only; omega) _).far (by dsimp only; omega) _
    replace o : OwnH W6 W.heap.size w1.heap.size (some ⟨g0, 0, none⟩) n c zs := by rw [hW]; exact ((((o).setCell _ _ (by dsimp only; omega)).setCell _ _ (by dsimp only; omega)).setCell _ _ (by dsimp only; omega)).setCell _ _ (by dsimp only; omega)
    clear hW
    obtain ⟨q_0, q_1, q_2, q_3⟩ := q.c4
    have q_lt := q.lt
    obtain ⟨v_0, v_1⟩ := v.c2
    have v_lt := v.lt
    obtain ⟨r_0, r_1, r_2, r_3⟩ := r.c4
    have r_lt := r.lt
    obtain ⟨u_0, u_1⟩ := u.c2
    have u_lt := u.lt
    have r_f := r.frozen
    have u_f := u.frozen
    go_wp2_with fail
    go_region
    go_wp2
    refine abs_body ?_
    intro W9 hW
    clear q_0 q_1 q_2 q_3 q_lt v_0 v_1 v_lt r_0 r_1 r_2 r_3 r_lt u_0 u_1 u_lt r_f u_f
    have szW9 : W6.heap.size ≤ W9.heap.size := by rw [hW]; simp [World.setCell]
    have szW9c := CC.size
    replace k : Cur lo W9 g := by rw [hW]; exact (Cur.below ((Cur.chg ((Cur.chg ((Cur.chg ((Cur.chg ((Cur.chg ((Cur.chg (k) ((Chg.refl w.heap.size (w.heap.size + 1) _).setCell (.inl (by dsimp only; omega)) _) (by omega) (by omega))) ((Chg.refl w.heap.size (w.heap.size + 1) _).setCell (.inl (by dsimp only; omega)) _) (by omega) (by omega))) ((Chg.refl w.heap.size (w.heap.size + 1) _).setCell (.inl (by dsimp only; omega)) _) (by omega) (by omega))) ((Chg.refl w.heap.size (w.heap.size + 1) _).setCell (.inl (by dsimp only; omega)) _) (by omega) (by omega))) ((Chg.refl (w.heap.size + 1) ((w.heap.size + 1) + 1) _).setCell (.inl (by dsimp only; omega)) _) (by omega) (by omega))) ((Chg.refl (w.heap.size + 1) ((w.heap.size + 1) + 1) _).setCell (.inl (by dsimp only; omega)) _) (by omega) (by omega))) (belowN (Below.refl _ _) 1))
    replace CC : Chg g (g + 1) w W9 := by rw [hW]; exact ((((((((((((((CC).setCell (.inr (by dsimp only; omega)) _)).setCell (.inr (by dsimp only; omega)) _)).setCell (.inr (by dsimp only; omega)) _)).setCell (.inr (by dsimp only; omega)) _)).setCell (.inr (by dsimp only; omega)) _)).setCell (.inr (by dsimp only; omega)) _)).drewN 1)
    replace r : Box W9 w.heap.size 25 #[.int .i64 gg', .int .i64 gb', .int .i64 gr', .int .i64 gc'] := by rw [hW]; exact (((((((r).set_ 0 _).set_ 1 _).set_ 2 _).set_ 3 _).far (by dsimp only; omega) _).far (by dsimp only; omega) _).drewN 1
    replace u : Box W9 (w.heap.size + 1) 28 #[.int .i64 s, .slice (some ⟨g0, 0, none⟩) n c] := by rw [hW]; exact (((((((u).far (by dsimp only; omega) _).far (by dsimp only; omega) _).far (by dsimp only; omega) _).far (by dsimp only; omega) _).set_ 0 _).set_ 1 _).drewN 1
    replace q : Box W9 w1.heap.size 25 #[.int .i64 gg', .int .i64 gb', .int .i64 gr', .int .i64 gc'] := by rw [hW]; exact (((((((q).far (by dsimp only; omega) _).far (by dsimp only; omega) _).far (by dsimp only; omega) _).far (by dsimp only; omega) _).far (by dsimp only; omega) _).far (by dsimp only; omega) _).drewN 1
    replace v : Box W9 (w1.heap.size + 1) 28 #[.int .i64 s, .slice (some ⟨g0, 0, none⟩) n c] := by rw [hW]; exact (((((((v).far (by dsimp only; omega) _).far (by dsimp only; omega) _).far (by dsimp only; omega) _).far (by dsimp only; omega) _).far (by dsimp only; omega) _).far (by dsimp only; omega) _).drewN 1
    replace o : OwnH W9 W.heap.size w1.heap.size (some ⟨g0, 0, none⟩) n c zs := by rw [hW]; exact (((((((o).setCell _ _ (by dsimp only; omega)).setCell _ _ (by dsimp only; omega)).setCell _ _ (by dsimp only; omega)).setCell _ _ (by dsimp only; omega)).setCell _ _ (by dsimp only; omega)).setCell _ _ (by dsimp only; omega)).drewN 1
    clear hW
    obtain ⟨z0, z1, z2, z3⟩ := r.c4
    obtain ⟨y0, y1⟩ := u.c2
    refine bodyPost_ret (v := .tuple #[.agg #[.int .i64 gg', .int .i64 gb', .int .i64 gr', .int .i64 gc'], .agg #[.int .i64 s, .slice (some ⟨g0, 0, none⟩) n c]]) (by simp [results, Try.results67, go_sem, z0, z1, z2, z3, y0, y1]) rfl ?_
    exact ⟨_, _, _, _, _, _, _, _, _, hn1, hcap.1, hcap.2, hA0, rfl, o.ints, k, CC⟩
  have f3 : (x == 3) = false := by simpa using e3
  obtain ⟨q_0, q_1, q_2, q_3⟩ := q.c4
  have q_lt := q.lt
  obtain ⟨v_0, v_1⟩ := v.c2
  have v_lt := v.lt
  obtain ⟨r_0, r_1, r_2, r_3⟩ := r.c4
  have r_lt := r.lt
  obtain ⟨u_0, u_1⟩ := u.c2
  have u_lt := u.lt
  have r_f := r.frozen
  have u_f := u.frozen
  go_wp2_with fail
  go_region
  go_wp2
  refine abs_body ?_
  intro W9 hW
  clear q_0 q_1 q_2 q_3 q_lt v_0 v_1 v_lt r_0 r_1 r_2 r_3 r_lt u_0 u_1 u_lt r_f u_f
  have szW9 : w3.heap.size ≤ W9.heap.size := by rw [hW]; simp [World.setCell]
  have szW9c := CC.size
  replace k : Cur lo W9 g := by rw [hW]; exact (Cur.below ((Cur.chg ((Cur.chg ((Cur.chg ((Cur.chg ((Cur.chg ((Cur.chg (k) ((Chg.refl w.heap.size (w.heap.size + 1) _).setCell (.inl (by dsimp only; omega)) _) (by omega) (by omega))) ((Chg.refl w.heap.size (w.heap.size + 1) _).setCell (.inl (by dsimp only; omega)) _) (by omega) (by omega))) ((Chg.refl w.heap.size (w.heap.size + 1) _).setCell (.inl (by dsimp only; omega)) _) (by omega) (by omega))) ((Chg.refl w.heap.size (w.heap.size + 1) _).setCell (.inl (by dsimp only; omega)) _) (by omega) (by omega))) ((Chg.refl (w.heap.size + 1) ((w.heap.size + 1) + 1) _).setCell (.inl (by dsimp only; omega)) _) (by omega) (by omega))) ((Chg.refl (w.heap.size + 1) ((w.heap.size + 1) + 1) _).setCell (.inl (by dsimp only; omega)) _) (by omega) (by omega))) (belowN (Below.refl _ _) 1))
  replace CC : Chg g (g + 1) w W9 := by rw [hW]; exact ((((((((((((((CC).setCell (.inr (by dsimp only; omega)) _)).setCell (.inr (by dsimp only; omega)) _)).setCell (.inr (by dsimp only; omega)) _)).setCell (.inr (by dsimp only; omega)) _)).setCell (.inr (by dsimp only; omega)) _)).setCell (.inr (by dsimp only; omega)) _)).drewN 1)
  replace r : Box W9 w.heap.size 25 #[.int .i64 gg, .int .i64 gb, .int .i64 gr, .int .i64 gc] := by rw [hW]; exact (((((((r).set_ 0 _).set_ 1 _).set_ 2 _).set_ 3 _).far (by dsimp only; omega) _).far (by dsimp only; omega) _).drewN 1
  replace u : Box W9 (w.heap.size + 1) 28 #[.int .i64 s, .slice (some ⟨g0, 0, none⟩) n c] := by rw [hW]; exact (((((((u).far (by dsimp only; omega) _).far (by dsimp only; omega) _).far (by dsimp only; omega) _).far (by dsimp only; omega) _).set_ 0 _).set_ 1 _).drewN 1
  replace q : Box W9 w1.heap.size 25 #[.int .i64 gg, .int .i64 gb, .int .i64 gr, .int .i64 gc] := by rw [hW]; exact (((((((q).far (by dsimp only; omega) _).far (by dsimp only; omega) _).far (by dsimp only; omega) _).far (by dsimp only; omega) _).far (by dsimp only; omega) _).far (by dsimp only; omega) _).drewN 1
  replace v : Box W9 (w1.heap.size + 1) 28 #[.int .i64 s, .slice (some ⟨g0, 0, none⟩) n c] := by rw [hW]; exact (((((((v).far (by dsimp only; omega) _).far (by dsimp only; omega) _).far (by dsimp only; omega) _).far (by dsimp only; omega) _).far (by dsimp only; omega) _).far (by dsimp only; omega) _).drewN 1
  replace o : OwnH W9 W.heap.size w1.heap.size (some ⟨g0, 0, none⟩) n c zs := by rw [hW]; exact (((((((o).setCell _ _ (by dsimp only; omega)).setCell _ _ (by dsimp only; omega)).setCell _ _ (by dsimp only; omega)).setCell _ _ (by dsimp only; omega)).setCell _ _ (by dsimp only; omega)).setCell _ _ (by dsimp only; omega)).drewN 1
  clear hW
  obtain ⟨z0, z1, z2, z3⟩ := r.c4
  obtain ⟨y0, y1⟩ := u.c2
  refine bodyPost_ret (v := .tuple #[.agg #[.int .i64 gg, .int .i64 gb, .int .i64 gr, .int .i64 gc], .agg #[.int .i64 s, .slice (some ⟨g0, 0, none⟩) n c]]) (by simp [results, Try.results67, go_sem, z0, z1, z2, z3, y0, y1]) rfl ?_
  exact ⟨_, _, _, _, _, _, _, _, _, hn1, hcap.1, hcap.2, hA0, rfl, o.ints, k, CC⟩
set_option maxHeartbeats 2000000 in
theorem drawSpareOk_c (A : Option Addr) (n c : Nat) (zs : List Int) (w : World) (hA : Bytes w A n zs) (hn : n ≤ maxLen) :
    Calls Try.prog 15 #[.slice A n c] w (NewSpD w) := by
  have bel : Below w.heap.size w w := Below.refl _ _
  go_enter Try.func15, Try.ntmps15
  go_wp2_with fail
  refine abs_call ?_
  intro W hW
  have szW : w.heap.size + 1 + 1 ≤ W.heap.size := by rw [hW]; simp [World.setCell]
  have szW_ := bel.size
  replace bel : Below w.heap.size w W := by rw [hW]; exact ((bel).alloc (by first | omega | (simp [World.setCell] <;> omega)) _).alloc (by first | omega | (simp [World.setCell] <;> omega)) _
  have r : Box W w.heap.size 25 #[.int .i64 0, .int .i64 0, .int .i64 0, .int .i64 0] := by rw [hW]; exact ((Box.newAt (by simp [World.setCell]))).alloc _
  have u : Box W (w.heap.size + 1) 28 #[.int .i64 0, .slice none 0 0] := by rw [hW]; exact (Box.newAt (by simp [World.setCell]))
  clear hW
  refine (l01New_c A n c zs _ (hA.below bel) hn).mono ?_
  rintro e w1 ⟨g, rfl, k1, b1⟩
  have szg := k1.lt
  have szw1 := b1.size
  replace bel := bel.trans (b1.mono bel.size)
  replace r := r.kept b1
  replace u := u.kept b1
  clear b1
  go_wp2_with fail
  refine (l17Any_c _ g _ k1).mono ?_
  rintro e w2 ⟨gg, gb, gr, gc, s, A2, n2, c2, zs2, hn2, hc2, hm2, hA2, rfl, i2, -, C2⟩
  have szw2 := C2.size
  replace bel := C2.below bel (by omega)
  replace r := r.chg C2 (by omega)
  replace u := u.chg C2 (by omega)
  clear C2
  obtain ⟨r_0, r_1, r_2, r_3⟩ := r.c4
  have r_lt := r.lt
  obtain ⟨u_0, u_1⟩ := u.c2
  have u_lt := u.lt
  have r_f := r.frozen
  have u_f := u.frozen
  go_wp2_with fail
  refine abs_body ?_
  intro W9 hW
  have C9 : Chg w.heap.size (w.heap.size + 2) w2 W9 := by rw [hW]; exact ((((((Chg.refl _ _ _).setCell (.inl (by dsimp only; omega)) _).setCell (.inl (by dsimp only; omega)) _).setCell (.inl (by dsimp only; omega)) _).setCell (.inl (by dsimp only; omega)) _).setCell (.inl (by dsimp only; omega)) _).setCell (.inl (by dsimp only; omega)) _
  have i9 : Ints W9 A2 n2 zs2 := Ints.chg i2 C9 (fun g' o e => by have := hA2 g' o e; right; omega)
  clear r_0 r_1 r_2 r_3 r_lt u_0 u_1 u_lt r_f u_f
  have szW9 : w2.heap.size ≤ W9.heap.size := by rw [hW]; simp [World.setCell]
  have szW9_ := bel.size
  replace bel : Below w.heap.size w W9 := by rw [hW]; exact ((((((bel).setCell (by dsimp only; omega) _).setCell (by dsimp only; omega) _).setCell (by dsimp only; omega) _).setCell (by dsimp only; omega) _).setCell (by dsimp only; omega) _).setCell (by dsimp only; omega) _
  replace r : Box W9 w.heap.size 25 #[.int .i64 gg, .int .i64 gb, .int .i64 gr, .int .i64 gc] := by rw [hW]; exact ((((((r).set_ 0 _).set_ 1 _).set_ 2 _).set_ 3 _).far (by dsimp only; omega) _).far (by dsimp only; omega) _
  replace u : Box W9 (w.heap.size + 1) 28 #[.int .i64 s, .slice A2 n2 c2] := by rw [hW]; exact ((((((u).far (by dsimp only; omega) _).far (by dsimp only; omega) _).far (by dsimp only; omega) _).far (by dsimp only; omega) _).set_ 0 _).set_ 1 _
  clear hW
  obtain ⟨z0, z1, z2, z3⟩ := r.c4
  obtain ⟨y0, y1⟩ := u.c2
  refine bodyPost_ret (v := .tuple #[.agg #[.int .i64 gg, .int .i64 gb, .int .i64 gr, .int .i64 gc], .agg #[.int .i64 s, .slice A2 n2 c2]]) (by simp [results, Try.results15, go_sem, z0, z1, z2, z3, y0, y1]) rfl ?_
  exact ⟨_, _, _, _, _, _, _, _, _, hn2, hc2, hm2, rfl, i9, bel⟩
end Go.Proofs.Ytbapamfomfbmmaa
