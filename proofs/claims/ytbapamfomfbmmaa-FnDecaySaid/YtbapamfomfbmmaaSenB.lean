/-
  Copies of arrays in the reference.
-/
import Derived.Test.YtbapamfomfbmmaaSenA
import Derived.Deep.DeepCutAuto
import Derived.Deep.RegionHeld3
namespace Go.Proofs.Ytbapamfomfbmmaa
open Go.RowKit
set_option linter.unusedSimpArgs false
set_option linter.unusedVariables false

theorem Chg.cellOld {lo hi : Nat} {w Y : World} {p : Addr} (h : Chg lo hi w Y) (hp : p.block < w.heap.size ∧ (p.block < lo ∨ hi ≤ p.block)) : Y.cell? p = w.cell? p := by
  have := h.block p.block hp.1 hp.2
  unfold World.cell?
  rw [this]
theorem cell_far {w : World} {p : Addr} {g i : Nat} {v : Value} (h : g ≠ p.block) : (w.setCell p v).cell? ⟨g, i, none⟩ = w.cell? ⟨g, i, none⟩ := by
  have := Below.heap_setCell w p v g h
  unfold World.cell?
  rw [this]
theorem bel_of_dd {w w' : World} (C : Below w.drew.heap.size w.drew w') : Below w.heap.size w w' := ⟨C.os, C.tape, C.output, C.size, C.block⟩
theorem below_nx {W X Y : World} (h : Below W.heap.size W X) (b : Below X.heap.size X Y) : Below W.heap.size W Y := h.trans (b.mono h.size)
theorem own_s3k {w : World} {lo hi n c u : Nat} {A : Option Addr} {zs : List Int} {a b e : Value} (h : OwnH w lo hi A n c zs) (hne : u < lo ∨ hi ≤ u) : OwnH (((w.setCell ⟨u, 0, none⟩ a).setCell ⟨u, 1, none⟩ b).setCell ⟨u, 2, none⟩ e) lo hi A n c zs := ((h.setCell _ _ hne).setCell _ _ hne).setCell _ _ hne
section
variable {w w' : World} {t : TypeId} {cs : Array Value} {o o2 : Obj}
theorem box_t1 (b : Below (w.alloc (.cells cs t)).heap.size (w.alloc (.cells cs t)) w') : Box w' w.heap.size t cs := (Box.new w t cs).kept b
theorem box_t2 (b : Below ((w.alloc (.cells cs t)).alloc o).heap.size ((w.alloc (.cells cs t)).alloc o) w') : Box w' w.heap.size t cs := ((Box.new w t cs).alloc o).kept b
theorem box_t3 (b : Below (((w.alloc (.cells cs t)).alloc o).alloc o2).heap.size (((w.alloc (.cells cs t)).alloc o).alloc o2) w') : Box w' w.heap.size t cs := (((Box.new w t cs).alloc o).alloc o2).kept b
theorem box_t1d (b : Below (w.alloc (.cells cs t)).drew.heap.size (w.alloc (.cells cs t)).drew w') : Box w' w.heap.size t cs := box_t1 (bel_of_dd b)
theorem box_t2d (b : Below ((w.alloc (.cells cs t)).alloc o).drew.heap.size ((w.alloc (.cells cs t)).alloc o).drew w') : Box w' w.heap.size t cs := box_t2 (bel_of_dd b)
theorem box_t3d (b : Below (((w.alloc (.cells cs t)).alloc o).alloc o2).drew.heap.size (((w.alloc (.cells cs t)).alloc o).alloc o2).drew w') : Box w' w.heap.size t cs := box_t3 (bel_of_dd b)
end
theorem OwnC'.nil (w : World) (lo hi : Nat) (A : Option Addr) : OwnC' w lo hi A 0 0 [] [] :=
  ⟨OwnCel.nil _ _ _ _, rfl, fun i h v a _ => by simp at a, fun i h a => by simp at a, fun i j h h' _ a _ => by simp at a⟩
set_option maxRecDepth 100000 in
set_option maxHeartbeats 16000000 in
theorem l14Copy_c (A : Option Addr) (n c : Nat) (B : Option Addr) (m d : Nat) (D : Option Addr) (p q : Nat) (vs : List CV) (ag ht : List Int) (w : World) (hA : Cs w A n vs) (hB : Ints w B m ag) (hD : Ints w D p ht) (hn : csz vs ≤ 1048576) (hm : m ≤ 1048576) (hp : p ≤ 1048576) :
    Calls Try.prog 107 #[.agg #[.slice A n c, .slice B m d, .slice D p q]] w (NewA vs ag ht w) := by
  have bel : Below w.heap.size w w := Below.refl _ _
  have hl := Lib.hid hA.len
  have hn1 : n ≤ 1048576 := by have := hA.len; have := csz_len vs; omega
  go_enter Try.func107, Try.ntmps107
  go_wp2_with fail
  refine abs_code ?_
  intro W hW
  have szW : w.heap.size + 1 + 1 ≤ W.heap.size := by rw [hW]; simp [World.setCell]
  have szW_ := bel.size
  replace bel : Below w.heap.size w W := by rw [hW]; exact ((bel).alloc (by first | omega | (simp [World.setCell] <;> omega)) _).alloc (by first | omega | (simp [World.setCell] <;> omega)) _
  have x : Box W w.heap.size 87 #[.slice A n c, .slice B m d, .slice D p q] := by rw [hW]; exact ((Box.newAt (by simp [World.setCell]))).alloc _
  have r : Box W (w.heap.size + 1) 87 #[.slice none 0 0, .slice none 0 0, .slice none 0 0] := by rw [hW]; exact (Box.newAt (by simp [World.setCell]))
  clear hW
  obtain ⟨x_0, x_1, x_2⟩ := x.c3
  have x_lt := x.lt
  have hIB : ∀ Y : World, Below W.heap.size W Y → Ints Y B m ag := fun Y hY => (hB.below bel).below hY
  have hID : ∀ Y : World, Below W.heap.size W Y → Ints Y D p ht := fun Y hY => (hD.below bel).below hY
  have hS : ∀ Y : World, Below W.heap.size W Y → (Y.cell? ⟨w.heap.size, 1, none⟩ = some (.slice B m d) ∧ Y.cell? ⟨w.heap.size, 2, none⟩ = some (.slice D p q)) := fun Y hY => ⟨(hY.cell (p := ⟨w.heap.size, 1, none⟩) x_lt).trans x_1, (hY.cell (p := ⟨w.heap.size, 2, none⟩) x_lt).trans x_2⟩
  go_cut [3] (fun s3 wx => ∃ (u : Nat) (A1 : Option Addr) (c1 : Nat) (A2 : Option Addr) (c2 l1 h1 l2 h2 : Nat), s3 = .pointer (some ⟨u, 0, none⟩) ∧ Box wx u 87 #[.slice none 0 0, .slice A1 m c1, .slice A2 p c2] ∧ OwnH wx l1 h1 A1 m c1 ag ∧ OwnH wx l2 h2 A2 p c2 ht ∧ (W.heap.size ≤ u ∧ W.heap.size ≤ l1 ∧ W.heap.size ≤ l2 ∧ h1 ≤ wx.heap.size ∧ h2 ≤ wx.heap.size ∧ (u < l1 ∨ h1 ≤ u) ∧ (u < l2 ∨ h2 ≤ u) ∧ (h1 ≤ l2 ∨ h2 ≤ l1)) ∧ Below W.heap.size W wx)
  case first =>
    go_region_held3 (fun Y => Y.cell? ⟨w.heap.size, 1, none⟩ = some (.slice B m d) ∧ Y.cell? ⟨w.heap.size, 2, none⟩ = some (.slice D p q))
      (first | (refine hS _ ?_; (repeat (first | with_reducible exact Below.refl _ _ | with_reducible exact hbtA | with_reducible exact hbtB | with_reducible refine lat_d ?_ | with_reducible refine lat_a ?_ | with_reducible refine lat_s3 ?_ ?_)); (try omega); done) | fail)
      (first
       | (refine step_copyI (by rfl) (.tmp 5) (.tmp 7) 26 (by rfl) Try.underlying26 infoInt _ _ (by rfl) B m d ag (by rfl) (hIB _ (by (repeat (first | with_reducible exact Below.refl _ _ | with_reducible exact hbtA | with_reducible exact hbtB | with_reducible refine lat_d ?_ | with_reducible refine lat_a ?_)))) (by omega) (Nat.le_refl _) ?_; intro R1 k1 w1 o1 bbA at1; have hbtA : Below W.heap.size W w1 := below_nx (by (repeat (first | with_reducible exact Below.refl _ _ | with_reducible exact hbtA | with_reducible exact hbtB | with_reducible refine lat_d ?_ | with_reducible refine lat_a ?_))) bbA; have r1 := OwnH.mk' o1; have s1 := bbA.size; (try simp only [World.size_alloc, World.size_drew] at r1); (try simp only [World.size_alloc, World.size_drew] at s1); (first | (replace r2 := r2.below (below_nx (by (repeat (first | with_reducible exact Below.refl _ _ | with_reducible refine lat_d ?_ | with_reducible refine lat_a ?_))) bbA)) | skip); (first | (replace bx := bx.kept (below_nx (by (repeat (first | with_reducible exact Below.refl _ _ | with_reducible refine lat_d ?_ | with_reducible refine lat_a ?_))) bbA)) | (have bx := box_t1 (t := 87) (cs := #[.slice none 0 0, .slice none 0 0, .slice none 0 0]) bbA) | (have bx := box_t2 (t := 87) (cs := #[.slice none 0 0, .slice none 0 0, .slice none 0 0]) bbA) | (have bx := box_t3 (t := 87) (cs := #[.slice none 0 0, .slice none 0 0, .slice none 0 0]) bbA) | (have bx := box_t1d (t := 87) (cs := #[.slice none 0 0, .slice none 0 0, .slice none 0 0]) bbA) | (have bx := box_t2d (t := 87) (cs := #[.slice none 0 0, .slice none 0 0, .slice none 0 0]) bbA) | (have bx := box_t3d (t := 87) (cs := #[.slice none 0 0, .slice none 0 0, .slice none 0 0]) bbA) | skip); (try simp only [World.size_alloc, World.size_drew] at bx); (try (obtain ⟨bx_0, bx_1, bx_2⟩ := bx.c3; have bxf := bx.frozen; have bxl := bx.lt)))
       | (refine step_copyI (by rfl) (.tmp 9) (.tmp 11) 26 (by rfl) Try.underlying26 infoInt _ _ (by rfl) D p q ht (by rfl) (hID _ (by (repeat (first | with_reducible exact Below.refl _ _ | with_reducible exact hbtA | with_reducible exact hbtB | with_reducible refine lat_d ?_ | with_reducible refine lat_a ?_)))) (by omega) (Nat.le_refl _) ?_; intro R2 k2 w2 o2 bbB at2; have hbtB : Below W.heap.size W w2 := below_nx (by (repeat (first | with_reducible exact Below.refl _ _ | with_reducible exact hbtA | with_reducible exact hbtB | with_reducible refine lat_d ?_ | with_reducible refine lat_a ?_))) bbB; have r2 := OwnH.mk' o2; have s2 := bbB.size; (try simp only [World.size_alloc, World.size_drew] at r2); (try simp only [World.size_alloc, World.size_drew] at s2); (first | (replace r1 := r1.below (below_nx (by (repeat (first | with_reducible exact Below.refl _ _ | with_reducible refine lat_d ?_ | with_reducible refine lat_a ?_))) bbB)) | skip); (first | (replace bx := bx.kept (below_nx (by (repeat (first | with_reducible exact Below.refl _ _ | with_reducible refine lat_d ?_ | with_reducible refine lat_a ?_))) bbB)) | (have bx := box_t1 (t := 87) (cs := #[.slice none 0 0, .slice none 0 0, .slice none 0 0]) bbB) | (have bx := box_t2 (t := 87) (cs := #[.slice none 0 0, .slice none 0 0, .slice none 0 0]) bbB) | (have bx := box_t3 (t := 87) (cs := #[.slice none 0 0, .slice none 0 0, .slice none 0 0]) bbB) | (have bx := box_t1d (t := 87) (cs := #[.slice none 0 0, .slice none 0 0, .slice none 0 0]) bbB) | (have bx := box_t2d (t := 87) (cs := #[.slice none 0 0, .slice none 0 0, .slice none 0 0]) bbB) | (have bx := box_t3d (t := 87) (cs := #[.slice none 0 0, .slice none 0 0, .slice none 0 0]) bbB) | skip); (try simp only [World.size_alloc, World.size_drew] at bx); (try (obtain ⟨bx_0, bx_1, bx_2⟩ := bx.c3; have bxf := bx.frozen; have bxl := bx.lt)))
       | fail)
    all_goals
      go_wp2_with fail
      go_meet
    all_goals
      first
      | (refine ⟨_, R1, k1, R2, k2, _, _, _, _, rfl, Box.new _ _ _, r1.alloc _, r2.alloc _, ?_, lat_a ?_⟩)
      | (refine ⟨_, R1, k1, R2, k2, _, _, _, _, rfl, box_s3 bx, own_s3k r1 ?_, own_s3k r2 ?_, ?_, lat_s3 ?_ ?_⟩)
    all_goals (first | omega | (with_reducible exact hbtB) | (with_reducible exact hbtA) | (simp only [World.size_alloc, World.size_setCell]; omega))
  case rest =>
    obtain ⟨u, A1, c1, A2, c2, l1, h1, l2, h2, rfl, y, r1, r2, ⟨u1, u2, u3, u4, u5, u6, u7, u8⟩, bq⟩ := hcut
    obtain ⟨Wc, hWc⟩ : ∃ v : World, v = wc := ⟨_, rfl⟩
    subst hWc
    clear hS hIB hID
    have szu : u < Wc.heap.size := y.lt
    clear x_0 x_1 x_2 x_lt
    have szWc := bq.size
    replace bel := bel.trans (bq.mono bel.size)
    replace x := x.kept bq
    replace r := r.kept bq
    clear bq
    obtain ⟨x_0, x_1, x_2⟩ := x.c3
    have x_lt := x.lt
    go_wp2_with fail
    clear x_0 x_1 x_2 x_lt
    go_loopw [4] (fun i wr => ∃ (j : Nat) (Ac : Option Addr) (cc : Nat) (hs : List Cel), j ≤ n ∧ i = .int .i64 j ∧ Below w.heap.size w wr ∧ Box wr w.heap.size 87 #[.slice A n c, .slice B m d, .slice D p q] ∧ Box wr (w.heap.size + 1) 87 #[.slice none 0 0, .slice none 0 0, .slice none 0 0] ∧ Box wr u 87 #[.slice Ac j cc, .slice A1 m c1, .slice A2 p c2] ∧ OwnC' wr Wc.heap.size wr.heap.size Ac j cc hs (vs.take j) ∧ OwnH wr l1 h1 A1 m c1 ag ∧ OwnH wr l2 h2 A2 p c2 ht ∧ Wc.heap.size ≤ wr.heap.size) (fun i _ => n - (intOf i).toNat)
    case atStart => exact ⟨0, none, 0, [], Nat.zero_le _, rfl, bel, x, r, y, OwnC'.nil _ _ _ _, r1, r2, Nat.le_refl _⟩
    case round =>
      clear bel x r y r1 r2
      obtain ⟨j, Ac, cc, hs, hj, rfl, bel, x, r, y, HC, r1, r2, szr⟩ := hrel
      have xlt := x.lt
      have rlt := r.lt
      by_cases hlt : j < n
      · obtain ⟨g, o, sa, sn, sc, zs, psn, rfl, hg0, -, -, -, hv⟩ := hA.at_ hlt
        obtain ⟨g', o', sa', sn', sc', zs', psn', eA, hg, h0, h1', hI, hv'⟩ := (hA.below bel).at_ hlt
        injection eA with eA
        injection eA with e1 e2
        subst e1 e2
        have ev := hv.out.symm.trans hv'.out
        injection ev with ev
        injection ev with ev1 ev2
        subst ev1 ev2
        have HT : Hid (vs.take (j + 1) = vs.take j ++ [(zs, psn)]) := by obtain ⟨hj', e⟩ := List.getElem?_eq_some_iff.1 hv.out; unfold Hid; rw [List.take_succ_eq_append_getElem hj', e]
        have hsn : sn' ≤ 1048576 := by have := hI.1; have := csz_take hv.out; have := csz_le vs (j + 1); dsimp only at *; omega
        have i0 : (0 : Int) ≤ (j : Int) := by omega
        have i1 : (j : Int) < (n : Int) := by omega
        clear hv hv'
        obtain ⟨x_0, x_1, x_2⟩ := x.c3
        have x_lt := x.lt
        go_wp2_with fail
        have hS : ∀ Y : World, Chg Wc.heap.size wr.heap.size wr Y → ( Y.cell? ⟨w.heap.size, 0, none⟩ = some (.slice (some ⟨g, o, none⟩) n c) ∧ Y.cell? ⟨g, o + j * 2, none⟩ = some (.slice sa' sn' sc') ∧ Y.cell? ⟨g, o + j * 2 + 1, none⟩ = some (.bool psn)) := fun Y hY => by
          obtain ⟨q0, -, -⟩ := (x.chg hY (by omega)).c3
          exact ⟨q0, (hY.cellOld (by dsimp only; omega)).trans h0, (hY.cellOld (by dsimp only; omega)).trans h1'⟩
        obtain ⟨y_0, y_1, y_2⟩ := y.c3
        have y_lt := y.lt
        go_wp2_with fail
        refine wp_region_noPanic ?_
        refine wp_region_held_drew (S := (fun Y => Y.cell? ⟨w.heap.size, 0, none⟩ = some (.slice (some ⟨g, o, none⟩) n c) ∧ Y.cell? ⟨g, o + j * 2, none⟩ = some (.slice sa' sn' sc') ∧ Y.cell? ⟨g, o + j * 2 + 1, none⟩ = some (.bool psn))) (by kernel_rfl) (by exact hS _ ((Chg.refl _ _ _).drewN 1)) (fun hHeld => ?_)
        refine wpAnyH_take (i := 0) (oi := _) (v := ?_) rfl (by kernel_rfl) (by kernel_rfl) (by kernel_rfl) (fun _ _ _ h => h) (Or.inl ⟨by kernel_rfl, ?_⟩) (by assumption) ?_
        rotate_left 1
        focus (intro w hSw; (try dsimp only at hSw); go_simp; try with_reducible rfl)
        try simp only [Act.put, List.setIfInBounds_toArray, List.set_cons_zero, List.set_cons_succ]
        refine wpAnyH_take (i := 2) (oi := _) (v := ?_) rfl (by kernel_rfl) (by kernel_rfl) (by kernel_rfl) (fun _ _ _ h => h) (Or.inl ⟨by kernel_rfl, ?_⟩) (by assumption) ?_
        rotate_left 1
        focus (intro w hSw; (try dsimp only at hSw); go_simp; try with_reducible rfl)
        try simp only [Act.put, List.setIfInBounds_toArray, List.set_cons_zero, List.set_cons_succ]
        refine wpAnyH_take (i := 3) (oi := _) (v := ?_) rfl (by kernel_rfl) (by kernel_rfl) (by kernel_rfl) (fun _ _ _ h => h) (Or.inl ⟨by kernel_rfl, ?_⟩) (by assumption) ?_
        rotate_left 1
        focus (intro w hSw; (try dsimp only at hSw); go_simp; try with_reducible rfl)
        try simp only [Act.put, List.setIfInBounds_toArray, List.set_cons_zero, List.set_cons_succ]
        refine wpAnyH_take (i := 4) (oi := _) (v := ?_) rfl (by kernel_rfl) (by kernel_rfl) (by kernel_rfl) (fun _ _ _ h => h) (Or.inl ⟨by kernel_rfl, ?_⟩) (by assumption) ?_
        rotate_left 1
        focus (intro w hSw; (try dsimp only at hSw); go_simp; try with_reducible rfl)
        try simp only [Act.put, List.setIfInBounds_toArray, List.set_cons_zero, List.set_cons_succ]
        refine wpAnyH_take (i := 5) (oi := _) (v := ?_) rfl (by kernel_rfl) (by kernel_rfl) (by kernel_rfl) (fun _ _ _ h => h) (Or.inl ⟨by kernel_rfl, ?_⟩) (by assumption) ?_
        rotate_left 1
        focus (intro w hSw; (try dsimp only at hSw); go_simp; try with_reducible rfl)
        try simp only [Act.put, List.setIfInBounds_toArray, List.set_cons_zero, List.set_cons_succ]
        refine wpAnyH_take (i := 6) (oi := _) (v := ?_) rfl (by kernel_rfl) (by kernel_rfl) (by kernel_rfl) (fun _ _ _ h => h) (Or.inl ⟨by kernel_rfl, ?_⟩) (by assumption) ?_
        rotate_left 1
        focus (intro w hSw; (try dsimp only at hSw); go_simp; try with_reducible rfl)
        try simp only [Act.put, List.setIfInBounds_toArray, List.set_cons_zero, List.set_cons_succ]
        refine wpAnyH_ready (rs := [1, 7]) (by kernel_rfl) (by simp) ?_
        refine AllReadyH.cons (o := _) rfl (fun K hK => ?_) ?_
        · go_simp
          refine hK.out _ _ ?_ (fun hNew => ?_)
          focus ((try dsimp only); exact hHeld)
          clear hK K hHeld
          have hHeld := hNew
          clear hNew
          try simp only [Act.put, List.setIfInBounds_toArray, List.set_cons_zero, List.set_cons_succ]
          refine wpAnyH_ready (rs := [7]) (by kernel_rfl) (by simp) ?_
          refine AllReadyH.cons (o := _) rfl (fun K hK => ?_) ?_
          rotate_left 1
          focus (exact AllReadyH.nil)
          go_simp
          refine (l14Cell_c sa' sn' sc' zs psn _ (by exact hI) hsn).mono ?_
          rintro e wa ⟨A2', n2, c2', rfl, oa, ba'⟩
          have ba := bel_of_dd ba'
          have ya := y.kept ba
          have szya := ba.size
          obtain ⟨ya_0, ya_1, ya_2⟩ := ya.c3
          have Fr := HC.fresh (Nat.le_refl _) oa
          have Ha := (HC.below ba).mono (Nat.le_refl _) ba.size
          have Ca : Chg Wc.heap.size wr.heap.size wr wa := Chg.of_below ba
          have iya : (wa.alloc (.cells #[.slice A2' n2 c2', .bool psn] 104)).cell? ⟨u, 0, none⟩ = some (.slice Ac j cc) := (ya.alloc _).c3.1
          go_wp2_with fail
          refine hK.out _ _ ?_ (fun hNew => ?_)
          focus ((try dsimp only); exact hS _ Ca)
          clear hK K hHeld
          have hHeld := hNew
          clear hNew
          try simp only [Act.put, List.setIfInBounds_toArray, List.set_cons_zero, List.set_cons_succ]
          refine wpAnyH_ready (rs := [8]) (by kernel_rfl) (by simp) ?_
          refine AllReadyH.cons (o := _) rfl (fun K hK => ?_) ?_
          rotate_left 1
          focus (exact AllReadyH.nil)
          go_simp
          refine hK.out _ _ ?_ (fun hNew => ?_)
          focus ((try dsimp only); exact hS _ (Ca.alloc _))
          clear hK K hHeld
          have hHeld := hNew
          clear hNew
          try simp only [Act.put, List.setIfInBounds_toArray, List.set_cons_zero, List.set_cons_succ]
          refine wpAnyH_ready (rs := [9]) (by kernel_rfl) (by simp) ?_
          refine AllReadyH.cons (o := _) rfl (fun K hK => ?_) ?_
          rotate_left 1
          focus (exact AllReadyH.nil)
          refine step_appCel1 (by rfl) (.tmp 22) (.tmp 29) 85 (by rfl) Try.underlying85 infoCel Ac j cc Wc.heap.size hs (by rfl) (Ha.out.1.alloc _) wa.heap.size ⟨A2', n2, c2', psn⟩ (by rfl) (Box.new _ _ _) (by omega) (by simp; omega) ?_
          intro A3 c3 w3 o3 g3 at3
          have Cg : Chg Wc.heap.size wr.heap.size (wa.alloc (.cells #[.slice A2' n2 c2', .bool psn] 104)) w3 := Chg.of_grown g3 (fun k hk => ⟨(HC.out.1.lt k hk).1, HC.out.2 k hk⟩)
          have C3 := (Ca.alloc (.cells #[.slice A2' n2 c2', .bool psn] 104)).trans Cg
          have y3 := y.chg C3 (by omega)
          obtain ⟨y3_0, y3_1, y3_2⟩ := y3.c3
          have y3f := y3.frozen
          have y3l := y3.lt
          have szc3 := C3.size
          refine hK.out _ _ ?_ (fun hNew => ?_)
          focus ((try dsimp only); exact hS _ C3)
          clear hK K hHeld
          have hHeld := hNew
          clear hNew
          try simp only [Act.put, List.setIfInBounds_toArray, List.set_cons_zero, List.set_cons_succ]
          have HP := (Ha.mono (Nat.le_refl _) (Nat.le_refl _) : OwnC' wa Wc.heap.size wa.heap.size Ac j cc hs (vs.take j))
          have HX : OwnC' (wa.alloc (.cells #[.slice A2' n2 c2', .bool psn] 104)) Wc.heap.size wa.heap.size Ac j cc hs (vs.take j) := HP.below ((Below.refl _ _).alloc (Nat.le_refl _) _)
          have oX := (oa.mono (show Wc.heap.size ≤ wr.heap.size by omega) (Nat.le_refl _)).alloc (.cells #[.slice A2' n2 c2', .bool psn] 104)
          have HY := HX.push (by simp) ⟨A2', n2, c2', psn⟩ (zs, psn) rfl oX Fr.1 Fr.2 o3 g3 at3
          rw [← HT.out] at HY
          have HS9 : ( (w3.setCell ⟨u, 0, none⟩ (.slice A3 (j + 1) c3)).cell? ⟨w.heap.size, 0, none⟩ = some (.slice (some ⟨g, o, none⟩) n c) ∧ (w3.setCell ⟨u, 0, none⟩ (.slice A3 (j + 1) c3)).cell? ⟨g, o + j * 2, none⟩ = some (.slice sa' sn' sc') ∧ (w3.setCell ⟨u, 0, none⟩ (.slice A3 (j + 1) c3)).cell? ⟨g, o + j * 2 + 1, none⟩ = some (.bool psn))  := by
            obtain ⟨q0, q1, q2⟩ := hS _ C3
            refine ⟨((x.chg C3 (by omega)).far (by dsimp only; omega) _).c3.1, ?_, ?_⟩
            · rw [cell_far (by dsimp only; omega)]; exact q1
            · rw [cell_far (by dsimp only; omega)]; exact q2
          refine wpAnyH_take (i := 10) (oi := _) (v := ?_) rfl (by kernel_rfl) (by kernel_rfl) (by kernel_rfl) (fun _ _ _ h => h) (Or.inl ⟨by kernel_rfl, ?_⟩) (by assumption) ?_
          rotate_left 1
          focus (intro w hSw; (try dsimp only at hSw); go_simp; try with_reducible rfl)
          try simp only [Act.put, List.setIfInBounds_toArray, List.set_cons_zero, List.set_cons_succ]
          refine wpAnyH_ready (rs := [11]) (by kernel_rfl) (by simp) ?_
          refine AllReadyH.cons (o := _) rfl (fun K hK => ?_) ?_
          rotate_left 1
          focus (exact AllReadyH.nil)
          go_simp
          refine hK.out _ _ ?_ (fun hNew => ?_)
          focus ((try dsimp only); exact HS9)
          clear hK K hHeld
          have hHeld := hNew
          clear hNew
          try simp only [Act.put, List.setIfInBounds_toArray, List.set_cons_zero, List.set_cons_succ]
          refine wpAnyH_done (by kernel_rfl) ?_ _
          refine NoPanic.normal ?_
          have b9 : Below w.heap.size w (w3.setCell ⟨u, 0, none⟩ (.slice A3 (j + 1) c3)) := (C3.below bel (by omega)).setCell (by dsimp only; omega) _
          go_wp2
          go_roundw
          case rel => exact ⟨j + 1, A3, c3, _, by omega, by go_num, b9, (x.chg C3 (by omega)).far (by dsimp only; omega) _, (r.chg C3 (by omega)).far (by dsimp only; omega) _, y3.set_ 0 _, (HY.setOut _ _ (.inl (by dsimp only; omega))).mono (Nat.le_refl _) (by simp [World.setCell]), (r1.chg C3 (by omega)).setCell _ _ (by dsimp only; omega), (r2.chg C3 (by omega)).setCell _ _ (by dsimp only; omega), by simp only [World.size_setCell]; omega⟩
          case measure => simp [intOf]; omega
        refine AllReadyH.cons (o := _) rfl (fun K hK => ?_) ?_
        · go_simp
          refine (l14Cell_c sa' sn' sc' zs psn _ (by exact hI) hsn).mono ?_
          rintro e wa ⟨A2', n2, c2', rfl, oa, ba'⟩
          have ba := bel_of_dd ba'
          have ya := y.kept ba
          have szya := ba.size
          obtain ⟨ya_0, ya_1, ya_2⟩ := ya.c3
          have Fr := HC.fresh (Nat.le_refl _) oa
          have Ha := (HC.below ba).mono (Nat.le_refl _) ba.size
          have Ca : Chg Wc.heap.size wr.heap.size wr wa := Chg.of_below ba
          have iya : (wa.alloc (.cells #[.slice A2' n2 c2', .bool psn] 104)).cell? ⟨u, 0, none⟩ = some (.slice Ac j cc) := (ya.alloc _).c3.1
          go_wp2_with fail
          refine hK.out _ _ ?_ (fun hNew => ?_)
          focus ((try dsimp only); exact hS _ Ca)
          clear hK K hHeld
          have hHeld := hNew
          clear hNew
          try simp only [Act.put, List.setIfInBounds_toArray, List.set_cons_zero, List.set_cons_succ]
          refine wpAnyH_ready (rs := [1, 8]) (by kernel_rfl) (by simp) ?_
          refine AllReadyH.cons (o := _) rfl (fun K hK => ?_) ?_
          · go_simp
            refine hK.out _ _ ?_ (fun hNew => ?_)
            focus ((try dsimp only); exact hHeld)
            clear hK K hHeld
            have hHeld := hNew
            clear hNew
            try simp only [Act.put, List.setIfInBounds_toArray, List.set_cons_zero, List.set_cons_succ]
            refine wpAnyH_ready (rs := [8]) (by kernel_rfl) (by simp) ?_
            refine AllReadyH.cons (o := _) rfl (fun K hK => ?_) ?_
            rotate_left 1
            focus (exact AllReadyH.nil)
            go_simp
            refine hK.out _ _ ?_ (fun hNew => ?_)
            focus ((try dsimp only); exact hS _ (Ca.alloc _))
            clear hK K hHeld
            have hHeld := hNew
            clear hNew
            try simp only [Act.put, List.setIfInBounds_toArray, List.set_cons_zero, List.set_cons_succ]
            refine wpAnyH_ready (rs := [9]) (by kernel_rfl) (by simp) ?_
            refine AllReadyH.cons (o := _) rfl (fun K hK => ?_) ?_
            rotate_left 1
            focus (exact AllReadyH.nil)
            refine step_appCel1 (by rfl) (.tmp 22) (.tmp 29) 85 (by rfl) Try.underlying85 infoCel Ac j cc Wc.heap.size hs (by rfl) (Ha.out.1.alloc _) wa.heap.size ⟨A2', n2, c2', psn⟩ (by rfl) (Box.new _ _ _) (by omega) (by simp; omega) ?_
            intro A3 c3 w3 o3 g3 at3
            have Cg : Chg Wc.heap.size wr.heap.size (wa.alloc (.cells #[.slice A2' n2 c2', .bool psn] 104)) w3 := Chg.of_grown g3 (fun k hk => ⟨(HC.out.1.lt k hk).1, HC.out.2 k hk⟩)
            have C3 := (Ca.alloc (.cells #[.slice A2' n2 c2', .bool psn] 104)).trans Cg
            have y3 := y.chg C3 (by omega)
            obtain ⟨y3_0, y3_1, y3_2⟩ := y3.c3
            have y3f := y3.frozen
            have y3l := y3.lt
            have szc3 := C3.size
            refine hK.out _ _ ?_ (fun hNew => ?_)
            focus ((try dsimp only); exact hS _ C3)
            clear hK K hHeld
            have hHeld := hNew
            clear hNew
            try simp only [Act.put, List.setIfInBounds_toArray, List.set_cons_zero, List.set_cons_succ]
            have HP := (Ha.mono (Nat.le_refl _) (Nat.le_refl _) : OwnC' wa Wc.heap.size wa.heap.size Ac j cc hs (vs.take j))
            have HX : OwnC' (wa.alloc (.cells #[.slice A2' n2 c2', .bool psn] 104)) Wc.heap.size wa.heap.size Ac j cc hs (vs.take j) := HP.below ((Below.refl _ _).alloc (Nat.le_refl _) _)
            have oX := (oa.mono (show Wc.heap.size ≤ wr.heap.size by omega) (Nat.le_refl _)).alloc (.cells #[.slice A2' n2 c2', .bool psn] 104)
            have HY := HX.push (by simp) ⟨A2', n2, c2', psn⟩ (zs, psn) rfl oX Fr.1 Fr.2 o3 g3 at3
            rw [← HT.out] at HY
            have HS9 : ( (w3.setCell ⟨u, 0, none⟩ (.slice A3 (j + 1) c3)).cell? ⟨w.heap.size, 0, none⟩ = some (.slice (some ⟨g, o, none⟩) n c) ∧ (w3.setCell ⟨u, 0, none⟩ (.slice A3 (j + 1) c3)).cell? ⟨g, o + j * 2, none⟩ = some (.slice sa' sn' sc') ∧ (w3.setCell ⟨u, 0, none⟩ (.slice A3 (j + 1) c3)).cell? ⟨g, o + j * 2 + 1, none⟩ = some (.bool psn))  := by
              obtain ⟨q0, q1, q2⟩ := hS _ C3
              refine ⟨((x.chg C3 (by omega)).far (by dsimp only; omega) _).c3.1, ?_, ?_⟩
              · rw [cell_far (by dsimp only; omega)]; exact q1
              · rw [cell_far (by dsimp only; omega)]; exact q2
            refine wpAnyH_take (i := 10) (oi := _) (v := ?_) rfl (by kernel_rfl) (by kernel_rfl) (by kernel_rfl) (fun _ _ _ h => h) (Or.inl ⟨by kernel_rfl, ?_⟩) (by assumption) ?_
            rotate_left 1
            focus (intro w hSw; (try dsimp only at hSw); go_simp; try with_reducible rfl)
            try simp only [Act.put, List.setIfInBounds_toArray, List.set_cons_zero, List.set_cons_succ]
            refine wpAnyH_ready (rs := [11]) (by kernel_rfl) (by simp) ?_
            refine AllReadyH.cons (o := _) rfl (fun K hK => ?_) ?_
            rotate_left 1
            focus (exact AllReadyH.nil)
            go_simp
            refine hK.out _ _ ?_ (fun hNew => ?_)
            focus ((try dsimp only); exact HS9)
            clear hK K hHeld
            have hHeld := hNew
            clear hNew
            try simp only [Act.put, List.setIfInBounds_toArray, List.set_cons_zero, List.set_cons_succ]
            refine wpAnyH_done (by kernel_rfl) ?_ _
            refine NoPanic.normal ?_
            have b9 : Below w.heap.size w (w3.setCell ⟨u, 0, none⟩ (.slice A3 (j + 1) c3)) := (C3.below bel (by omega)).setCell (by dsimp only; omega) _
            go_wp2
            go_roundw
            case rel => exact ⟨j + 1, A3, c3, _, by omega, by go_num, b9, (x.chg C3 (by omega)).far (by dsimp only; omega) _, (r.chg C3 (by omega)).far (by dsimp only; omega) _, y3.set_ 0 _, (HY.setOut _ _ (.inl (by dsimp only; omega))).mono (Nat.le_refl _) (by simp [World.setCell]), (r1.chg C3 (by omega)).setCell _ _ (by dsimp only; omega), (r2.chg C3 (by omega)).setCell _ _ (by dsimp only; omega), by simp only [World.size_setCell]; omega⟩
            case measure => simp [intOf]; omega
          refine AllReadyH.cons (o := _) rfl (fun K hK => ?_) ?_
          · go_simp
            refine hK.out _ _ ?_ (fun hNew => ?_)
            focus ((try dsimp only); exact hS _ (Ca.alloc _))
            clear hK K hHeld
            have hHeld := hNew
            clear hNew
            try simp only [Act.put, List.setIfInBounds_toArray, List.set_cons_zero, List.set_cons_succ]
            refine wpAnyH_ready (rs := [1]) (by kernel_rfl) (by simp) ?_
            refine AllReadyH.cons (o := _) rfl (fun K hK => ?_) ?_
            rotate_left 1
            focus (exact AllReadyH.nil)
            go_simp
            refine hK.out _ _ ?_ (fun hNew => ?_)
            focus ((try dsimp only); exact hHeld)
            clear hK K hHeld
            have hHeld := hNew
            clear hNew
            try simp only [Act.put, List.setIfInBounds_toArray, List.set_cons_zero, List.set_cons_succ]
            refine wpAnyH_ready (rs := [9]) (by kernel_rfl) (by simp) ?_
            refine AllReadyH.cons (o := _) rfl (fun K hK => ?_) ?_
            rotate_left 1
            focus (exact AllReadyH.nil)
            refine step_appCel1 (by rfl) (.tmp 22) (.tmp 29) 85 (by rfl) Try.underlying85 infoCel Ac j cc Wc.heap.size hs (by rfl) (Ha.out.1.alloc _) wa.heap.size ⟨A2', n2, c2', psn⟩ (by rfl) (Box.new _ _ _) (by omega) (by simp; omega) ?_
            intro A3 c3 w3 o3 g3 at3
            have Cg : Chg Wc.heap.size wr.heap.size (wa.alloc (.cells #[.slice A2' n2 c2', .bool psn] 104)) w3 := Chg.of_grown g3 (fun k hk => ⟨(HC.out.1.lt k hk).1, HC.out.2 k hk⟩)
            have C3 := (Ca.alloc (.cells #[.slice A2' n2 c2', .bool psn] 104)).trans Cg
            have y3 := y.chg C3 (by omega)
            obtain ⟨y3_0, y3_1, y3_2⟩ := y3.c3
            have y3f := y3.frozen
            have y3l := y3.lt
            have szc3 := C3.size
            refine hK.out _ _ ?_ (fun hNew => ?_)
            focus ((try dsimp only); exact hS _ C3)
            clear hK K hHeld
            have hHeld := hNew
            clear hNew
            try simp only [Act.put, List.setIfInBounds_toArray, List.set_cons_zero, List.set_cons_succ]
            have HP := (Ha.mono (Nat.le_refl _) (Nat.le_refl _) : OwnC' wa Wc.heap.size wa.heap.size Ac j cc hs (vs.take j))
            have HX : OwnC' (wa.alloc (.cells #[.slice A2' n2 c2', .bool psn] 104)) Wc.heap.size wa.heap.size Ac j cc hs (vs.take j) := HP.below ((Below.refl _ _).alloc (Nat.le_refl _) _)
            have oX := (oa.mono (show Wc.heap.size ≤ wr.heap.size by omega) (Nat.le_refl _)).alloc (.cells #[.slice A2' n2 c2', .bool psn] 104)
            have HY := HX.push (by simp) ⟨A2', n2, c2', psn⟩ (zs, psn) rfl oX Fr.1 Fr.2 o3 g3 at3
            rw [← HT.out] at HY
            have HS9 : ( (w3.setCell ⟨u, 0, none⟩ (.slice A3 (j + 1) c3)).cell? ⟨w.heap.size, 0, none⟩ = some (.slice (some ⟨g, o, none⟩) n c) ∧ (w3.setCell ⟨u, 0, none⟩ (.slice A3 (j + 1) c3)).cell? ⟨g, o + j * 2, none⟩ = some (.slice sa' sn' sc') ∧ (w3.setCell ⟨u, 0, none⟩ (.slice A3 (j + 1) c3)).cell? ⟨g, o + j * 2 + 1, none⟩ = some (.bool psn))  := by
              obtain ⟨q0, q1, q2⟩ := hS _ C3
              refine ⟨((x.chg C3 (by omega)).far (by dsimp only; omega) _).c3.1, ?_, ?_⟩
              · rw [cell_far (by dsimp only; omega)]; exact q1
              · rw [cell_far (by dsimp only; omega)]; exact q2
            refine wpAnyH_take (i := 10) (oi := _) (v := ?_) rfl (by kernel_rfl) (by kernel_rfl) (by kernel_rfl) (fun _ _ _ h => h) (Or.inl ⟨by kernel_rfl, ?_⟩) (by assumption) ?_
            rotate_left 1
            focus (intro w hSw; (try dsimp only at hSw); go_simp; try with_reducible rfl)
            try simp only [Act.put, List.setIfInBounds_toArray, List.set_cons_zero, List.set_cons_succ]
            refine wpAnyH_ready (rs := [11]) (by kernel_rfl) (by simp) ?_
            refine AllReadyH.cons (o := _) rfl (fun K hK => ?_) ?_
            rotate_left 1
            focus (exact AllReadyH.nil)
            go_simp
            refine hK.out _ _ ?_ (fun hNew => ?_)
            focus ((try dsimp only); exact HS9)
            clear hK K hHeld
            have hHeld := hNew
            clear hNew
            try simp only [Act.put, List.setIfInBounds_toArray, List.set_cons_zero, List.set_cons_succ]
            refine wpAnyH_done (by kernel_rfl) ?_ _
            refine NoPanic.normal ?_
            have b9 : Below w.heap.size w (w3.setCell ⟨u, 0, none⟩ (.slice A3 (j + 1) c3)) := (C3.below bel (by omega)).setCell (by dsimp only; omega) _
            go_wp2
            go_roundw
            case rel => exact ⟨j + 1, A3, c3, _, by omega, by go_num, b9, (x.chg C3 (by omega)).far (by dsimp only; omega) _, (r.chg C3 (by omega)).far (by dsimp only; omega) _, y3.set_ 0 _, (HY.setOut _ _ (.inl (by dsimp only; omega))).mono (Nat.le_refl _) (by simp [World.setCell]), (r1.chg C3 (by omega)).setCell _ _ (by dsimp only; omega), (r2.chg C3 (by omega)).setCell _ _ (by dsimp only; omega), by simp only [World.size_setCell]; omega⟩
            case measure => simp [intOf]; omega
          exact AllReadyH.nil
        exact AllReadyH.nil
      · skip
        obtain rfl : n = j := by omega
        rw [List.take_of_length_le (by rw [hl.out]; omega)] at HC
        obtain ⟨y_0, y_1, y_2⟩ := y.c3
        have y_lt := y.lt
        obtain ⟨r_0, r_1, r_2⟩ := r.c3
        have r_lt := r.lt
        obtain ⟨x_0, x_1, x_2⟩ := x.c3
        have x_lt := x.lt
        have r_f := r.frozen
        go_wp2
        refine abs_body ?_
        intro W9 hW
        have HC9 : OwnC W9 Wc.heap.size wr.heap.size Ac n cc vs := by rw [hW]; exact ((OwnC.setCell ⟨hs, HC⟩ _ _ (.inl (by dsimp only; omega))).setCell _ _ (.inl (by dsimp only; omega))).setCell _ _ (.inl (by dsimp only; omega))
        clear y_0 y_1 y_2 y_lt r_0 r_1 r_2 r_lt x_0 x_1 x_2 x_lt r_f
        have szW9 : wr.heap.size ≤ W9.heap.size := by rw [hW]; simp [World.setCell]
        have szW9_ := bel.size
        replace bel : Below w.heap.size w W9 := by rw [hW]; exact (((bel).setCell (by dsimp only; omega) _).setCell (by dsimp only; omega) _).setCell (by dsimp only; omega) _
        replace x : Box W9 w.heap.size 87 #[.slice A n c, .slice B m d, .slice D p q] := by rw [hW]; exact (((x).far (by dsimp only; omega) _).far (by dsimp only; omega) _).far (by dsimp only; omega) _
        replace r : Box W9 (w.heap.size + 1) 87 #[.slice Ac n cc, .slice A1 m c1, .slice A2 p c2] := by rw [hW]; exact (((r).set_ 0 _).set_ 1 _).set_ 2 _
        replace y : Box W9 u 87 #[.slice Ac (n) cc, .slice A1 m c1, .slice A2 p c2] := by rw [hW]; exact (((y).far (by dsimp only; omega) _).far (by dsimp only; omega) _).far (by dsimp only; omega) _
        replace r1 : OwnH W9 l1 h1 A1 m c1 ag := by rw [hW]; exact (((r1).setCell _ _ (by dsimp only; omega)).setCell _ _ (by dsimp only; omega)).setCell _ _ (by dsimp only; omega)
        replace r2 : OwnH W9 l2 h2 A2 p c2 ht := by rw [hW]; exact (((r2).setCell _ _ (by dsimp only; omega)).setCell _ _ (by dsimp only; omega)).setCell _ _ (by dsimp only; omega)
        clear hW
        obtain ⟨z0, z1, z2⟩ := r.c3
        refine bodyPost_ret (v := .agg #[.slice Ac n cc, .slice A1 m c1, .slice A2 p c2]) (by simp [results, Try.results107, go_sem, z0, z1, z2]) rfl ?_
        exact ⟨_, _, _, _, _, _, _, _, _, rfl, ⟨_, _, _, _, _, _, HC9, r1, r2, by omega, by omega, by omega, by omega, by omega, by omega⟩, bel⟩
end Go.Proofs.Ytbapamfomfbmmaa
