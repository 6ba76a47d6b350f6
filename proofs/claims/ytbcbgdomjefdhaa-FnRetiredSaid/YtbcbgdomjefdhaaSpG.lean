/-
  Contract of RetireRow in the program.
-/
import Derived.Test.YtbcbgdomjefdhaaSpF
import Derived.Deep.DeepCutAuto
namespace Go.Proofs.Ytbcbgdomjefdhaa
open Go.RowKit
set_option linter.unusedSimpArgs false
set_option linter.unusedVariables false

theorem ownI_tight {w : World} {lo n c u : Nat} {A : Option Addr} {zs : List Int} (h : OwnI w lo A n c zs) (hne : ∀ k, blk A c = some k → k ≠ u) (hlo : lo ≤ w.heap.size) (hu : u < w.heap.size) :
    ∃ LO HI, OwnH w LO HI A n c zs ∧ (u < LO ∨ HI ≤ u) ∧ lo ≤ LO ∧ HI ≤ w.heap.size ∧ LO ≤ HI := by
  by_cases hc : c = 0
  · obtain ⟨h1, h2⟩ := OwnV.none_of h hc
    exact ⟨w.heap.size, w.heap.size, ⟨.inr ⟨h1, hc, h2⟩, fun k hk => by rw [hc, blk_zero] at hk; cases hk⟩, .inl hu, hlo, Nat.le_refl _, Nat.le_refl _⟩
  · obtain ⟨g, rfl, g1, g2⟩ := OwnV.form h hc
    have hg := hne g (blk_at hc)
    refine ⟨g, g + 1, ⟨.inl ?_, fun k hk => by rw [blk_at hc] at hk; injection hk with hk; omega⟩, by omega, g1, by omega, by omega⟩
    have hr := OwnV.row h hc
    refine ⟨hr.1, ?_⟩
    rcases hr.2 with h' | ⟨g', cap, cur, e1, e2, e3⟩
    · exact .inl h'
    · have e1' := e1
      injection e1' with a _ _
      injection a with a
      injection a with a
      exact .inr ⟨g', cap, cur, e1, by omega, e3⟩
theorem Box.aad {w : World} {g : Nat} {t : TypeId} {cs : Array Value} {o : Obj} (h : Box (w.alloc o) g t cs) {o' : Obj} : Box ((w.alloc o).alloc o').drew g t cs := h.alloc o'
theorem Box.newAd (w : World) (o : Obj) {t : TypeId} {cs : Array Value} : Box ((w.alloc o).alloc (.cells cs t)).drew (w.heap.size + 1) t cs := Box.newAt (by simp)
set_option maxHeartbeats 8000000 in
theorem iRetireRow_c (gg gb gr gc s : Int) (A : Option Addr) (m c : Nat) (zs : List Int) (bank row : Int) (w : World) (hA : Ints w A m zs) (hn : m ≤ 1048576) (hc : m ≤ c ∧ c ≤ maxLen) :
    Calls Try.prog 20 #[.agg #[.int .i64 gg, .int .i64 gb, .int .i64 gr, .int .i64 gc], .agg #[.int .i64 s, .slice A m c], .int .i64 bank, .int .i64 row] w (NewSpB (retMap gg gb gr gc s zs bank row) s (retOk gg gb gr gc s zs bank row) w) := by
  have bel : Below w.heap.size w w := Below.refl _ _
  have HL := Lib.hid hA.1
  go_enter Try.func20, Try.ntmps20
  go_upto_region 1 with fail
  refine abs_code ?_
  intro W hW
  have szW : w.heap.size + 1 + 1 + 1 ≤ W.heap.size := by rw [hW]; simp [World.setCell]
  have szW_ := bel.size
  replace bel : Below w.heap.size w W := by rw [hW]; exact (((bel).alloc (by first | omega | (simp [World.setCell] <;> omega)) _).alloc (by first | omega | (simp [World.setCell] <;> omega)) _).alloc (by first | omega | (simp [World.setCell] <;> omega)) _
  have p : Box W w.heap.size 25 #[.int .i64 gg, .int .i64 gb, .int .i64 gr, .int .i64 gc] := by rw [hW]; exact (((Box.newAt (by simp [World.setCell]))).alloc _).alloc _
  have q : Box W (w.heap.size + 1) 30 #[.int .i64 s, .slice A m c] := by rw [hW]; exact ((Box.newAt (by simp [World.setCell]))).alloc _
  have r : Box W (w.heap.size + 1 + 1) 30 #[.int .i64 0, .slice none 0 0] := by rw [hW]; exact (Box.newAt (by simp [World.setCell]))
  clear hW
  obtain ⟨q_0, q_1⟩ := q.c2
  have q_lt := q.lt
  have hh := hA.below bel
  have hS : ∀ Y : World, Below W.heap.size W Y → (Y.cell? ⟨w.heap.size + 1, 0, none⟩ = some (.int .i64 s) ∧ Y.cell? ⟨w.heap.size + 1, 1, none⟩ = some (.slice A m c)) := fun Y hY => ⟨(hY.cell (p := ⟨w.heap.size + 1, 0, none⟩) q_lt).trans q_0, (hY.cell (p := ⟨w.heap.size + 1, 1, none⟩) q_lt).trans q_1⟩
  go_cut [10] (fun s10 wx => ∃ (u : Nat) (A1 : Option Addr) (c1 : Nat), s10 = .pointer (some ⟨u, 0, none⟩) ∧ W.heap.size ≤ u ∧ Box wx u 30 #[.int .i64 s, .slice A1 m c1] ∧ OwnI wx W.heap.size A1 m c1 zs ∧ (∀ k, blk A1 c1 = some k → k ≠ u) ∧ Below W.heap.size W wx)
  case first =>
    go_region_held3 (fun Y => Y.cell? ⟨w.heap.size + 1, 0, none⟩ = some (.int .i64 s) ∧ Y.cell? ⟨w.heap.size + 1, 1, none⟩ = some (.slice A m c))
      (first | (with_reducible exact hS _ (Below.refl _ _)) | (with_reducible exact hS _ (lat_d (Below.refl _ _))) | (with_reducible exact hS _ (lat_ad (Below.refl _ _))) | (with_reducible exact hS _ (lat_aad (Below.refl _ _))) | (with_reducible exact hS _ hbt1) | (with_reducible exact hS _ (lat_a hbt1)) | (with_reducible exact hS _ (lat_s2 hbt1 ux)) | fail)
      (first | (refine step_copyI (by rfl) (.tmp 15) (.tmp 17) 27 (by rfl) Try.underlying27 infoInt (some ⟨W.heap.size, 0, none⟩) W.heap.size (by rfl) A m c zs (by rfl) (by exact Ints.ad hh) (by omega) (by first | (simp; done) | (simp; omega)) ?_; intro A1 c1 w2 o2 b2 at2; have hbt1 : Below W.heap.size W w2 := below_after_alloc_d b2) | (refine step_copyI (by rfl) (.tmp 15) (.tmp 17) 27 (by rfl) Try.underlying27 infoInt (some ⟨W.heap.size + 1, 0, none⟩) W.heap.size (by rfl) A m c zs (by rfl) (by exact Ints.aad hh) (by omega) (by first | (simp; done) | (simp; omega)) ?_; intro A1 c1 w2 o2 b2 at2; have hbt1 : Below W.heap.size W w2 := below_after_aa_d b2; have bx : Box w2 W.heap.size 30 #[.int .i64 0, .slice none 0 0] := ((Box.new W 30 _).aad).kept b2; have ux : W.heap.size ≤ W.heap.size := Nat.le_refl _; obtain ⟨bx0, bx1⟩ := bx.c2; have bxf := bx.frozen; have bxl := bx.lt) | (refine step_copyI (by rfl) (.tmp 15) (.tmp 17) 27 (by rfl) Try.underlying27 infoInt (some ⟨W.heap.size, 0, none⟩) W.heap.size (by rfl) A m c zs (by rfl) (by exact Ints.aad hh) (by omega) (by first | (simp; done) | (simp; omega)) ?_; intro A1 c1 w2 o2 b2 at2; have hbt1 : Below W.heap.size W w2 := below_after_aa_d b2; have bx : Box w2 (W.heap.size + 1) 30 #[.int .i64 0, .slice none 0 0] := (Box.newAd W _).kept b2; have ux : W.heap.size ≤ W.heap.size + 1 := Nat.le_succ _; obtain ⟨bx0, bx1⟩ := bx.c2; have bxf := bx.frozen; have bxl := bx.lt) | fail)
    all_goals
      go_wp2_with fail
      go_meet
      first
      | exact ⟨_, A1, c1, rfl, hbt1.size, Box.new _ _ _, o2.alloc _, fun k hk => Nat.ne_of_lt (o2.lt k hk).2, lat_a hbt1⟩
      | (have hne : ∀ k, blk A1 c1 = some k → k ≠ W.heap.size := fun k hk => by (have := at2 k hk; simp at this; omega)
         exact ⟨_, A1, c1, rfl, ux, box_s2 bx, (o2.setCell _ _ hne).setCell _ _ hne, hne, lat_s2 hbt1 ux⟩)
      | (have hne : ∀ k, blk A1 c1 = some k → k ≠ W.heap.size + 1 := fun k hk => by (have := at2 k hk; simp at this; omega)
         exact ⟨_, A1, c1, rfl, ux, box_s2 bx, (o2.setCell _ _ hne).setCell _ _ hne, hne, lat_s2 hbt1 ux⟩)
  case rest =>
    obtain ⟨u, A1, c1, rfl, hu, x, ox, hxne, bw⟩ := hcut
    clear hS hh
    have xlt := x.lt
    obtain ⟨LO, HI, o1, hLH, hLO, hHI, hLL⟩ := ownI_tight ox hxne (by omega) x.lt
    clear ox hxne
    clear q_0 q_1 q_lt
    have szwc := bw.size
    replace bel := bel.trans (bw.mono bel.size)
    replace p := p.kept bw
    replace q := q.kept bw
    replace r := r.kept bw
    clear bw
    obtain ⟨p_0, p_1, p_2, p_3⟩ := p.c4
    have p_lt := p.lt
    obtain ⟨q_0, q_1⟩ := q.c2
    have q_lt := q.lt
    go_wp2_with fail
    refine (iRegularGeometry_c gg gb gr gc s A m c zs _ (hA.below bel) hn hc).mono ?_
    rintro e w2 ⟨rfl, b2⟩
    clear p_0 p_1 p_2 p_3 p_lt q_0 q_1 q_lt
    have szw2 := b2.size
    replace bel := bel.trans (b2.mono bel.size)
    replace p := p.kept b2
    replace q := q.kept b2
    replace r := r.kept b2
    replace x := x.kept b2
    replace o1 := o1.below b2
    clear b2
    go_wp2_with fail
    refine abs_call ?_
    intro W3 hW
    have szW3 : w2.heap.size + 1 ≤ W3.heap.size := by rw [hW]; simp [World.setCell]
    have szW3_ := bel.size
    replace bel : Below w.heap.size w W3 := by rw [hW]; exact (bel).alloc (by first | omega | (simp [World.setCell] <;> omega)) _
    replace p : Box W3 w.heap.size 25 #[.int .i64 gg, .int .i64 gb, .int .i64 gr, .int .i64 gc] := by rw [hW]; exact p.alloc _
    replace q : Box W3 (w.heap.size + 1) 30 #[.int .i64 s, .slice A m c] := by rw [hW]; exact q.alloc _
    replace r : Box W3 (w.heap.size + 1 + 1) 30 #[.int .i64 0, .slice none 0 0] := by rw [hW]; exact r.alloc _
    replace x : Box W3 u 30 #[.int .i64 s, .slice A1 m c1] := by rw [hW]; exact x.alloc _
    have y : Box W3 w2.heap.size 25 #[.int .i64 (rgG gg gb gr gc s zs), .int .i64 (rgB gg gb gr gc s zs), .int .i64 (rgR gg gb gr gc s zs), .int .i64 (rgC gg gb gr gc s zs)] := by rw [hW]; exact (Box.newAt (by simp [World.setCell]))
    replace o1 : OwnH W3 LO HI A1 m c1 zs := by rw [hW]; exact o1.alloc _
    clear hW
    refine (iRowExists_c (rgG gg gb gr gc s zs) (rgB gg gb gr gc s zs) (rgR gg gb gr gc s zs) (rgC gg gb gr gc s zs) bank row _).mono ?_
    rintro e w3 ⟨rfl, b3⟩
    rw [addrOk_rg]
    have szw3 := b3.size
    replace bel := bel.trans (b3.mono bel.size)
    replace p := p.kept b3
    replace q := q.kept b3
    replace r := r.kept b3
    replace x := x.kept b3
    replace y := y.kept b3
    replace o1 := o1.below b3
    clear b3
    by_cases hin : inSp gg gb gr gc s zs bank row = true
    case neg =>
      have hin' : inSp gg gb gr gc s zs bank row = false := by simpa using hin
      have HE := Lib.hid (ret_no hin')
      rw [hin']
      clear hin hin'
      obtain ⟨p_0, p_1, p_2, p_3⟩ := p.c4
      have p_lt := p.lt
      obtain ⟨q_0, q_1⟩ := q.c2
      have q_lt := q.lt
      obtain ⟨x_0, x_1⟩ := x.c2
      have x_lt := x.lt
      obtain ⟨r_0, r_1⟩ := r.c2
      have r_lt := r.lt
      have r_f := r.frozen
      go_wp2
      refine abs_body ?_
      intro W9 hW
      clear p_0 p_1 p_2 p_3 p_lt q_0 q_1 q_lt x_0 x_1 x_lt r_0 r_1 r_lt r_f
      have szW9 : w3.heap.size ≤ W9.heap.size := by rw [hW]; simp [World.setCell]
      have szW9_ := bel.size
      replace bel : Below w.heap.size w W9 := by rw [hW]; exact ((bel).setCell (by dsimp only; omega) _).setCell (by dsimp only; omega) _
      replace p : Box W9 w.heap.size 25 #[.int .i64 gg, .int .i64 gb, .int .i64 gr, .int .i64 gc] := by rw [hW]; exact ((p).far (by dsimp only; omega) _).far (by dsimp only; omega) _
      replace q : Box W9 (w.heap.size + 1) 30 #[.int .i64 s, .slice A m c] := by rw [hW]; exact ((q).far (by dsimp only; omega) _).far (by dsimp only; omega) _
      replace r : Box W9 (w.heap.size + 1 + 1) 30 #[.int .i64 s, .slice A1 m c1] := by rw [hW]; exact ((r).set_ 0 _).set_ 1 _
      replace x : Box W9 u 30 #[.int .i64 s, .slice A1 m c1] := by rw [hW]; exact ((x).far (by dsimp only; omega) _).far (by dsimp only; omega) _
      replace y : Box W9 w2.heap.size 25 #[.int .i64 (rgG gg gb gr gc s zs), .int .i64 (rgB gg gb gr gc s zs), .int .i64 (rgR gg gb gr gc s zs), .int .i64 (rgC gg gb gr gc s zs)] := by rw [hW]; exact ((y).far (by dsimp only; omega) _).far (by dsimp only; omega) _
      replace o1 : OwnH W9 LO HI A1 m c1 zs := by rw [hW]; exact ((o1).setCell _ _ (by dsimp only; omega)).setCell _ _ (by dsimp only; omega)
      clear hW
      obtain ⟨z0, z1⟩ := r.c2
      refine bodyPost_ret (v := .tuple #[.agg #[.int .i64 s, .slice A1 m c1], .bool false]) (by simp [results, Try.results20, go_sem, z0, z1]) rfl ?_
      rw [HE.out.1, HE.out.2]
      exact ⟨_, _, _, rfl, o1.mono (by omega) (by omega), bel⟩
    obtain ⟨hs, nb, n, b, r0, e1, e2, e3, hl, rfl, rfl, hb, hr, n2, n4, n3, ⟨s0, s2⟩, ⟨gr0, gr1⟩, hlt0, e⟩ := inSp_parts hin
    obtain ⟨sn, rfl⟩ := Int.eq_ofNat_of_zero_le s0
    obtain ⟨kk, hkk0⟩ : ∃ kk, b * n + r0 = kk := ⟨_, rfl⟩
    rw [hkk0] at hlt0 e
    have hkk : kk < m := by have := HL.out; omega
    have hidx := Lib.hid e
    obtain ⟨R1, R2, R3, R4⟩ := rg_yes hs
    rw [R1, R2, R3, R4] at y
    rw [hin]
    have hP : 0 ≤ (b : Int) * (gr - (sn : Int)) ∧ (b : Int) * (gr - (sn : Int)) ≤ 128 := by
      have hbn := row_lt (n := n) (r := 0) hb (by omega)
      have := le_mul8 n2 n4
      rw [e2, ← Int.natCast_mul]
      omega
    obtain ⟨hP1, hP2⟩ := hP
    clear e1 e2 e3 hl e hs hlt0 R1 R2 R4
    obtain ⟨p_0, p_1, p_2, p_3⟩ := p.c4
    have p_lt := p.lt
    obtain ⟨q_0, q_1⟩ := q.c2
    have q_lt := q.lt
    obtain ⟨x_0, x_1⟩ := x.c2
    have x_lt := x.lt
    obtain ⟨y_0, y_1, y_2, y_3⟩ := y.c4
    have y_lt := y.lt
    go_wp2_with fail
    clear p_0 p_1 p_2 p_3 p_lt q_0 q_1 q_lt x_0 x_1 x_lt y_0 y_1 y_2 y_3 y_lt
    clear R3
    go_loopw [12] (fun i wr => ∃ k : Nat, k ≤ sn ∧ i = .int .i64 (gr - sn + (k : Int)) ∧ Below w.heap.size w wr ∧ Box wr w.heap.size 25 #[.int .i64 gg, .int .i64 gb, .int .i64 gr, .int .i64 gc] ∧ Box wr (w.heap.size + 1) 30 #[.int .i64 sn, .slice A m c] ∧ Box wr (w.heap.size + 1 + 1) 30 #[.int .i64 0, .slice none 0 0] ∧ Box wr u 30 #[.int .i64 sn, .slice A1 m c1] ∧ OwnH wr LO HI A1 m c1 zs ∧ Box wr w2.heap.size 25 #[.int .i64 gg, .int .i64 gb, .int .i64 (gr - sn), .int .i64 gc] ∧ u < wr.heap.size ∧ w2.heap.size < wr.heap.size ∧ HI ≤ wr.heap.size ∧ Hid (∀ i : Nat, i < k → spFree gg gb gr gc sn zs b (gr - sn + (i : Int)) = false)) (fun i _ => (gr - intOf i).toNat)
    case atStart => exact ⟨0, Nat.zero_le _, by simp, bel, p, q, r, x, o1, y, by omega, by omega, by omega, (by intro i hi; omega)⟩
    case round =>
      clear p q r x o1 bel y
      obtain ⟨k, hk, rfl, bel, p, q, r, x, o1, y, szx, szy, szh, HF⟩ := hrel
      obtain ⟨p_0, p_1, p_2, p_3⟩ := p.c4
      have p_lt := p.lt
      obtain ⟨q_0, q_1⟩ := q.c2
      have q_lt := q.lt
      obtain ⟨x_0, x_1⟩ := x.c2
      have x_lt := x.lt
      obtain ⟨y_0, y_1, y_2, y_3⟩ := y.c4
      have y_lt := y.lt
      by_cases hlt : k < sn
      · have t1 : decide (gr - (sn : Int) + (k : Int) < gr) = true := by simp; omega
        go_wp2_with fail
        refine (iRegularRow_c gg gb gr gc sn A m c zs b (gr - sn + (k : Int)) _ (hA.below bel) hn hc).mono ?_
        rintro e w5 ⟨rfl, b5⟩
        clear p_0 p_1 p_2 p_3 p_lt q_0 q_1 q_lt x_0 x_1 x_lt y_0 y_1 y_2 y_3 y_lt
        have szw5 := b5.size
        replace bel := bel.trans (b5.mono bel.size)
        replace p := p.kept b5
        replace q := q.kept b5
        replace r := r.kept b5
        replace x := x.kept b5
        replace y := y.kept b5
        replace o1 := o1.below b5
        clear b5
        clear t1
        by_cases hx : spRegular gg gb gr gc sn zs b (gr - sn + (k : Int)) < 0
        · obtain ⟨g1, y1, rfl, hy1, hf1, hx1, gy1, gy2⟩ := o1.at_ hkk
          clear hx1
          have hfr : spFree gg gb gr gc sn zs b (gr - sn + (k : Int)) = true := by unfold spFree; simpa using hx
          have HE := Lib.hid (ret_at hin (by omega) hfr HF.out)
          have HZ : Hid (((b : Int) * (gr - sn) + (r0 : Int)).toNat = kk) := by unfold Hid; rw [hidx.out, Int.toNat_natCast]
          have hI := hidx.out
          obtain ⟨p_0, p_1, p_2, p_3⟩ := p.c4
          have p_lt := p.lt
          obtain ⟨q_0, q_1⟩ := q.c2
          have q_lt := q.lt
          obtain ⟨x_0, x_1⟩ := x.c2
          have x_lt := x.lt
          obtain ⟨y_0, y_1, y_2, y_3⟩ := y.c4
          have y_lt := y.lt
          obtain ⟨r_0, r_1⟩ := r.c2
          have r_lt := r.lt
          have r_f := r.frozen
          have x_f := x.frozen
          go_wp2
          refine abs_body ?_
          intro W9 hW
          clear p_0 p_1 p_2 p_3 p_lt q_0 q_1 q_lt x_0 x_1 x_lt y_0 y_1 y_2 y_3 y_lt r_0 r_1 r_lt r_f x_f
          have szW9 : w5.heap.size ≤ W9.heap.size := by rw [hW]; simp [World.setCell]
          have szW9_ := bel.size
          replace bel : Below w.heap.size w W9 := by rw [hW]; exact (((bel).setCell (by dsimp only; omega) _).setCell (by dsimp only; omega) _).setCell (by dsimp only; omega) _
          replace p : Box W9 w.heap.size 25 #[.int .i64 gg, .int .i64 gb, .int .i64 gr, .int .i64 gc] := by rw [hW]; exact (((p).far (by dsimp only; omega) _).far (by dsimp only; omega) _).far (by dsimp only; omega) _
          replace q : Box W9 (w.heap.size + 1) 30 #[.int .i64 sn, .slice A m c] := by rw [hW]; exact (((q).far (by dsimp only; omega) _).far (by dsimp only; omega) _).far (by dsimp only; omega) _
          replace r : Box W9 (w.heap.size + 1 + 1) 30 #[.int .i64 sn, .slice (some ⟨g1, 0, none⟩) m c1] := by rw [hW]; exact (((r).far (by dsimp only; omega) _).set_ 0 _).set_ 1 _
          replace x : Box W9 u 30 #[.int .i64 sn, .slice (some ⟨g1, 0, none⟩) m c1] := by rw [hW]; exact (((x).far (by dsimp only; omega) _).far (by dsimp only; omega) _).far (by dsimp only; omega) _
          replace y : Box W9 w2.heap.size 25 #[.int .i64 gg, .int .i64 gb, .int .i64 (gr - sn), .int .i64 gc] := by rw [hW]; exact (((y).far (by dsimp only; omega) _).far (by dsimp only; omega) _).far (by dsimp only; omega) _
          replace o1 : OwnH W9 LO HI (some ⟨g1, 0, none⟩) m c1 (zs.set kk (gr - sn + (k : Int))) := by rw [hW]; exact ((((o1).stored rfl hkk _).1).setCell _ _ (by dsimp only; omega)).setCell _ _ (by dsimp only; omega)
          clear hW
          obtain ⟨z0, z1⟩ := r.c2
          refine bodyPost_ret (v := .tuple #[.agg #[.int .i64 sn, .slice (some ⟨g1, 0, none⟩) m c1], .bool true]) (by simp [results, Try.results20, go_sem, z0, z1]) rfl ?_
          rw [HE.out.1, HE.out.2, HZ.out]
          exact ⟨_, _, _, rfl, o1.mono (by omega) (by omega), bel⟩
        · skip
          have hfr : spFree gg gb gr gc sn zs b (gr - sn + (k : Int)) = false := by unfold spFree; simpa using hx
          have HF2 : Hid (∀ i : Nat, i < k + 1 → spFree gg gb gr gc sn zs b (gr - sn + (i : Int)) = false) := by
            intro i hi
            by_cases e : i = k
            · subst e; exact hfr
            · exact HF.out i (by omega)
          go_wp2
          go_roundw
          case rel => exact ⟨k + 1, by omega, by congr 1; omega, bel, p, q, r, x, o1, y, by omega, by omega, by omega, HF2.out⟩
          case measure => simp [intOf]; omega
      · skip
        obtain rfl : sn = k := by omega
        have HE := Lib.hid (ret_none hin (fun j hj => HF.out j (by omega)))
        have t1 : decide (gr - (sn : Int) + (sn : Int) < gr) = false := by simp
        obtain ⟨r_0, r_1⟩ := r.c2
        have r_lt := r.lt
        have r_f := r.frozen
        go_wp2
        refine abs_body ?_
        intro W9 hW
        clear p_0 p_1 p_2 p_3 p_lt q_0 q_1 q_lt x_0 x_1 x_lt y_0 y_1 y_2 y_3 y_lt r_0 r_1 r_lt r_f
        have szW9 : wr.heap.size ≤ W9.heap.size := by rw [hW]; simp [World.setCell]
        have szW9_ := bel.size
        replace bel : Below w.heap.size w W9 := by rw [hW]; exact ((bel).setCell (by dsimp only; omega) _).setCell (by dsimp only; omega) _
        replace p : Box W9 w.heap.size 25 #[.int .i64 gg, .int .i64 gb, .int .i64 gr, .int .i64 gc] := by rw [hW]; exact ((p).far (by dsimp only; omega) _).far (by dsimp only; omega) _
        replace q : Box W9 (w.heap.size + 1) 30 #[.int .i64 sn, .slice A m c] := by rw [hW]; exact ((q).far (by dsimp only; omega) _).far (by dsimp only; omega) _
        replace r : Box W9 (w.heap.size + 1 + 1) 30 #[.int .i64 sn, .slice A1 m c1] := by rw [hW]; exact ((r).set_ 0 _).set_ 1 _
        replace x : Box W9 u 30 #[.int .i64 sn, .slice A1 m c1] := by rw [hW]; exact ((x).far (by dsimp only; omega) _).far (by dsimp only; omega) _
        replace y : Box W9 w2.heap.size 25 #[.int .i64 gg, .int .i64 gb, .int .i64 (gr - sn), .int .i64 gc] := by rw [hW]; exact ((y).far (by dsimp only; omega) _).far (by dsimp only; omega) _
        replace o1 : OwnH W9 LO HI A1 m c1 zs := by rw [hW]; exact ((o1).setCell _ _ (by dsimp only; omega)).setCell _ _ (by dsimp only; omega)
        clear hW
        obtain ⟨z0, z1⟩ := r.c2
        refine bodyPost_ret (v := .tuple #[.agg #[.int .i64 sn, .slice A1 m c1], .bool false]) (by simp [results, Try.results20, go_sem, z0, z1]) rfl ?_
        rw [HE.out.1, HE.out.2]
        exact ⟨_, _, _, rfl, o1.mono (by omega) (by omega), bel⟩
end Go.Proofs.Ytbcbgdomjefdhaa
