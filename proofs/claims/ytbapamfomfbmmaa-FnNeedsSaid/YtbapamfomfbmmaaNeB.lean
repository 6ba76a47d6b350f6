/-
  Contracts of the reference: l08Copy, Allowed, l08Do, RankAfter.
-/
import Derived.Test.YtbapamfomfbmmaaNeA
import Derived.Deep.DeepCutAuto
import Derived.Deep.RegionHeld3
namespace Go.Proofs.Ytbapamfomfbmmaa
open Go.RowKit
set_option linter.unusedSimpArgs false
set_option linter.unusedVariables false

section
variable {P : Program} {ops : Array Oper} {Q : Exit → Act → World → Prop} {a : Act} {o : Oper} {w : World}
theorem step_copyBnk {K : Act → World → Prop} {E : Prop} (hgd : o.guard = none) (s x : Operand) (t : TypeId) (ho : o.op = .call { callee := .builtin .append, args := #[s, x], argTypes := #[t, t] }) (ht : P.underlying t = some (.slice 46)) (hinf : (P.info? 46).map (fun i => (i.zero, i.size, i.bytes)) = some (some (.agg #[.bool false, .int .i64 0]), 2, 16))
    (A : Option Addr) (lo : Nat) (hs : a.eval s = .slice A 0 0) (B : Option Addr) (m d : Nat) (us : List Bnk) (hx : a.eval x = .slice B m d) (hsrc : Bnks w B m us) (hlen : m ≤ 4194304) (hlo : lo ≤ w.heap.size)
    (h : ∀ A' c' w', RowBnk w' lo A' m c' us → Below w.heap.size w w' → K (a.put o.dst (.slice A' m c')) w') :
    if Region.wanted o (yielded ops a.tmps) = true then Oper.wp P o a w K Q else E := by
  refine step_appBnk hgd s x t ho ht hinf A 0 0 lo [] hs (RowBnk.nil _ _ _) B m d us hx hsrc (by omega) hlo ?_
  intro A' c' w' h2 h3 h4
  rw [Nat.zero_add] at h2 ⊢
  rw [List.nil_append] at h2
  exact h A' c' w' h2 (grown_below h3)
end
theorem Bnks.ad {w : World} {A : Option Addr} {n : Nat} {ks : List Bnk} (h : Bnks w A n ks) {o : Obj} : Bnks (w.alloc o).drew A n ks :=
  show Bnks (w.alloc o) A n ks from h.below ((Below.refl _ _).alloc (Nat.le_refl _) o)
theorem box_s2n {w : World} {g u : Nat} {t : TypeId} {cs : Array Value} {a b : Value} (h : Box w g t cs) (hne : g ≠ u) : Box ((w.setCell ⟨u, 0, none⟩ a).setCell ⟨u, 1, none⟩ b) g t cs := (h.far hne _).far hne _
set_option maxHeartbeats 4000000 in
theorem l08Copy_c (A : Option Addr) (n c : Nat) (ks : List Bnk) (pw : Int) (w : World) (hA : Bnks w A n ks) (hn : n ≤ 1048576) :
    Calls Try.prog 82 #[.agg #[.slice A n c, .int .i64 pw]] w (NewRk ks pw w) := by
  have bel : Below w.heap.size w w := Below.refl _ _
  go_enter Try.func82, Try.ntmps82
  go_wp2
  refine abs_code ?_
  intro W hW
  have szW : w.heap.size + 1 + 1 ≤ W.heap.size := by rw [hW]; simp [World.setCell]
  have szW_ := bel.size
  replace bel : Below w.heap.size w W := by rw [hW]; exact ((bel).alloc (by first | omega | (simp [World.setCell] <;> omega)) _).alloc (by first | omega | (simp [World.setCell] <;> omega)) _
  have p : Box W w.heap.size 43 #[.slice A n c, .int .i64 pw] := by rw [hW]; exact ((Box.newAt (by simp [World.setCell]))).alloc _
  have r : Box W (w.heap.size + 1) 43 #[.slice none 0 0, .int .i64 0] := by rw [hW]; exact (Box.newAt (by simp [World.setCell]))
  clear hW
  obtain ⟨p_0, p_1⟩ := p.c2
  have p_lt := p.lt
  obtain ⟨r_0, r_1⟩ := r.c2
  have r_lt := r.lt
  have r_f := r.frozen
  have hh := hA.below bel
  have hS : ∀ Y : World, Below W.heap.size W Y → (Y.cell? ⟨w.heap.size, 0, none⟩ = some (.slice A n c) ∧ Y.cell? ⟨w.heap.size, 1, none⟩ = some (.int .i64 pw)) := fun Y hY => ⟨(hY.cell (p := ⟨w.heap.size, 0, none⟩) p_lt).trans p_0, (hY.cell (p := ⟨w.heap.size, 1, none⟩) p_lt).trans p_1⟩
  go_region_held3 (fun Y => Y.cell? ⟨w.heap.size, 0, none⟩ = some (.slice A n c) ∧ Y.cell? ⟨w.heap.size, 1, none⟩ = some (.int .i64 pw))
    (first | (with_reducible exact hS _ (Below.refl _ _)) | (with_reducible exact hS _ (lat_d (Below.refl _ _))) | (with_reducible exact hS _ (lat_ad (Below.refl _ _))) | (with_reducible exact hS _ hbt1) | exact (box_s2n p2 (by omega)).c2 | fail)
    (first | (refine step_copyBnk (by rfl) (.tmp 3) (.tmp 5) 41 (by rfl) Try.underlying41 infoBk (some ⟨W.heap.size, 0, none⟩) W.heap.size (by rfl) A n c ks (by rfl) (by exact Bnks.ad hh) (by omega) (by simp) ?_; intro A1 c1 w2 o2 b2; have hbt1 : Below W.heap.size W w2 := below_after_alloc_d b2; have p2 := p.kept hbt1; have r2 := r.kept hbt1; obtain ⟨p2_0, p2_1⟩ := p2.c2; obtain ⟨r2_0, r2_1⟩ := r2.c2; have r2f := r2.frozen; have r2l := r2.lt) | fail)
  go_wp2
  refine abs_body ?_
  intro W9 hW
  have sz9 := hbt1.size
  have o9 : OwnBnk W9 W.heap.size w2.heap.size A1 n c1 ks := by rw [hW]; exact (o2.own.setCell _ _ (.inl (by dsimp only; omega))).setCell _ _ (.inl (by dsimp only; omega))
  have r9 : Box W9 (w.heap.size + 1) 43 #[.slice A1 n c1, .int .i64 pw] := by rw [hW]; exact box_s2 r2
  have b9 : Below w.heap.size w W9 := by rw [hW]; exact ((bel.trans (hbt1.mono bel.size)).setCell (by dsimp only; omega) _).setCell (by dsimp only; omega) _
  have s9 : w2.heap.size ≤ W9.heap.size := by rw [hW]; simp [World.setCell]
  clear hW
  obtain ⟨z0, z1⟩ := r9.c2
  refine bodyPost_ret (v := .agg #[.slice A1 n c1, .int .i64 pw]) (by simp [results, Try.results82, go_sem, z0, z1]) rfl ?_
  exact ⟨_, _, _, rfl, o9.mono (by omega) s9, b9⟩
set_option maxRecDepth 100000 in
set_option maxHeartbeats 2000000 in
theorem sAllowed_act (gg gb : Int) (nb R C b : Nat) (hb : b < nb) (h8 : nb ≤ 8) (h16 : R ≤ 16) (h : geoOk gg gb R C = true) (e : bankCnt gg gb R C = (nb : Int)) (hC : 0 < C) (hR : 0 < R) (row : Nat) (hrow : row < R) (A : Option Addr) (c : Nat) (ks : List Bnk) (row0 : Int) (w : World) (hA : Bnks w A nb ks) (hk : rkOk R ks) (hkb : ks[b]? = some ⟨false, row0⟩) :
    Calls Try.prog 83 #[.agg #[.int .i64 gg, .int .i64 gb, .int .i64 (R : Int), .int .i64 (C : Int)], .agg #[.slice A nb c, .int .i64 0], .agg #[.int .i64 1, .int .i64 (b : Int), .int .i64 (row : Int), .int .i64 0]] w fun e w' => e = .returned (.bool true) ∧ Below w.heap.size w w' := by
  have bel : Below w.heap.size w w := Below.refl _ _
  go_enter Try.func83, Try.ntmps83
  go_wp2_with fail
  refine abs_call ?_
  intro W hW
  have szW : w.heap.size + 1 + 1 + 1 ≤ W.heap.size := by rw [hW]; simp [World.setCell]
  have szW_ := bel.size
  replace bel : Below w.heap.size w W := by rw [hW]; exact (((bel).alloc (by first | omega | (simp [World.setCell] <;> omega)) _).alloc (by first | omega | (simp [World.setCell] <;> omega)) _).alloc (by first | omega | (simp [World.setCell] <;> omega)) _
  have q : Box W w.heap.size 25 #[.int .i64 gg, .int .i64 gb, .int .i64 (R : Int), .int .i64 (C : Int)] := by rw [hW]; exact (((Box.newAt (by simp [World.setCell]))).alloc _).alloc _
  have p : Box W (w.heap.size + 1) 43 #[.slice A nb c, .int .i64 0] := by rw [hW]; exact ((Box.newAt (by simp [World.setCell]))).alloc _
  have x : Box W (w.heap.size + 1 + 1) 48 #[.int .i64 1, .int .i64 (b : Int), .int .i64 (row : Int), .int .i64 0] := by rw [hW]; exact (Box.newAt (by simp [World.setCell]))
  clear hW
  refine (sRankOk_c gg gb nb R C A c ks _ h e h8 h16 (hA.below bel) hk).mono ?_
  rintro x' w1 ⟨rfl, b1⟩
  have szw1 := b1.size
  replace bel := bel.trans (b1.mono bel.size)
  replace q := q.kept b1
  replace p := p.kept b1
  replace x := x.kept b1
  clear b1
  obtain ⟨q_0, q_1, q_2, q_3⟩ := q.c4
  have q_lt := q.lt
  obtain ⟨x_0, x_1, x_2, x_3⟩ := x.c4
  have x_lt := x.lt
  go_wp2_with fail
  refine (sCommandOk_act gg gb nb R C b hb h8 h e hC hR row hrow h16 _).mono ?_
  rintro x' w2 ⟨rfl, b2⟩
  clear q_0 q_1 q_2 q_3 q_lt x_0 x_1 x_2 x_3 x_lt
  have szw2 := b2.size
  replace bel := bel.trans (b2.mono bel.size)
  replace q := q.kept b2
  replace p := p.kept b2
  replace x := x.kept b2
  clear b2
  obtain ⟨p_0, p_1⟩ := p.c2
  have p_lt := p.lt
  obtain ⟨x_0, x_1, x_2, x_3⟩ := x.c4
  have x_lt := x.lt
  go_wp2_with fail
  refine (l08May_act A nb c ks b row row0 _ (hA.below bel) (by omega) hkb).mono ?_
  rintro x' w3 ⟨rfl, b3⟩
  clear p_0 p_1 p_lt x_0 x_1 x_2 x_3 x_lt
  have szw3 := b3.size
  replace bel := bel.trans (b3.mono bel.size)
  replace q := q.kept b3
  replace p := p.kept b3
  replace x := x.kept b3
  clear b3
  go_wp2
  go_ret
  exact ⟨rfl, bel⟩
set_option maxRecDepth 100000 in
set_option maxHeartbeats 2000000 in
theorem l08Do_act (pB lo hi : Nat) (A : Option Addr) (n c : Nat) (ks : List Bnk) (b : Nat) (row : Nat) (w : World) (p : Box w pB 43 #[.slice A n c, .int .i64 0]) (o : OwnBnk w lo hi A n c ks) (hb : b < n) (hn : n ≤ 8) (hp : pB < lo ∨ hi ≤ pB) (hhi : hi ≤ w.heap.size) :
    Calls Try.prog 84 #[.pointer (some ⟨pB, 0, none⟩), .agg #[.int .i64 1, .int .i64 (b : Int), .int .i64 (row : Int), .int .i64 0]] w fun e w' => e = .returned (.tuple #[]) ∧ OwnBnk w' lo hi A n c (ks.set b ⟨true, (row : Int)⟩) ∧ Chg lo hi w w' := by
  have bel : Below w.heap.size w w := Below.refl _ _
  have plt := p.lt
  go_enter Try.func84, Try.ntmps84
  go_wp2
  refine abs_code ?_
  intro W hW
  have szW : w.heap.size + 1 ≤ W.heap.size := by rw [hW]; simp [World.setCell]
  have szW_ := bel.size
  replace bel : Below w.heap.size w W := by rw [hW]; exact (bel).alloc (by first | omega | (simp [World.setCell] <;> omega)) _
  replace p : Box W pB 43 #[.slice A n c, .int .i64 0] := by rw [hW]; exact p.alloc _
  have q : Box W w.heap.size 48 #[.int .i64 1, .int .i64 (b : Int), .int .i64 (row : Int), .int .i64 0] := by rw [hW]; exact (Box.newAt (by simp [World.setCell]))
  replace o : OwnBnk W lo hi A n c ks := by rw [hW]; exact o.alloc _
  clear hW
  obtain ⟨g, opn0, row0, rfl, gl, gh, hf, z0, z1, hz⟩ := o.at_ hb
  have i0 : (0 : Int) ≤ (b : Int) := by omega
  have i1 : (b : Int) < (n : Int) := by omega
  have bel2 := Chg.of_below (lo := lo) (hi := hi) bel
  clear hz
  obtain ⟨p_0, p_1⟩ := p.c2
  have p_lt := p.lt
  obtain ⟨q_0, q_1, q_2, q_3⟩ := q.c4
  have q_lt := q.lt
  go_wp2_with fail
  go_region
  go_wp2
  refine abs_body ?_
  intro W9 hW
  have o9 : OwnBnk W9 lo hi (some ⟨g, 0, none⟩) n c (ks.set b ⟨true, (row : Int)⟩) := by rw [hW]; exact ((o.stored rfl hb ⟨true, (row : Int)⟩).1).drewN 1
  have C9 : Chg lo hi W W9 := by rw [hW]; exact ((o.stored rfl hb ⟨true, (row : Int)⟩).2).drewN 1
  clear hW
  refine bodyPost_end (results_none rfl _ _ _) rfl ?_
  exact ⟨rfl, o9, bel2.trans C9⟩
set_option maxRecDepth 100000 in
set_option maxHeartbeats 2000000 in
theorem sRankAfter_act (gg gb : Int) (nb R C b : Nat) (hb : b < nb) (h8 : nb ≤ 8) (h16 : R ≤ 16) (h : geoOk gg gb R C = true) (e : bankCnt gg gb R C = (nb : Int)) (hC : 0 < C) (hR : 0 < R) (row : Nat) (hrow : row < R) (A : Option Addr) (c : Nat) (ks : List Bnk) (row0 : Int) (w : World) (hA : Bnks w A nb ks) (hk : rkOk R ks) (hkb : ks[b]? = some ⟨false, row0⟩) :
    Calls Try.prog 29 #[.agg #[.int .i64 gg, .int .i64 gb, .int .i64 (R : Int), .int .i64 (C : Int)], .agg #[.slice A nb c, .int .i64 0], .agg #[.int .i64 1, .int .i64 (b : Int), .int .i64 (row : Int), .int .i64 0]] w (NewRkB (ks.set b ⟨true, (row : Int)⟩) 0 true w) := by
  have bel : Below w.heap.size w w := Below.refl _ _
  go_enter Try.func29, Try.ntmps29
  go_wp2_with fail
  refine abs_call ?_
  intro W hW
  have szW : w.heap.size + 1 + 1 + 1 + 1 ≤ W.heap.size := by rw [hW]; simp [World.setCell]
  have szW_ := bel.size
  replace bel : Below w.heap.size w W := by rw [hW]; exact ((((bel).alloc (by first | omega | (simp [World.setCell] <;> omega)) _).alloc (by first | omega | (simp [World.setCell] <;> omega)) _).alloc (by first | omega | (simp [World.setCell] <;> omega)) _).alloc (by first | omega | (simp [World.setCell] <;> omega)) _
  have q : Box W w.heap.size 25 #[.int .i64 gg, .int .i64 gb, .int .i64 (R : Int), .int .i64 (C : Int)] := by rw [hW]; exact ((((Box.newAt (by simp [World.setCell]))).alloc _).alloc _).alloc _
  have p : Box W (w.heap.size + 1) 43 #[.slice A nb c, .int .i64 0] := by rw [hW]; exact (((Box.newAt (by simp [World.setCell]))).alloc _).alloc _
  have x : Box W (w.heap.size + 1 + 1) 48 #[.int .i64 1, .int .i64 (b : Int), .int .i64 (row : Int), .int .i64 0] := by rw [hW]; exact ((Box.newAt (by simp [World.setCell]))).alloc _
  have r : Box W (w.heap.size + 1 + 1 + 1) 43 #[.slice none 0 0, .int .i64 0] := by rw [hW]; exact (Box.newAt (by simp [World.setCell]))
  clear hW
  refine (l08Copy_c A nb c ks 0 _ (hA.below bel) (by omega)).mono ?_
  rintro x' w1 ⟨A1, n1, c1, rfl, o1, b1⟩
  have hn1 : n1 = nb := by have := o1.len; have := hA.len; omega
  subst hn1
  have szw1 := b1.size
  replace bel := bel.trans (b1.mono bel.size)
  replace q := q.kept b1
  replace p := p.kept b1
  replace x := x.kept b1
  replace r := r.kept b1
  clear b1
  obtain ⟨p_0, p_1⟩ := p.c2
  have p_lt := p.lt
  obtain ⟨q_0, q_1, q_2, q_3⟩ := q.c4
  have q_lt := q.lt
  obtain ⟨x_0, x_1, x_2, x_3⟩ := x.c4
  have x_lt := x.lt
  go_wp2_with fail
  refine abs_call ?_
  intro W2 hW
  clear p_0 p_1 p_lt q_0 q_1 q_2 q_3 q_lt x_0 x_1 x_2 x_3 x_lt
  have szW2 : w1.heap.size + 1 ≤ W2.heap.size := by rw [hW]; simp [World.setCell]
  have szW2_ := bel.size
  replace bel : Below w.heap.size w W2 := by rw [hW]; exact (bel).alloc (by first | omega | (simp [World.setCell] <;> omega)) _
  replace q : Box W2 w.heap.size 25 #[.int .i64 gg, .int .i64 gb, .int .i64 (R : Int), .int .i64 (C : Int)] := by rw [hW]; exact q.alloc _
  replace p : Box W2 (w.heap.size + 1) 43 #[.slice A (n1) c, .int .i64 0] := by rw [hW]; exact p.alloc _
  replace x : Box W2 (w.heap.size + 1 + 1) 48 #[.int .i64 1, .int .i64 (b : Int), .int .i64 (row : Int), .int .i64 0] := by rw [hW]; exact x.alloc _
  replace r : Box W2 (w.heap.size + 1 + 1 + 1) 43 #[.slice none 0 0, .int .i64 0] := by rw [hW]; exact r.alloc _
  have v : Box W2 w1.heap.size 43 #[.slice A1 n1 c1, .int .i64 0] := by rw [hW]; exact (Box.newAt (by simp [World.setCell]))
  replace o1 : OwnBnk W2 W.heap.size w1.heap.size A1 n1 c1 ks := by rw [hW]; exact o1.alloc _
  clear hW
  refine (sAllowed_act gg gb n1 R C b hb h8 h16 h e hC hR row hrow A c ks row0 _ (hA.below bel) hk hkb).mono ?_
  rintro x' w2 ⟨rfl, b2⟩
  have szw2 := b2.size
  replace bel := bel.trans (b2.mono bel.size)
  replace q := q.kept b2
  replace p := p.kept b2
  replace x := x.kept b2
  replace r := r.kept b2
  replace v := v.kept b2
  replace o1 := o1.below b2
  clear b2
  obtain ⟨x_0, x_1, x_2, x_3⟩ := x.c4
  have x_lt := x.lt
  go_wp2_with fail
  refine (l08Do_act w1.heap.size W.heap.size w1.heap.size A1 n1 c1 ks b row _ v o1 hb h8 (by omega) (by omega)).mono ?_
  rintro x' w3 ⟨rfl, o3, C3⟩
  clear o1
  clear x_0 x_1 x_2 x_3 x_lt
  have szw3 := C3.size
  replace bel := C3.below bel (by omega)
  replace q := q.chg C3 (by omega)
  replace p := p.chg C3 (by omega)
  replace x := x.chg C3 (by omega)
  replace r := r.chg C3 (by omega)
  replace v := v.chg C3 (by omega)
  clear C3
  obtain ⟨v_0, v_1⟩ := v.c2
  have v_lt := v.lt
  obtain ⟨r_0, r_1⟩ := r.c2
  have r_lt := r.lt
  have r_f := r.frozen
  go_wp2
  refine abs_body ?_
  intro W9 hW
  clear v_0 v_1 v_lt r_0 r_1 r_lt r_f
  have szW9 : w3.heap.size ≤ W9.heap.size := by rw [hW]; simp [World.setCell]
  have szW9_ := bel.size
  replace bel : Below w.heap.size w W9 := by rw [hW]; exact ((bel).setCell (by dsimp only; omega) _).setCell (by dsimp only; omega) _
  replace q : Box W9 w.heap.size 25 #[.int .i64 gg, .int .i64 gb, .int .i64 (R : Int), .int .i64 (C : Int)] := by rw [hW]; exact ((q).far (by dsimp only; omega) _).far (by dsimp only; omega) _
  replace p : Box W9 (w.heap.size + 1) 43 #[.slice A (n1) c, .int .i64 0] := by rw [hW]; exact ((p).far (by dsimp only; omega) _).far (by dsimp only; omega) _
  replace x : Box W9 (w.heap.size + 1 + 1) 48 #[.int .i64 1, .int .i64 (b : Int), .int .i64 (row : Int), .int .i64 0] := by rw [hW]; exact ((x).far (by dsimp only; omega) _).far (by dsimp only; omega) _
  replace r : Box W9 (w.heap.size + 1 + 1 + 1) 43 #[.slice A1 n1 c1, .int .i64 0] := by rw [hW]; exact ((r).set_ 0 _).set_ 1 _
  replace v : Box W9 w1.heap.size 43 #[.slice A1 n1 c1, .int .i64 0] := by rw [hW]; exact ((v).far (by dsimp only; omega) _).far (by dsimp only; omega) _
  replace o3 : OwnBnk W9 W.heap.size w1.heap.size A1 n1 c1 (ks.set b ⟨true, (row : Int)⟩) := by rw [hW]; exact ((o3).setCell _ _ (by dsimp only; omega)).setCell _ _ (by dsimp only; omega)
  clear hW
  obtain ⟨z0, z1⟩ := r.c2
  refine bodyPost_ret (v := .tuple #[.agg #[.slice A1 n1 c1, .int .i64 0], .bool true]) (by simp [results, Try.results29, go_sem, z0, z1]) rfl ?_
  exact ⟨_, _, _, rfl, o3.mono (by omega) (by omega), bel⟩
set_option maxRecDepth 100000 in
set_option maxHeartbeats 2000000 in
theorem sAllowed_pre (gg gb : Int) (nb R C b : Nat) (hb : b < nb) (h8 : nb ≤ 8) (h16 : R ≤ 16) (h : geoOk gg gb R C = true) (e : bankCnt gg gb R C = (nb : Int)) (hC : 0 < C) (hR : 0 < R) (A : Option Addr) (c : Nat) (ks : List Bnk) (row0 : Int) (w : World) (hA : Bnks w A nb ks) (hk : rkOk R ks) (hkb : ks[b]? = some ⟨true, row0⟩) :
    Calls Try.prog 83 #[.agg #[.int .i64 gg, .int .i64 gb, .int .i64 (R : Int), .int .i64 (C : Int)], .agg #[.slice A nb c, .int .i64 0], .agg #[.int .i64 4, .int .i64 (b : Int), .int .i64 0, .int .i64 0]] w fun e w' => e = .returned (.bool true) ∧ Below w.heap.size w w' := by
  have bel : Below w.heap.size w w := Below.refl _ _
  go_enter Try.func83, Try.ntmps83
  go_wp2_with fail
  refine abs_call ?_
  intro W hW
  have szW : w.heap.size + 1 + 1 + 1 ≤ W.heap.size := by rw [hW]; simp [World.setCell]
  have szW_ := bel.size
  replace bel : Below w.heap.size w W := by rw [hW]; exact (((bel).alloc (by first | omega | (simp [World.setCell] <;> omega)) _).alloc (by first | omega | (simp [World.setCell] <;> omega)) _).alloc (by first | omega | (simp [World.setCell] <;> omega)) _
  have q : Box W w.heap.size 25 #[.int .i64 gg, .int .i64 gb, .int .i64 (R : Int), .int .i64 (C : Int)] := by rw [hW]; exact (((Box.newAt (by simp [World.setCell]))).alloc _).alloc _
  have p : Box W (w.heap.size + 1) 43 #[.slice A nb c, .int .i64 0] := by rw [hW]; exact ((Box.newAt (by simp [World.setCell]))).alloc _
  have x : Box W (w.heap.size + 1 + 1) 48 #[.int .i64 4, .int .i64 (b : Int), .int .i64 0, .int .i64 0] := by rw [hW]; exact (Box.newAt (by simp [World.setCell]))
  clear hW
  refine (sRankOk_c gg gb nb R C A c ks _ h e h8 h16 (hA.below bel) hk).mono ?_
  rintro x' w1 ⟨rfl, b1⟩
  have szw1 := b1.size
  replace bel := bel.trans (b1.mono bel.size)
  replace q := q.kept b1
  replace p := p.kept b1
  replace x := x.kept b1
  clear b1
  obtain ⟨q_0, q_1, q_2, q_3⟩ := q.c4
  have q_lt := q.lt
  obtain ⟨x_0, x_1, x_2, x_3⟩ := x.c4
  have x_lt := x.lt
  go_wp2_with fail
  refine (sCommandOk_pre gg gb nb R C b hb h8 h e hC hR _).mono ?_
  rintro x' w2 ⟨rfl, b2⟩
  clear q_0 q_1 q_2 q_3 q_lt x_0 x_1 x_2 x_3 x_lt
  have szw2 := b2.size
  replace bel := bel.trans (b2.mono bel.size)
  replace q := q.kept b2
  replace p := p.kept b2
  replace x := x.kept b2
  clear b2
  obtain ⟨p_0, p_1⟩ := p.c2
  have p_lt := p.lt
  obtain ⟨x_0, x_1, x_2, x_3⟩ := x.c4
  have x_lt := x.lt
  go_wp2_with fail
  refine (l08May_pre A nb c ks b row0 _ (hA.below bel) (by omega) hkb).mono ?_
  rintro x' w3 ⟨rfl, b3⟩
  clear p_0 p_1 p_lt x_0 x_1 x_2 x_3 x_lt
  have szw3 := b3.size
  replace bel := bel.trans (b3.mono bel.size)
  replace q := q.kept b3
  replace p := p.kept b3
  replace x := x.kept b3
  clear b3
  go_wp2
  go_ret
  exact ⟨rfl, bel⟩
set_option maxRecDepth 100000 in
set_option maxHeartbeats 2000000 in
theorem l08Do_pre (pB lo hi : Nat) (A : Option Addr) (n c : Nat) (ks : List Bnk) (b : Nat) (w : World) (p : Box w pB 43 #[.slice A n c, .int .i64 0]) (o : OwnBnk w lo hi A n c ks) (hb : b < n) (hn : n ≤ 8) (hp : pB < lo ∨ hi ≤ pB) (hhi : hi ≤ w.heap.size) :
    Calls Try.prog 84 #[.pointer (some ⟨pB, 0, none⟩), .agg #[.int .i64 4, .int .i64 (b : Int), .int .i64 0, .int .i64 0]] w fun e w' => e = .returned (.tuple #[]) ∧ OwnBnk w' lo hi A n c (ks.set b ⟨false, 0⟩) ∧ Chg lo hi w w' := by
  have bel : Below w.heap.size w w := Below.refl _ _
  have plt := p.lt
  go_enter Try.func84, Try.ntmps84
  go_wp2
  refine abs_code ?_
  intro W hW
  have szW : w.heap.size + 1 ≤ W.heap.size := by rw [hW]; simp [World.setCell]
  have szW_ := bel.size
  replace bel : Below w.heap.size w W := by rw [hW]; exact (bel).alloc (by first | omega | (simp [World.setCell] <;> omega)) _
  replace p : Box W pB 43 #[.slice A n c, .int .i64 0] := by rw [hW]; exact p.alloc _
  have q : Box W w.heap.size 48 #[.int .i64 4, .int .i64 (b : Int), .int .i64 0, .int .i64 0] := by rw [hW]; exact (Box.newAt (by simp [World.setCell]))
  replace o : OwnBnk W lo hi A n c ks := by rw [hW]; exact o.alloc _
  clear hW
  obtain ⟨g, opn0, row0, rfl, gl, gh, hf, z0, z1, hz⟩ := o.at_ hb
  have i0 : (0 : Int) ≤ (b : Int) := by omega
  have i1 : (b : Int) < (n : Int) := by omega
  have bel2 := Chg.of_below (lo := lo) (hi := hi) bel
  clear hz
  obtain ⟨p_0, p_1⟩ := p.c2
  have p_lt := p.lt
  obtain ⟨q_0, q_1, q_2, q_3⟩ := q.c4
  have q_lt := q.lt
  go_wp2_with fail
  go_region
  go_wp2
  refine abs_body ?_
  intro W9 hW
  have o9 : OwnBnk W9 lo hi (some ⟨g, 0, none⟩) n c (ks.set b ⟨false, 0⟩) := by rw [hW]; exact ((o.stored rfl hb ⟨false, 0⟩).1).drewN 1
  have C9 : Chg lo hi W W9 := by rw [hW]; exact ((o.stored rfl hb ⟨false, 0⟩).2).drewN 1
  clear hW
  refine bodyPost_end (results_none rfl _ _ _) rfl ?_
  exact ⟨rfl, o9, bel2.trans C9⟩
set_option maxRecDepth 100000 in
set_option maxHeartbeats 2000000 in
theorem sRankAfter_pre (gg gb : Int) (nb R C b : Nat) (hb : b < nb) (h8 : nb ≤ 8) (h16 : R ≤ 16) (h : geoOk gg gb R C = true) (e : bankCnt gg gb R C = (nb : Int)) (hC : 0 < C) (hR : 0 < R) (A : Option Addr) (c : Nat) (ks : List Bnk) (row0 : Int) (w : World) (hA : Bnks w A nb ks) (hk : rkOk R ks) (hkb : ks[b]? = some ⟨true, row0⟩) :
    Calls Try.prog 29 #[.agg #[.int .i64 gg, .int .i64 gb, .int .i64 (R : Int), .int .i64 (C : Int)], .agg #[.slice A nb c, .int .i64 0], .agg #[.int .i64 4, .int .i64 (b : Int), .int .i64 0, .int .i64 0]] w (NewRkB (ks.set b ⟨false, 0⟩) 0 true w) := by
  have bel : Below w.heap.size w w := Below.refl _ _
  go_enter Try.func29, Try.ntmps29
  go_wp2_with fail
  refine abs_call ?_
  intro W hW
  have szW : w.heap.size + 1 + 1 + 1 + 1 ≤ W.heap.size := by rw [hW]; simp [World.setCell]
  have szW_ := bel.size
  replace bel : Below w.heap.size w W := by rw [hW]; exact ((((bel).alloc (by first | omega | (simp [World.setCell] <;> omega)) _).alloc (by first | omega | (simp [World.setCell] <;> omega)) _).alloc (by first | omega | (simp [World.setCell] <;> omega)) _).alloc (by first | omega | (simp [World.setCell] <;> omega)) _
  have q : Box W w.heap.size 25 #[.int .i64 gg, .int .i64 gb, .int .i64 (R : Int), .int .i64 (C : Int)] := by rw [hW]; exact ((((Box.newAt (by simp [World.setCell]))).alloc _).alloc _).alloc _
  have p : Box W (w.heap.size + 1) 43 #[.slice A nb c, .int .i64 0] := by rw [hW]; exact (((Box.newAt (by simp [World.setCell]))).alloc _).alloc _
  have x : Box W (w.heap.size + 1 + 1) 48 #[.int .i64 4, .int .i64 (b : Int), .int .i64 0, .int .i64 0] := by rw [hW]; exact ((Box.newAt (by simp [World.setCell]))).alloc _
  have r : Box W (w.heap.size + 1 + 1 + 1) 43 #[.slice none 0 0, .int .i64 0] := by rw [hW]; exact (Box.newAt (by simp [World.setCell]))
  clear hW
  refine (l08Copy_c A nb c ks 0 _ (hA.below bel) (by omega)).mono ?_
  rintro x' w1 ⟨A1, n1, c1, rfl, o1, b1⟩
  have hn1 : n1 = nb := by have := o1.len; have := hA.len; omega
  subst hn1
  have szw1 := b1.size
  replace bel := bel.trans (b1.mono bel.size)
  replace q := q.kept b1
  replace p := p.kept b1
  replace x := x.kept b1
  replace r := r.kept b1
  clear b1
  obtain ⟨p_0, p_1⟩ := p.c2
  have p_lt := p.lt
  obtain ⟨q_0, q_1, q_2, q_3⟩ := q.c4
  have q_lt := q.lt
  obtain ⟨x_0, x_1, x_2, x_3⟩ := x.c4
  have x_lt := x.lt
  go_wp2_with fail
  refine abs_call ?_
  intro W2 hW
  clear p_0 p_1 p_lt q_0 q_1 q_2 q_3 q_lt x_0 x_1 x_2 x_3 x_lt
  have szW2 : w1.heap.size + 1 ≤ W2.heap.size := by rw [hW]; simp [World.setCell]
  have szW2_ := bel.size
  replace bel : Below w.heap.size w W2 := by rw [hW]; exact (bel).alloc (by first | omega | (simp [World.setCell] <;> omega)) _
  replace q : Box W2 w.heap.size 25 #[.int .i64 gg, .int .i64 gb, .int .i64 (R : Int), .int .i64 (C : Int)] := by rw [hW]; exact q.alloc _
  replace p : Box W2 (w.heap.size + 1) 43 #[.slice A (n1) c, .int .i64 0] := by rw [hW]; exact p.alloc _
  replace x : Box W2 (w.heap.size + 1 + 1) 48 #[.int .i64 4, .int .i64 (b : Int), .int .i64 0, .int .i64 0] := by rw [hW]; exact x.alloc _
  replace r : Box W2 (w.heap.size + 1 + 1 + 1) 43 #[.slice none 0 0, .int .i64 0] := by rw [hW]; exact r.alloc _
  have v : Box W2 w1.heap.size 43 #[.slice A1 n1 c1, .int .i64 0] := by rw [hW]; exact (Box.newAt (by simp [World.setCell]))
  replace o1 : OwnBnk W2 W.heap.size w1.heap.size A1 n1 c1 ks := by rw [hW]; exact o1.alloc _
  clear hW
  refine (sAllowed_pre gg gb n1 R C b hb h8 h16 h e hC hR A c ks row0 _ (hA.below bel) hk hkb).mono ?_
  rintro x' w2 ⟨rfl, b2⟩
  have szw2 := b2.size
  replace bel := bel.trans (b2.mono bel.size)
  replace q := q.kept b2
  replace p := p.kept b2
  replace x := x.kept b2
  replace r := r.kept b2
  replace v := v.kept b2
  replace o1 := o1.below b2
  clear b2
  obtain ⟨x_0, x_1, x_2, x_3⟩ := x.c4
  have x_lt := x.lt
  go_wp2_with fail
  refine (l08Do_pre w1.heap.size W.heap.size w1.heap.size A1 n1 c1 ks b _ v o1 hb h8 (by omega) (by omega)).mono ?_
  rintro x' w3 ⟨rfl, o3, C3⟩
  clear o1
  clear x_0 x_1 x_2 x_3 x_lt
  have szw3 := C3.size
  replace bel := C3.below bel (by omega)
  replace q := q.chg C3 (by omega)
  replace p := p.chg C3 (by omega)
  replace x := x.chg C3 (by omega)
  replace r := r.chg C3 (by omega)
  replace v := v.chg C3 (by omega)
  clear C3
  obtain ⟨v_0, v_1⟩ := v.c2
  have v_lt := v.lt
  obtain ⟨r_0, r_1⟩ := r.c2
  have r_lt := r.lt
  have r_f := r.frozen
  go_wp2
  refine abs_body ?_
  intro W9 hW
  clear v_0 v_1 v_lt r_0 r_1 r_lt r_f
  have szW9 : w3.heap.size ≤ W9.heap.size := by rw [hW]; simp [World.setCell]
  have szW9_ := bel.size
  replace bel : Below w.heap.size w W9 := by rw [hW]; exact ((bel).setCell (by dsimp only; omega) _).setCell (by dsimp only; omega) _
  replace q : Box W9 w.heap.size 25 #[.int .i64 gg, .int .i64 gb, .int .i64 (R : Int), .int .i64 (C : Int)] := by rw [hW]; exact ((q).far (by dsimp only; omega) _).far (by dsimp only; omega) _
  replace p : Box W9 (w.heap.size + 1) 43 #[.slice A (n1) c, .int .i64 0] := by rw [hW]; exact ((p).far (by dsimp only; omega) _).far (by dsimp only; omega) _
  replace x : Box W9 (w.heap.size + 1 + 1) 48 #[.int .i64 4, .int .i64 (b : Int), .int .i64 0, .int .i64 0] := by rw [hW]; exact ((x).far (by dsimp only; omega) _).far (by dsimp only; omega) _
  replace r : Box W9 (w.heap.size + 1 + 1 + 1) 43 #[.slice A1 n1 c1, .int .i64 0] := by rw [hW]; exact ((r).set_ 0 _).set_ 1 _
  replace v : Box W9 w1.heap.size 43 #[.slice A1 n1 c1, .int .i64 0] := by rw [hW]; exact ((v).far (by dsimp only; omega) _).far (by dsimp only; omega) _
  replace o3 : OwnBnk W9 W.heap.size w1.heap.size A1 n1 c1 (ks.set b ⟨false, 0⟩) := by rw [hW]; exact ((o3).setCell _ _ (by dsimp only; omega)).setCell _ _ (by dsimp only; omega)
  clear hW
  obtain ⟨z0, z1⟩ := r.c2
  refine bodyPost_ret (v := .tuple #[.agg #[.slice A1 n1 c1, .int .i64 0], .bool true]) (by simp [results, Try.results29, go_sem, z0, z1]) rfl ?_
  exact ⟨_, _, _, rfl, o3.mono (by omega) (by omega), bel⟩
end Go.Proofs.Ytbapamfomfbmmaa
