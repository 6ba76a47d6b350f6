/-
  The laws' helpers on cells and slices of cells.
-/
import Derived.Test.YtbapamfomfbmmaaArr
import Derived.Test.YtbapamfomfbmmaaUni
import Derived.Test.YtbapamfomfbmmaaLater
namespace Go.Proofs.Ytbapamfomfbmmaa
open Go.RowKit
set_option linter.unusedSimpArgs false
set_option linter.unusedVariables false

/-- The symbols and the cells, counted. -/
def csz (vs : List CV) : Nat := (vs.map fun v => v.1.length + 1).sum
theorem csz_snoc (vs : List CV) (v : CV) : csz (vs ++ [v]) = csz vs + v.1.length + 1 := by simp [csz]; omega
theorem csz_take {vs : List CV} {k : Nat} {v : CV} (h : vs[k]? = some v) : csz (vs.take (k + 1)) = csz (vs.take k) + v.1.length + 1 := by
  obtain ⟨hk, rfl⟩ := List.getElem?_eq_some_iff.1 h
  rw [List.take_succ_eq_append_getElem hk, csz_snoc]
theorem csz_app (a b : List CV) : csz (a ++ b) = csz a + csz b := by simp [csz]
theorem csz_le (vs : List CV) (k : Nat) : csz (vs.take k) ≤ csz vs := by
  have h : csz vs = csz (vs.take k) + csz (vs.drop k) := by rw [← csz_app, List.take_append_drop]
  omega
theorem csz_len (vs : List CV) : vs.length ≤ csz vs := by
  induction vs with
  | nil => simp [csz]
  | cons v vs ih =>
    have : csz (v :: vs) = v.1.length + 1 + csz vs := by simp [csz]
    simp; omega
theorem csz_all {vs : List CV} {k : Nat} (h : vs.length ≤ k) : csz (vs.take k) = csz vs := by rw [List.take_of_length_le h]
/-- A cell's marks. -/
def cmark (k : Int) (v : CV) : CV := (marks k v.1.length, (k + (v.1.length : Int)) % 3 == 0)
def cmarks (k : Int) (vs : List CV) : List CV := (List.range vs.length).map fun i => cmark (k + (csz (vs.take i) : Int)) (vs.getD i ([], false))
theorem cmarks_len (k : Int) (vs : List CV) : (cmarks k vs).length = vs.length := by simp [cmarks]
theorem cmarks_get {k : Int} {vs : List CV} {i : Nat} {v : CV} (h : vs[i]? = some v) : (cmarks k vs)[i]? = some (cmark (k + (csz (vs.take i) : Int)) v) := by
  obtain ⟨hi, e⟩ := List.getElem?_eq_some_iff.1 h
  unfold cmarks
  rw [List.getElem?_map, List.getElem?_range hi]
  simp [List.getD_eq_getElem?_getD, h]
section
variable {w w' : World} {lo hi n c : Nat} {A : Option Addr} {hs : List Cel} {vs : List CV}
theorem OwnC'.below (H : OwnC' w lo hi A n c hs vs) (hb : Below w.heap.size w w') : OwnC' w' lo hi A n c hs vs :=
  ⟨H.out.below hb, H.len, fun i h v a b => ⟨(H.row i h v a b).1, (H.row i h v a b).2.below hb⟩, H.apo, H.apr⟩
theorem OwnC'.mono {lo' hi' : Nat} (H : OwnC' w lo hi A n c hs vs) (h1 : lo' ≤ lo) (h2 : hi ≤ hi') : OwnC' w lo' hi' A n c hs vs :=
  ⟨H.out.mono h1 h2, H.len, fun i h v a b => ⟨(H.row i h v a b).1, (H.row i h v a b).2.mono h1 h2⟩, H.apo, H.apr⟩
theorem OwnC'.setOut (H : OwnC' w lo hi A n c hs vs) (p : Addr) (u : Value) (hne : p.block < lo ∨ hi ≤ p.block) : OwnC' (w.setCell p u) lo hi A n c hs vs :=
  ⟨H.out.setCell p u hne, H.len, fun i h v a b => ⟨(H.row i h v a b).1, (H.row i h v a b).2.setCell p u hne⟩, H.apo, H.apr⟩
theorem OwnC'.chgOut {lo' hi' : Nat} (H : OwnC' w lo hi A n c hs vs) (hc : Chg lo' hi' w w') (hne : hi ≤ lo' ∨ hi' ≤ lo) : OwnC' w' lo hi A n c hs vs :=
  ⟨H.out.chg hc hne, H.len, fun i h v a b => ⟨(H.row i h v a b).1, (H.row i h v a b).2.chg hc hne⟩, H.apo, H.apr⟩
/-- A row in newer blocks lies apart. -/
theorem OwnC'.fresh (H : OwnC' w lo hi A n c hs vs) {l hi2 : Nat} (hl : w.heap.size ≤ l) {w2 : World} {sa : Option Addr} {sn sc : Nat} {zs : List Int} (hn : OwnH w2 l hi2 sa sn sc zs) :
    Apart (blk A c) (blk sa sc) ∧ ∀ (i : Nat) (h : Cel), hs[i]? = some h → Apart (blk h.sa h.sc) (blk sa sc) := by
  refine ⟨fun k hk hk2 => ?_, fun i h a k hk hk2 => ?_⟩
  · have := (H.out.1.lt k hk).2
    have := (hn.1.lt k hk2).1
    omega
  · obtain ⟨v, hv⟩ := H.val a
    have := ((H.row i h v a hv).2.1.lt k hk).2
    have := (hn.1.lt k hk2).1
    omega
end
theorem OwnC'.made {w : World} {lo hi n c : Nat} {A : Option Addr} (h : OwnCel w lo hi A n c (List.replicate n ⟨none, 0, 0, false⟩)) : OwnC' w lo hi A n c (List.replicate n ⟨none, 0, 0, false⟩) (List.replicate n ([], false)) := by
  refine ⟨h, by simp, fun i h v a b => ?_, fun i h a => ?_, fun i j h h2 _ a b => ?_⟩
  · have ha := List.eq_of_mem_replicate (List.mem_of_getElem? a)
    have hb := List.eq_of_mem_replicate (List.mem_of_getElem? b)
    subst ha hb
    exact ⟨rfl, OwnH.nil _ _ _ _⟩
  · have ha := List.eq_of_mem_replicate (List.mem_of_getElem? a)
    subst ha
    exact fun k _ hk => by cases hk
  · have ha := List.eq_of_mem_replicate (List.mem_of_getElem? a)
    subst ha
    exact fun k hk => by cases hk
def NewCel1 (zs : List Int) (p : Bool) (w : World) (e : Ending) (w' : World) : Prop :=
  ∃ A n c, e = .returned (.agg #[.slice A n c, .bool p]) ∧ OwnH w' w.heap.size w'.heap.size A n c zs ∧ Below w.heap.size w w'
def NewC (vs : List CV) (w : World) (e : Ending) (w' : World) : Prop :=
  ∃ A n c, e = .returned (.slice A n c) ∧ OwnC w' w.heap.size w'.heap.size A n c vs ∧ Below w.heap.size w w'
set_option maxHeartbeats 1000000 in
theorem toCell_h (A : Option Addr) (n c : Nat) (zs : List Int) (p : Bool) (w : World) (hA : Ints w A n zs) (hn : n ≤ 1048576) :
    Calls Try.prog 152 #[.agg #[.slice A n c, .bool p]] w (NewCel1 zs p w) := by
  have bel : Below w.heap.size w w := Below.refl _ _
  go_enter Try.func152, Try.ntmps152
  go_wp2_with fail
  refine abs_call ?_
  intro W hW
  have szW : w.heap.size + 1 + 1 + 1 ≤ W.heap.size := by rw [hW]; simp [World.setCell]
  have szW_ := bel.size
  replace bel : Below w.heap.size w W := by rw [hW]; exact (((bel).alloc (by first | omega | (simp [World.setCell] <;> omega)) _).alloc (by first | omega | (simp [World.setCell] <;> omega)) _).alloc (by first | omega | (simp [World.setCell] <;> omega)) _
  have x : Box W w.heap.size 174 #[.slice A n c, .bool p] := by rw [hW]; exact (((Box.newAt (by simp [World.setCell]))).alloc _).alloc _
  have r : Box W (w.heap.size + 1) 104 #[.slice none 0 0, .bool false] := by rw [hW]; exact ((Box.newAt (by simp [World.setCell]))).alloc _
  have q : Box W (w.heap.size + 1 + 1) 104 #[.slice none 0 0, .bool false] := by rw [hW]; exact (Box.newAt (by simp [World.setCell]))
  clear hW
  refine (toIntS_h A n c zs _ (hA.below bel) hn).mono ?_
  rintro e w1 ⟨A1, n1, c1, rfl, o, b1⟩
  have szw1 := b1.size
  replace bel := bel.trans (b1.mono bel.size)
  replace x := x.kept b1
  replace r := r.kept b1
  replace q := q.kept b1
  clear b1
  obtain ⟨x_0, x_1⟩ := x.c2
  have x_lt := x.lt
  obtain ⟨q_0, q_1⟩ := q.c2
  have q_lt := q.lt
  obtain ⟨r_0, r_1⟩ := r.c2
  have r_lt := r.lt
  have q_f := q.frozen
  have r_f := r.frozen
  go_wp2
  refine abs_body ?_
  intro W9 hW
  clear x_0 x_1 x_lt q_0 q_1 q_lt r_0 r_1 r_lt q_f r_f
  have szW9 : w1.heap.size ≤ W9.heap.size := by rw [hW]; simp [World.setCell]
  have szW9_ := bel.size
  replace bel : Below w.heap.size w W9 := by rw [hW]; exact ((((bel).setCell (by dsimp only; omega) _).setCell (by dsimp only; omega) _).setCell (by dsimp only; omega) _).setCell (by dsimp only; omega) _
  replace x : Box W9 w.heap.size 174 #[.slice A n c, .bool p] := by rw [hW]; exact ((((x).far (by dsimp only; omega) _).far (by dsimp only; omega) _).far (by dsimp only; omega) _).far (by dsimp only; omega) _
  replace r : Box W9 (w.heap.size + 1) 104 #[.slice A1 n1 c1, .bool p] := by rw [hW]; exact ((((r).far (by dsimp only; omega) _).far (by dsimp only; omega) _).set_ 0 _).set_ 1 _
  replace q : Box W9 (w.heap.size + 1 + 1) 104 #[.slice A1 n1 c1, .bool p] := by rw [hW]; exact ((((q).set_ 0 _).set_ 1 _).far (by dsimp only; omega) _).far (by dsimp only; omega) _
  replace o : OwnH W9 W.heap.size w1.heap.size A1 n1 c1 zs := by rw [hW]; exact ((((o).setCell _ _ (by dsimp only; omega)).setCell _ _ (by dsimp only; omega)).setCell _ _ (by dsimp only; omega)).setCell _ _ (by dsimp only; omega)
  clear hW
  obtain ⟨z0, z1⟩ := r.c2
  refine bodyPost_ret (v := .agg #[.slice A1 n1 c1, .bool p]) (by simp [results, Try.results152, go_sem, z0, z1]) rfl ?_
  exact ⟨_, _, _, rfl, o.mono (by omega) (by omega), bel⟩
theorem infoCel : (Try.prog.info? 104).map (fun i => (i.zero, i.size, i.bytes)) = some (some (.agg #[.slice none 0 0, .bool false]), 2, 32) := by kernel_rfl
theorem madeCel (m : Nat) : (madeCells (Value.agg #[.slice none 0 0, .bool false]).cells (m * 2)).toList = (List.replicate m (⟨none, 0, 0, false⟩ : Cel)).flatMap Cel.cs :=
  made_flat (by omega) Cel.cs_len ⟨none, 0, 0, false⟩ _ rfl m
set_option maxHeartbeats 2000000 in
theorem toCellS_h (A : Option Addr) (n c : Nat) (vs : List CV) (w : World) (h : Cs w A n vs) (hn : csz vs ≤ 1048576) :
    Calls Try.prog 111 #[.slice A n c] w (NewC vs w) := by
  obtain ⟨i0, hi0, hz0, hz1, hz2⟩ := info_parts infoCel
  have hl := Lib.hid h.len
  have hn1 : n ≤ 1048576 := by have := h.len; have := csz_len vs; omega
  go_enter Try.func111, Try.ntmps111
  go_wp2_with (at_make; refine wpList_make_full _ rfl (.tmp 6) (.tmp 6) 85 rfl w.heap.size 104 i0 _ 2 Try.underlying85 hi0 hz0 hz1 .i64 .i64 n n n rfl rfl rfl rfl (by rw [hz2]; omega) (by unfold maxLen; omega) (Nat.le_refl _) ?_; intro w1 ho1 hg1)
  have o1 : OwnCel w1 w.heap.size w1.heap.size (some ⟨w.heap.size, 0, none⟩) n n (List.replicate n ⟨none, 0, 0, false⟩) := by
    rw [madeCel] at ho1
    exact OwnG.mk' (.inl ho1)
  have H1 := OwnC'.made o1
  have b1 : Below w.heap.size w w1 := (Below.refl _ _).grown hg1 (Nat.le_refl _) (by simp)
  have s1 : w.heap.size ≤ w1.heap.size := b1.size
  clear ho1 hg1 o1
  go_loopw [4] (fun i wr => ∃ (k : Nat) (hs : List Cel), k ≤ n ∧ i = .int .i64 k ∧ OwnC' wr w.heap.size wr.heap.size (some ⟨w.heap.size, 0, none⟩) n n hs (upTo vs (List.replicate n ([], false)) k) ∧ Below w.heap.size w wr) (fun i _ => n - (intOf i).toNat)
  case atStart => exact ⟨0, _, Nat.zero_le _, rfl, by rw [upTo_zero]; exact H1, b1⟩
  case round =>
    clear H1 b1 s1
    obtain ⟨k, hs, hk, rfl, ok, bk⟩ := hrel
    by_cases hlt : k < n
    · obtain ⟨g, o, sa, sn, sc, zs, psn, rfl, hg, h0, h1, hI, hv⟩ := (h.below bk).at_ hlt
      have hsn : sn ≤ 1048576 := by have := hI.1; have := csz_take hv.out; have := csz_le vs (k + 1); dsimp only at *; omega
      go_wp2_with fail
      refine (toCell_h sa sn sc zs psn _ hI hsn).mono ?_
      rintro x w2 ⟨A2, n2, c2, rfl, o2, b2⟩
      have F := ok.fresh (Nat.le_refl _) o2
      have szk := bk.size
      have sz2 := b2.size
      replace ok := (ok.below b2).mono (Nat.le_refl _) b2.size
      replace bk := bk.trans (b2.mono bk.size)
      obtain ⟨g2, sa', sn', sc', zs', psn', e2, gl, gh, hf, z0, z1, hrow, hhs, hvs⟩ := ok.at_ hlt
      injection e2 with e2
      injection e2 with e2 _
      subst e2
      have HO := Lib.hid ok
      have HB := Lib.hid bk
      have HF := Lib.hid F
      have HN := Lib.hid (o2.mono szk (Nat.le_refl _))
      clear ok bk b2 h0 h1 F hrow hI o2
      go_wp2
      go_roundw
      case rel =>
        obtain ⟨q1, q2⟩ := HO.out.setCel rfl hlt ⟨A2, n2, c2, psn⟩ (zs, psn) rfl HN.out HF.out.1 (fun i h _ a => HF.out.2 i h a)
        rw [upTo_set (by simp [hl.out]) hv.out] at q1
        exact ⟨k + 1, _, by omega, by go_num, q1.mono (Nat.le_refl _) q2.size, ((HB.out.setCell (Nat.le_refl _) _).setCell (Nat.le_refl _) _)⟩
      case measure => simp [intOf]; omega
    · go_wp2
      go_ret
      rw [upTo_all (by rw [hl.out]; omega) (by simp; omega)] at ok
      exact ⟨_, _, _, rfl, ⟨_, ok⟩, bk⟩
set_option maxHeartbeats 1000000 in
theorem eqCell_h (A : Option Addr) (n c : Nat) (B : Option Addr) (m d : Nat) (zs : List Int) (p : Bool) (w : World) (hA : Ints w A n zs) (hB : Ints w B m zs) (hn : n ≤ 1048576) :
    Calls Try.prog 153 #[.agg #[.slice A n c, .bool p], .agg #[.slice B m d, .bool p]] w fun e w' => e = .returned (.bool true) ∧ Below w.heap.size w w' := by
  have bel : Below w.heap.size w w := Below.refl _ _
  have ne1 : (p != p) = false := by simp
  go_enter Try.func153, Try.ntmps153
  go_wp2_with fail
  refine abs_call ?_
  intro W hW
  have szW : w.heap.size + 1 + 1 ≤ W.heap.size := by rw [hW]; simp [World.setCell]
  have szW_ := bel.size
  replace bel : Below w.heap.size w W := by rw [hW]; exact ((bel).alloc (by first | omega | (simp [World.setCell] <;> omega)) _).alloc (by first | omega | (simp [World.setCell] <;> omega)) _
  have x : Box W w.heap.size 104 #[.slice A n c, .bool p] := by rw [hW]; exact ((Box.newAt (by simp [World.setCell]))).alloc _
  have y : Box W (w.heap.size + 1) 104 #[.slice B m d, .bool p] := by rw [hW]; exact (Box.newAt (by simp [World.setCell]))
  clear hW
  refine (eqIntS_h A n c B m d zs _ (hA.below bel) (hB.below bel) hn).mono ?_
  rintro e w1 ⟨rfl, b1⟩
  have szw1 := b1.size
  replace bel := bel.trans (b1.mono bel.size)
  replace x := x.kept b1
  replace y := y.kept b1
  clear b1
  obtain ⟨x_0, x_1⟩ := x.c2
  have x_lt := x.lt
  obtain ⟨y_0, y_1⟩ := y.c2
  have y_lt := y.lt
  go_wp2
  go_ret
  exact ⟨rfl, bel⟩
set_option maxHeartbeats 2000000 in
theorem eqCellS_h (A : Option Addr) (n c : Nat) (B : Option Addr) (m d : Nat) (vs : List CV) (w : World) (h : Cs w A n vs) (h' : Cs w B m vs) (hn : csz vs ≤ 1048576) :
    Calls Try.prog 114 #[.slice A n c, .slice B m d] w fun e w' => e = .returned (.bool true) ∧ Below w.heap.size w w' := by
  obtain rfl : n = m := h.len.symm.trans h'.len
  have hn1 : n ≤ 1048576 := by have := h.len; have := csz_len vs; omega
  have hne : ((n : Int) != (n : Int)) = false := by simp
  go_enter Try.func114, Try.ntmps114
  go_wp2
  go_loopw [5] (fun i wr => ∃ k : Nat, k ≤ n ∧ i = .int .i64 k ∧ Below w.heap.size w wr) (fun i _ => n - (intOf i).toNat)
  case atStart => exact ⟨0, Nat.zero_le _, rfl, Below.refl _ _⟩
  case round =>
    obtain ⟨k, hk, rfl, bk⟩ := hrel
    by_cases hlt : k < n
    · obtain ⟨g, o, sa, sn, sc, zs, psn, rfl, hg, h0, h1, hI, hv⟩ := (h.below bk).at_ hlt
      obtain ⟨g', o', sa', sn', sc', zs', psn', rfl, hg', h0', h1', hI', hv'⟩ := (h'.below bk).at_ hlt
      have er := hv.out.symm.trans hv'.out
      injection er with er
      injection er with e0 e1
      subst e0 e1
      have hsn : sn ≤ 1048576 := by have := hI.1; have := csz_take hv.out; have := csz_le vs (k + 1); dsimp only at *; omega
      have i1 : (0 : Int) ≤ (k : Int) := by omega
      have i2 : (k : Int) < (n : Int) := by omega
      go_wp2_with fail
      have l0 := later_cell hg h0
      have l1 := later_cell hg h1
      have l2 := later_cell hg' h0'
      have l3 := later_cell hg' h1'
      refine wp_region_later (by kernel_rfl) (by kernel_rfl) ?_
      repeat (go_big_quiet_step ((go_at_call 153; exact later_call (eqCell_h sa sn sc sa' sn' sc' zs psn _ (hI.below (Later.bel _)) (hI'.below (Later.bel _)) hsn))))
      refine wpQuiet_nil ?_
      intro Z hw'
      obtain ⟨z, hw''⟩ := hw'
      have bZ := z.bel
      rw [← hw''] at bZ
      clear hw'' z l0 l1 l2 l3 h0 h1 h0' h1'
      go_wp2
      go_roundw
      case rel => exact ⟨k + 1, by omega, by go_num, bk.trans (bZ.mono bk.size)⟩
      case measure => simp [intOf]; omega
    · go_wp2
      go_ret
      exact ⟨rfl, bk⟩
theorem szCell_y (A : Option Addr) (n c : Nat) (p : Bool) (left : Int) (w : World) (h1 : left ≤ 1048576) (hn : (n : Int) ≤ left) :
    Calls Try.prog 147 #[.agg #[.slice A n c, .bool p], .int .i64 left] w fun e w' => e = .returned (.int .i64 (left - n)) ∧ Below w.heap.size w w' := by
  have bel : Below w.heap.size w w := Below.refl _ _
  have t0 : decide (left - (n : Int) < 0) = false := by simp; omega
  go_enter Try.func147, Try.ntmps147
  go_wp2_with fail
  refine abs_call ?_
  intro W hW
  have szW : w.heap.size + 1 ≤ W.heap.size := by rw [hW]; simp [World.setCell]
  have szW_ := bel.size
  replace bel : Below w.heap.size w W := by rw [hW]; exact (bel).alloc (by first | omega | (simp [World.setCell] <;> omega)) _
  have x : Box W w.heap.size 174 #[.slice A n c, .bool p] := by rw [hW]; exact (Box.newAt (by simp [World.setCell]))
  clear hW
  refine (szIntS_yes A n c left _ h1 hn).mono ?_
  rintro e w1 ⟨rfl, rfl⟩
  go_wp2
  go_ret
  exact ⟨rfl, bel⟩
theorem szCell_n (A : Option Addr) (n c : Nat) (p : Bool) (left : Int) (w : World) (h0 : 0 ≤ left) (h1 : left ≤ 1048576) (hm : n ≤ maxLen) (hn : left < (n : Int)) :
    Calls Try.prog 147 #[.agg #[.slice A n c, .bool p], .int .i64 left] w fun e w' => e = .returned (.int .i64 (-1)) ∧ Below w.heap.size w w' := by
  have bel : Below w.heap.size w w := Below.refl _ _
  go_enter Try.func147, Try.ntmps147
  go_wp2_with fail
  refine abs_call ?_
  intro W hW
  have szW : w.heap.size + 1 ≤ W.heap.size := by rw [hW]; simp [World.setCell]
  have szW_ := bel.size
  replace bel : Below w.heap.size w W := by rw [hW]; exact (bel).alloc (by first | omega | (simp [World.setCell] <;> omega)) _
  have x : Box W w.heap.size 174 #[.slice A n c, .bool p] := by rw [hW]; exact (Box.newAt (by simp [World.setCell]))
  clear hW
  refine (szIntS_no A n c left _ h0 h1 hm hn).mono ?_
  rintro e w1 ⟨rfl, rfl⟩
  go_wp2
  go_ret
  exact ⟨rfl, bel⟩
/-- How far the limit is used up behind k cells. -/
def leftAt (left : Int) (vs : List CV) (n k : Nat) : Int := left - n - ((csz (vs.take k) : Int) - k)
set_option maxHeartbeats 2000000 in
theorem szCellS_y (A : Option Addr) (n c : Nat) (vs : List CV) (left : Int) (w : World) (h : Cs w A n vs) (h1 : left ≤ 1048576) (hn : (csz vs : Int) ≤ left) :
    Calls Try.prog 105 #[.slice A n c, .int .i64 left] w fun e w' => e = .returned (.int .i64 (left - csz vs)) ∧ Below w.heap.size w w' := by
  have hl := Lib.hid h.len
  have hnl : n ≤ csz vs := by have := h.len; have := csz_len vs; omega
  have t0 : decide (left - (n : Int) < 0) = false := by simp; omega
  go_enter Try.func105, Try.ntmps105
  go_wp2
  go_loopw [1, 5] (fun q i wr => ∃ (k : Nat) (L : Int), k ≤ n ∧ i = .int .i64 k ∧ q = .int .i64 L ∧ Hid (L + (csz (vs.take k) : Int) = left - n + k) ∧ Below w.heap.size w wr) (fun _ i _ => n - (intOf i).toNat)
  case atStart => exact ⟨0, _, Nat.zero_le _, rfl, rfl, by unfold Hid; simp [csz], Below.refl _ _⟩
  case round =>
    obtain ⟨k, L, hk, rfl, rfl, HL, bk⟩ := hrel
    by_cases hlt : k < n
    · obtain ⟨g, o, sa, sn, sc, zs, psn, rfl, hg, h0, h1', hI, hv⟩ := (h.below bk).at_ hlt
      have hs1 := csz_take hv.out
      have hs2 := csz_le vs (k + 1)
      have hs3 : k + 1 ≤ csz (vs.take (k + 1)) := by have := csz_len (vs.take (k + 1)); rw [List.length_take] at this; have := hl.out; omega
      have hs4 : csz vs = csz (vs.take (k + 1)) + csz (vs.drop (k + 1)) := by rw [← csz_app, List.take_append_drop]
      have hs5 := csz_len (vs.drop (k + 1))
      rw [List.length_drop] at hs5
      have hLL := HL.out
      have hZ := hI.1
      have hN := hl.out
      have hLy : (sn : Int) ≤ L := by dsimp only at hs1; omega
      have hL1 : L ≤ 1048576 := by dsimp only at hs1; omega
      have t1 : decide (L - (sn : Int) < 0) = false := by simp; omega
      have HL2 : Hid (L - sn + (csz (vs.take (k + 1)) : Int) = left - n + ((k + 1 : Nat) : Int)) := by unfold Hid; dsimp only at hs1; omega
      clear hs1 hs2 hs3 hs4 hs5 hLL hZ hN hv
      go_wp2_with fail
      refine (szCell_y sa sn sc psn L _ hL1 hLy).mono ?_
      rintro x w2 ⟨rfl, b2⟩
      go_wp2
      go_roundw
      case rel => exact ⟨k + 1, _, by omega, by go_num, rfl, HL2, bk.trans (b2.mono bk.size)⟩
      case measure => simp [intOf]; omega
    · obtain rfl : n = k := by omega
      have hLL := HL.out
      rw [csz_all (by rw [hl.out]; omega)] at hLL
      go_wp2
      go_ret
      exact ⟨ret_int (by omega), bk⟩
end Go.Proofs.Ytbapamfomfbmmaa
