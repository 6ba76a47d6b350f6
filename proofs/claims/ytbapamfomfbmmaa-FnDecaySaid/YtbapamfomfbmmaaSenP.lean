/-
  Arrays of one's own whose blocks lie apart, however they lie; sensing a row of such an array in the reference.
-/
import Derived.Test.YtbapamfomfbmmaaSenF
import Derived.Deep.DeepCutAuto
import Derived.Deep.RegionHeld3
import Derived.BigRegion
namespace Go.Proofs.Ytbapamfomfbmmaa
open Go.RowKit
set_option linter.unusedSimpArgs false
set_option linter.unusedVariables false

/-- An array of one's own, its blocks apart. -/
def OwnX (w : World) (lo hi : Nat) (A : Option Addr) (n c : Nat) (hs : List Cel) (vs : List CV) (B : Option Addr) (m d : Nat) (ag : List Int) (D : Option Addr) (p q : Nat) (ht : List Int) : Prop :=
  OwnC' w lo hi A n c hs vs ∧ OwnH w lo hi B m d ag ∧ OwnH w lo hi D p q ht ∧ Apart (blk A c) (blk B d) ∧ Apart (blk A c) (blk D q) ∧ Apart (blk B d) (blk D q) ∧ ∀ (i : Nat) (h : Cel), hs[i]? = some h → Apart (blk h.sa h.sc) (blk B d) ∧ Apart (blk h.sa h.sc) (blk D q)
section
variable {w w' : World} {lo hi n c m d p q : Nat} {A B D : Option Addr} {hs : List Cel} {vs : List CV} {ag ht : List Int}
theorem OwnC'.aside {g : Nat} (H : OwnC' w lo hi A n c hs vs) (C : Chg g (g + 1) w w') (hA : blk A c ≠ some g) (hr : ∀ (i : Nat) (h : Cel), hs[i]? = some h → blk h.sa h.sc ≠ some g) : OwnC' w' lo hi A n c hs vs :=
  ⟨OwnG.aside H.out C hA, H.len, fun i h v a b => ⟨(H.row i h v a b).1, (H.row i h v a b).2.aside C (hr i h a)⟩, H.apo, H.apr⟩
theorem OwnA.toX (H : OwnA w lo hi A n c vs B m d ag D p q ht) : ∃ hs, OwnX w lo hi A n c hs vs B m d ag D p q ht := by
  obtain ⟨l1, h1, l2, h2, l3, h3, ⟨hs, x⟩, y, z, ⟨a1, a2⟩, ⟨a3, a4⟩, ⟨a5, a6⟩, s1, s2, s3⟩ := H
  have ap : ∀ {l h l' h' : Nat} {a b : Option Nat}, (∀ k, a = some k → l ≤ k ∧ k < h) → (∀ k, b = some k → l' ≤ k ∧ k < h') → (h ≤ l' ∨ h' ≤ l) → Apart a b := fun ha hb hd k hk hk' => by
    have := ha k hk
    have := hb k hk'
    omega
  have bC : ∀ k, blk A c = some k → l1 ≤ k ∧ k < h1 := fun k hk => ⟨(x.out.1.lt k hk).1, x.out.2 k hk⟩
  have bR : ∀ (i : Nat) (h : Cel), hs[i]? = some h → ∀ k, blk h.sa h.sc = some k → l1 ≤ k ∧ k < h1 := fun i h a k hk => by
    obtain ⟨v, hv⟩ := x.val a
    exact ⟨((x.row i h v a hv).2.1.lt k hk).1, (x.row i h v a hv).2.2 k hk⟩
  have bB : ∀ k, blk B d = some k → l2 ≤ k ∧ k < h2 := fun k hk => ⟨(y.1.lt k hk).1, y.2 k hk⟩
  have bD : ∀ k, blk D q = some k → l3 ≤ k ∧ k < h3 := fun k hk => ⟨(z.1.lt k hk).1, z.2 k hk⟩
  exact ⟨hs, x.mono a1 a2, y.mono a3 a4, z.mono a5 a6, ap bC bB s1, ap bC bD s2, ap bB bD s3, fun i h a => ⟨ap (bR i h a) bB s1, ap (bR i h a) bD s2⟩⟩
theorem OwnX.below (H : OwnX w lo hi A n c hs vs B m d ag D p q ht) (hb : Below w.heap.size w w') : OwnX w' lo hi A n c hs vs B m d ag D p q ht := by
  obtain ⟨x, y, z, r⟩ := H; exact ⟨x.below hb, y.below hb, z.below hb, r⟩
theorem OwnX.alloc (H : OwnX w lo hi A n c hs vs B m d ag D p q ht) (o : Obj) : OwnX (w.alloc o) lo hi A n c hs vs B m d ag D p q ht := H.below ((Below.refl _ _).alloc (Nat.le_refl _) o)
theorem OwnX.drewN (H : OwnX w lo hi A n c hs vs B m d ag D p q ht) (k : Nat) : OwnX (w.drewN k) lo hi A n c hs vs B m d ag D p q ht := H.below (belowN (Below.refl _ _) k)
theorem OwnX.chg {lo' hi' : Nat} (H : OwnX w lo hi A n c hs vs B m d ag D p q ht) (hc : Chg lo' hi' w w') (hne : hi ≤ lo' ∨ hi' ≤ lo) : OwnX w' lo hi A n c hs vs B m d ag D p q ht := by
  obtain ⟨x, y, z, r⟩ := H; exact ⟨x.chgOut hc hne, y.chg hc hne, z.chg hc hne, r⟩
theorem OwnX.mono {lo' hi' : Nat} (H : OwnX w lo hi A n c hs vs B m d ag D p q ht) (h1 : lo' ≤ lo) (h2 : hi ≤ hi') : OwnX w lo' hi' A n c hs vs B m d ag D p q ht := by
  obtain ⟨x, y, z, r⟩ := H; exact ⟨x.mono h1 h2, y.mono h1 h2, z.mono h1 h2, r⟩
theorem OwnX.setCell (H : OwnX w lo hi A n c hs vs B m d ag D p q ht) (a : Addr) (u : Value) (hne : a.block < lo ∨ hi ≤ a.block) : OwnX (w.setCell a u) lo hi A n c hs vs B m d ag D p q ht := by
  obtain ⟨x, y, z, r⟩ := H; exact ⟨x.setOut a u hne, y.setCell a u hne, z.setCell a u hne, r⟩
theorem OwnX.chgRow (H : OwnX w lo hi A n c hs vs B m d ag D p q ht) {k g : Nat} {h : Cel} {v : CV} {zs' : List Int} (hk : hs[k]? = some h) (hv : vs[k]? = some v) (hg : blk h.sa h.sc = some g) (C : Chg g (g + 1) w w') (hn : OwnH w' lo hi h.sa h.sn h.sc zs') : OwnX w' lo hi A n c hs (vs.set k (zs', v.2)) B m d ag D p q ht := by
  obtain ⟨x, y, z, r1, r2, r3, r4⟩ := H
  exact ⟨x.chgRow hk hv hg C hn, y.aside C (fun e => (r4 k h hk).1 g hg e), z.aside C (fun e => (r4 k h hk).2 g hg e), r1, r2, r3, r4⟩
theorem own_blk {g k : Nat} {zs : List Int} (o : OwnH w lo hi (some ⟨g, 0, none⟩) m d zs) (hk : k < m) : blk (some ⟨g, 0, none⟩) d = some g := blk_at (by have := o.1.cap; omega)
theorem OwnX.storeB {gA k : Nat} (H : OwnX w lo hi A n c hs vs (some ⟨gA, 0, none⟩) m d ag D p q ht) (hk : k < m) (x : Int) : OwnX (w.setCell ⟨gA, k, none⟩ (.int .i64 x)) lo hi A n c hs vs (some ⟨gA, 0, none⟩) m d (ag.set k x) D p q ht := by
  obtain ⟨X, y, z, r1, r2, r3, r4⟩ := H
  have hg := own_blk y hk
  have C : Chg gA (gA + 1) w (w.setCell ⟨gA, k, none⟩ (.int .i64 x)) := (Chg.refl gA (gA + 1) w).setCell (p := ⟨gA, k, none⟩) (.inl ⟨Nat.le_refl _, Nat.lt_succ_self _⟩) _
  exact ⟨X.aside C (fun e => r1 gA e hg) (fun i h a e => (r4 i h a).1 gA e hg), (y.stored rfl hk x).1, z.aside C (fun e => r3 gA hg e), r1, r2, r3, r4⟩
theorem OwnX.storeD {gD k : Nat} (H : OwnX w lo hi A n c hs vs B m d ag (some ⟨gD, 0, none⟩) p q ht) (hk : k < p) (x : Int) : OwnX (w.setCell ⟨gD, k, none⟩ (.int .i64 x)) lo hi A n c hs vs B m d ag (some ⟨gD, 0, none⟩) p q (ht.set k x) := by
  obtain ⟨X, y, z, r1, r2, r3, r4⟩ := H
  have hg := own_blk z hk
  have C : Chg gD (gD + 1) w (w.setCell ⟨gD, k, none⟩ (.int .i64 x)) := (Chg.refl gD (gD + 1) w).setCell (p := ⟨gD, k, none⟩) (.inl ⟨Nat.le_refl _, Nat.lt_succ_self _⟩) _
  exact ⟨X.aside C (fun e => r2 gD e hg) (fun i h a e => (r4 i h a).2 gD e hg), y.aside C (fun e => r3 gD e hg), (z.stored rfl hk x).1, r1, r2, r3, r4⟩
/-- One cell is stored, its row in newer memory. -/
theorem OwnX.setNew {g k l hi2 : Nat} (H : OwnX w lo hi A n c hs vs B m d ag D p q ht) (hA : A = some ⟨g, 0, none⟩) (hk : k < n) {w0 : World} (hl : hi ≤ l) (hl0 : lo ≤ l) (h' : Cel) (v' : CV) (hp : h'.psn = v'.2) (hn : OwnH w l hi2 h'.sa h'.sn h'.sc v'.1) (hh : hi ≤ hi2) :
    OwnX ((w.setCell ⟨g, k * 2, none⟩ (.slice h'.sa h'.sn h'.sc)).setCell ⟨g, k * 2 + 1, none⟩ (.bool h'.psn)) lo hi2 A n c (hs.set k h') (vs.set k v') B m d ag D p q ht ∧ Chg g (g + 1) w ((w.setCell ⟨g, k * 2, none⟩ (.slice h'.sa h'.sn h'.sc)).setCell ⟨g, k * 2 + 1, none⟩ (.bool h'.psn)) := by
  obtain ⟨X, y, z, r1, r2, r3, r4⟩ := H
  have bN : ∀ j, blk h'.sa h'.sc = some j → l ≤ j := fun j hj => (hn.1.lt j hj).1
  have apN : ∀ {a : Option Nat}, (∀ j, a = some j → j < hi) → Apart a (blk h'.sa h'.sc) := fun ha j hj hj' => by
    have := ha j hj
    have := bN j hj'
    omega
  have xR : ∀ (i : Nat) (h : Cel), hs[i]? = some h → ∀ j, blk h.sa h.sc = some j → j < hi := fun i h a j hj => by
    obtain ⟨v, hv⟩ := X.val a
    exact (X.row i h v a hv).2.2 j hj
  obtain ⟨g0, e0, hb, -⟩ := X.blkOut (by omega)
  have hgg : g0 = g := by rw [hA] at e0; injection e0 with e0; injection e0 with e0; exact e0.symm
  subst hgg
  obtain ⟨S, C⟩ := (X.mono (Nat.le_refl lo) hh).setCel hA hk h' v' hp (hn.mono hl0 (Nat.le_refl _)) (apN (fun j hj => X.out.2 j hj)) (fun i h _ a => apN (xR i h a))
  refine ⟨⟨S, (y.mono (Nat.le_refl _) hh).aside C (fun e => r1 g0 hb e), (z.mono (Nat.le_refl _) hh).aside C (fun e => r2 g0 hb e), r1, r2, r3, fun i h a => ?_⟩, C⟩
  rcases set_cases a with ⟨-, rfl, -⟩ | ⟨-, a⟩
  · exact ⟨(apN (fun j hj => y.2 j hj)).symm, (apN (fun j hj => z.2 j hj)).symm⟩
  · exact r4 i h a
end
set_option maxRecDepth 100000 in
set_option maxHeartbeats 16000000 in
theorem l14SenseB_c (gg gb : Int) (nb R C b r : Nat) (la lh : Int) (pB lo hi : Nat) (A : Option Addr) (n c : Nat) (B : Option Addr) (m d : Nat) (D : Option Addr) (p q : Nat) (hs : List Cel) (vs : List CV) (ag ht : List Int) (w : World)
    (P : Box w pB 87 #[.slice A n c, .slice B m d, .slice D p q]) (H : OwnX w lo hi A n c hs vs B m d ag D p q ht) (hpB : blk B d ≠ some pB) (hpD : blk D q ≠ some pB) (hpR : ∀ (i : Nat) (h : Cel), hs[i]? = some h → blk h.sa h.sc ≠ some pB) (hhi : hi ≤ w.heap.size)
    (hg : geoOk gg gb R C = true) (hnb : bankCnt gg gb R C = (nb : Int)) (nb8 : nb ≤ 8) (R16 : R ≤ 16) (C8 : C ≤ 8) (hb : b < nb) (hr : r < R) (hn : n = nb * R * C) (hm : m = nb * R) (hpp : p = nb * R) {vs0 : List CV} (hcv : vs0.all celF = true) (hl0 : lens vs = lens vs0) (hca : ag.all ageF = true) (hch : ht.all ageF = true) :
    Calls Try.prog 110 #[.agg #[.int .i64 gg, .int .i64 gb, .int .i64 (R : Int), .int .i64 (C : Int)], .agg #[.int .i64 la, .int .i64 lh], .pointer (some ⟨pB, 0, none⟩), .int .i64 (b : Int), .int .i64 (r : Int)] w fun e w' => e = .returned (.tuple #[]) ∧ OwnX w' lo hi A n c hs (senV la lh R C b r vs ag ht) B m d (senA R b r ag) D p q (senH R b r ht) ∧ Chg lo hi w w' ∧ Box w' pB 87 #[.slice A n c, .slice B m d, .slice D p q] := by
  have bel : Below w.heap.size w w := Below.refl _ _
  obtain ⟨Tt, hT⟩ : ∃ x, b * R = x := ⟨_, rfl⟩
  obtain ⟨I, hI⟩ : ∃ x, Tt + r = x := ⟨_, rfl⟩
  obtain ⟨J, hJ⟩ : ∃ x, I * C = x := ⟨_, rfl⟩
  have hT2 : Tt ≤ 128 := by rw [← hT]; exact Nat.le_trans (Nat.mul_le_mul (show b ≤ 8 by omega) R16) (by omega)
  have hJ2 : J ≤ 1200 := by rw [← hJ]; exact Nat.le_trans (Nat.mul_le_mul (show I ≤ 150 by omega) C8) (by omega)
  have eT : (b : Int) * (R : Int) = (Tt : Int) := by rw [← Int.natCast_mul, hT]
  have eI : (Tt : Int) + (r : Int) = (I : Int) := by omega
  have eJ : (I : Int) * (C : Int) = (J : Int) := by rw [← Int.natCast_mul, hJ]
  have eT' : IntKind.i64.wrap ((b : Int) * (R : Int)) = (Tt : Int) := by rw [eT]; exact IntWalk.i64_in _ (by omega)
  have eJ' : IntKind.i64.wrap ((I : Int) * (C : Int)) = (J : Int) := by rw [eJ]; exact IntWalk.i64_in _ (by omega)
  have hIm : I < m := by have := lt_prod hb hr; rw [hT] at this; omega
  have hIp : I < p := by omega
  have hJn : J + C ≤ n := by
    have h1 : (I + 1) * C ≤ nb * R * C := Nat.mul_le_mul_right C (by have := lt_prod hb hr; rw [hT] at this; omega)
    rw [Nat.add_mul, Nat.one_mul, hJ] at h1
    omega
  have HTI := Lib.hid hT
  have HII := Lib.hid hI
  have HJJ := Lib.hid hJ
  have hIy : ∀ y, y < R → Tt + y < p := fun y h => by have := lt_prod hb h; rw [hT] at this; omega
  have hI1 : r + 1 < R → I + 1 < m ∧ I + 1 < p := fun h => by have := lt_prod hb h; rw [show b * R + (r + 1) = b * R + r + 1 by omega, hT] at this; omega
  obtain ⟨-, -, ⟨gR1, gR2⟩, -⟩ := geo_parts hg
  have HNear : Hid (nears (R : Int) (r : Int) = (if 0 < (r : Int) then [(r : Int) - 1] else []) ++ (if (r : Int) < (R : Int) - 1 then [(r : Int) + 1] else [])) := by unfold Hid nears; rw [if_pos ⟨inB_mk gR1 gR2, inB_mk (by omega) (by omega)⟩]
  have HSH : Hid (senH R b r ht = hitsTo Tt (nears (R : Int) (r : Int)) (ht.set I 0)) := by unfold Hid senH; rw [hT, hI]
  have HSA : Hid (senA R b r ag = ag.set I 0) := by unfold Hid senA; rw [hT, hI]
  clear hT hI hJ hn hm hpp
  have Plt := P.lt
  have x := P
  clear P
  go_enter Try.func110, Try.ntmps110
  go_wp2_with fail
  refine abs_code ?_
  intro W hW
  have b0 : Below w.heap.size w W := by rw [hW]; exact ((Below.refl _ _).alloc (Nat.le_refl _) _).alloc (by simp) _
  have CC : Chg lo hi w W := Chg.of_below b0
  have szW0 : w.heap.size + 2 ≤ W.heap.size := by rw [hW]; simp
  have szW : w.heap.size + 1 + 1 ≤ W.heap.size := by rw [hW]; simp [World.setCell]
  replace x : Box W pB 87 #[.slice A n c, .slice B m d, .slice D p q] := by rw [hW]; exact (x.alloc _).alloc _
  have gq : Box W w.heap.size 25 #[.int .i64 gg, .int .i64 gb, .int .i64 (R : Int), .int .i64 (C : Int)] := by rw [hW]; exact ((Box.newAt (by simp [World.setCell]))).alloc _
  have l : Box W (w.heap.size + 1) 90 #[.int .i64 la, .int .i64 lh] := by rw [hW]; exact (Box.newAt (by simp [World.setCell]))
  replace H : OwnX W lo hi A n c hs vs B m d ag D p q ht := by rw [hW]; exact (H.alloc _).alloc _
  clear hW
  obtain ⟨gq_0, gq_1, gq_2, gq_3⟩ := gq.c4
  have gq_lt := gq.lt
  obtain ⟨l_0, l_1⟩ := l.c2
  have l_lt := l.lt
  obtain ⟨x_0, x_1, x_2⟩ := x.c3
  have x_lt := x.lt
  go_wp2_with fail
  have l0 := later_cell gq_lt gq_0
  have l1' := later_cell gq_lt gq_1
  have l2' := later_cell gq_lt gq_2
  have l3' := later_cell gq_lt gq_3
  have m0 := later_cell l_lt l_0
  have m1 := later_cell l_lt l_1
  have x0' := later_cell x_lt x_0
  have x1' := later_cell x_lt x_1
  have x2' := later_cell x_lt x_2
  have iB := H.2.1.ints
  have iD := H.2.2.1.ints
  have cG : ∀ z : Later W, Calls Try.prog 151 #[.agg #[.int .i64 gg, .int .i64 gb, .int .i64 (R : Int), .int .i64 (C : Int)], .agg #[.int .i64 la, .int .i64 lh], .agg #[.slice A n c, .slice B m d, .slice D p q], .int .i64 (I : Int)] z.w fun e w' => e = .returned (.bool (goneB la lh ag ht I)) ∧ Below z.w.heap.size z.w w' := fun z => l14Gone_c gg gb R C la lh A n c B m d D p q ag ht I z.w (iB.below z.bel) (iD.below z.bel) hIm hIp
  refine wp_region_later (by kernel_rfl) (by kernel_rfl) ?_
  repeat (go_big_quiet_step ((go_at_call 151; exact later_call (cG _))))
  refine wpQuiet_nil ?_
  intro Z hw'
  obtain ⟨z, hw''⟩ := hw'
  have bZ := z.bel
  rw [← hw''] at bZ
  clear hw'' z l0 l1' l2' l3' m0 m1 x0' x1' x2' iB iD cG
  replace CC := CC.trans (Chg.of_below bZ)
  clear gq_0 gq_1 gq_2 gq_3 gq_lt l_0 l_1 l_lt x_0 x_1 x_2 x_lt
  have szZ := bZ.size
  replace x := x.kept bZ
  replace gq := gq.kept bZ
  replace l := l.kept bZ
  replace H := H.below bZ
  clear bZ
  go_upto_if 25 with (fail)
  go_cut [] (fun wx => OwnX wx lo hi A n c hs (senV la lh R C b r vs ag ht) B m d ag D p q ht ∧ Chg lo hi Z wx ∧ Box wx pB 87 #[.slice A n c, .slice B m d, .slice D p q])
  case first =>
    cases hgn : goneB la lh ag ht I
    · have HV : Hid (senV la lh R C b r vs ag ht = vs) := by unfold Hid senV; rw [HTI.out, HII.out, if_neg (by rw [hgn]; simp)]
      clear hgn
      go_wp2
      go_meet
      exact ⟨by rw [HV.out]; exact H, Chg.refl _ _ _, x⟩
    · have HV : Hid (senV la lh R C b r vs ag ht = bendTo vs J C) := by unfold Hid senV; rw [HTI.out, HII.out, if_pos hgn, HJJ.out]
      clear hgn
      go_wp2_with fail
      go_loopw [11] (fun i wr => ∃ (k : Nat), k ≤ C ∧ i = .int .i64 k ∧ OwnX wr lo hi A n c hs (bendTo vs J k) B m d ag D p q ht ∧ Chg lo hi Z wr ∧ Box wr pB 87 #[.slice A n c, .slice B m d, .slice D p q]) (fun i _ => C - (intOf i).toNat)
      case atStart => exact ⟨0, Nat.zero_le _, rfl, H, Chg.refl _ _ _, x⟩
      case round =>
        obtain ⟨k, hk, rfl, HK, CK, xk⟩ := hrel
        have szk := CK.size
        have gqk := gq.chg CK (by omega)
        obtain ⟨gqk_0, gqk_1, gqk_2, gqk_3⟩ := gqk.c4
        obtain ⟨xk_0, xk_1, xk_2⟩ := xk.c3
        have gqk_lt := gqk.lt
        have xk_lt := xk.lt
        by_cases hlt : k < C
        · obtain ⟨Jk, hJk⟩ : ∃ x, x = J + k := ⟨_, rfl⟩
          have eK : (J : Int) + (k : Int) = (Jk : Int) := by omega
          have eK' : IntKind.i64.wrap ((J : Int) + (k : Int)) = (Jk : Int) := by rw [eK]; exact IntWalk.i64_in _ (by omega)
          have hJn2 : Jk < n := by omega
          obtain ⟨g, sa, sn, sc, zs, psn, rfl, gl, gh, hf, c0, c1, hI, hhs, hvs⟩ := HK.1.at_ hJn2
          have h11 := lens_at ((bendTo_lens vs J k).trans hl0) hvs.out hcv
          have hsn := hI.len
          dsimp only at h11
          obtain ⟨gS, y0, rfl, cy0, fy0, hy0, gS1, gS2⟩ := hI.at_ (show 0 < sn by omega)
          obtain ⟨gS', y1, eS, cy1, fy1, hy1, -, -⟩ := hI.at_ (show 1 < sn by omega)
          injection eS with eS
          injection eS with eS _
          subst eS
          have j0 : (0 : Int) ≤ (Jk : Int) := by omega
          have j1 : (Jk : Int) < (n : Int) := by omega
          have n0 : (0 : Int) < (sn : Int) := by omega
          have n1 : (1 : Int) < (sn : Int) := by omega
          have HB := Lib.hid (bend_two hy0.out hy1.out)
          have HBS : Hid (bendTo vs J (k + 1) = (bendTo vs J k).set Jk (bendL zs, psn)) := by unfold Hid; rw [bendTo_succ, ← hJk]; exact bendAt_of hvs.out
          have hcc : sc ≠ 0 := by have := hI.1.cap; omega
          have hbl : blk (some ⟨gS, 0, none⟩) sc = some gS := blk_at hcc
          have nePS : pB ≠ gS := fun e => hpR _ _ hhs.out (by rw [e]; exact hbl)
          clear hJk h11 hy0 hy1
          go_wp2_with fail
          go_quiet (fail)
          go_wp2
          go_roundw
          case rel => 
            have Cn := (((Chg.refl gS (gS + 1) wr).drewN nq).setCell (p := ⟨gS, 0, none⟩) (.inl ⟨Nat.le_refl _, Nat.lt_succ_self _⟩) (.int .i64 (bits .xor .i64 y0 5))).setCell (p := ⟨gS, 1, none⟩) (.inl ⟨Nat.le_refl _, Nat.lt_succ_self _⟩) (.int .i64 (bits .xor .i64 y1 10))
            have q1 := ((hI.drewN nq).stored rfl (show 0 < sn by omega) (bits .xor .i64 y0 5)).1
            have q2 := (q1.stored rfl (show 1 < sn by omega) (bits .xor .i64 y1 10)).1
            rw [HB.out] at q2
            have hch := HK.chgRow hhs.out hvs.out hbl Cn q2
            rw [← HBS.out] at hch
            exact ⟨k + 1, by omega, by go_num, hch, CK.trans (Cn.mono gS1 (by omega)), xk.chg Cn (by omega)⟩
          case measure => simp [intOf]; omega
        · obtain rfl : k = C := by omega
          go_wp2
          go_meet
          exact ⟨by rw [HV.out]; exact HK, CK, xk⟩
  case rest =>
    obtain ⟨HV, C1, xc⟩ := hcut
    clear x
    obtain ⟨Wd, hWd⟩ : ∃ v : World, v = wc := ⟨_, rfl⟩
    subst hWd
    replace CC := CC.trans C1
    clear H
    have szWd := C1.size
    replace gq := gq.chg C1 (by omega)
    replace l := l.chg C1 (by omega)
    clear C1
    have H := HV
    clear HV
    have x := xc
    clear xc
    obtain ⟨gA, yA, rfl, cA, fA, -, gA1, gA2⟩ := H.2.1.at_ hIm
    obtain ⟨gH, yH, rfl, cH, fH, -, gH1, gH2⟩ := H.2.2.1.at_ hIp
    have neAH : gA ≠ gH := fun e => H.2.2.2.2.2.1 gA (own_blk H.2.1 hIm) (by rw [e]; exact own_blk H.2.2.1 hIp)
    have neHA : gH ≠ gA := fun e => neAH e.symm
    have nePA : pB ≠ gA := fun e => hpB (by rw [e]; exact own_blk H.2.1 hIm)
    have nePH : pB ≠ gH := fun e => hpD (by rw [e]; exact own_blk H.2.2.1 hIp)
    have i0 : (0 : Int) ≤ (I : Int) := by omega
    have i1 : (I : Int) < (m : Int) := by omega
    have i2 : (I : Int) < (p : Int) := by omega
    have hall := set_all (i := I) (x := 0) hch rfl
    obtain ⟨gq_0, gq_1, gq_2, gq_3⟩ := gq.c4
    have gq_lt := gq.lt
    obtain ⟨x_0, x_1, x_2⟩ := x.c3
    have x_lt := x.lt
    by_cases hr0 : 0 < (r : Int)
    · have tr0 : decide (0 < (r : Int)) = true := by simpa using hr0
      by_cases hrR : (r : Int) < (R : Int) - 1
      · have trR : decide ((r : Int) < (R : Int) - 1) = true := by simpa using hrR
        obtain ⟨hI1m, hI1p⟩ := hI1 (by omega)
        go_wp2_with fail
        refine abs_code ?_
        intro Wf hW
        have CCWf : Chg lo hi w Wf := by rw [hW]; exact (CC.setCell (.inl (by dsimp only; omega)) _).setCell (.inl (by dsimp only; omega)) _
        clear gq_0 gq_1 gq_2 gq_3 gq_lt x_0 x_1 x_2 x_lt
        have szWf : Wd.heap.size ≤ Wf.heap.size := by rw [hW]; simp [World.setCell]
        replace gq : Box Wf w.heap.size 25 #[.int .i64 gg, .int .i64 gb, .int .i64 (R : Int), .int .i64 (C : Int)] := by rw [hW]; exact ((gq).far (by dsimp only; omega) _).far (by dsimp only; omega) _
        replace l : Box Wf (w.heap.size + 1) 90 #[.int .i64 la, .int .i64 lh] := by rw [hW]; exact ((l).far (by dsimp only; omega) _).far (by dsimp only; omega) _
        replace x : Box Wf pB 87 #[.slice A n c, .slice (some ⟨gA, 0, none⟩) m d, .slice (some ⟨gH, 0, none⟩) p q] := by rw [hW]; exact ((x).far (by dsimp only; omega) _).far (by dsimp only; omega) _
        replace H : OwnX Wf lo hi A n c hs (senV la lh R C b r vs ag ht) (some ⟨gA, 0, none⟩) m d (ag.set I 0) (some ⟨gH, 0, none⟩) p q (ht.set I 0) := by rw [hW]; exact ((((H).storeB hIm 0)).storeD hIp 0)
        clear hW
        obtain ⟨XX1, hXX1⟩ : ∃ x : Nat, (x : Int) = (I : Int) - 1 := ⟨I - 1, by omega⟩
        have hXp1 : XX1 < p := by omega
        obtain ⟨gX11, yX1, eX1, hcX1, hfX1, hyX1, gX11, gX21⟩ := H.2.2.1.at_ hXp1
        injection eX1 with eX1
        injection eX1 with eX1 _
        subst eX1
        have hyb1 := age_at (hall) hyX1.out
        obtain ⟨hy01, hy11⟩ := hyb1
        have x0i1 : (0 : Int) ≤ (XX1 : Int) := by omega
        have x1i1 : (XX1 : Int) < (p : Int) := by omega
        have eS1 : IntKind.i64.wrap ((I : Int) - 1) = (XX1 : Int) := by rw [← hXX1]; exact IntWalk.i64_in _ (by omega)
        have eY1 : IntKind.i64.wrap (yX1 + 1) = yX1 + 1 := IntWalk.i64_in _ (by omega)
        have HXX1 := Lib.hid hXX1
        clear hXX1
        have HS1 := Lib.hid (hit_set hyX1.out)
        clear hyX1
        obtain ⟨gq_0, gq_1, gq_2, gq_3⟩ := gq.c4
        have gq_lt := gq.lt
        obtain ⟨x_0, x_1, x_2⟩ := x.c3
        have x_lt := x.lt
        go_wp2_with fail
        go_region
        go_wp2_with fail
        all_goals
          refine abs_code ?_
          intro Wg hW
          replace hW : Wg = (Wf.setCell ⟨gH, XX1, none⟩ (.int .i64 (min (yX1 + 1) 100000))).drew := by rw [hW]; first | (rw [show min (yX1 + 1) 100000 = yX1 + 1 by omega]) | (rw [show min (yX1 + 1) 100000 = 100000 by omega])
          have CCWg : Chg lo hi w Wg := by rw [hW]; exact (CCWf.setCell (.inl (by dsimp only; omega)) _).drewN 1
          clear gq_0 gq_1 gq_2 gq_3 gq_lt x_0 x_1 x_2 x_lt
          have szWg : Wf.heap.size ≤ Wg.heap.size := by rw [hW]; simp [World.setCell]
          replace gq : Box Wg w.heap.size 25 #[.int .i64 gg, .int .i64 gb, .int .i64 (R : Int), .int .i64 (C : Int)] := by rw [hW]; exact ((gq).far (by dsimp only; omega) _).drewN 1
          replace l : Box Wg (w.heap.size + 1) 90 #[.int .i64 la, .int .i64 lh] := by rw [hW]; exact ((l).far (by dsimp only; omega) _).drewN 1
          replace x : Box Wg pB 87 #[.slice A n c, .slice (some ⟨gA, 0, none⟩) m d, .slice (some ⟨gH, 0, none⟩) p q] := by rw [hW]; exact ((x).far (by dsimp only; omega) _).drewN 1
          replace H : OwnX Wg lo hi A n c hs (senV la lh R C b r vs ag ht) (some ⟨gA, 0, none⟩) m d (ag.set I 0) (some ⟨gH, 0, none⟩) p q ((ht.set I 0).set XX1 (min (yX1 + 1) 100000)) := by rw [hW]; exact (((H).storeD hXp1 _)).drewN 1
          clear hW
          rw [HS1.out] at H
          have hall2 := hitAdd_all (i := XX1) hall
          obtain ⟨XX2, hXX2⟩ : ∃ x : Nat, (x : Int) = (I : Int) + 1 := ⟨I + 1, by omega⟩
          have hXp2 : XX2 < p := by omega
          obtain ⟨gX22, yX2, eX2, hcX2, hfX2, hyX2, gX12, gX22⟩ := H.2.2.1.at_ hXp2
          injection eX2 with eX2
          injection eX2 with eX2 _
          subst eX2
          have hyb2 := age_at (hall2) hyX2.out
          obtain ⟨hy02, hy12⟩ := hyb2
          have x0i2 : (0 : Int) ≤ (XX2 : Int) := by omega
          have x1i2 : (XX2 : Int) < (p : Int) := by omega
          have eS2 : IntKind.i64.wrap ((I : Int) + 1) = (XX2 : Int) := by rw [← hXX2]; exact IntWalk.i64_in _ (by omega)
          have eY2 : IntKind.i64.wrap (yX2 + 1) = yX2 + 1 := IntWalk.i64_in _ (by omega)
          have HXX2 := Lib.hid hXX2
          clear hXX2
          have HS2 := Lib.hid (hit_set hyX2.out)
          clear hyX2
          obtain ⟨gq_0, gq_1, gq_2, gq_3⟩ := gq.c4
          have gq_lt := gq.lt
          obtain ⟨x_0, x_1, x_2⟩ := x.c3
          have x_lt := x.lt
          go_wp2_with fail
          go_region
          go_wp2
          all_goals
            refine abs_body ?_
            intro W9 hW
            replace hW : W9 = (Wg.setCell ⟨gH, XX2, none⟩ (.int .i64 (min (yX2 + 1) 100000))).drew := by rw [hW]; first | (rw [show min (yX2 + 1) 100000 = yX2 + 1 by omega]) | (rw [show min (yX2 + 1) 100000 = 100000 by omega])
            have CC9 : Chg lo hi w W9 := by rw [hW]; exact (CCWg.setCell (.inl (by dsimp only; omega)) _).drewN 1
            clear gq_0 gq_1 gq_2 gq_3 gq_lt x_0 x_1 x_2 x_lt
            have szW9 : Wg.heap.size ≤ W9.heap.size := by rw [hW]; simp [World.setCell]
            replace gq : Box W9 w.heap.size 25 #[.int .i64 gg, .int .i64 gb, .int .i64 (R : Int), .int .i64 (C : Int)] := by rw [hW]; exact ((gq).far (by dsimp only; omega) _).drewN 1
            replace l : Box W9 (w.heap.size + 1) 90 #[.int .i64 la, .int .i64 lh] := by rw [hW]; exact ((l).far (by dsimp only; omega) _).drewN 1
            replace x : Box W9 pB 87 #[.slice A n c, .slice (some ⟨gA, 0, none⟩) m d, .slice (some ⟨gH, 0, none⟩) p q] := by rw [hW]; exact ((x).far (by dsimp only; omega) _).drewN 1
            replace H : OwnX W9 lo hi A n c hs (senV la lh R C b r vs ag ht) (some ⟨gA, 0, none⟩) m d (ag.set I 0) (some ⟨gH, 0, none⟩) p q ((hitAdd (ht.set I 0) XX1).set XX2 (min (yX2 + 1) 100000)) := by rw [hW]; exact (((H).storeD hXp2 _)).drewN 1
            clear hW
            rw [HS2.out] at H
            refine bodyPost_end (results_none rfl _ _ _) rfl ?_
            rw [HSA.out, HSH.out, HNear.out, if_pos (show 0 < (r : Int) by omega), if_pos (show (r : Int) < (R : Int) - 1 by omega), show ([(r : Int) - 1] ++ [(r : Int) + 1] : List Int) = [(r : Int) - 1] ++ [(r : Int) + 1] from rfl, hitsTo_snoc, show hitsTo Tt [(r : Int) - 1] (ht.set I 0) = hitAdd (ht.set I 0) (Tt + ((r : Int) - 1).toNat) from rfl, show Tt + ((r : Int) - 1).toNat = XX1 by have := HXX1.out; omega, show Tt + ((r : Int) + 1).toNat = XX2 by have := HXX2.out; omega]
            exact ⟨rfl, H, CC9, x⟩
      · skip
        have trR : decide ((r : Int) < (R : Int) - 1) = false := by simpa using hrR
        go_wp2_with fail
        refine abs_code ?_
        intro Wf hW
        have CCWf : Chg lo hi w Wf := by rw [hW]; exact (CC.setCell (.inl (by dsimp only; omega)) _).setCell (.inl (by dsimp only; omega)) _
        clear gq_0 gq_1 gq_2 gq_3 gq_lt x_0 x_1 x_2 x_lt
        have szWf : Wd.heap.size ≤ Wf.heap.size := by rw [hW]; simp [World.setCell]
        replace gq : Box Wf w.heap.size 25 #[.int .i64 gg, .int .i64 gb, .int .i64 (R : Int), .int .i64 (C : Int)] := by rw [hW]; exact ((gq).far (by dsimp only; omega) _).far (by dsimp only; omega) _
        replace l : Box Wf (w.heap.size + 1) 90 #[.int .i64 la, .int .i64 lh] := by rw [hW]; exact ((l).far (by dsimp only; omega) _).far (by dsimp only; omega) _
        replace x : Box Wf pB 87 #[.slice A n c, .slice (some ⟨gA, 0, none⟩) m d, .slice (some ⟨gH, 0, none⟩) p q] := by rw [hW]; exact ((x).far (by dsimp only; omega) _).far (by dsimp only; omega) _
        replace H : OwnX Wf lo hi A n c hs (senV la lh R C b r vs ag ht) (some ⟨gA, 0, none⟩) m d (ag.set I 0) (some ⟨gH, 0, none⟩) p q (ht.set I 0) := by rw [hW]; exact ((((H).storeB hIm 0)).storeD hIp 0)
        clear hW
        obtain ⟨XX1, hXX1⟩ : ∃ x : Nat, (x : Int) = (I : Int) - 1 := ⟨I - 1, by omega⟩
        have hXp1 : XX1 < p := by omega
        obtain ⟨gX11, yX1, eX1, hcX1, hfX1, hyX1, gX11, gX21⟩ := H.2.2.1.at_ hXp1
        injection eX1 with eX1
        injection eX1 with eX1 _
        subst eX1
        have hyb1 := age_at (hall) hyX1.out
        obtain ⟨hy01, hy11⟩ := hyb1
        have x0i1 : (0 : Int) ≤ (XX1 : Int) := by omega
        have x1i1 : (XX1 : Int) < (p : Int) := by omega
        have eS1 : IntKind.i64.wrap ((I : Int) - 1) = (XX1 : Int) := by rw [← hXX1]; exact IntWalk.i64_in _ (by omega)
        have eY1 : IntKind.i64.wrap (yX1 + 1) = yX1 + 1 := IntWalk.i64_in _ (by omega)
        have HXX1 := Lib.hid hXX1
        clear hXX1
        have HS1 := Lib.hid (hit_set hyX1.out)
        clear hyX1
        obtain ⟨gq_0, gq_1, gq_2, gq_3⟩ := gq.c4
        have gq_lt := gq.lt
        obtain ⟨x_0, x_1, x_2⟩ := x.c3
        have x_lt := x.lt
        go_wp2_with fail
        go_region
        go_wp2
        all_goals
          refine abs_body ?_
          intro W9 hW
          replace hW : W9 = (Wf.setCell ⟨gH, XX1, none⟩ (.int .i64 (min (yX1 + 1) 100000))).drew := by rw [hW]; first | (rw [show min (yX1 + 1) 100000 = yX1 + 1 by omega]) | (rw [show min (yX1 + 1) 100000 = 100000 by omega])
          have CC9 : Chg lo hi w W9 := by rw [hW]; exact (CCWf.setCell (.inl (by dsimp only; omega)) _).drewN 1
          clear gq_0 gq_1 gq_2 gq_3 gq_lt x_0 x_1 x_2 x_lt
          have szW9 : Wf.heap.size ≤ W9.heap.size := by rw [hW]; simp [World.setCell]
          replace gq : Box W9 w.heap.size 25 #[.int .i64 gg, .int .i64 gb, .int .i64 (R : Int), .int .i64 (C : Int)] := by rw [hW]; exact ((gq).far (by dsimp only; omega) _).drewN 1
          replace l : Box W9 (w.heap.size + 1) 90 #[.int .i64 la, .int .i64 lh] := by rw [hW]; exact ((l).far (by dsimp only; omega) _).drewN 1
          replace x : Box W9 pB 87 #[.slice A n c, .slice (some ⟨gA, 0, none⟩) m d, .slice (some ⟨gH, 0, none⟩) p q] := by rw [hW]; exact ((x).far (by dsimp only; omega) _).drewN 1
          replace H : OwnX W9 lo hi A n c hs (senV la lh R C b r vs ag ht) (some ⟨gA, 0, none⟩) m d (ag.set I 0) (some ⟨gH, 0, none⟩) p q ((ht.set I 0).set XX1 (min (yX1 + 1) 100000)) := by rw [hW]; exact (((H).storeD hXp1 _)).drewN 1
          clear hW
          rw [HS1.out] at H
          refine bodyPost_end (results_none rfl _ _ _) rfl ?_
          rw [HSA.out, HSH.out, HNear.out, if_pos (show 0 < (r : Int) by omega), if_neg (show ¬ ((r : Int) < (R : Int) - 1) by omega), List.append_nil, show hitsTo Tt [(r : Int) - 1] (ht.set I 0) = hitAdd (ht.set I 0) (Tt + ((r : Int) - 1).toNat) from rfl, show Tt + ((r : Int) - 1).toNat = XX1 by have := HXX1.out; omega]
          exact ⟨rfl, H, CC9, x⟩
    · skip
      have tr0 : decide (0 < (r : Int)) = false := by simpa using hr0
      have hrR : (r : Int) < (R : Int) - 1 := by omega
      have trR : decide ((r : Int) < (R : Int) - 1) = true := by simpa using hrR
      obtain ⟨hI1m, hI1p⟩ := hI1 (by omega)
      go_wp2_with fail
      refine abs_code ?_
      intro Wf hW
      have CCWf : Chg lo hi w Wf := by rw [hW]; exact (CC.setCell (.inl (by dsimp only; omega)) _).setCell (.inl (by dsimp only; omega)) _
      clear gq_0 gq_1 gq_2 gq_3 gq_lt x_0 x_1 x_2 x_lt
      have szWf : Wd.heap.size ≤ Wf.heap.size := by rw [hW]; simp [World.setCell]
      replace gq : Box Wf w.heap.size 25 #[.int .i64 gg, .int .i64 gb, .int .i64 (R : Int), .int .i64 (C : Int)] := by rw [hW]; exact ((gq).far (by dsimp only; omega) _).far (by dsimp only; omega) _
      replace l : Box Wf (w.heap.size + 1) 90 #[.int .i64 la, .int .i64 lh] := by rw [hW]; exact ((l).far (by dsimp only; omega) _).far (by dsimp only; omega) _
      replace x : Box Wf pB 87 #[.slice A n c, .slice (some ⟨gA, 0, none⟩) m d, .slice (some ⟨gH, 0, none⟩) p q] := by rw [hW]; exact ((x).far (by dsimp only; omega) _).far (by dsimp only; omega) _
      replace H : OwnX Wf lo hi A n c hs (senV la lh R C b r vs ag ht) (some ⟨gA, 0, none⟩) m d (ag.set I 0) (some ⟨gH, 0, none⟩) p q (ht.set I 0) := by rw [hW]; exact ((((H).storeB hIm 0)).storeD hIp 0)
      clear hW
      obtain ⟨XX2, hXX2⟩ : ∃ x : Nat, (x : Int) = (I : Int) + 1 := ⟨I + 1, by omega⟩
      have hXp2 : XX2 < p := by omega
      obtain ⟨gX22, yX2, eX2, hcX2, hfX2, hyX2, gX12, gX22⟩ := H.2.2.1.at_ hXp2
      injection eX2 with eX2
      injection eX2 with eX2 _
      subst eX2
      have hyb2 := age_at (hall) hyX2.out
      obtain ⟨hy02, hy12⟩ := hyb2
      have x0i2 : (0 : Int) ≤ (XX2 : Int) := by omega
      have x1i2 : (XX2 : Int) < (p : Int) := by omega
      have eS2 : IntKind.i64.wrap ((I : Int) + 1) = (XX2 : Int) := by rw [← hXX2]; exact IntWalk.i64_in _ (by omega)
      have eY2 : IntKind.i64.wrap (yX2 + 1) = yX2 + 1 := IntWalk.i64_in _ (by omega)
      have HXX2 := Lib.hid hXX2
      clear hXX2
      have HS2 := Lib.hid (hit_set hyX2.out)
      clear hyX2
      obtain ⟨gq_0, gq_1, gq_2, gq_3⟩ := gq.c4
      have gq_lt := gq.lt
      obtain ⟨x_0, x_1, x_2⟩ := x.c3
      have x_lt := x.lt
      go_wp2_with fail
      go_region
      go_wp2
      all_goals
        refine abs_body ?_
        intro W9 hW
        replace hW : W9 = (Wf.setCell ⟨gH, XX2, none⟩ (.int .i64 (min (yX2 + 1) 100000))).drew := by rw [hW]; first | (rw [show min (yX2 + 1) 100000 = yX2 + 1 by omega]) | (rw [show min (yX2 + 1) 100000 = 100000 by omega])
        have CC9 : Chg lo hi w W9 := by rw [hW]; exact (CCWf.setCell (.inl (by dsimp only; omega)) _).drewN 1
        clear gq_0 gq_1 gq_2 gq_3 gq_lt x_0 x_1 x_2 x_lt
        have szW9 : Wf.heap.size ≤ W9.heap.size := by rw [hW]; simp [World.setCell]
        replace gq : Box W9 w.heap.size 25 #[.int .i64 gg, .int .i64 gb, .int .i64 (R : Int), .int .i64 (C : Int)] := by rw [hW]; exact ((gq).far (by dsimp only; omega) _).drewN 1
        replace l : Box W9 (w.heap.size + 1) 90 #[.int .i64 la, .int .i64 lh] := by rw [hW]; exact ((l).far (by dsimp only; omega) _).drewN 1
        replace x : Box W9 pB 87 #[.slice A n c, .slice (some ⟨gA, 0, none⟩) m d, .slice (some ⟨gH, 0, none⟩) p q] := by rw [hW]; exact ((x).far (by dsimp only; omega) _).drewN 1
        replace H : OwnX W9 lo hi A n c hs (senV la lh R C b r vs ag ht) (some ⟨gA, 0, none⟩) m d (ag.set I 0) (some ⟨gH, 0, none⟩) p q ((ht.set I 0).set XX2 (min (yX2 + 1) 100000)) := by rw [hW]; exact (((H).storeD hXp2 _)).drewN 1
        clear hW
        rw [HS2.out] at H
        refine bodyPost_end (results_none rfl _ _ _) rfl ?_
        rw [HSA.out, HSH.out, HNear.out, if_neg (show ¬ (0 < (r : Int)) by omega), if_pos (show (r : Int) < (R : Int) - 1 by omega), List.nil_append, show hitsTo Tt [(r : Int) + 1] (ht.set I 0) = hitAdd (ht.set I 0) (Tt + ((r : Int) + 1).toNat) from rfl, show Tt + ((r : Int) + 1).toNat = XX2 by have := HXX2.out; omega]
        exact ⟨rfl, H, CC9, x⟩
end Go.Proofs.Ytbapamfomfbmmaa
