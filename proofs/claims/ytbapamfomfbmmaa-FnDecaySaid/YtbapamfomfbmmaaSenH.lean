/-
  SenseRow and SenseBank, in the reference and in the program.
-/
import Derived.Test.YtbapamfomfbmmaaSenC
import Derived.Test.YtbapamfomfbmmaaSenG
import Derived.Deep.DeepCutAuto
namespace Go.Proofs.Ytbapamfomfbmmaa
open Go.RowKit
set_option linter.unusedSimpArgs false
set_option linter.unusedVariables false

def srOk (gg gb gr gc : Int) (vs : List CV) (ag ht : List Int) (bank row : Int) : Bool := arrOk gg gb gr gc vs ag ht && addrOk gg gb gr gc bank row 0
def srV (gg gb gr gc la lh : Int) (vs : List CV) (ag ht : List Int) (bank row : Int) : List CV := if srOk gg gb gr gc vs ag ht bank row = true then senV la lh gr.toNat gc.toNat bank.toNat row.toNat vs ag ht else vs
def srA (gg gb gr gc : Int) (vs : List CV) (ag ht : List Int) (bank row : Int) : List Int := if srOk gg gb gr gc vs ag ht bank row = true then senA gr.toNat bank.toNat row.toNat ag else ag
def srH (gg gb gr gc : Int) (vs : List CV) (ag ht : List Int) (bank row : Int) : List Int := if srOk gg gb gr gc vs ag ht bank row = true then senH gr.toNat bank.toNat row.toNat ht else ht
theorem sr_no {gg gb gr gc la lh : Int} {vs : List CV} {ag ht : List Int} {bank row : Int} (h : srOk gg gb gr gc vs ag ht bank row = false) : srV gg gb gr gc la lh vs ag ht bank row = vs ∧ srA gg gb gr gc vs ag ht bank row = ag ∧ srH gg gb gr gc vs ag ht bank row = ht := by
  unfold srV srA srH
  rw [h]
  simp
/-- The array behind sensing k rows of bank b. -/
def bkTo (la lh : Int) (R C b : Nat) (vs : List CV) (ag ht : List Int) : Nat → List CV × List Int × List Int
  | 0 => (vs, ag, ht)
  | k + 1 => (senV la lh R C b k (bkTo la lh R C b vs ag ht k).1 (bkTo la lh R C b vs ag ht k).2.1 (bkTo la lh R C b vs ag ht k).2.2, senA R b k (bkTo la lh R C b vs ag ht k).2.1, senH R b k (bkTo la lh R C b vs ag ht k).2.2)
theorem bkTo_keep (la lh : Int) (R C b : Nat) (vs : List CV) (ag ht : List Int) (ha : ag.all ageF = true) (hh : ht.all ageF = true) (k : Nat) :
    lens (bkTo la lh R C b vs ag ht k).1 = lens vs ∧ (bkTo la lh R C b vs ag ht k).2.1.all ageF = true ∧ (bkTo la lh R C b vs ag ht k).2.2.all ageF = true := by
  induction k with
  | zero => exact ⟨rfl, ha, hh⟩
  | succ k ih => exact ⟨by show lens (senV ..) = _; rw [senV_lens, ih.1], senA_all ih.2.1, senH_all ih.2.2⟩
theorem bkTo_lens (la lh : Int) (R C b : Nat) (vs : List CV) (ag ht : List Int) (k : Nat) : lens (bkTo la lh R C b vs ag ht k).1 = lens vs ∧ (bkTo la lh R C b vs ag ht k).2.1.length = ag.length ∧ (bkTo la lh R C b vs ag ht k).2.2.length = ht.length := by
  induction k with
  | zero => exact ⟨rfl, rfl, rfl⟩
  | succ k ih => exact ⟨by show lens (senV ..) = _; rw [senV_lens, ih.1], by show (senA ..).length = _; rw [senA_len, ih.2.1], by show (senH ..).length = _; rw [senH_len, ih.2.2]⟩
def sbV (gg gb gr gc la lh : Int) (vs : List CV) (ag ht : List Int) (bank : Int) : List CV := if srOk gg gb gr gc vs ag ht bank 0 = true then (bkTo la lh gr.toNat gc.toNat bank.toNat vs ag ht gr.toNat).1 else vs
def sbA (gg gb gr gc la lh : Int) (vs : List CV) (ag ht : List Int) (bank : Int) : List Int := if srOk gg gb gr gc vs ag ht bank 0 = true then (bkTo la lh gr.toNat gc.toNat bank.toNat vs ag ht gr.toNat).2.1 else ag
def sbH (gg gb gr gc la lh : Int) (vs : List CV) (ag ht : List Int) (bank : Int) : List Int := if srOk gg gb gr gc vs ag ht bank 0 = true then (bkTo la lh gr.toNat gc.toNat bank.toNat vs ag ht gr.toNat).2.2 else ht
theorem sb_no {gg gb gr gc la lh : Int} {vs : List CV} {ag ht : List Int} {bank : Int} (h : srOk gg gb gr gc vs ag ht bank 0 = false) : sbV gg gb gr gc la lh vs ag ht bank = vs ∧ sbA gg gb gr gc la lh vs ag ht bank = ag ∧ sbH gg gb gr gc la lh vs ag ht bank = ht := by
  unfold sbV sbA sbH
  rw [h]
  simp
theorem sr_lens (gg gb gr gc la lh : Int) (vs : List CV) (ag ht : List Int) (bank row : Int) : csz (srV gg gb gr gc la lh vs ag ht bank row) = csz vs ∧ (srA gg gb gr gc vs ag ht bank row).length = ag.length ∧ (srH gg gb gr gc vs ag ht bank row).length = ht.length := by
  unfold srV srA srH
  split
  · exact ⟨csz_lens (senV_lens _ _ _ _ _ _ _ _ _), senA_len _ _ _ _, senH_len _ _ _ _⟩
  · exact ⟨rfl, rfl, rfl⟩
theorem sb_lens (gg gb gr gc la lh : Int) (vs : List CV) (ag ht : List Int) (bank : Int) : csz (sbV gg gb gr gc la lh vs ag ht bank) = csz vs ∧ (sbA gg gb gr gc la lh vs ag ht bank).length = ag.length ∧ (sbH gg gb gr gc la lh vs ag ht bank).length = ht.length := by
  unfold sbV sbA sbH
  split
  · have h := bkTo_lens la lh gr.toNat gc.toNat bank.toNat vs ag ht gr.toNat
    exact ⟨csz_lens h.1, h.2.1, h.2.2⟩
  · exact ⟨rfl, rfl, rfl⟩
theorem addr_in {gg gb : Int} {nb R C : Nat} {bank row : Int} (e : bankCnt gg gb R C = (nb : Int)) (h : addrOk gg gb R C bank row 0 = true) : ∃ b r : Nat, bank = (b : Int) ∧ row = (r : Int) ∧ b < nb ∧ r < R := by
  unfold addrOk at h
  rw [e] at h
  simp only [Bool.and_eq_true] at h
  obtain ⟨-, h1, h2, -⟩ := h
  have h1 := inB_t h1
  have h2 := inB_t h2
  obtain ⟨b, rfl⟩ := Int.eq_ofNat_of_zero_le h1.1
  obtain ⟨r, rfl⟩ := Int.eq_ofNat_of_zero_le h2.1
  exact ⟨b, r, rfl, rfl, by omega, by omega⟩
set_option maxRecDepth 100000 in
set_option maxHeartbeats 8000000 in
theorem sSenseRow_c (gg gb gr gc la lh : Int) (A : Option Addr) (n c : Nat) (B : Option Addr) (m d : Nat) (D : Option Addr) (p q : Nat) (vs : List CV) (ag ht : List Int) (bank row : Int) (w : World) (hA : Cs w A n vs) (hB : Ints w B m ag) (hD : Ints w D p ht) (hn : csz vs ≤ 1048576) (hm : m ≤ 1048576) (hp : p ≤ 1048576) :
    Calls Try.prog 51 #[.agg #[.int .i64 gg, .int .i64 gb, .int .i64 gr, .int .i64 gc], .agg #[.int .i64 la, .int .i64 lh], .agg #[.slice A n c, .slice B m d, .slice D p q], .int .i64 bank, .int .i64 row] w (NewA (srV gg gb gr gc la lh vs ag ht bank row) (srA gg gb gr gc vs ag ht bank row) (srH gg gb gr gc vs ag ht bank row) w) := by
  have bel : Below w.heap.size w w := Below.refl _ _
  go_enter Try.func51, Try.ntmps51
  go_wp2_with fail
  refine abs_call ?_
  intro W hW
  have szW : w.heap.size + 1 + 1 + 1 + 1 ≤ W.heap.size := by rw [hW]; simp [World.setCell]
  have szW_ := bel.size
  replace bel : Below w.heap.size w W := by rw [hW]; exact ((((bel).alloc (by first | omega | (simp [World.setCell] <;> omega)) _).alloc (by first | omega | (simp [World.setCell] <;> omega)) _).alloc (by first | omega | (simp [World.setCell] <;> omega)) _).alloc (by first | omega | (simp [World.setCell] <;> omega)) _
  have gq : Box W w.heap.size 25 #[.int .i64 gg, .int .i64 gb, .int .i64 gr, .int .i64 gc] := by rw [hW]; exact ((((Box.newAt (by simp [World.setCell]))).alloc _).alloc _).alloc _
  have l : Box W (w.heap.size + 1) 90 #[.int .i64 la, .int .i64 lh] := by rw [hW]; exact (((Box.newAt (by simp [World.setCell]))).alloc _).alloc _
  have x : Box W (w.heap.size + 1 + 1) 87 #[.slice A n c, .slice B m d, .slice D p q] := by rw [hW]; exact ((Box.newAt (by simp [World.setCell]))).alloc _
  have r : Box W (w.heap.size + 1 + 1 + 1) 87 #[.slice none 0 0, .slice none 0 0, .slice none 0 0] := by rw [hW]; exact (Box.newAt (by simp [World.setCell]))
  clear hW
  refine (l14Copy_c A n c B m d D p q vs ag ht _ (hA.below bel) (hB.below bel) (hD.below bel) hn hm hp).mono ?_
  rintro e w1 ⟨A1, n1, c1, B1, m1, d1, D1, p1, q1, rfl, o1, b1⟩
  have szw1 := b1.size
  replace bel := bel.trans (b1.mono bel.size)
  replace gq := gq.kept b1
  replace l := l.kept b1
  replace x := x.kept b1
  replace r := r.kept b1
  clear b1
  obtain ⟨gq_0, gq_1, gq_2, gq_3⟩ := gq.c4
  have gq_lt := gq.lt
  obtain ⟨x_0, x_1, x_2⟩ := x.c3
  have x_lt := x.lt
  go_wp2_with fail
  refine abs_call ?_
  intro W2 hW
  clear gq_0 gq_1 gq_2 gq_3 gq_lt x_0 x_1 x_2 x_lt
  have szW2 : w1.heap.size + 1 ≤ W2.heap.size := by rw [hW]; simp [World.setCell]
  have szW2_ := bel.size
  replace bel : Below w.heap.size w W2 := by rw [hW]; exact (bel).alloc (by first | omega | (simp [World.setCell] <;> omega)) _
  replace gq : Box W2 w.heap.size 25 #[.int .i64 gg, .int .i64 gb, .int .i64 gr, .int .i64 gc] := by rw [hW]; exact gq.alloc _
  replace l : Box W2 (w.heap.size + 1) 90 #[.int .i64 la, .int .i64 lh] := by rw [hW]; exact l.alloc _
  replace x : Box W2 (w.heap.size + 1 + 1) 87 #[.slice A n c, .slice B m d, .slice D p q] := by rw [hW]; exact x.alloc _
  replace r : Box W2 (w.heap.size + 1 + 1 + 1) 87 #[.slice none 0 0, .slice none 0 0, .slice none 0 0] := by rw [hW]; exact r.alloc _
  have y : Box W2 w1.heap.size 87 #[.slice A1 n1 c1, .slice B1 m1 d1, .slice D1 p1 q1] := by rw [hW]; exact (Box.newAt (by simp [World.setCell]))
  replace o1 : OwnA W2 W.heap.size w1.heap.size A1 n1 c1 vs B1 m1 d1 ag D1 p1 q1 ht := by rw [hW]; exact o1.alloc _
  clear hW
  refine (sArrayOk_c gg gb gr gc A n c B m d D p q vs ag ht _ (hA.below bel) (hB.below bel) (hD.below bel) hn hm hp).mono ?_
  rintro e w2 ⟨rfl, b2⟩
  have szw2 := b2.size
  replace bel := bel.trans (b2.mono bel.size)
  replace gq := gq.kept b2
  replace l := l.kept b2
  replace x := x.kept b2
  replace r := r.kept b2
  replace y := y.kept b2
  replace o1 := o1.below b2
  clear b2
  cases harr : arrOk gg gb gr gc vs ag ht
  · have HR := Lib.hid (sr_no (la := la) (lh := lh) (row := row) (bank := bank) (by unfold srOk; rw [harr]; rfl))
    clear harr
    obtain ⟨r_0, r_1, r_2⟩ := r.c3
    have r_lt := r.lt
    obtain ⟨y_0, y_1, y_2⟩ := y.c3
    have y_lt := y.lt
    have r_f := r.frozen
    go_wp2
    refine abs_body ?_
    intro W9 hW
    clear r_0 r_1 r_2 r_lt y_0 y_1 y_2 y_lt r_f
    have szW9 : w2.heap.size ≤ W9.heap.size := by rw [hW]; simp [World.setCell]
    have szW9_ := bel.size
    replace bel : Below w.heap.size w W9 := by rw [hW]; exact (((bel).setCell (by dsimp only; omega) _).setCell (by dsimp only; omega) _).setCell (by dsimp only; omega) _
    replace gq : Box W9 w.heap.size 25 #[.int .i64 gg, .int .i64 gb, .int .i64 gr, .int .i64 gc] := by rw [hW]; exact (((gq).far (by dsimp only; omega) _).far (by dsimp only; omega) _).far (by dsimp only; omega) _
    replace l : Box W9 (w.heap.size + 1) 90 #[.int .i64 la, .int .i64 lh] := by rw [hW]; exact (((l).far (by dsimp only; omega) _).far (by dsimp only; omega) _).far (by dsimp only; omega) _
    replace x : Box W9 (w.heap.size + 1 + 1) 87 #[.slice A n c, .slice B m d, .slice D p q] := by rw [hW]; exact (((x).far (by dsimp only; omega) _).far (by dsimp only; omega) _).far (by dsimp only; omega) _
    replace r : Box W9 (w.heap.size + 1 + 1 + 1) 87 #[.slice A1 n1 c1, .slice B1 m1 d1, .slice D1 p1 q1] := by rw [hW]; exact (((r).set_ 0 _).set_ 1 _).set_ 2 _
    replace y : Box W9 w1.heap.size 87 #[.slice A1 n1 c1, .slice B1 m1 d1, .slice D1 p1 q1] := by rw [hW]; exact (((y).far (by dsimp only; omega) _).far (by dsimp only; omega) _).far (by dsimp only; omega) _
    replace o1 : OwnA W9 W.heap.size w1.heap.size A1 n1 c1 vs B1 m1 d1 ag D1 p1 q1 ht := by rw [hW]; exact (((o1).setCell _ _ (by dsimp only; omega)).setCell _ _ (by dsimp only; omega)).setCell _ _ (by dsimp only; omega)
    clear hW
    obtain ⟨z0, z1, z2⟩ := r.c3
    refine bodyPost_ret (v := .agg #[.slice A1 n1 c1, .slice B1 m1 d1, .slice D1 p1 q1]) (by simp [results, Try.results51, go_sem, z0, z1, z2]) rfl ?_
    rw [HR.out.1, HR.out.2.1, HR.out.2.2]
    exact ⟨_, _, _, _, _, _, _, _, _, rfl, o1.mono (by omega) (by omega), bel⟩
  obtain ⟨gq_0, gq_1, gq_2, gq_3⟩ := gq.c4
  have gq_lt := gq.lt
  go_wp2_with fail
  refine (l14Row_c gg gb gr gc bank row _).mono ?_
  rintro e w3 ⟨rfl, b3⟩
  clear gq_0 gq_1 gq_2 gq_3 gq_lt
  have szw3 := b3.size
  replace bel := bel.trans (b3.mono bel.size)
  replace gq := gq.kept b3
  replace l := l.kept b3
  replace x := x.kept b3
  replace r := r.kept b3
  replace y := y.kept b3
  replace o1 := o1.below b3
  clear b3
  cases hadr : addrOk gg gb gr gc bank row 0
  · have HR := Lib.hid (sr_no (la := la) (lh := lh) (by unfold srOk; rw [harr, hadr]; rfl))
    clear harr hadr
    obtain ⟨r_0, r_1, r_2⟩ := r.c3
    have r_lt := r.lt
    obtain ⟨y_0, y_1, y_2⟩ := y.c3
    have y_lt := y.lt
    have r_f := r.frozen
    go_wp2
    refine abs_body ?_
    intro W9 hW
    clear r_0 r_1 r_2 r_lt y_0 y_1 y_2 y_lt r_f
    have szW9 : w3.heap.size ≤ W9.heap.size := by rw [hW]; simp [World.setCell]
    have szW9_ := bel.size
    replace bel : Below w.heap.size w W9 := by rw [hW]; exact (((bel).setCell (by dsimp only; omega) _).setCell (by dsimp only; omega) _).setCell (by dsimp only; omega) _
    replace gq : Box W9 w.heap.size 25 #[.int .i64 gg, .int .i64 gb, .int .i64 gr, .int .i64 gc] := by rw [hW]; exact (((gq).far (by dsimp only; omega) _).far (by dsimp only; omega) _).far (by dsimp only; omega) _
    replace l : Box W9 (w.heap.size + 1) 90 #[.int .i64 la, .int .i64 lh] := by rw [hW]; exact (((l).far (by dsimp only; omega) _).far (by dsimp only; omega) _).far (by dsimp only; omega) _
    replace x : Box W9 (w.heap.size + 1 + 1) 87 #[.slice A n c, .slice B m d, .slice D p q] := by rw [hW]; exact (((x).far (by dsimp only; omega) _).far (by dsimp only; omega) _).far (by dsimp only; omega) _
    replace r : Box W9 (w.heap.size + 1 + 1 + 1) 87 #[.slice A1 n1 c1, .slice B1 m1 d1, .slice D1 p1 q1] := by rw [hW]; exact (((r).set_ 0 _).set_ 1 _).set_ 2 _
    replace y : Box W9 w1.heap.size 87 #[.slice A1 n1 c1, .slice B1 m1 d1, .slice D1 p1 q1] := by rw [hW]; exact (((y).far (by dsimp only; omega) _).far (by dsimp only; omega) _).far (by dsimp only; omega) _
    replace o1 : OwnA W9 W.heap.size w1.heap.size A1 n1 c1 vs B1 m1 d1 ag D1 p1 q1 ht := by rw [hW]; exact (((o1).setCell _ _ (by dsimp only; omega)).setCell _ _ (by dsimp only; omega)).setCell _ _ (by dsimp only; omega)
    clear hW
    obtain ⟨z0, z1, z2⟩ := r.c3
    refine bodyPost_ret (v := .agg #[.slice A1 n1 c1, .slice B1 m1 d1, .slice D1 p1 q1]) (by simp [results, Try.results51, go_sem, z0, z1, z2]) rfl ?_
    rw [HR.out.1, HR.out.2.1, HR.out.2.2]
    exact ⟨_, _, _, _, _, _, _, _, _, rfl, o1.mono (by omega) (by omega), bel⟩
  have hok : srOk gg gb gr gc vs ag ht bank row = true := by unfold srOk; rw [harr, hadr]; rfl
  obtain ⟨nb, R, C, rfl, rfl, hg, hnb, -, nb8, R2, R16, -, C8, e1, e2, e3, hcv, hca, hch⟩ := arrOk_parts harr
  obtain ⟨b, r0, e4, e5, hb, hr⟩ := addr_in hnb hadr
  have f1 : n1 = nb * R * C := by have := o1.cs.len; omega
  have f2 : m1 = nb * R := by have := o1.ia.1; omega
  have f3 : p1 = nb * R := by have := o1.ih.1; omega
  have F1 := Lib.hid f1
  have F2 := Lib.hid f2
  have F3 := Lib.hid f3
  clear f1 f2 f3 e1 e2 e3 harr hadr
  subst e4 e5
  have HR : Hid (srV gg gb R C la lh vs ag ht b r0 = senV la lh R C b r0 vs ag ht ∧ srA gg gb R C vs ag ht b r0 = senA R b r0 ag ∧ srH gg gb R C vs ag ht b r0 = senH R b r0 ht) := by
    unfold Hid srV srA srH
    rw [hok]
    simp
  clear hok
  obtain ⟨gq_0, gq_1, gq_2, gq_3⟩ := gq.c4
  have gq_lt := gq.lt
  obtain ⟨l_0, l_1⟩ := l.c2
  have l_lt := l.lt
  go_wp2_with fail
  refine (l14Sense_c gg gb nb R C b r0 la lh w1.heap.size W.heap.size w1.heap.size A1 n1 c1 B1 m1 d1 D1 p1 q1 vs ag ht _ y o1 (by omega) (by omega) hg hnb nb8 R16 C8 hb hr F1.out F2.out F3.out hcv rfl hca hch).mono ?_
  rintro e w4 ⟨rfl, o4, C4⟩
  clear o1
  clear gq_0 gq_1 gq_2 gq_3 gq_lt l_0 l_1 l_lt
  have szw4 := C4.size
  replace bel := C4.below bel (by omega)
  replace gq := gq.chg C4 (by omega)
  replace l := l.chg C4 (by omega)
  replace x := x.chg C4 (by omega)
  replace r := r.chg C4 (by omega)
  replace y := y.chg C4 (by omega)
  clear C4
  obtain ⟨r_0, r_1, r_2⟩ := r.c3
  have r_lt := r.lt
  obtain ⟨y_0, y_1, y_2⟩ := y.c3
  have y_lt := y.lt
  have r_f := r.frozen
  go_wp2
  refine abs_body ?_
  intro W9 hW
  clear r_0 r_1 r_2 r_lt y_0 y_1 y_2 y_lt r_f
  have szW9 : w4.heap.size ≤ W9.heap.size := by rw [hW]; simp [World.setCell]
  have szW9_ := bel.size
  replace bel : Below w.heap.size w W9 := by rw [hW]; exact (((bel).setCell (by dsimp only; omega) _).setCell (by dsimp only; omega) _).setCell (by dsimp only; omega) _
  replace gq : Box W9 w.heap.size 25 #[.int .i64 gg, .int .i64 gb, .int .i64 ((R : Int)), .int .i64 ((C : Int))] := by rw [hW]; exact (((gq).far (by dsimp only; omega) _).far (by dsimp only; omega) _).far (by dsimp only; omega) _
  replace l : Box W9 (w.heap.size + 1) 90 #[.int .i64 la, .int .i64 lh] := by rw [hW]; exact (((l).far (by dsimp only; omega) _).far (by dsimp only; omega) _).far (by dsimp only; omega) _
  replace x : Box W9 (w.heap.size + 1 + 1) 87 #[.slice A n c, .slice B m d, .slice D p q] := by rw [hW]; exact (((x).far (by dsimp only; omega) _).far (by dsimp only; omega) _).far (by dsimp only; omega) _
  replace r : Box W9 (w.heap.size + 1 + 1 + 1) 87 #[.slice A1 n1 c1, .slice B1 m1 d1, .slice D1 p1 q1] := by rw [hW]; exact (((r).set_ 0 _).set_ 1 _).set_ 2 _
  replace y : Box W9 w1.heap.size 87 #[.slice A1 n1 c1, .slice B1 m1 d1, .slice D1 p1 q1] := by rw [hW]; exact (((y).far (by dsimp only; omega) _).far (by dsimp only; omega) _).far (by dsimp only; omega) _
  replace o4 : OwnA W9 W.heap.size w1.heap.size A1 n1 c1 (senV la lh R C b r0 vs ag ht) B1 m1 d1 (senA R b r0 ag) D1 p1 q1 (senH R b r0 ht) := by rw [hW]; exact (((o4).setCell _ _ (by dsimp only; omega)).setCell _ _ (by dsimp only; omega)).setCell _ _ (by dsimp only; omega)
  clear hW
  obtain ⟨z0, z1, z2⟩ := r.c3
  refine bodyPost_ret (v := .agg #[.slice A1 n1 c1, .slice B1 m1 d1, .slice D1 p1 q1]) (by simp [results, Try.results51, go_sem, z0, z1, z2]) rfl ?_
  rw [HR.out.1, HR.out.2.1, HR.out.2.2]
  exact ⟨_, _, _, _, _, _, _, _, _, rfl, o4.mono (by omega) (by omega), bel⟩
set_option maxRecDepth 100000 in
set_option maxHeartbeats 8000000 in
theorem iSenseRow_c (gg gb gr gc la lh : Int) (A : Option Addr) (n c : Nat) (B : Option Addr) (m d : Nat) (D : Option Addr) (p q : Nat) (vs : List CV) (ag ht : List Int) (bank row : Int) (w : World) (hA : Cs w A n vs) (hB : Ints w B m ag) (hD : Ints w D p ht) (hn : csz vs ≤ 1048576) (hm : m ≤ 1048576) (hp : p ≤ 1048576) :
    Calls Try.prog 55 #[.agg #[.int .i64 gg, .int .i64 gb, .int .i64 gr, .int .i64 gc], .agg #[.int .i64 la, .int .i64 lh], .agg #[.slice A n c, .slice B m d, .slice D p q], .int .i64 bank, .int .i64 row] w (NewA (srV gg gb gr gc la lh vs ag ht bank row) (srA gg gb gr gc vs ag ht bank row) (srH gg gb gr gc vs ag ht bank row) w) := by
  have bel : Below w.heap.size w w := Below.refl _ _
  go_enter Try.func55, Try.ntmps55
  go_wp2_with fail
  refine abs_call ?_
  intro W hW
  have szW : w.heap.size + 1 + 1 + 1 + 1 ≤ W.heap.size := by rw [hW]; simp [World.setCell]
  have szW_ := bel.size
  replace bel : Below w.heap.size w W := by rw [hW]; exact ((((bel).alloc (by first | omega | (simp [World.setCell] <;> omega)) _).alloc (by first | omega | (simp [World.setCell] <;> omega)) _).alloc (by first | omega | (simp [World.setCell] <;> omega)) _).alloc (by first | omega | (simp [World.setCell] <;> omega)) _
  have gq : Box W w.heap.size 25 #[.int .i64 gg, .int .i64 gb, .int .i64 gr, .int .i64 gc] := by rw [hW]; exact ((((Box.newAt (by simp [World.setCell]))).alloc _).alloc _).alloc _
  have l : Box W (w.heap.size + 1) 90 #[.int .i64 la, .int .i64 lh] := by rw [hW]; exact (((Box.newAt (by simp [World.setCell]))).alloc _).alloc _
  have x : Box W (w.heap.size + 1 + 1) 87 #[.slice A n c, .slice B m d, .slice D p q] := by rw [hW]; exact ((Box.newAt (by simp [World.setCell]))).alloc _
  have r : Box W (w.heap.size + 1 + 1 + 1) 87 #[.slice none 0 0, .slice none 0 0, .slice none 0 0] := by rw [hW]; exact (Box.newAt (by simp [World.setCell]))
  clear hW
  refine (copyArray_c A n c B m d D p q vs ag ht _ (hA.below bel) (hB.below bel) (hD.below bel) hn hm hp).mono ?_
  rintro e w1 ⟨A1, n1, c1, B1, m1, d1, D1, p1, q1, rfl, o1, b1⟩
  have szw1 := b1.size
  replace bel := bel.trans (b1.mono bel.size)
  replace gq := gq.kept b1
  replace l := l.kept b1
  replace x := x.kept b1
  replace r := r.kept b1
  clear b1
  obtain ⟨gq_0, gq_1, gq_2, gq_3⟩ := gq.c4
  have gq_lt := gq.lt
  obtain ⟨x_0, x_1, x_2⟩ := x.c3
  have x_lt := x.lt
  go_wp2_with fail
  refine abs_call ?_
  intro W2 hW
  clear gq_0 gq_1 gq_2 gq_3 gq_lt x_0 x_1 x_2 x_lt
  have szW2 : w1.heap.size + 1 ≤ W2.heap.size := by rw [hW]; simp [World.setCell]
  have szW2_ := bel.size
  replace bel : Below w.heap.size w W2 := by rw [hW]; exact (bel).alloc (by first | omega | (simp [World.setCell] <;> omega)) _
  replace gq : Box W2 w.heap.size 25 #[.int .i64 gg, .int .i64 gb, .int .i64 gr, .int .i64 gc] := by rw [hW]; exact gq.alloc _
  replace l : Box W2 (w.heap.size + 1) 90 #[.int .i64 la, .int .i64 lh] := by rw [hW]; exact l.alloc _
  replace x : Box W2 (w.heap.size + 1 + 1) 87 #[.slice A n c, .slice B m d, .slice D p q] := by rw [hW]; exact x.alloc _
  replace r : Box W2 (w.heap.size + 1 + 1 + 1) 87 #[.slice none 0 0, .slice none 0 0, .slice none 0 0] := by rw [hW]; exact r.alloc _
  have y : Box W2 w1.heap.size 87 #[.slice A1 n1 c1, .slice B1 m1 d1, .slice D1 p1 q1] := by rw [hW]; exact (Box.newAt (by simp [World.setCell]))
  replace o1 : OwnA W2 W.heap.size w1.heap.size A1 n1 c1 vs B1 m1 d1 ag D1 p1 q1 ht := by rw [hW]; exact o1.alloc _
  clear hW
  refine (iArrayOk_c gg gb gr gc A n c B m d D p q vs ag ht _ (hA.below bel) (hB.below bel) (hD.below bel) hn hm hp).mono ?_
  rintro e w2 ⟨rfl, b2⟩
  have szw2 := b2.size
  replace bel := bel.trans (b2.mono bel.size)
  replace gq := gq.kept b2
  replace l := l.kept b2
  replace x := x.kept b2
  replace r := r.kept b2
  replace y := y.kept b2
  replace o1 := o1.below b2
  clear b2
  cases harr : arrOk gg gb gr gc vs ag ht
  · have HR := Lib.hid (sr_no (la := la) (lh := lh) (row := row) (bank := bank) (by unfold srOk; rw [harr]; rfl))
    clear harr
    obtain ⟨r_0, r_1, r_2⟩ := r.c3
    have r_lt := r.lt
    obtain ⟨y_0, y_1, y_2⟩ := y.c3
    have y_lt := y.lt
    have r_f := r.frozen
    go_wp2
    refine abs_body ?_
    intro W9 hW
    clear r_0 r_1 r_2 r_lt y_0 y_1 y_2 y_lt r_f
    have szW9 : w2.heap.size ≤ W9.heap.size := by rw [hW]; simp [World.setCell]
    have szW9_ := bel.size
    replace bel : Below w.heap.size w W9 := by rw [hW]; exact (((bel).setCell (by dsimp only; omega) _).setCell (by dsimp only; omega) _).setCell (by dsimp only; omega) _
    replace gq : Box W9 w.heap.size 25 #[.int .i64 gg, .int .i64 gb, .int .i64 gr, .int .i64 gc] := by rw [hW]; exact (((gq).far (by dsimp only; omega) _).far (by dsimp only; omega) _).far (by dsimp only; omega) _
    replace l : Box W9 (w.heap.size + 1) 90 #[.int .i64 la, .int .i64 lh] := by rw [hW]; exact (((l).far (by dsimp only; omega) _).far (by dsimp only; omega) _).far (by dsimp only; omega) _
    replace x : Box W9 (w.heap.size + 1 + 1) 87 #[.slice A n c, .slice B m d, .slice D p q] := by rw [hW]; exact (((x).far (by dsimp only; omega) _).far (by dsimp only; omega) _).far (by dsimp only; omega) _
    replace r : Box W9 (w.heap.size + 1 + 1 + 1) 87 #[.slice A1 n1 c1, .slice B1 m1 d1, .slice D1 p1 q1] := by rw [hW]; exact (((r).set_ 0 _).set_ 1 _).set_ 2 _
    replace y : Box W9 w1.heap.size 87 #[.slice A1 n1 c1, .slice B1 m1 d1, .slice D1 p1 q1] := by rw [hW]; exact (((y).far (by dsimp only; omega) _).far (by dsimp only; omega) _).far (by dsimp only; omega) _
    replace o1 : OwnA W9 W.heap.size w1.heap.size A1 n1 c1 vs B1 m1 d1 ag D1 p1 q1 ht := by rw [hW]; exact (((o1).setCell _ _ (by dsimp only; omega)).setCell _ _ (by dsimp only; omega)).setCell _ _ (by dsimp only; omega)
    clear hW
    obtain ⟨z0, z1, z2⟩ := r.c3
    refine bodyPost_ret (v := .agg #[.slice A1 n1 c1, .slice B1 m1 d1, .slice D1 p1 q1]) (by simp [results, Try.results55, go_sem, z0, z1, z2]) rfl ?_
    rw [HR.out.1, HR.out.2.1, HR.out.2.2]
    exact ⟨_, _, _, _, _, _, _, _, _, rfl, o1.mono (by omega) (by omega), bel⟩
  obtain ⟨gq_0, gq_1, gq_2, gq_3⟩ := gq.c4
  have gq_lt := gq.lt
  go_wp2_with fail
  refine (iRowExists_c gg gb gr gc bank row _).mono ?_
  rintro e w3 ⟨rfl, b3⟩
  clear gq_0 gq_1 gq_2 gq_3 gq_lt
  have szw3 := b3.size
  replace bel := bel.trans (b3.mono bel.size)
  replace gq := gq.kept b3
  replace l := l.kept b3
  replace x := x.kept b3
  replace r := r.kept b3
  replace y := y.kept b3
  replace o1 := o1.below b3
  clear b3
  cases hadr : addrOk gg gb gr gc bank row 0
  · have HR := Lib.hid (sr_no (la := la) (lh := lh) (by unfold srOk; rw [harr, hadr]; rfl))
    clear harr hadr
    obtain ⟨r_0, r_1, r_2⟩ := r.c3
    have r_lt := r.lt
    obtain ⟨y_0, y_1, y_2⟩ := y.c3
    have y_lt := y.lt
    have r_f := r.frozen
    go_wp2
    refine abs_body ?_
    intro W9 hW
    clear r_0 r_1 r_2 r_lt y_0 y_1 y_2 y_lt r_f
    have szW9 : w3.heap.size ≤ W9.heap.size := by rw [hW]; simp [World.setCell]
    have szW9_ := bel.size
    replace bel : Below w.heap.size w W9 := by rw [hW]; exact (((bel).setCell (by dsimp only; omega) _).setCell (by dsimp only; omega) _).setCell (by dsimp only; omega) _
    replace gq : Box W9 w.heap.size 25 #[.int .i64 gg, .int .i64 gb, .int .i64 gr, .int .i64 gc] := by rw [hW]; exact (((gq).far (by dsimp only; omega) _).far (by dsimp only; omega) _).far (by dsimp only; omega) _
    replace l : Box W9 (w.heap.size + 1) 90 #[.int .i64 la, .int .i64 lh] := by rw [hW]; exact (((l).far (by dsimp only; omega) _).far (by dsimp only; omega) _).far (by dsimp only; omega) _
    replace x : Box W9 (w.heap.size + 1 + 1) 87 #[.slice A n c, .slice B m d, .slice D p q] := by rw [hW]; exact (((x).far (by dsimp only; omega) _).far (by dsimp only; omega) _).far (by dsimp only; omega) _
    replace r : Box W9 (w.heap.size + 1 + 1 + 1) 87 #[.slice A1 n1 c1, .slice B1 m1 d1, .slice D1 p1 q1] := by rw [hW]; exact (((r).set_ 0 _).set_ 1 _).set_ 2 _
    replace y : Box W9 w1.heap.size 87 #[.slice A1 n1 c1, .slice B1 m1 d1, .slice D1 p1 q1] := by rw [hW]; exact (((y).far (by dsimp only; omega) _).far (by dsimp only; omega) _).far (by dsimp only; omega) _
    replace o1 : OwnA W9 W.heap.size w1.heap.size A1 n1 c1 vs B1 m1 d1 ag D1 p1 q1 ht := by rw [hW]; exact (((o1).setCell _ _ (by dsimp only; omega)).setCell _ _ (by dsimp only; omega)).setCell _ _ (by dsimp only; omega)
    clear hW
    obtain ⟨z0, z1, z2⟩ := r.c3
    refine bodyPost_ret (v := .agg #[.slice A1 n1 c1, .slice B1 m1 d1, .slice D1 p1 q1]) (by simp [results, Try.results55, go_sem, z0, z1, z2]) rfl ?_
    rw [HR.out.1, HR.out.2.1, HR.out.2.2]
    exact ⟨_, _, _, _, _, _, _, _, _, rfl, o1.mono (by omega) (by omega), bel⟩
  have hok : srOk gg gb gr gc vs ag ht bank row = true := by unfold srOk; rw [harr, hadr]; rfl
  obtain ⟨nb, R, C, rfl, rfl, hg, hnb, -, nb8, R2, R16, -, C8, e1, e2, e3, hcv, hca, hch⟩ := arrOk_parts harr
  obtain ⟨b, r0, e4, e5, hb, hr⟩ := addr_in hnb hadr
  have f1 : n1 = nb * R * C := by have := o1.cs.len; omega
  have f2 : m1 = nb * R := by have := o1.ia.1; omega
  have f3 : p1 = nb * R := by have := o1.ih.1; omega
  have F1 := Lib.hid f1
  have F2 := Lib.hid f2
  have F3 := Lib.hid f3
  clear f1 f2 f3 e1 e2 e3 harr hadr
  subst e4 e5
  have HR : Hid (srV gg gb R C la lh vs ag ht b r0 = senV la lh R C b r0 vs ag ht ∧ srA gg gb R C vs ag ht b r0 = senA R b r0 ag ∧ srH gg gb R C vs ag ht b r0 = senH R b r0 ht) := by
    unfold Hid srV srA srH
    rw [hok]
    simp
  clear hok
  obtain ⟨gq_0, gq_1, gq_2, gq_3⟩ := gq.c4
  have gq_lt := gq.lt
  obtain ⟨l_0, l_1⟩ := l.c2
  have l_lt := l.lt
  go_wp2_with fail
  refine (iSense_c gg gb nb R C b r0 la lh w1.heap.size W.heap.size w1.heap.size A1 n1 c1 B1 m1 d1 D1 p1 q1 vs ag ht _ y o1 (by omega) (by omega) hg hnb nb8 R16 C8 hb hr F1.out F2.out F3.out hcv rfl hca hch).mono ?_
  rintro e w4 ⟨rfl, o4, C4⟩
  clear o1
  clear gq_0 gq_1 gq_2 gq_3 gq_lt l_0 l_1 l_lt
  have szw4 := C4.size
  replace bel := C4.below bel (by omega)
  replace gq := gq.chg C4 (by omega)
  replace l := l.chg C4 (by omega)
  replace x := x.chg C4 (by omega)
  replace r := r.chg C4 (by omega)
  replace y := y.chg C4 (by omega)
  clear C4
  obtain ⟨r_0, r_1, r_2⟩ := r.c3
  have r_lt := r.lt
  obtain ⟨y_0, y_1, y_2⟩ := y.c3
  have y_lt := y.lt
  have r_f := r.frozen
  go_wp2
  refine abs_body ?_
  intro W9 hW
  clear r_0 r_1 r_2 r_lt y_0 y_1 y_2 y_lt r_f
  have szW9 : w4.heap.size ≤ W9.heap.size := by rw [hW]; simp [World.setCell]
  have szW9_ := bel.size
  replace bel : Below w.heap.size w W9 := by rw [hW]; exact (((bel).setCell (by dsimp only; omega) _).setCell (by dsimp only; omega) _).setCell (by dsimp only; omega) _
  replace gq : Box W9 w.heap.size 25 #[.int .i64 gg, .int .i64 gb, .int .i64 ((R : Int)), .int .i64 ((C : Int))] := by rw [hW]; exact (((gq).far (by dsimp only; omega) _).far (by dsimp only; omega) _).far (by dsimp only; omega) _
  replace l : Box W9 (w.heap.size + 1) 90 #[.int .i64 la, .int .i64 lh] := by rw [hW]; exact (((l).far (by dsimp only; omega) _).far (by dsimp only; omega) _).far (by dsimp only; omega) _
  replace x : Box W9 (w.heap.size + 1 + 1) 87 #[.slice A n c, .slice B m d, .slice D p q] := by rw [hW]; exact (((x).far (by dsimp only; omega) _).far (by dsimp only; omega) _).far (by dsimp only; omega) _
  replace r : Box W9 (w.heap.size + 1 + 1 + 1) 87 #[.slice A1 n1 c1, .slice B1 m1 d1, .slice D1 p1 q1] := by rw [hW]; exact (((r).set_ 0 _).set_ 1 _).set_ 2 _
  replace y : Box W9 w1.heap.size 87 #[.slice A1 n1 c1, .slice B1 m1 d1, .slice D1 p1 q1] := by rw [hW]; exact (((y).far (by dsimp only; omega) _).far (by dsimp only; omega) _).far (by dsimp only; omega) _
  replace o4 : OwnA W9 W.heap.size w1.heap.size A1 n1 c1 (senV la lh R C b r0 vs ag ht) B1 m1 d1 (senA R b r0 ag) D1 p1 q1 (senH R b r0 ht) := by rw [hW]; exact (((o4).setCell _ _ (by dsimp only; omega)).setCell _ _ (by dsimp only; omega)).setCell _ _ (by dsimp only; omega)
  clear hW
  obtain ⟨z0, z1, z2⟩ := r.c3
  refine bodyPost_ret (v := .agg #[.slice A1 n1 c1, .slice B1 m1 d1, .slice D1 p1 q1]) (by simp [results, Try.results55, go_sem, z0, z1, z2]) rfl ?_
  rw [HR.out.1, HR.out.2.1, HR.out.2.2]
  exact ⟨_, _, _, _, _, _, _, _, _, rfl, o4.mono (by omega) (by omega), bel⟩
set_option maxRecDepth 100000 in
set_option maxHeartbeats 8000000 in
theorem l14Bank_c (gg gb : Int) (nb R C b : Nat) (la lh : Int) (pB lo hi : Nat) (A : Option Addr) (n c : Nat) (B : Option Addr) (m d : Nat) (D : Option Addr) (p q : Nat) (vs : List CV) (ag ht : List Int) (w : World)
    (P : Box w pB 87 #[.slice A n c, .slice B m d, .slice D p q]) (H : OwnA w lo hi A n c vs B m d ag D p q ht) (hp : pB < lo ∨ hi ≤ pB) (hhi : hi ≤ w.heap.size)
    (hg : geoOk gg gb R C = true) (hnb : bankCnt gg gb R C = (nb : Int)) (nb8 : nb ≤ 8) (R16 : R ≤ 16) (C8 : C ≤ 8) (hb : b < nb) (hn : n = nb * R * C) (hm : m = nb * R) (hpp : p = nb * R) (hcv : vs.all celF = true) (hca : ag.all ageF = true) (hch : ht.all ageF = true) :
    Calls Try.prog 117 #[.agg #[.int .i64 gg, .int .i64 gb, .int .i64 (R : Int), .int .i64 (C : Int)], .agg #[.int .i64 la, .int .i64 lh], .pointer (some ⟨pB, 0, none⟩), .int .i64 (b : Int)] w fun e w' => e = .returned (.tuple #[]) ∧ OwnA w' lo hi A n c (bkTo la lh R C b vs ag ht R).1 B m d (bkTo la lh R C b vs ag ht R).2.1 D p q (bkTo la lh R C b vs ag ht R).2.2 ∧ Chg lo hi w w' := by
  have bel : Below w.heap.size w w := Below.refl _ _
  have F1 := Lib.hid hn
  have F2 := Lib.hid hm
  have F3 := Lib.hid hpp
  clear hn hm hpp
  have Plt := P.lt
  have x := P
  clear P
  go_enter Try.func117, Try.ntmps117
  go_wp2_with fail
  refine abs_code ?_
  intro W hW
  have b0 : Below w.heap.size w W := by rw [hW]; exact ((Below.refl _ _).alloc (Nat.le_refl _) _).alloc (by simp) _
  have CC : Chg lo hi w W := Chg.of_below b0
  have szW0 : w.heap.size + 2 ≤ W.heap.size := by rw [hW]; simp
  have szW : w.heap.size + 1 + 1 ≤ W.heap.size := by rw [hW]; simp [World.setCell]
  replace x : Box W pB 87 #[.slice A n c, .slice B m d, .slice D p q] := by rw [hW]; exact (x.alloc _).alloc _
  have gq : Box W w.heap.size 25 #[.int .i64 gg, .int .i64 gb, .int .i64 (R : Int), .int .i64 (C : Int)] := by rw [hW]; exact ((Box.newAt (by simp [World.setCell]))).alloc _
  have l : Box W (w.heap.size + 1) 90 #[.int .i64 la, .int .i64 lh] := by rw [hW]; exact (Box.newAt (by simp [World.setCell]))
  replace H : OwnA W lo hi A n c vs B m d ag D p q ht := by rw [hW]; exact (H.alloc _).alloc _
  clear hW
  go_wp2_with fail
  go_loopw [8] (fun i wr => ∃ (k : Nat), k ≤ R ∧ i = .int .i64 k ∧ OwnA wr lo hi A n c (bkTo la lh R C b vs ag ht k).1 B m d (bkTo la lh R C b vs ag ht k).2.1 D p q (bkTo la lh R C b vs ag ht k).2.2 ∧ Chg lo hi W wr) (fun i _ => R - (intOf i).toNat)
  case atStart => exact ⟨0, Nat.zero_le _, rfl, H, Chg.refl _ _ _⟩
  case round =>
    clear H
    obtain ⟨k, hk, rfl, HK, CK⟩ := hrel
    have szk := CK.size
    by_cases hlt : k < R
    · have gqk := gq.chg CK (by omega)
      have lk := l.chg CK (by omega)
      have xk := x.chg CK (by omega)
      obtain ⟨gqk_0, gqk_1, gqk_2, gqk_3⟩ := gqk.c4
      obtain ⟨lk_0, lk_1⟩ := lk.c2
      have gqk_lt := gqk.lt
      have lk_lt := lk.lt
      obtain ⟨kp1, kp2, kp3⟩ := bkTo_keep la lh R C b vs ag ht hca hch k
      have HKP := Lib.hid (And.intro kp1 (And.intro kp2 kp3))
      clear kp1 kp2 kp3
      go_wp2_with fail
      refine (l14Sense_c gg gb nb R C b k la lh pB lo hi A n c B m d D p q _ _ _ wr xk HK (by omega) (by omega) hg hnb nb8 R16 C8 hb hlt F1.out F2.out F3.out hcv HKP.out.1 HKP.out.2.1 HKP.out.2.2).mono ?_
      rintro e w4 ⟨rfl, o4, C4⟩
      go_wp2
      go_roundw
      case rel => exact ⟨k + 1, by omega, by go_num, o4, CK.trans C4⟩
      case measure => simp [intOf]; omega
    · obtain rfl : R = k := by omega
      have CC9 := CC.trans CK
      have szwr := CK.size
      replace x := x.chg CK (by omega)
      replace gq := gq.chg CK (by omega)
      replace l := l.chg CK (by omega)
      clear CK
      obtain ⟨gq_0, gq_1, gq_2, gq_3⟩ := gq.c4
      have gq_lt := gq.lt
      go_wp2
      refine bodyPost_end (results_none rfl _ _ _) rfl ?_
      exact ⟨rfl, HK, CC9⟩
set_option maxRecDepth 100000 in
set_option maxHeartbeats 8000000 in
theorem sSenseBank_c (gg gb gr gc la lh : Int) (A : Option Addr) (n c : Nat) (B : Option Addr) (m d : Nat) (D : Option Addr) (p q : Nat) (vs : List CV) (ag ht : List Int) (bank : Int) (w : World) (hA : Cs w A n vs) (hB : Ints w B m ag) (hD : Ints w D p ht) (hn : csz vs ≤ 1048576) (hm : m ≤ 1048576) (hp : p ≤ 1048576) :
    Calls Try.prog 59 #[.agg #[.int .i64 gg, .int .i64 gb, .int .i64 gr, .int .i64 gc], .agg #[.int .i64 la, .int .i64 lh], .agg #[.slice A n c, .slice B m d, .slice D p q], .int .i64 bank] w (NewA (sbV gg gb gr gc la lh vs ag ht bank) (sbA gg gb gr gc la lh vs ag ht bank) (sbH gg gb gr gc la lh vs ag ht bank) w) := by
  have bel : Below w.heap.size w w := Below.refl _ _
  go_enter Try.func59, Try.ntmps59
  go_wp2_with fail
  refine abs_call ?_
  intro W hW
  have szW : w.heap.size + 1 + 1 + 1 + 1 ≤ W.heap.size := by rw [hW]; simp [World.setCell]
  have szW_ := bel.size
  replace bel : Below w.heap.size w W := by rw [hW]; exact ((((bel).alloc (by first | omega | (simp [World.setCell] <;> omega)) _).alloc (by first | omega | (simp [World.setCell] <;> omega)) _).alloc (by first | omega | (simp [World.setCell] <;> omega)) _).alloc (by first | omega | (simp [World.setCell] <;> omega)) _
  have gq : Box W w.heap.size 25 #[.int .i64 gg, .int .i64 gb, .int .i64 gr, .int .i64 gc] := by rw [hW]; exact ((((Box.newAt (by simp [World.setCell]))).alloc _).alloc _).alloc _
  have l : Box W (w.heap.size + 1) 90 #[.int .i64 la, .int .i64 lh] := by rw [hW]; exact (((Box.newAt (by simp [World.setCell]))).alloc _).alloc _
  have x : Box W (w.heap.size + 1 + 1) 87 #[.slice A n c, .slice B m d, .slice D p q] := by rw [hW]; exact ((Box.newAt (by simp [World.setCell]))).alloc _
  have r : Box W (w.heap.size + 1 + 1 + 1) 87 #[.slice none 0 0, .slice none 0 0, .slice none 0 0] := by rw [hW]; exact (Box.newAt (by simp [World.setCell]))
  clear hW
  refine (l14Copy_c A n c B m d D p q vs ag ht _ (hA.below bel) (hB.below bel) (hD.below bel) hn hm hp).mono ?_
  rintro e w1 ⟨A1, n1, c1, B1, m1, d1, D1, p1, q1, rfl, o1, b1⟩
  have szw1 := b1.size
  replace bel := bel.trans (b1.mono bel.size)
  replace gq := gq.kept b1
  replace l := l.kept b1
  replace x := x.kept b1
  replace r := r.kept b1
  clear b1
  obtain ⟨gq_0, gq_1, gq_2, gq_3⟩ := gq.c4
  have gq_lt := gq.lt
  obtain ⟨x_0, x_1, x_2⟩ := x.c3
  have x_lt := x.lt
  go_wp2_with fail
  refine abs_call ?_
  intro W2 hW
  clear gq_0 gq_1 gq_2 gq_3 gq_lt x_0 x_1 x_2 x_lt
  have szW2 : w1.heap.size + 1 ≤ W2.heap.size := by rw [hW]; simp [World.setCell]
  have szW2_ := bel.size
  replace bel : Below w.heap.size w W2 := by rw [hW]; exact (bel).alloc (by first | omega | (simp [World.setCell] <;> omega)) _
  replace gq : Box W2 w.heap.size 25 #[.int .i64 gg, .int .i64 gb, .int .i64 gr, .int .i64 gc] := by rw [hW]; exact gq.alloc _
  replace l : Box W2 (w.heap.size + 1) 90 #[.int .i64 la, .int .i64 lh] := by rw [hW]; exact l.alloc _
  replace x : Box W2 (w.heap.size + 1 + 1) 87 #[.slice A n c, .slice B m d, .slice D p q] := by rw [hW]; exact x.alloc _
  replace r : Box W2 (w.heap.size + 1 + 1 + 1) 87 #[.slice none 0 0, .slice none 0 0, .slice none 0 0] := by rw [hW]; exact r.alloc _
  have y : Box W2 w1.heap.size 87 #[.slice A1 n1 c1, .slice B1 m1 d1, .slice D1 p1 q1] := by rw [hW]; exact (Box.newAt (by simp [World.setCell]))
  replace o1 : OwnA W2 W.heap.size w1.heap.size A1 n1 c1 vs B1 m1 d1 ag D1 p1 q1 ht := by rw [hW]; exact o1.alloc _
  clear hW
  refine (sArrayOk_c gg gb gr gc A n c B m d D p q vs ag ht _ (hA.below bel) (hB.below bel) (hD.below bel) hn hm hp).mono ?_
  rintro e w2 ⟨rfl, b2⟩
  have szw2 := b2.size
  replace bel := bel.trans (b2.mono bel.size)
  replace gq := gq.kept b2
  replace l := l.kept b2
  replace x := x.kept b2
  replace r := r.kept b2
  replace y := y.kept b2
  replace o1 := o1.below b2
  clear b2
  cases harr : arrOk gg gb gr gc vs ag ht
  · have HR := Lib.hid (sb_no (la := la) (lh := lh) (bank := bank) (by unfold srOk; rw [harr]; rfl))
    clear harr
    obtain ⟨r_0, r_1, r_2⟩ := r.c3
    have r_lt := r.lt
    obtain ⟨y_0, y_1, y_2⟩ := y.c3
    have y_lt := y.lt
    have r_f := r.frozen
    go_wp2
    refine abs_body ?_
    intro W9 hW
    clear r_0 r_1 r_2 r_lt y_0 y_1 y_2 y_lt r_f
    have szW9 : w2.heap.size ≤ W9.heap.size := by rw [hW]; simp [World.setCell]
    have szW9_ := bel.size
    replace bel : Below w.heap.size w W9 := by rw [hW]; exact (((bel).setCell (by dsimp only; omega) _).setCell (by dsimp only; omega) _).setCell (by dsimp only; omega) _
    replace gq : Box W9 w.heap.size 25 #[.int .i64 gg, .int .i64 gb, .int .i64 gr, .int .i64 gc] := by rw [hW]; exact (((gq).far (by dsimp only; omega) _).far (by dsimp only; omega) _).far (by dsimp only; omega) _
    replace l : Box W9 (w.heap.size + 1) 90 #[.int .i64 la, .int .i64 lh] := by rw [hW]; exact (((l).far (by dsimp only; omega) _).far (by dsimp only; omega) _).far (by dsimp only; omega) _
    replace x : Box W9 (w.heap.size + 1 + 1) 87 #[.slice A n c, .slice B m d, .slice D p q] := by rw [hW]; exact (((x).far (by dsimp only; omega) _).far (by dsimp only; omega) _).far (by dsimp only; omega) _
    replace r : Box W9 (w.heap.size + 1 + 1 + 1) 87 #[.slice A1 n1 c1, .slice B1 m1 d1, .slice D1 p1 q1] := by rw [hW]; exact (((r).set_ 0 _).set_ 1 _).set_ 2 _
    replace y : Box W9 w1.heap.size 87 #[.slice A1 n1 c1, .slice B1 m1 d1, .slice D1 p1 q1] := by rw [hW]; exact (((y).far (by dsimp only; omega) _).far (by dsimp only; omega) _).far (by dsimp only; omega) _
    replace o1 : OwnA W9 W.heap.size w1.heap.size A1 n1 c1 vs B1 m1 d1 ag D1 p1 q1 ht := by rw [hW]; exact (((o1).setCell _ _ (by dsimp only; omega)).setCell _ _ (by dsimp only; omega)).setCell _ _ (by dsimp only; omega)
    clear hW
    obtain ⟨z0, z1, z2⟩ := r.c3
    refine bodyPost_ret (v := .agg #[.slice A1 n1 c1, .slice B1 m1 d1, .slice D1 p1 q1]) (by simp [results, Try.results59, go_sem, z0, z1, z2]) rfl ?_
    rw [HR.out.1, HR.out.2.1, HR.out.2.2]
    exact ⟨_, _, _, _, _, _, _, _, _, rfl, o1.mono (by omega) (by omega), bel⟩
  obtain ⟨gq_0, gq_1, gq_2, gq_3⟩ := gq.c4
  have gq_lt := gq.lt
  go_wp2_with fail
  refine (l14Row_c gg gb gr gc bank 0 _).mono ?_
  rintro e w3 ⟨rfl, b3⟩
  clear gq_0 gq_1 gq_2 gq_3 gq_lt
  have szw3 := b3.size
  replace bel := bel.trans (b3.mono bel.size)
  replace gq := gq.kept b3
  replace l := l.kept b3
  replace x := x.kept b3
  replace r := r.kept b3
  replace y := y.kept b3
  replace o1 := o1.below b3
  clear b3
  cases hadr : addrOk gg gb gr gc bank 0 0
  · have HR := Lib.hid (sb_no (la := la) (lh := lh) (bank := bank) (by unfold srOk; rw [harr, hadr]; rfl))
    clear harr hadr
    obtain ⟨r_0, r_1, r_2⟩ := r.c3
    have r_lt := r.lt
    obtain ⟨y_0, y_1, y_2⟩ := y.c3
    have y_lt := y.lt
    have r_f := r.frozen
    go_wp2
    refine abs_body ?_
    intro W9 hW
    clear r_0 r_1 r_2 r_lt y_0 y_1 y_2 y_lt r_f
    have szW9 : w3.heap.size ≤ W9.heap.size := by rw [hW]; simp [World.setCell]
    have szW9_ := bel.size
    replace bel : Below w.heap.size w W9 := by rw [hW]; exact (((bel).setCell (by dsimp only; omega) _).setCell (by dsimp only; omega) _).setCell (by dsimp only; omega) _
    replace gq : Box W9 w.heap.size 25 #[.int .i64 gg, .int .i64 gb, .int .i64 gr, .int .i64 gc] := by rw [hW]; exact (((gq).far (by dsimp only; omega) _).far (by dsimp only; omega) _).far (by dsimp only; omega) _
    replace l : Box W9 (w.heap.size + 1) 90 #[.int .i64 la, .int .i64 lh] := by rw [hW]; exact (((l).far (by dsimp only; omega) _).far (by dsimp only; omega) _).far (by dsimp only; omega) _
    replace x : Box W9 (w.heap.size + 1 + 1) 87 #[.slice A n c, .slice B m d, .slice D p q] := by rw [hW]; exact (((x).far (by dsimp only; omega) _).far (by dsimp only; omega) _).far (by dsimp only; omega) _
    replace r : Box W9 (w.heap.size + 1 + 1 + 1) 87 #[.slice A1 n1 c1, .slice B1 m1 d1, .slice D1 p1 q1] := by rw [hW]; exact (((r).set_ 0 _).set_ 1 _).set_ 2 _
    replace y : Box W9 w1.heap.size 87 #[.slice A1 n1 c1, .slice B1 m1 d1, .slice D1 p1 q1] := by rw [hW]; exact (((y).far (by dsimp only; omega) _).far (by dsimp only; omega) _).far (by dsimp only; omega) _
    replace o1 : OwnA W9 W.heap.size w1.heap.size A1 n1 c1 vs B1 m1 d1 ag D1 p1 q1 ht := by rw [hW]; exact (((o1).setCell _ _ (by dsimp only; omega)).setCell _ _ (by dsimp only; omega)).setCell _ _ (by dsimp only; omega)
    clear hW
    obtain ⟨z0, z1, z2⟩ := r.c3
    refine bodyPost_ret (v := .agg #[.slice A1 n1 c1, .slice B1 m1 d1, .slice D1 p1 q1]) (by simp [results, Try.results59, go_sem, z0, z1, z2]) rfl ?_
    rw [HR.out.1, HR.out.2.1, HR.out.2.2]
    exact ⟨_, _, _, _, _, _, _, _, _, rfl, o1.mono (by omega) (by omega), bel⟩
  have hok : srOk gg gb gr gc vs ag ht bank 0 = true := by unfold srOk; rw [harr, hadr]; rfl
  obtain ⟨nb, R, C, rfl, rfl, hg, hnb, -, nb8, R2, R16, -, C8, e1, e2, e3, hcv, hca, hch⟩ := arrOk_parts harr
  obtain ⟨b, r0, e4, e5, hb, hr⟩ := addr_in hnb hadr
  have f1 : n1 = nb * R * C := by have := o1.cs.len; omega
  have f2 : m1 = nb * R := by have := o1.ia.1; omega
  have f3 : p1 = nb * R := by have := o1.ih.1; omega
  have F1 := Lib.hid f1
  have F2 := Lib.hid f2
  have F3 := Lib.hid f3
  clear f1 f2 f3 e1 e2 e3 harr hadr
  obtain rfl : r0 = 0 := by omega
  subst e4
  clear e5
  have HR : Hid (sbV gg gb R C la lh vs ag ht b = (bkTo la lh R C b vs ag ht R).1 ∧ sbA gg gb R C la lh vs ag ht b = (bkTo la lh R C b vs ag ht R).2.1 ∧ sbH gg gb R C la lh vs ag ht b = (bkTo la lh R C b vs ag ht R).2.2) := by
    unfold Hid sbV sbA sbH
    rw [hok]
    simp
  clear hok
  obtain ⟨gq_0, gq_1, gq_2, gq_3⟩ := gq.c4
  have gq_lt := gq.lt
  obtain ⟨l_0, l_1⟩ := l.c2
  have l_lt := l.lt
  go_wp2_with fail
  refine (l14Bank_c gg gb nb R C b la lh w1.heap.size W.heap.size w1.heap.size A1 n1 c1 B1 m1 d1 D1 p1 q1 vs ag ht _ y o1 (by omega) (by omega) hg hnb nb8 R16 C8 hb F1.out F2.out F3.out hcv hca hch).mono ?_
  rintro e w4 ⟨rfl, o4, C4⟩
  clear o1
  clear gq_0 gq_1 gq_2 gq_3 gq_lt l_0 l_1 l_lt
  have szw4 := C4.size
  replace bel := C4.below bel (by omega)
  replace gq := gq.chg C4 (by omega)
  replace l := l.chg C4 (by omega)
  replace x := x.chg C4 (by omega)
  replace r := r.chg C4 (by omega)
  replace y := y.chg C4 (by omega)
  clear C4
  obtain ⟨r_0, r_1, r_2⟩ := r.c3
  have r_lt := r.lt
  obtain ⟨y_0, y_1, y_2⟩ := y.c3
  have y_lt := y.lt
  have r_f := r.frozen
  go_wp2
  refine abs_body ?_
  intro W9 hW
  clear r_0 r_1 r_2 r_lt y_0 y_1 y_2 y_lt r_f
  have szW9 : w4.heap.size ≤ W9.heap.size := by rw [hW]; simp [World.setCell]
  have szW9_ := bel.size
  replace bel : Below w.heap.size w W9 := by rw [hW]; exact (((bel).setCell (by dsimp only; omega) _).setCell (by dsimp only; omega) _).setCell (by dsimp only; omega) _
  replace gq : Box W9 w.heap.size 25 #[.int .i64 gg, .int .i64 gb, .int .i64 ((R : Int)), .int .i64 ((C : Int))] := by rw [hW]; exact (((gq).far (by dsimp only; omega) _).far (by dsimp only; omega) _).far (by dsimp only; omega) _
  replace l : Box W9 (w.heap.size + 1) 90 #[.int .i64 la, .int .i64 lh] := by rw [hW]; exact (((l).far (by dsimp only; omega) _).far (by dsimp only; omega) _).far (by dsimp only; omega) _
  replace x : Box W9 (w.heap.size + 1 + 1) 87 #[.slice A n c, .slice B m d, .slice D p q] := by rw [hW]; exact (((x).far (by dsimp only; omega) _).far (by dsimp only; omega) _).far (by dsimp only; omega) _
  replace r : Box W9 (w.heap.size + 1 + 1 + 1) 87 #[.slice A1 n1 c1, .slice B1 m1 d1, .slice D1 p1 q1] := by rw [hW]; exact (((r).set_ 0 _).set_ 1 _).set_ 2 _
  replace y : Box W9 w1.heap.size 87 #[.slice A1 n1 c1, .slice B1 m1 d1, .slice D1 p1 q1] := by rw [hW]; exact (((y).far (by dsimp only; omega) _).far (by dsimp only; omega) _).far (by dsimp only; omega) _
  replace o4 : OwnA W9 W.heap.size w1.heap.size A1 n1 c1 (bkTo la lh R C b vs ag ht R).1 B1 m1 d1 (bkTo la lh R C b vs ag ht R).2.1 D1 p1 q1 (bkTo la lh R C b vs ag ht R).2.2 := by rw [hW]; exact (((o4).setCell _ _ (by dsimp only; omega)).setCell _ _ (by dsimp only; omega)).setCell _ _ (by dsimp only; omega)
  clear hW
  obtain ⟨z0, z1, z2⟩ := r.c3
  refine bodyPost_ret (v := .agg #[.slice A1 n1 c1, .slice B1 m1 d1, .slice D1 p1 q1]) (by simp [results, Try.results59, go_sem, z0, z1, z2]) rfl ?_
  rw [HR.out.1, HR.out.2.1, HR.out.2.2]
  exact ⟨_, _, _, _, _, _, _, _, _, rfl, o4.mono (by omega) (by omega), bel⟩
set_option maxRecDepth 100000 in
set_option maxHeartbeats 8000000 in
theorem iSenseBank_c (gg gb gr gc la lh : Int) (A : Option Addr) (n c : Nat) (B : Option Addr) (m d : Nat) (D : Option Addr) (p q : Nat) (vs : List CV) (ag ht : List Int) (bank : Int) (w : World) (hA : Cs w A n vs) (hB : Ints w B m ag) (hD : Ints w D p ht) (hn : csz vs ≤ 1048576) (hm : m ≤ 1048576) (hp : p ≤ 1048576) :
    Calls Try.prog 60 #[.agg #[.int .i64 gg, .int .i64 gb, .int .i64 gr, .int .i64 gc], .agg #[.int .i64 la, .int .i64 lh], .agg #[.slice A n c, .slice B m d, .slice D p q], .int .i64 bank] w (NewA (sbV gg gb gr gc la lh vs ag ht bank) (sbA gg gb gr gc la lh vs ag ht bank) (sbH gg gb gr gc la lh vs ag ht bank) w) := by
  have bel : Below w.heap.size w w := Below.refl _ _
  go_enter Try.func60, Try.ntmps60
  go_wp2_with fail
  refine abs_call ?_
  intro W hW
  have szW : w.heap.size + 1 + 1 + 1 + 1 ≤ W.heap.size := by rw [hW]; simp [World.setCell]
  have szW_ := bel.size
  replace bel : Below w.heap.size w W := by rw [hW]; exact ((((bel).alloc (by first | omega | (simp [World.setCell] <;> omega)) _).alloc (by first | omega | (simp [World.setCell] <;> omega)) _).alloc (by first | omega | (simp [World.setCell] <;> omega)) _).alloc (by first | omega | (simp [World.setCell] <;> omega)) _
  have gq : Box W w.heap.size 25 #[.int .i64 gg, .int .i64 gb, .int .i64 gr, .int .i64 gc] := by rw [hW]; exact ((((Box.newAt (by simp [World.setCell]))).alloc _).alloc _).alloc _
  have l : Box W (w.heap.size + 1) 90 #[.int .i64 la, .int .i64 lh] := by rw [hW]; exact (((Box.newAt (by simp [World.setCell]))).alloc _).alloc _
  have x : Box W (w.heap.size + 1 + 1) 87 #[.slice A n c, .slice B m d, .slice D p q] := by rw [hW]; exact ((Box.newAt (by simp [World.setCell]))).alloc _
  have r : Box W (w.heap.size + 1 + 1 + 1) 87 #[.slice none 0 0, .slice none 0 0, .slice none 0 0] := by rw [hW]; exact (Box.newAt (by simp [World.setCell]))
  clear hW
  refine (copyArray_c A n c B m d D p q vs ag ht _ (hA.below bel) (hB.below bel) (hD.below bel) hn hm hp).mono ?_
  rintro e w1 ⟨A1, n1, c1, B1, m1, d1, D1, p1, q1, rfl, o1, b1⟩
  have szw1 := b1.size
  replace bel := bel.trans (b1.mono bel.size)
  replace gq := gq.kept b1
  replace l := l.kept b1
  replace x := x.kept b1
  replace r := r.kept b1
  clear b1
  obtain ⟨gq_0, gq_1, gq_2, gq_3⟩ := gq.c4
  have gq_lt := gq.lt
  obtain ⟨x_0, x_1, x_2⟩ := x.c3
  have x_lt := x.lt
  go_wp2_with fail
  refine abs_call ?_
  intro W2 hW
  clear gq_0 gq_1 gq_2 gq_3 gq_lt x_0 x_1 x_2 x_lt
  have szW2 : w1.heap.size + 1 ≤ W2.heap.size := by rw [hW]; simp [World.setCell]
  have szW2_ := bel.size
  replace bel : Below w.heap.size w W2 := by rw [hW]; exact (bel).alloc (by first | omega | (simp [World.setCell] <;> omega)) _
  replace gq : Box W2 w.heap.size 25 #[.int .i64 gg, .int .i64 gb, .int .i64 gr, .int .i64 gc] := by rw [hW]; exact gq.alloc _
  replace l : Box W2 (w.heap.size + 1) 90 #[.int .i64 la, .int .i64 lh] := by rw [hW]; exact l.alloc _
  replace x : Box W2 (w.heap.size + 1 + 1) 87 #[.slice A n c, .slice B m d, .slice D p q] := by rw [hW]; exact x.alloc _
  replace r : Box W2 (w.heap.size + 1 + 1 + 1) 87 #[.slice none 0 0, .slice none 0 0, .slice none 0 0] := by rw [hW]; exact r.alloc _
  have y : Box W2 w1.heap.size 87 #[.slice A1 n1 c1, .slice B1 m1 d1, .slice D1 p1 q1] := by rw [hW]; exact (Box.newAt (by simp [World.setCell]))
  replace o1 : OwnA W2 W.heap.size w1.heap.size A1 n1 c1 vs B1 m1 d1 ag D1 p1 q1 ht := by rw [hW]; exact o1.alloc _
  clear hW
  refine (iArrayOk_c gg gb gr gc A n c B m d D p q vs ag ht _ (hA.below bel) (hB.below bel) (hD.below bel) hn hm hp).mono ?_
  rintro e w2 ⟨rfl, b2⟩
  have szw2 := b2.size
  replace bel := bel.trans (b2.mono bel.size)
  replace gq := gq.kept b2
  replace l := l.kept b2
  replace x := x.kept b2
  replace r := r.kept b2
  replace y := y.kept b2
  replace o1 := o1.below b2
  clear b2
  cases harr : arrOk gg gb gr gc vs ag ht
  · have HR := Lib.hid (sb_no (la := la) (lh := lh) (bank := bank) (by unfold srOk; rw [harr]; rfl))
    clear harr
    obtain ⟨r_0, r_1, r_2⟩ := r.c3
    have r_lt := r.lt
    obtain ⟨y_0, y_1, y_2⟩ := y.c3
    have y_lt := y.lt
    have r_f := r.frozen
    go_wp2
    refine abs_body ?_
    intro W9 hW
    clear r_0 r_1 r_2 r_lt y_0 y_1 y_2 y_lt r_f
    have szW9 : w2.heap.size ≤ W9.heap.size := by rw [hW]; simp [World.setCell]
    have szW9_ := bel.size
    replace bel : Below w.heap.size w W9 := by rw [hW]; exact (((bel).setCell (by dsimp only; omega) _).setCell (by dsimp only; omega) _).setCell (by dsimp only; omega) _
    replace gq : Box W9 w.heap.size 25 #[.int .i64 gg, .int .i64 gb, .int .i64 gr, .int .i64 gc] := by rw [hW]; exact (((gq).far (by dsimp only; omega) _).far (by dsimp only; omega) _).far (by dsimp only; omega) _
    replace l : Box W9 (w.heap.size + 1) 90 #[.int .i64 la, .int .i64 lh] := by rw [hW]; exact (((l).far (by dsimp only; omega) _).far (by dsimp only; omega) _).far (by dsimp only; omega) _
    replace x : Box W9 (w.heap.size + 1 + 1) 87 #[.slice A n c, .slice B m d, .slice D p q] := by rw [hW]; exact (((x).far (by dsimp only; omega) _).far (by dsimp only; omega) _).far (by dsimp only; omega) _
    replace r : Box W9 (w.heap.size + 1 + 1 + 1) 87 #[.slice A1 n1 c1, .slice B1 m1 d1, .slice D1 p1 q1] := by rw [hW]; exact (((r).set_ 0 _).set_ 1 _).set_ 2 _
    replace y : Box W9 w1.heap.size 87 #[.slice A1 n1 c1, .slice B1 m1 d1, .slice D1 p1 q1] := by rw [hW]; exact (((y).far (by dsimp only; omega) _).far (by dsimp only; omega) _).far (by dsimp only; omega) _
    replace o1 : OwnA W9 W.heap.size w1.heap.size A1 n1 c1 vs B1 m1 d1 ag D1 p1 q1 ht := by rw [hW]; exact (((o1).setCell _ _ (by dsimp only; omega)).setCell _ _ (by dsimp only; omega)).setCell _ _ (by dsimp only; omega)
    clear hW
    obtain ⟨z0, z1, z2⟩ := r.c3
    refine bodyPost_ret (v := .agg #[.slice A1 n1 c1, .slice B1 m1 d1, .slice D1 p1 q1]) (by simp [results, Try.results60, go_sem, z0, z1, z2]) rfl ?_
    rw [HR.out.1, HR.out.2.1, HR.out.2.2]
    exact ⟨_, _, _, _, _, _, _, _, _, rfl, o1.mono (by omega) (by omega), bel⟩
  obtain ⟨gq_0, gq_1, gq_2, gq_3⟩ := gq.c4
  have gq_lt := gq.lt
  go_wp2_with fail
  refine (iRowExists_c gg gb gr gc bank 0 _).mono ?_
  rintro e w3 ⟨rfl, b3⟩
  clear gq_0 gq_1 gq_2 gq_3 gq_lt
  have szw3 := b3.size
  replace bel := bel.trans (b3.mono bel.size)
  replace gq := gq.kept b3
  replace l := l.kept b3
  replace x := x.kept b3
  replace r := r.kept b3
  replace y := y.kept b3
  replace o1 := o1.below b3
  clear b3
  cases hadr : addrOk gg gb gr gc bank 0 0
  · have HR := Lib.hid (sb_no (la := la) (lh := lh) (bank := bank) (by unfold srOk; rw [harr, hadr]; rfl))
    clear harr hadr
    obtain ⟨r_0, r_1, r_2⟩ := r.c3
    have r_lt := r.lt
    obtain ⟨y_0, y_1, y_2⟩ := y.c3
    have y_lt := y.lt
    have r_f := r.frozen
    go_wp2
    refine abs_body ?_
    intro W9 hW
    clear r_0 r_1 r_2 r_lt y_0 y_1 y_2 y_lt r_f
    have szW9 : w3.heap.size ≤ W9.heap.size := by rw [hW]; simp [World.setCell]
    have szW9_ := bel.size
    replace bel : Below w.heap.size w W9 := by rw [hW]; exact (((bel).setCell (by dsimp only; omega) _).setCell (by dsimp only; omega) _).setCell (by dsimp only; omega) _
    replace gq : Box W9 w.heap.size 25 #[.int .i64 gg, .int .i64 gb, .int .i64 gr, .int .i64 gc] := by rw [hW]; exact (((gq).far (by dsimp only; omega) _).far (by dsimp only; omega) _).far (by dsimp only; omega) _
    replace l : Box W9 (w.heap.size + 1) 90 #[.int .i64 la, .int .i64 lh] := by rw [hW]; exact (((l).far (by dsimp only; omega) _).far (by dsimp only; omega) _).far (by dsimp only; omega) _
    replace x : Box W9 (w.heap.size + 1 + 1) 87 #[.slice A n c, .slice B m d, .slice D p q] := by rw [hW]; exact (((x).far (by dsimp only; omega) _).far (by dsimp only; omega) _).far (by dsimp only; omega) _
    replace r : Box W9 (w.heap.size + 1 + 1 + 1) 87 #[.slice A1 n1 c1, .slice B1 m1 d1, .slice D1 p1 q1] := by rw [hW]; exact (((r).set_ 0 _).set_ 1 _).set_ 2 _
    replace y : Box W9 w1.heap.size 87 #[.slice A1 n1 c1, .slice B1 m1 d1, .slice D1 p1 q1] := by rw [hW]; exact (((y).far (by dsimp only; omega) _).far (by dsimp only; omega) _).far (by dsimp only; omega) _
    replace o1 : OwnA W9 W.heap.size w1.heap.size A1 n1 c1 vs B1 m1 d1 ag D1 p1 q1 ht := by rw [hW]; exact (((o1).setCell _ _ (by dsimp only; omega)).setCell _ _ (by dsimp only; omega)).setCell _ _ (by dsimp only; omega)
    clear hW
    obtain ⟨z0, z1, z2⟩ := r.c3
    refine bodyPost_ret (v := .agg #[.slice A1 n1 c1, .slice B1 m1 d1, .slice D1 p1 q1]) (by simp [results, Try.results60, go_sem, z0, z1, z2]) rfl ?_
    rw [HR.out.1, HR.out.2.1, HR.out.2.2]
    exact ⟨_, _, _, _, _, _, _, _, _, rfl, o1.mono (by omega) (by omega), bel⟩
  have hok : srOk gg gb gr gc vs ag ht bank 0 = true := by unfold srOk; rw [harr, hadr]; rfl
  obtain ⟨nb, R, C, rfl, rfl, hg, hnb, -, nb8, R2, R16, -, C8, e1, e2, e3, hcv, hca, hch⟩ := arrOk_parts harr
  obtain ⟨b, r0, e4, e5, hb, hr⟩ := addr_in hnb hadr
  have f1 : n1 = nb * R * C := by have := o1.cs.len; omega
  have f2 : m1 = nb * R := by have := o1.ia.1; omega
  have f3 : p1 = nb * R := by have := o1.ih.1; omega
  have F1 := Lib.hid f1
  have F2 := Lib.hid f2
  have F3 := Lib.hid f3
  clear f1 f2 f3 e1 e2 e3 harr hadr
  obtain rfl : r0 = 0 := by omega
  subst e4
  clear e5
  have HR : Hid (sbV gg gb R C la lh vs ag ht b = (bkTo la lh R C b vs ag ht R).1 ∧ sbA gg gb R C la lh vs ag ht b = (bkTo la lh R C b vs ag ht R).2.1 ∧ sbH gg gb R C la lh vs ag ht b = (bkTo la lh R C b vs ag ht R).2.2) := by
    unfold Hid sbV sbA sbH
    rw [hok]
    simp
  clear hok
  go_wp2_with fail
  go_loopw [10] (fun i wr => ∃ (k : Nat), k ≤ R ∧ i = .int .i64 k ∧ OwnA wr W.heap.size w1.heap.size A1 n1 c1 (bkTo la lh R C b vs ag ht k).1 B1 m1 d1 (bkTo la lh R C b vs ag ht k).2.1 D1 p1 q1 (bkTo la lh R C b vs ag ht k).2.2 ∧ Chg W.heap.size w1.heap.size w3 wr) (fun i _ => R - (intOf i).toNat)
  case atStart => exact ⟨0, Nat.zero_le _, rfl, o1, Chg.refl _ _ _⟩
  case round =>
    clear o1
    obtain ⟨k, hk, rfl, HK, CK⟩ := hrel
    have szk := CK.size
    by_cases hlt : k < R
    · have gqk := gq.chg CK (by omega)
      have lk := l.chg CK (by omega)
      have xk := y.chg CK (by omega)
      obtain ⟨gqk_0, gqk_1, gqk_2, gqk_3⟩ := gqk.c4
      obtain ⟨lk_0, lk_1⟩ := lk.c2
      have gqk_lt := gqk.lt
      have lk_lt := lk.lt
      obtain ⟨kp1, kp2, kp3⟩ := bkTo_keep la lh R C b vs ag ht hca hch k
      have HKP := Lib.hid (And.intro kp1 (And.intro kp2 kp3))
      clear kp1 kp2 kp3
      go_wp2_with fail
      refine (iSense_c gg gb nb R C b k la lh w1.heap.size W.heap.size w1.heap.size A1 n1 c1 B1 m1 d1 D1 p1 q1 _ _ _ wr xk HK (by omega) (by omega) hg hnb nb8 R16 C8 hb hlt F1.out F2.out F3.out hcv HKP.out.1 HKP.out.2.1 HKP.out.2.2).mono ?_
      rintro e w4 ⟨rfl, o4, C4⟩
      go_wp2
      go_roundw
      case rel => exact ⟨k + 1, by omega, by go_num, o4, CK.trans C4⟩
      case measure => simp [intOf]; omega
    · obtain rfl : R = k := by omega
      have szwr := CK.size
      replace bel := CK.below bel (by omega)
      replace gq := gq.chg CK (by omega)
      replace l := l.chg CK (by omega)
      replace x := x.chg CK (by omega)
      replace r := r.chg CK (by omega)
      replace y := y.chg CK (by omega)
      clear CK
      obtain ⟨gq_0, gq_1, gq_2, gq_3⟩ := gq.c4
      have gq_lt := gq.lt
      obtain ⟨r_0, r_1, r_2⟩ := r.c3
      have r_lt := r.lt
      obtain ⟨y_0, y_1, y_2⟩ := y.c3
      have y_lt := y.lt
      have r_f := r.frozen
      go_wp2
      refine abs_body ?_
      intro W9 hW
      clear gq_0 gq_1 gq_2 gq_3 gq_lt r_0 r_1 r_2 r_lt y_0 y_1 y_2 y_lt r_f
      have szW9 : wr.heap.size ≤ W9.heap.size := by rw [hW]; simp [World.setCell]
      have szW9_ := bel.size
      replace bel : Below w.heap.size w W9 := by rw [hW]; exact (((bel).setCell (by dsimp only; omega) _).setCell (by dsimp only; omega) _).setCell (by dsimp only; omega) _
      replace gq : Box W9 w.heap.size 25 #[.int .i64 gg, .int .i64 gb, .int .i64 ((R : Int)), .int .i64 ((C : Int))] := by rw [hW]; exact (((gq).far (by dsimp only; omega) _).far (by dsimp only; omega) _).far (by dsimp only; omega) _
      replace l : Box W9 (w.heap.size + 1) 90 #[.int .i64 la, .int .i64 lh] := by rw [hW]; exact (((l).far (by dsimp only; omega) _).far (by dsimp only; omega) _).far (by dsimp only; omega) _
      replace x : Box W9 (w.heap.size + 1 + 1) 87 #[.slice A n c, .slice B m d, .slice D p q] := by rw [hW]; exact (((x).far (by dsimp only; omega) _).far (by dsimp only; omega) _).far (by dsimp only; omega) _
      replace r : Box W9 (w.heap.size + 1 + 1 + 1) 87 #[.slice A1 n1 c1, .slice B1 m1 d1, .slice D1 p1 q1] := by rw [hW]; exact (((r).set_ 0 _).set_ 1 _).set_ 2 _
      replace y : Box W9 w1.heap.size 87 #[.slice A1 n1 c1, .slice B1 m1 d1, .slice D1 p1 q1] := by rw [hW]; exact (((y).far (by dsimp only; omega) _).far (by dsimp only; omega) _).far (by dsimp only; omega) _
      replace HK : OwnA W9 W.heap.size w1.heap.size A1 n1 c1 (bkTo la lh R C b vs ag ht R).1 B1 m1 d1 (bkTo la lh R C b vs ag ht R).2.1 D1 p1 q1 (bkTo la lh R C b vs ag ht R).2.2 := by rw [hW]; exact (((HK).setCell _ _ (by dsimp only; omega)).setCell _ _ (by dsimp only; omega)).setCell _ _ (by dsimp only; omega)
      clear hW
      obtain ⟨z0, z1, z2⟩ := r.c3
      refine bodyPost_ret (v := .agg #[.slice A1 n1 c1, .slice B1 m1 d1, .slice D1 p1 q1]) (by simp [results, Try.results60, go_sem, z0, z1, z2]) rfl ?_
      rw [HR.out.1, HR.out.2.1, HR.out.2.2]
      exact ⟨_, _, _, _, _, _, _, _, _, rfl, HK.mono (by omega) (by omega), bel⟩
end Go.Proofs.Ytbapamfomfbmmaa
