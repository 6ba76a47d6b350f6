/-
  Sensing a row: the plain law; l14Row, l14Gone, decayed, AddrIndex.
-/
import Derived.Test.YtbapamfomfbmmaaSenD
import Derived.Test.YtbapamfomfbmmaaPat1
import Derived.Test.YtbapamfomfbmmaaTkM
import Derived.Test.YtbapamfomfbmmaaExpo
import Derived.BigQuiet
namespace Go.Proofs.Ytbapamfomfbmmaa
open Go.RowKit
set_option linter.unusedSimpArgs false
set_option linter.unusedVariables false

/-- A row has decayed. -/
def goneB (la lh : Int) (ag ht : List Int) (k : Nat) : Bool := decide (la < ag.getD k 0) || decide (lh < ht.getD k 0)
def bendL (zs : List Int) : List Int := (zs.set 0 (bits .xor .i64 (zs.getD 0 0) 5)).set 1 (bits .xor .i64 (zs.getD 1 0) 10)
theorem bendL_len (zs : List Int) : (bendL zs).length = zs.length := by simp [bendL]
def bendAt (vs : List CV) (i : Nat) : List CV := vs.set i (bendL (vs.getD i ([], false)).1, (vs.getD i ([], false)).2)
/-- The cells from base on are bent. -/
def bendTo (vs : List CV) (base : Nat) : Nat → List CV
  | 0 => vs
  | k + 1 => bendAt (bendTo vs base k) (base + k)
def lens (vs : List CV) : List Nat := vs.map fun v => v.1.length
theorem csz_lens {a b : List CV} (h : lens a = lens b) : csz a = csz b := by
  have e : ∀ l : List CV, csz l = ((lens l).map (· + 1)).sum := fun l => by simp [csz, lens, List.map_map, Function.comp_def]
  rw [e, e, h]
theorem lens_len {a b : List CV} (h : lens a = lens b) : a.length = b.length := by have := congrArg List.length h; simpa [lens] using this
theorem lens_set {vs : List CV} {i : Nat} {v : CV} (h : ∀ u, vs[i]? = some u → u.1.length = v.1.length) : lens (vs.set i v) = lens vs := by
  unfold lens
  rw [List.map_set]
  by_cases hi : i < vs.length
  · refine set_same ?_
    rw [List.getElem?_map, List.getElem?_eq_getElem hi]
    simp only [Option.map_some]
    rw [h _ (List.getElem?_eq_getElem hi)]
  · rw [List.set_eq_of_length_le (by simp; omega)]
theorem bendAt_lens (vs : List CV) (i : Nat) : lens (bendAt vs i) = lens vs := by
  refine lens_set fun u hu => ?_
  rw [bendL_len]
  simp [List.getD_eq_getElem?_getD, hu]
theorem bendTo_lens (vs : List CV) (base k : Nat) : lens (bendTo vs base k) = lens vs := by
  induction k with
  | zero => rfl
  | succ k ih => unfold bendTo; rw [bendAt_lens, ih]
theorem bendAt_of {vs : List CV} {i : Nat} {zs : List Int} {p : Bool} (h : vs[i]? = some (zs, p)) : bendAt vs i = vs.set i (bendL zs, p) := by
  unfold bendAt
  simp [List.getD_eq_getElem?_getD, h]
/-- One more activation beside a row. -/
def hitAdd (ht : List Int) (i : Nat) : List Int := ht.set i (min (ht.getD i 0 + 1) 100000)
theorem hitAdd_len (ht : List Int) (i : Nat) : (hitAdd ht i).length = ht.length := by simp [hitAdd]
def hitsTo (base : Nat) (near : List Int) (ht : List Int) : List Int := near.foldl (fun h x => hitAdd h (base + x.toNat)) ht
theorem hitsTo_snoc (base : Nat) (near : List Int) (x : Int) (ht : List Int) : hitsTo base (near ++ [x]) ht = hitAdd (hitsTo base near ht) (base + x.toNat) := by unfold hitsTo; rw [List.foldl_append]; rfl
theorem hitsTo_len (base : Nat) (near ht : List Int) : (hitsTo base near ht).length = ht.length := by
  induction near using snoc_ind with
  | h0 => rfl
  | h1 l x ih => rw [hitsTo_snoc, hitAdd_len, ih]
theorem set_all {f : Int → Bool} {l : List Int} {i : Nat} {x : Int} (h : l.all f = true) (hx : f x = true) : (l.set i x).all f = true := by
  rw [List.all_eq_true] at h ⊢
  intro y hy
  rcases List.mem_or_eq_of_mem_set hy with hy | hy
  · exact h y hy
  · subst hy; exact hx
theorem hitAdd_all {ht : List Int} {i : Nat} (h : ht.all ageF = true) : (hitAdd ht i).all ageF = true := by
  by_cases hi : i < ht.length
  · have hm : ageF (ht.getD i 0) = true := by
      rw [List.all_eq_true] at h
      refine h _ ?_
      rw [List.getD_eq_getElem?_getD, List.getElem?_eq_getElem hi]
      exact List.getElem_mem hi
    have := inB_t hm
    refine set_all h ?_
    exact inB_mk (by omega) (by omega)
  · unfold hitAdd
    rw [List.set_eq_of_length_le (by omega)]
    exact h
theorem hitsTo_all {base : Nat} {near ht : List Int} (h : ht.all ageF = true) : (hitsTo base near ht).all ageF = true := by
  induction near using snoc_ind with
  | h0 => exact h
  | h1 l x ih => rw [hitsTo_snoc]; exact hitAdd_all ih
/-- The array behind sensing row r of bank b. -/
def senV (la lh : Int) (R C b r : Nat) (vs : List CV) (ag ht : List Int) : List CV := if goneB la lh ag ht (b * R + r) = true then bendTo vs ((b * R + r) * C) C else vs
def senA (R b r : Nat) (ag : List Int) : List Int := ag.set (b * R + r) 0
def senH (R b r : Nat) (ht : List Int) : List Int := hitsTo (b * R) (nears (R : Int) (r : Int)) (ht.set (b * R + r) 0)
theorem senV_lens (la lh : Int) (R C b r : Nat) (vs : List CV) (ag ht : List Int) : lens (senV la lh R C b r vs ag ht) = lens vs := by
  unfold senV
  split
  · exact bendTo_lens _ _ _
  · rfl
theorem senA_len (R b r : Nat) (ag : List Int) : (senA R b r ag).length = ag.length := by simp [senA]
theorem senH_len (R b r : Nat) (ht : List Int) : (senH R b r ht).length = ht.length := by simp [senH, hitsTo_len]
theorem senA_all {R b r : Nat} {ag : List Int} (h : ag.all ageF = true) : (senA R b r ag).all ageF = true := set_all h rfl
theorem senH_all {R b r : Nat} {ht : List Int} (h : ht.all ageF = true) : (senH R b r ht).all ageF = true := hitsTo_all (set_all h rfl)
set_option maxHeartbeats 1000000 in
theorem l14Row_c (gg gb gr gc bank row : Int) (w : World) :
    Calls Try.prog 109 #[.agg #[.int .i64 gg, .int .i64 gb, .int .i64 gr, .int .i64 gc], .int .i64 bank, .int .i64 row] w fun e w' => e = .returned (.bool (addrOk gg gb gr gc bank row 0)) ∧ Below w.heap.size w w' := by
  have bel : Below w.heap.size w w := Below.refl _ _
  go_enter Try.func109, Try.ntmps109
  go_wp2_with fail
  refine abs_call ?_
  intro W hW
  have szW : w.heap.size + 1 ≤ W.heap.size := by rw [hW]; simp [World.setCell]
  have szW_ := bel.size
  replace bel : Below w.heap.size w W := by rw [hW]; exact (bel).alloc (by first | omega | (simp [World.setCell] <;> omega)) _
  have gq : Box W w.heap.size 25 #[.int .i64 gg, .int .i64 gb, .int .i64 gr, .int .i64 gc] := by rw [hW]; exact (Box.newAt (by simp [World.setCell]))
  clear hW
  refine (sAddrOk_c gg gb gr gc bank row 0 _).mono ?_
  rintro e w1 ⟨rfl, b1⟩
  have szw1 := b1.size
  replace bel := bel.trans (b1.mono bel.size)
  replace gq := gq.kept b1
  clear b1
  go_wp2
  go_ret
  exact ⟨rfl, bel⟩
set_option maxRecDepth 100000 in
set_option maxHeartbeats 4000000 in
theorem l14Gone_c (gg gb : Int) (R C : Nat) (la lh : Int) (A : Option Addr) (n c : Nat) (B : Option Addr) (m d : Nat) (D : Option Addr) (p q : Nat) (ag ht : List Int) (k : Nat) (w : World) (hB : Ints w B m ag) (hD : Ints w D p ht) (hkm : k < m) (hkp : k < p) :
    Calls Try.prog 151 #[.agg #[.int .i64 gg, .int .i64 gb, .int .i64 (R : Int), .int .i64 (C : Int)], .agg #[.int .i64 la, .int .i64 lh], .agg #[.slice A n c, .slice B m d, .slice D p q], .int .i64 (k : Int)] w fun e w' => e = .returned (.bool (goneB la lh ag ht k)) ∧ Below w.heap.size w w' := by
  have bel : Below w.heap.size w w := Below.refl _ _
  obtain ⟨g1, o1, y1, rfl, -, hy1⟩ := hB.at_ hkm
  obtain ⟨g2, o2, y2, rfl, -, hy2⟩ := hD.at_ hkp
  have HG : Hid (goneB la lh ag ht k = (decide (la < y1) || decide (lh < y2))) := by unfold Hid goneB; rw [List.getD_eq_getElem?_getD, List.getD_eq_getElem?_getD, hy1.out, hy2.out]; rfl
  have i0 : (0 : Int) ≤ (k : Int) := by omega
  have i1 : (k : Int) < (m : Int) := by omega
  have i2 : (k : Int) < (p : Int) := by omega
  go_enter Try.func151, Try.ntmps151
  go_wp2_with fail
  refine abs_code ?_
  intro W hW
  have szW : w.heap.size + 1 + 1 + 1 ≤ W.heap.size := by rw [hW]; simp [World.setCell]
  have szW_ := bel.size
  replace bel : Below w.heap.size w W := by rw [hW]; exact (((bel).alloc (by first | omega | (simp [World.setCell] <;> omega)) _).alloc (by first | omega | (simp [World.setCell] <;> omega)) _).alloc (by first | omega | (simp [World.setCell] <;> omega)) _
  have gq : Box W w.heap.size 25 #[.int .i64 gg, .int .i64 gb, .int .i64 (R : Int), .int .i64 (C : Int)] := by rw [hW]; exact (((Box.newAt (by simp [World.setCell]))).alloc _).alloc _
  have l : Box W (w.heap.size + 1) 90 #[.int .i64 la, .int .i64 lh] := by rw [hW]; exact ((Box.newAt (by simp [World.setCell]))).alloc _
  have x : Box W (w.heap.size + 1 + 1) 87 #[.slice A n c, .slice (some ⟨g1, o1, none⟩) m d, .slice (some ⟨g2, o2, none⟩) p q] := by rw [hW]; exact (Box.newAt (by simp [World.setCell]))
  clear hW
  obtain ⟨g1', o1', y1', e1, hc1, hy1'⟩ := (hB.below bel).at_ hkm
  obtain ⟨g2', o2', y2', e2, hc2, hy2'⟩ := (hD.below bel).at_ hkp
  injection e1 with e1
  injection e1 with e1a e1b
  subst e1a e1b
  injection e2 with e2
  injection e2 with e2a e2b
  subst e2a e2b
  have ev1 := hy1.out.symm.trans hy1'.out
  injection ev1 with ev1
  subst ev1
  have ev2 := hy2.out.symm.trans hy2'.out
  injection ev2 with ev2
  subst ev2
  clear hy1 hy2 hy1' hy2'
  obtain ⟨gq_0, gq_1, gq_2, gq_3⟩ := gq.c4
  have gq_lt := gq.lt
  obtain ⟨l_0, l_1⟩ := l.c2
  have l_lt := l.lt
  obtain ⟨x_0, x_1, x_2⟩ := x.c3
  have x_lt := x.lt
  by_cases k1 : la < y1
  · have t1 : decide (la < y1) = true := by simpa using k1
    have HR : Hid (goneB la lh ag ht k = true) := by unfold Hid; rw [HG.out, t1]; rfl
    clear k1
    go_wp2_with fail
    go_quiet (fail)
    go_wp2
    go_ret
    exact ⟨ret_bool HR.out.symm, belowN bel _⟩
  · have t1 : decide (la < y1) = false := by simpa using k1
    have HR : Hid (goneB la lh ag ht k = decide (lh < y2)) := by unfold Hid; rw [HG.out, t1]; rfl
    clear k1
    go_wp2_with fail
    go_quiet (fail)
    go_wp2
    go_ret
    exact ⟨ret_bool HR.out.symm, belowN bel _⟩
set_option maxRecDepth 100000 in
set_option maxHeartbeats 4000000 in
theorem decayed_c (gg gb : Int) (R C : Nat) (la lh : Int) (A : Option Addr) (n c : Nat) (B : Option Addr) (m d : Nat) (D : Option Addr) (p q : Nat) (ag ht : List Int) (b r k : Nat) (hkb : b * R + r = k) (hb8 : b ≤ 8) (hR16 : R ≤ 16) (hr16 : r ≤ 16) (w : World) (hB : Ints w B m ag) (hD : Ints w D p ht) (hkm : k < m) (hkp : k < p) :
    Calls Try.prog 122 #[.agg #[.int .i64 gg, .int .i64 gb, .int .i64 (R : Int), .int .i64 (C : Int)], .agg #[.int .i64 la, .int .i64 lh], .agg #[.slice A n c, .slice B m d, .slice D p q], .int .i64 (b : Int), .int .i64 (r : Int)] w fun e w' => e = .returned (.bool (goneB la lh ag ht k)) ∧ Below w.heap.size w w' := by
  have bel : Below w.heap.size w w := Below.refl _ _
  obtain ⟨g1, o1, y1, rfl, -, hy1⟩ := hB.at_ hkm
  obtain ⟨g2, o2, y2, rfl, -, hy2⟩ := hD.at_ hkp
  have HG : Hid (goneB la lh ag ht k = (decide (la < y1) || decide (lh < y2))) := by unfold Hid goneB; rw [List.getD_eq_getElem?_getD, List.getD_eq_getElem?_getD, hy1.out, hy2.out]; rfl
  have i0 : (0 : Int) ≤ (k : Int) := by omega
  have i1 : (k : Int) < (m : Int) := by omega
  have i2 : (k : Int) < (p : Int) := by omega
  obtain ⟨Tt, hT⟩ : ∃ x, b * R = x := ⟨_, rfl⟩
  have hT2 : Tt ≤ 128 := by rw [← hT]; exact Nat.le_trans (Nat.mul_le_mul hb8 hR16) (by omega)
  have eT : (b : Int) * (R : Int) = (Tt : Int) := by rw [← Int.natCast_mul, hT]
  rw [hT] at hkb
  have eI : (Tt : Int) + (r : Int) = (k : Int) := by omega
  have eW : IntKind.i64.wrap ((b : Int) * (R : Int)) = (Tt : Int) := by rw [eT]; exact IntWalk.i64_in _ (by omega)
  clear hT hkb
  go_enter Try.func122, Try.ntmps122
  go_wp2_with fail
  refine abs_code ?_
  intro W hW
  have szW : w.heap.size + 1 + 1 + 1 ≤ W.heap.size := by rw [hW]; simp [World.setCell]
  have szW_ := bel.size
  replace bel : Below w.heap.size w W := by rw [hW]; exact (((bel).alloc (by first | omega | (simp [World.setCell] <;> omega)) _).alloc (by first | omega | (simp [World.setCell] <;> omega)) _).alloc (by first | omega | (simp [World.setCell] <;> omega)) _
  have gq : Box W w.heap.size 25 #[.int .i64 gg, .int .i64 gb, .int .i64 (R : Int), .int .i64 (C : Int)] := by rw [hW]; exact (((Box.newAt (by simp [World.setCell]))).alloc _).alloc _
  have l : Box W (w.heap.size + 1) 90 #[.int .i64 la, .int .i64 lh] := by rw [hW]; exact ((Box.newAt (by simp [World.setCell]))).alloc _
  have x : Box W (w.heap.size + 1 + 1) 87 #[.slice A n c, .slice (some ⟨g1, o1, none⟩) m d, .slice (some ⟨g2, o2, none⟩) p q] := by rw [hW]; exact (Box.newAt (by simp [World.setCell]))
  clear hW
  obtain ⟨g1', o1', y1', e1, hc1, hy1'⟩ := (hB.below bel).at_ hkm
  obtain ⟨g2', o2', y2', e2, hc2, hy2'⟩ := (hD.below bel).at_ hkp
  injection e1 with e1
  injection e1 with e1a e1b
  subst e1a e1b
  injection e2 with e2
  injection e2 with e2a e2b
  subst e2a e2b
  have ev1 := hy1.out.symm.trans hy1'.out
  injection ev1 with ev1
  subst ev1
  have ev2 := hy2.out.symm.trans hy2'.out
  injection ev2 with ev2
  subst ev2
  clear hy1 hy2 hy1' hy2'
  obtain ⟨gq_0, gq_1, gq_2, gq_3⟩ := gq.c4
  have gq_lt := gq.lt
  obtain ⟨l_0, l_1⟩ := l.c2
  have l_lt := l.lt
  obtain ⟨x_0, x_1, x_2⟩ := x.c3
  have x_lt := x.lt
  by_cases k1 : la < y1
  · have t1 : decide (la < y1) = true := by simpa using k1
    have HR : Hid (goneB la lh ag ht k = true) := by unfold Hid; rw [HG.out, t1]; rfl
    clear k1
    go_wp2_with fail
    go_quiet (fail)
    go_wp2
    go_ret
    exact ⟨ret_bool HR.out.symm, belowN bel _⟩
  · have t1 : decide (la < y1) = false := by simpa using k1
    have HR : Hid (goneB la lh ag ht k = decide (lh < y2)) := by unfold Hid; rw [HG.out, t1]; rfl
    clear k1
    go_wp2_with fail
    go_quiet (fail)
    go_wp2
    go_ret
    exact ⟨ret_bool HR.out.symm, belowN bel _⟩
set_option maxHeartbeats 4000000 in
theorem iAddrIndex_c (gg gb : Int) (nb R C b r k : Nat) (w : World) (h : geoOk gg gb R C = true) (e : bankCnt gg gb R C = (nb : Int)) (h8 : nb ≤ 8) (h16 : R ≤ 16) (hC : C ≤ 8) (hb : b < nb) (hr : r < R) (hk : k < C) :
    Calls Try.prog 125 #[.agg #[.int .i64 gg, .int .i64 gb, .int .i64 (R : Int), .int .i64 (C : Int)], .agg #[.int .i64 (b : Int), .int .i64 (r : Int), .int .i64 (k : Int)]] w fun e w' => e = .returned (.int .i64 (((b * R + r) * C + k : Nat) : Int)) ∧ Below w.heap.size w w' := by
  have bel : Below w.heap.size w w := Below.refl _ _
  have HA : Hid (addrOk gg gb R C b r k = true) := by
    unfold Hid addrOk
    rw [h, e, inB_mk (show (0 : Int) ≤ (b : Int) by omega) (show (b : Int) ≤ (nb : Int) - 1 by omega), inB_mk (show (0 : Int) ≤ (r : Int) by omega) (show (r : Int) ≤ (R : Int) - 1 by omega), inB_mk (show (0 : Int) ≤ (k : Int) by omega) (show (k : Int) ≤ (C : Int) - 1 by omega)]
    rfl
  obtain ⟨Tt, hT⟩ : ∃ x, b * R = x := ⟨_, rfl⟩
  obtain ⟨I, hI⟩ : ∃ x, Tt + r = x := ⟨_, rfl⟩
  obtain ⟨J, hJ⟩ : ∃ x, I * C = x := ⟨_, rfl⟩
  have hT2 : Tt ≤ 128 := by rw [← hT]; exact Nat.le_trans (Nat.mul_le_mul (show b ≤ 8 by omega) h16) (by omega)
  have hJ2 : J ≤ 1200 := by rw [← hJ]; exact Nat.le_trans (Nat.mul_le_mul (show I ≤ 150 by omega) hC) (by omega)
  have eT : (b : Int) * (R : Int) = (Tt : Int) := by rw [← Int.natCast_mul, hT]
  have eI : (Tt : Int) + (r : Int) = (I : Int) := by omega
  have eJ : (I : Int) * (C : Int) = (J : Int) := by rw [← Int.natCast_mul, hJ]
  have eT' : IntKind.i64.wrap ((b : Int) * (R : Int)) = (Tt : Int) := by rw [eT]; exact IntWalk.i64_in _ (by omega)
  have eJ' : IntKind.i64.wrap ((I : Int) * (C : Int)) = (J : Int) := by rw [eJ]; exact IntWalk.i64_in _ (by omega)
  have HE : Hid ((((b * R + r) * C + k : Nat) : Int) = (J : Int) + (k : Int)) := by unfold Hid; rw [hT, hI, hJ]; simp
  clear hT hI hJ
  go_enter Try.func125, Try.ntmps125
  go_wp2_with fail
  refine abs_call ?_
  intro W hW
  have szW : w.heap.size + 1 + 1 ≤ W.heap.size := by rw [hW]; simp [World.setCell]
  have szW_ := bel.size
  replace bel : Below w.heap.size w W := by rw [hW]; exact ((bel).alloc (by first | omega | (simp [World.setCell] <;> omega)) _).alloc (by first | omega | (simp [World.setCell] <;> omega)) _
  have gq : Box W w.heap.size 25 #[.int .i64 gg, .int .i64 gb, .int .i64 (R : Int), .int .i64 (C : Int)] := by rw [hW]; exact ((Box.newAt (by simp [World.setCell]))).alloc _
  have x : Box W (w.heap.size + 1) 38 #[.int .i64 (b : Int), .int .i64 (r : Int), .int .i64 (k : Int)] := by rw [hW]; exact (Box.newAt (by simp [World.setCell]))
  clear hW
  refine (iAddrOk_c gg gb R C b r k _).mono ?_
  rintro e w1 ⟨rfl, b1⟩
  rw [HA.out]
  have szw1 := b1.size
  replace bel := bel.trans (b1.mono bel.size)
  replace gq := gq.kept b1
  replace x := x.kept b1
  clear b1
  obtain ⟨gq_0, gq_1, gq_2, gq_3⟩ := gq.c4
  have gq_lt := gq.lt
  obtain ⟨x_0, x_1, x_2⟩ := x.c3
  have x_lt := x.lt
  go_wp2
  go_ret
  exact ⟨ret_int HE.out.symm, bel⟩
end Go.Proofs.Ytbapamfomfbmmaa
