/-
  Time that passes over an array whose blocks lie apart; the reference's AddrIndex; the counts behind sensing, place by place. Drawn arrays: a small geometry, limits, and a valid array through which some time and some sensing has gone. DrawArray: a drawn geometry, drawn limits and a drawn valid array.
-/
import Derived.Test.YtbapamfomfbmmaaDrC
import Derived.Test.YtbapamfomfbmmaaSenP
import Derived.Test.YtbapamfomfbmmaaArN
import Derived.Deep.RegionHeld3
import Derived.Deep.RegionLaw
import Derived.Deep.DeepCutAuto
namespace Go.Proofs.Ytbapamfomfbmmaa
open Go.RowKit
set_option linter.unusedSimpArgs false
set_option linter.unusedVariables false

theorem hitAdd_at {ht : List Int} {i j : Nat} (hj : j < ht.length) : (hitAdd ht i).getD j 0 = if i = j then min (ht.getD j 0 + 1) 100000 else ht.getD j 0 := by
  unfold hitAdd
  rw [List.getD_eq_getElem?_getD, List.getElem?_set]
  by_cases h : i = j
  · subst h
    rw [if_pos rfl, if_pos hj, if_pos rfl]
    rfl
  · rw [if_neg h, if_neg h, List.getD_eq_getElem?_getD]
theorem set0_at {ht : List Int} {i j : Nat} (hj : j < ht.length) : (ht.set i 0).getD j 0 = if i = j then 0 else ht.getD j 0 := by
  rw [List.getD_eq_getElem?_getD, List.getElem?_set]
  by_cases h : i = j
  · subst h
    rw [if_pos rfl, if_pos hj, if_pos rfl]
    rfl
  · rw [if_neg h, if_neg h, List.getD_eq_getElem?_getD]
/-- The counts behind sensing a row. -/
theorem senH_at {R b r j : Nat} {ht : List Int} (R2 : 2 ≤ R) (R16 : R ≤ 16) (hr : r < R) (hj : j < ht.length) :
    (senH R b r ht).getD j 0 = if b * R + r = j then 0 else if (j + 1 = b * R + r ∧ 0 < r) ∨ (j = b * R + r + 1 ∧ r + 1 < R) then min (ht.getD j 0 + 1) 100000 else ht.getD j 0 := by
  have HN : nears (R : Int) (r : Int) = (if 0 < (r : Int) then [(r : Int) - 1] else []) ++ (if (r : Int) < (R : Int) - 1 then [(r : Int) + 1] else []) := by unfold nears; rw [if_pos ⟨inB_mk (by omega) (by omega), inB_mk (by omega) (by omega)⟩]
  have hj1 : j < (ht.set (b * R + r) 0).length := by simpa using hj
  unfold senH
  rw [HN]
  obtain ⟨T, hT⟩ : ∃ T, b * R = T := ⟨_, rfl⟩
  rw [hT] at hj1 ⊢
  by_cases h0 : 0 < (r : Int)
  · have e0 : T + ((r : Int) - 1).toNat = T + r - 1 := by omega
    by_cases h1 : (r : Int) < (R : Int) - 1
    · have e1 : T + ((r : Int) + 1).toNat = T + r + 1 := by omega
      rw [if_pos h0, if_pos h1, hitsTo_snoc, show hitsTo T [(r : Int) - 1] (ht.set (T + r) 0) = hitAdd (ht.set (T + r) 0) (T + ((r : Int) - 1).toNat) from rfl, e0, e1, hitAdd_at (by rw [hitAdd_len]; exact hj1), hitAdd_at hj1, set0_at hj]
      grind
    · rw [if_pos h0, if_neg h1, List.append_nil, show hitsTo T [(r : Int) - 1] (ht.set (T + r) 0) = hitAdd (ht.set (T + r) 0) (T + ((r : Int) - 1).toNat) from rfl, e0, hitAdd_at hj1, set0_at hj]
      grind
  · by_cases h1 : (r : Int) < (R : Int) - 1
    · have e1 : T + ((r : Int) + 1).toNat = T + r + 1 := by omega
      rw [if_neg h0, if_pos h1, List.nil_append, show hitsTo T [(r : Int) + 1] (ht.set (T + r) 0) = hitAdd (ht.set (T + r) 0) (T + ((r : Int) + 1).toNat) from rfl, e1, hitAdd_at hj1, set0_at hj]
      grind
    · omega
theorem all_getD {f : Int → Bool} {l : List Int} {i : Nat} (h : l.all f = true) (hi : i < l.length) : f (l.getD i 0) = true := by
  rw [List.getD_eq_getElem?_getD, List.getElem?_eq_getElem hi]
  exact all_at h (List.getElem?_eq_getElem hi)
/-- Every count is at most k. -/
def hitLe (k : Int) (ht : List Int) : Prop := ∀ j, j < ht.length → ht.getD j 0 ≤ k
theorem hitLe.mono {k k' : Int} {ht : List Int} (h : hitLe k ht) (hk : k ≤ k') : hitLe k' ht := fun j hj => Int.le_trans (h j hj) hk
theorem senH_le {R b r : Nat} {ht : List Int} {k : Int} (R2 : 2 ≤ R) (R16 : R ≤ 16) (hr : r < R) (k0 : 0 ≤ k) (h : hitLe k ht) : hitLe (k + 1) (senH R b r ht) := by
  intro j hj
  rw [senH_len] at hj
  have := h j hj
  rw [senH_at R2 R16 hr hj]
  split
  · omega
  · split <;> omega
theorem hitLe_zero (M : Nat) : hitLe 0 (List.replicate M 0) := by
  intro j hj
  rw [List.getD_eq_getElem?_getD, List.getElem?_eq_getElem hj]
  simp
set_option maxRecDepth 100000 in
set_option maxHeartbeats 4000000 in
theorem l14TimeB_c (t : Int) (pB lo hi : Nat) (A : Option Addr) (n c : Nat) (B : Option Addr) (m d : Nat) (D : Option Addr) (p q : Nat) (hs : List Cel) (vs : List CV) (ag ht : List Int) (w : World)
    (P : Box w pB 87 #[.slice A n c, .slice B m d, .slice D p q]) (H : OwnX w lo hi A n c hs vs B m d ag D p q ht) (hpB : blk B d ≠ some pB) (hm : m ≤ 1048576) (t0 : 0 ≤ t) (t1 : t ≤ 100000) (hca : ag.all ageF = true) :
    Calls Try.prog 157 #[.pointer (some ⟨pB, 0, none⟩), .int .i64 t] w fun e w' => e = .returned (.tuple #[]) ∧ ∃ ag', OwnX w' lo hi A n c hs vs B m d ag' D p q ht ∧ ag'.all ageF = true ∧ Chg lo hi w w' ∧ Box w' pB 87 #[.slice A n c, .slice B m d, .slice D p q] := by
  go_enter Try.func157, Try.ntmps157
  go_wp2_with fail
  go_loopw [4] (fun i wr => ∃ (j : Nat) (zs : List Int), j ≤ m ∧ i = .int .i64 j ∧ OwnX wr lo hi A n c hs vs B m d zs D p q ht ∧ zs.all ageF = true ∧ Chg lo hi w wr ∧ Box wr pB 87 #[.slice A n c, .slice B m d, .slice D p q]) (fun i _ => m - (intOf i).toNat)
  case atStart => exact ⟨0, ag, Nat.zero_le _, rfl, H, hca, Chg.refl _ _ _, P⟩
  case round =>
    obtain ⟨j, zs, hj, rfl, o, hz, CJ, x⟩ := hrel
    have HZ := Lib.hid hz
    clear hz
    have szj := CJ.size
    obtain ⟨x0, x1, x2⟩ := x.c3
    have xlt := x.lt
    by_cases hlt : j < m
    · obtain ⟨g, y, rfl, hc, hf, hy, g1, g2⟩ := o.2.1.at_ hlt
      have hyb : 0 ≤ y ∧ y ≤ 100000 := inB_t (show ageF y = true from all_at HZ.out hy.out)
      obtain ⟨hy0, hy1⟩ := hyb
      have HS : Hid ((zs.set j (min (y + t) 100000)).all ageF = true) := set_all HZ.out (age_min ⟨hy0, hy1⟩ t0)
      have i0 : (0 : Int) ≤ (j : Int) := by omega
      have i1 : (j : Int) < (m : Int) := by omega
      have eY : IntKind.i64.wrap (y + t) = y + t := IntWalk.i64_in _ (by omega)
      have nePg : pB ≠ g := fun e => hpB (by rw [e]; exact own_blk o.2.1 hlt)
      clear hy
      go_wp2_with fail
      go_region
      go_wp2
      all_goals
        go_roundw
        case rel =>
          refine ⟨j + 1, zs.set j (min (y + t) 100000), by omega, by go_num, ?_, HS.out, ?_, (x.far (by dsimp only; omega) _).drewN 1⟩
          · rw [show (min (y + t) 100000 : Int) = (if 100000 < y + t then 100000 else y + t) by split <;> omega]
            exact (o.storeB hlt _).drewN 1
          · exact (CJ.setCell (.inl ⟨by dsimp only; omega, by dsimp only; omega⟩) _).drewN 1
        case measure => simp [intOf]; omega
    · obtain rfl : m = j := by omega
      go_wp2
      refine bodyPost_end (results_none rfl _ _ _) rfl ?_
      exact ⟨rfl, zs, o, HZ.out, CJ, x⟩
set_option maxHeartbeats 4000000 in
theorem sAddrIndex_c (gg gb : Int) (nb R C b r k : Nat) (w : World) (h : geoOk gg gb R C = true) (e : bankCnt gg gb R C = (nb : Int)) (h8 : nb ≤ 8) (h16 : R ≤ 16) (hC : C ≤ 8) (hb : b < nb) (hr : r < R) (hk : k < C) :
    Calls Try.prog 160 #[.agg #[.int .i64 gg, .int .i64 gb, .int .i64 (R : Int), .int .i64 (C : Int)], .agg #[.int .i64 (b : Int), .int .i64 (r : Int), .int .i64 (k : Int)]] w fun e w' => e = .returned (.int .i64 (((b * R + r) * C + k : Nat) : Int)) ∧ Below w.heap.size w w' := by
  have bel : Below w.heap.size w w := Below.refl _ _
  have HA : Hid (addrOk gg gb R C b r k = true) := by
    unfold Hid addrOk
    rw [h, e, inB_mk (show (0 : Int) ≤ (b : Int) by omega) (show (b : Int) ≤ (nb : Int) - 1 by omega), inB_mk (show (0 : Int) ≤ (r : Int) by omega) (show (r : Int) ≤ (R : Int) - 1 by omega), inB_mk (show (0 : Int) ≤ (k : Int) by omega) (show (k : Int) ≤ (C : Int) - 1 by omega)]
    rfl
  obtain ⟨Tt, hT⟩ : ∃ x, b * R = x := ⟨_, rfl⟩
  obtain ⟨I, hI⟩ : ∃ x, Tt + r = x := ⟨_, rfl⟩
  obtain ⟨J, hJ⟩ : ∃ x, I * C = x := ⟨_, rfl⟩
  have hT2 : Tt ≤ 128 := by rw [← hT]; exact Nat.le_trans (Nat.mul_le_mul (show b ≤ 8 by omega) h16) (by omega)
  have hJ2 : J ≤ 1200 := by rw [← hJ]; exact Nat.le_trans (Nat.mul_le_mul (show I ≤ 150 by omega) hC) (by omega)
  have eT : (b : Int) * (R : Int) = (Tt : Int) := by rw [← Int.natCast_mul, hT]
  have eI : (Tt : Int) + (r : Int) = (I : Int) := by omega
  have eJ : (I : Int) * (C : Int) = (J : Int) := by rw [← Int.natCast_mul, hJ]
  have eT' : IntKind.i64.wrap ((b : Int) * (R : Int)) = (Tt : Int) := by rw [eT]; exact IntWalk.i64_in _ (by omega)
  have eJ' : IntKind.i64.wrap ((I : Int) * (C : Int)) = (J : Int) := by rw [eJ]; exact IntWalk.i64_in _ (by omega)
  have HE : Hid ((((b * R + r) * C + k : Nat) : Int) = (J : Int) + (k : Int)) := by unfold Hid; rw [hT, hI, hJ]; simp
  clear hT hI hJ
  go_enter Try.func160, Try.ntmps160
  go_wp2_with fail
  refine abs_call ?_
  intro W hW
  have szW : w.heap.size + 1 + 1 ≤ W.heap.size := by rw [hW]; simp [World.setCell]
  have szW_ := bel.size
  replace bel : Below w.heap.size w W := by rw [hW]; exact ((bel).alloc (by first | omega | (simp [World.setCell] <;> omega)) _).alloc (by first | omega | (simp [World.setCell] <;> omega)) _
  have gq : Box W w.heap.size 25 #[.int .i64 gg, .int .i64 gb, .int .i64 (R : Int), .int .i64 (C : Int)] := by rw [hW]; exact ((Box.newAt (by simp [World.setCell]))).alloc _
  have x : Box W (w.heap.size + 1) 38 #[.int .i64 (b : Int), .int .i64 (r : Int), .int .i64 (k : Int)] := by rw [hW]; exact (Box.newAt (by simp [World.setCell]))
  clear hW
  refine (sAddrOk_c gg gb R C b r k _).mono ?_
  rintro e w1 ⟨rfl, b1⟩
  rw [HA.out]
  have szw1 := b1.size
  replace bel := bel.trans (b1.mono bel.size)
  replace gq := gq.kept b1
  replace x := x.kept b1
  clear b1
  obtain ⟨gq_0, gq_1, gq_2, gq_3⟩ := gq.c4
  have gq_lt := gq.lt
  obtain ⟨x_0, x_1, x_2⟩ := x.c3
  have x_lt := x.lt
  go_wp2
  go_ret
  exact ⟨ret_int HE.out.symm, bel⟩
end Go.Proofs.Ytbapamfomfbmmaa
namespace Go.Proofs.Ytbapamfomfbmmaa
open Go.RowKit
set_option linter.unusedSimpArgs false
set_option linter.unusedVariables false

theorem all_setG {α : Type} {f : α → Bool} {l : List α} {i : Nat} {x : α} (h : l.all f = true) (hx : f x = true) : (l.set i x).all f = true := by
  rw [List.all_eq_true] at h ⊢
  intro y hy
  rcases List.mem_or_eq_of_mem_set hy with hy | hy
  · exact h y hy
  · subst hy; exact hx
theorem bendL_ok {zs : List Int} (h : symOkN zs 11 = true) : symOkN (bendL zs) 11 = true := by
  unfold symOkN at h ⊢
  simp only [Bool.and_eq_true, beq_iff_eq] at h ⊢
  refine ⟨?_, by rw [bendL_len]; exact h.2⟩
  have hx : ∀ i, symF (zs.getD i 0) = true := fun i => by
    by_cases hi : i < zs.length
    · exact all_getD h.1 hi
    · rw [List.getD_eq_getElem?_getD, List.getElem?_eq_none (by omega)]
      rfl
  unfold bendL
  exact set_all (set_all h.1 (xor_ok (hx 0) rfl)) (xor_ok (hx 1) rfl)
theorem bendAt_ok {vs : List CV} {i : Nat} (h : vs.all celF = true) : (bendAt vs i).all celF = true := by
  unfold bendAt
  by_cases hi : i < vs.length
  · refine all_setG h ?_
    have e : vs.getD i ([], false) = vs[i] := by rw [List.getD_eq_getElem?_getD, List.getElem?_eq_getElem hi]; rfl
    rw [e]
    exact bendL_ok (show celF vs[i] = true from by rw [List.all_eq_true] at h; exact h _ (List.getElem_mem hi))
  · rw [List.set_eq_of_length_le (by omega)]
    exact h
theorem bendTo_ok {vs : List CV} {base k : Nat} (h : vs.all celF = true) : (bendTo vs base k).all celF = true := by
  induction k with
  | zero => exact h
  | succ k ih => unfold bendTo; exact bendAt_ok ih
theorem senV_ok {la lh : Int} {R C b r : Nat} {vs : List CV} {ag ht : List Int} (h : vs.all celF = true) : (senV la lh R C b r vs ag ht).all celF = true := by
  unfold senV
  split
  · exact bendTo_ok h
  · exact h
theorem zeroC_ok (L : Nat) : (zeroC L).all celF = true := by
  unfold zeroC
  rw [List.all_eq_true]
  intro v hv
  rw [List.eq_of_mem_replicate hv]
  decide +kernel
theorem zeros_ok (M : Nat) : (List.replicate M (0 : Int)).all ageF = true := by
  rw [List.all_eq_true]
  intro v hv
  rw [List.eq_of_mem_replicate hv]
  rfl
/-- A drawn geometry, drawn limits and a drawn array. -/
def DrawnCase (lo g : Nat) (w : World) (e : Ending) (w' : World) : Prop :=
  ∃ (nb R C : Nat) (la lh : Int) (A : Option Addr) (n c : Nat) (B : Option Addr) (m d : Nat) (D : Option Addr) (p q : Nat) (hs : List Cel) (vs : List CV) (ag ht : List Int) (l : Nat),
    ((1 ≤ nb ∧ nb ≤ 2) ∧ (2 ≤ R ∧ R ≤ 4) ∧ (1 ≤ C ∧ C ≤ 2) ∧ (0 ≤ la ∧ la ≤ 100) ∧ (0 ≤ lh ∧ lh ≤ 20)) ∧ geoOk 1 nb R C = true ∧ bankCnt 1 nb R C = (nb : Int) ∧ n = nb * R * C ∧ m = nb * R ∧ p = nb * R ∧ arrOk 1 nb R C vs ag ht = true ∧ hitLe 20 ht ∧ OwnX w' l w'.heap.size A n c hs vs B m d ag D p q ht ∧ w.heap.size ≤ l ∧
    e = .returned (.tuple #[.agg #[.int .i64 1, .int .i64 (nb : Int), .int .i64 (R : Int), .int .i64 (C : Int)], .agg #[.int .i64 la, .int .i64 lh], .agg #[.slice A n c, .slice B m d, .slice D p q]]) ∧ Cur lo w' g ∧ Chg g (g + 1) w w'
set_option maxRecDepth 100000 in
set_option maxHeartbeats 16000000 in
theorem l14Case_c (lo g : Nat) (w : World) (k : Cur lo w g) :
    Calls Try.prog 118 #[.pointer (some ⟨g, 0, none⟩)] w (DrawnCase lo g w) := by
  have klt := k.lt
  have CC := Chg.refl g (g + 1) w
  go_enter Try.func118, Try.ntmps118
  go_wp2_with fail
  refine abs_call ?_
  intro W hW
  have szW : w.heap.size + 1 + 1 + 1 ≤ W.heap.size := by rw [hW]; simp [World.setCell]
  have szWc := CC.size
  replace k : Cur lo W g := by rw [hW]; exact (Cur.below ((Cur.below ((Cur.below (k) ((Below.refl _ _).alloc (Nat.le_refl _) _))) ((Below.refl _ _).alloc (Nat.le_refl _) _))) ((Below.refl _ _).alloc (Nat.le_refl _) _))
  replace CC : Chg g (g + 1) w W := by rw [hW]; exact ((((((CC).trans (Chg.of_below ((Below.refl _ _).alloc (Nat.le_refl _) _)))).trans (Chg.of_below ((Below.refl _ _).alloc (Nat.le_refl _) _)))).trans (Chg.of_below ((Below.refl _ _).alloc (Nat.le_refl _) _)))
  have r : Box W w.heap.size 25 #[.int .i64 0, .int .i64 0, .int .i64 0, .int .i64 0] := by rw [hW]; exact (((Box.newAt (by simp [World.setCell]))).alloc _).alloc _
  have u : Box W (w.heap.size + 1) 90 #[.int .i64 0, .int .i64 0] := by rw [hW]; exact ((Box.newAt (by simp [World.setCell]))).alloc _
  have z : Box W (w.heap.size + 1 + 1) 87 #[.slice none 0 0, .slice none 0 0, .slice none 0 0] := by rw [hW]; exact (Box.newAt (by simp [World.setCell]))
  clear hW
  refine (l14Small_c lo g _ k).mono ?_
  rintro e w1 ⟨gg, gb, gr, gc, hS, rfl, k1, C1⟩
  have szw1 := C1.size
  clear k
  have k := k1
  replace CC := CC.trans C1
  clear k1
  replace r := r.chg C1 (by omega)
  replace u := u.chg C1 (by omega)
  replace z := z.chg C1 (by omega)
  clear C1
  have hgeo := hS.geo.ok
  obtain ⟨rfl, ⟨hb1, hb2⟩, ⟨hr1, hr2⟩, ⟨hc1, hc2⟩⟩ := hS
  obtain ⟨nb, rfl⟩ := Int.eq_ofNat_of_zero_le (show 0 ≤ gb by omega)
  obtain ⟨R, rfl⟩ := Int.eq_ofNat_of_zero_le (show 0 ≤ gr by omega)
  obtain ⟨C, rfl⟩ := Int.eq_ofNat_of_zero_le (show 0 ≤ gc by omega)
  have hnb : bankCnt 1 nb R C = (nb : Int) := by rw [bankCnt_yes hgeo]; omega
  have HG := Lib.hid hgeo
  have HB := Lib.hid hnb
  have n1 : 1 ≤ nb := by omega
  have n2 : nb ≤ 2 := by omega
  have R2 : 2 ≤ R := by omega
  have R4 : R ≤ 4 := by omega
  have C1 : 1 ≤ C := by omega
  have C2 : C ≤ 2 := by omega
  clear hgeo hnb hb1 hb2 hr1 hr2 hc1 hc2
  go_wp2_with fail
  refine abs_call ?_
  intro W2 hW
  have szW2 : w1.heap.size + 1 ≤ W2.heap.size := by rw [hW]; simp [World.setCell]
  have szW2c := CC.size
  replace k : Cur lo W2 g := by rw [hW]; exact (Cur.below (k) ((Below.refl _ _).alloc (Nat.le_refl _) _))
  replace CC : Chg g (g + 1) w W2 := by rw [hW]; exact ((CC).trans (Chg.of_below ((Below.refl _ _).alloc (Nat.le_refl _) _)))
  replace r : Box W2 w.heap.size 25 #[.int .i64 0, .int .i64 0, .int .i64 0, .int .i64 0] := by rw [hW]; exact r.alloc _
  replace u : Box W2 (w.heap.size + 1) 90 #[.int .i64 0, .int .i64 0] := by rw [hW]; exact u.alloc _
  replace z : Box W2 (w.heap.size + 1 + 1) 87 #[.slice none 0 0, .slice none 0 0, .slice none 0 0] := by rw [hW]; exact z.alloc _
  have q : Box W2 w1.heap.size 25 #[.int .i64 1, .int .i64 (nb : Int), .int .i64 (R : Int), .int .i64 (C : Int)] := by rw [hW]; exact (Box.newAt (by simp [World.setCell]))
  clear hW
  refine (l14Limits_c lo g _ k).mono ?_
  rintro e w2 ⟨la, lh, ⟨la0, la1⟩, ⟨lh0, lh1⟩, rfl, k2, C3⟩
  have szw2 := C3.size
  clear k
  have k := k2
  replace CC := CC.trans C3
  clear k2
  replace r := r.chg C3 (by omega)
  replace u := u.chg C3 (by omega)
  replace z := z.chg C3 (by omega)
  replace q := q.chg C3 (by omega)
  clear C3
  obtain ⟨q_0, q_1, q_2, q_3⟩ := q.c4
  have q_lt := q.lt
  go_wp2_with fail
  refine abs_call ?_
  intro W3 hW
  clear q_0 q_1 q_2 q_3 q_lt
  have szW3 : w2.heap.size + 1 ≤ W3.heap.size := by rw [hW]; simp [World.setCell]
  have szW3c := CC.size
  replace k : Cur lo W3 g := by rw [hW]; exact (Cur.below (k) ((Below.refl _ _).alloc (Nat.le_refl _) _))
  replace CC : Chg g (g + 1) w W3 := by rw [hW]; exact ((CC).trans (Chg.of_below ((Below.refl _ _).alloc (Nat.le_refl _) _)))
  replace r : Box W3 w.heap.size 25 #[.int .i64 0, .int .i64 0, .int .i64 0, .int .i64 0] := by rw [hW]; exact r.alloc _
  replace u : Box W3 (w.heap.size + 1) 90 #[.int .i64 0, .int .i64 0] := by rw [hW]; exact u.alloc _
  replace z : Box W3 (w.heap.size + 1 + 1) 87 #[.slice none 0 0, .slice none 0 0, .slice none 0 0] := by rw [hW]; exact z.alloc _
  replace q : Box W3 w1.heap.size 25 #[.int .i64 1, .int .i64 (nb : Int), .int .i64 (R : Int), .int .i64 (C : Int)] := by rw [hW]; exact q.alloc _
  have l : Box W3 w2.heap.size 90 #[.int .i64 la, .int .i64 lh] := by rw [hW]; exact (Box.newAt (by simp [World.setCell]))
  clear hW
  refine (arrayNew_c 1 nb nb R C _ HG.out HB.out (by omega) (by omega) (by omega)).mono ?_
  rintro e w3 ⟨A, n, c, B, m, d, D, p, q2, rfl, o3, b3⟩
  have szw3 := b3.size
  replace k := k.below b3
  replace CC := CC.trans (Chg.of_below b3)
  replace r := r.kept b3
  replace u := u.kept b3
  replace z := z.kept b3
  replace q := q.kept b3
  replace l := l.kept b3
  clear b3
  have HN := Lib.hid (show n = nb * R * C by have := o3.cs.len; unfold zeroC at this; rw [List.length_replicate] at this; omega)
  have HM := Lib.hid (show m = nb * R by have := o3.ia.1; rw [List.length_replicate] at this; omega)
  have HP := Lib.hid (show p = nb * R by have := o3.ih.1; rw [List.length_replicate] at this; omega)
  have n0 : 0 < n := by rw [HN.out]; exact Nat.mul_pos (Nat.mul_pos (by omega) (by omega)) (by omega)
  have mB : m ≤ 8 := by rw [HM.out]; exact Nat.le_trans (Nat.mul_le_mul n2 R4) (by omega)
  obtain ⟨hs, X⟩ := o3.toX
  clear o3
  obtain ⟨gA, eA, hbA, gA1, gA2, gA3⟩ := X.1.blkOut n0
  subst eA
  have hpB : blk B d ≠ some w3.heap.size := fun e => absurd (X.2.1.2 _ e) (by omega)
  have hpD : blk D q2 ≠ some w3.heap.size := fun e => absurd (X.2.2.1.2 _ e) (by omega)
  have hpR : ∀ (i : Nat) (h : Cel), hs[i]? = some h → blk h.sa h.sc ≠ some w3.heap.size := fun i h a e => by
    obtain ⟨v, hv⟩ := X.1.val a
    exact absurd ((X.1.row i h v a hv).2.2 _ e) (by omega)
  have hYA : w3.heap.size ≠ gA := by omega
  obtain ⟨q_0, q_1, q_2, q_3⟩ := q.c4
  have q_lt := q.lt
  obtain ⟨l_0, l_1⟩ := l.c2
  have l_lt := l.lt
  go_wp2_with fail
  refine abs_code ?_
  intro W4 hW
  clear q_0 q_1 q_2 q_3 q_lt l_0 l_1 l_lt
  have szW4 : w3.heap.size + 1 ≤ W4.heap.size := by rw [hW]; simp [World.setCell]
  have szW4c := CC.size
  replace k : Cur lo W4 g := by rw [hW]; exact (Cur.below (k) ((Below.refl _ _).alloc (Nat.le_refl _) _))
  replace CC : Chg g (g + 1) w W4 := by rw [hW]; exact ((CC).trans (Chg.of_below ((Below.refl _ _).alloc (Nat.le_refl _) _)))
  replace r : Box W4 w.heap.size 25 #[.int .i64 0, .int .i64 0, .int .i64 0, .int .i64 0] := by rw [hW]; exact r.alloc _
  replace u : Box W4 (w.heap.size + 1) 90 #[.int .i64 0, .int .i64 0] := by rw [hW]; exact u.alloc _
  replace z : Box W4 (w.heap.size + 1 + 1) 87 #[.slice none 0 0, .slice none 0 0, .slice none 0 0] := by rw [hW]; exact z.alloc _
  replace q : Box W4 w1.heap.size 25 #[.int .i64 1, .int .i64 (nb : Int), .int .i64 (R : Int), .int .i64 (C : Int)] := by rw [hW]; exact q.alloc _
  replace l : Box W4 w2.heap.size 90 #[.int .i64 la, .int .i64 lh] := by rw [hW]; exact l.alloc _
  have y : Box W4 w3.heap.size 87 #[.slice (some ⟨gA, 0, none⟩) n c, .slice B m d, .slice D p q2] := by rw [hW]; exact (Box.newAt (by simp [World.setCell]))
  replace X : OwnX W4 W3.heap.size w3.heap.size (some ⟨gA, 0, none⟩) n c hs (zeroC (nb * R * C)) B m d (List.replicate (nb * R) 0) D p q2 (List.replicate (nb * R) 0) := by rw [hW]; exact X.alloc _
  clear hW
  have gL : g + 1 ≤ W3.heap.size := by omega
  have wL : w.heap.size + 3 ≤ W3.heap.size := by omega
  have qL : w1.heap.size < W3.heap.size := by omega
  have lL : w2.heap.size < W3.heap.size := by omega
  have LY : W3.heap.size ≤ w3.heap.size := by omega
  have gQ : g + 1 ≤ w1.heap.size := by omega
  have gL0 : g + 1 ≤ w2.heap.size := by omega
  have YW : w3.heap.size + 1 ≤ W4.heap.size := by omega
  have gW : g < w.heap.size := klt.2
  clear klt
  go_loopw [8] (fun i wr => ∃ (j : Nat) (hs : List Cel) (vs : List CV) (ag ht : List Int), j ≤ 20 ∧ i = .int .i64 j ∧ OwnX wr W3.heap.size wr.heap.size (some ⟨gA, 0, none⟩) n c hs vs B m d ag D p q2 ht ∧ Box wr w.heap.size 25 #[.int .i64 0, .int .i64 0, .int .i64 0, .int .i64 0] ∧ Box wr (w.heap.size + 1) 90 #[.int .i64 0, .int .i64 0] ∧ Box wr (w.heap.size + 1 + 1) 87 #[.slice none 0 0, .slice none 0 0, .slice none 0 0] ∧ Box wr w1.heap.size 25 #[.int .i64 1, .int .i64 (nb : Int), .int .i64 (R : Int), .int .i64 (C : Int)] ∧ Box wr w2.heap.size 90 #[.int .i64 la, .int .i64 lh] ∧ Box wr w3.heap.size 87 #[.slice (some ⟨gA, 0, none⟩) n c, .slice B m d, .slice D p q2] ∧ Cur lo wr g ∧ Chg g (g + 1) w wr ∧ vs.all celF = true ∧ ag.all ageF = true ∧ ht.all ageF = true ∧ hitLe j ht ∧ (∀ (i : Nat) (h : Cel), hs[i]? = some h → blk h.sa h.sc ≠ some w3.heap.size) ∧ w3.heap.size + 1 ≤ wr.heap.size) (fun i _ => 20 - (intOf i).toNat)
  case atStart => exact ⟨0, hs, _, _, _, by omega, rfl, X.mono (Nat.le_refl _) (by omega), r, u, z, q, l, y, k, CC, zeroC_ok _, zeros_ok _, zeros_ok _, hitLe_zero _, hpR, YW⟩
  case round =>
    clear X r u z q l y k CC hpR
    obtain ⟨j, hs, vs, ag, ht, hj, rfl, X, r, u, z, q, l, y, k, CC, hcv, hca, hch, hle, hpR, szr⟩ := hrel
    have klt := k.lt
    have HV := Lib.hid hcv
    have HA := Lib.hid hca
    have HT := Lib.hid hch
    clear hcv hca hch
    go_wp2_with fail
    refine (l01Below_c lo g 20 _ k (by omega) (by omega)).mono ?_
    rintro e w5 ⟨x, x0, x1, -, rfl, k5, C5⟩
    have x2 := x1 (by omega)
    clear x1
    have szw5 := C5.size
    clear k
    have k := k5
    replace CC := CC.trans C5
    clear k5
    replace r := r.chg C5 (by omega)
    replace u := u.chg C5 (by omega)
    replace z := z.chg C5 (by omega)
    replace q := q.chg C5 (by omega)
    replace l := l.chg C5 (by omega)
    replace y := y.chg C5 (by omega)
    replace X := X.chg C5 (by omega)
    clear C5
    by_cases hlt : (j : Int) < x
    · skip
      obtain ⟨q_0, q_1, q_2, q_3⟩ := q.c4
      have q_lt := q.lt
      go_wp2_with fail
      refine (l03Addr_c lo g 1 nb nb R C _ k HB.out (by omega) (by omega) (by omega) (by omega) (by omega) (by omega)).mono ?_
      rintro e w6 ⟨ab, ar, ac, hab, har, hac, rfl, k6, C6⟩
      clear q_0 q_1 q_2 q_3 q_lt
      have szw6 := C6.size
      clear k
      have k := k6
      replace CC := CC.trans C6
      clear k6
      replace r := r.chg C6 (by omega)
      replace u := u.chg C6 (by omega)
      replace z := z.chg C6 (by omega)
      replace q := q.chg C6 (by omega)
      replace l := l.chg C6 (by omega)
      replace y := y.chg C6 (by omega)
      replace X := X.chg C6 (by omega)
      clear C6
      go_wp2_with fail
      refine abs_call ?_
      intro W7 hW
      have szW7 : w6.heap.size + 1 ≤ W7.heap.size := by rw [hW]; simp [World.setCell]
      have szW7c := CC.size
      replace k : Cur lo W7 g := by rw [hW]; exact (Cur.below (k) ((Below.refl _ _).alloc (Nat.le_refl _) _))
      replace CC : Chg g (g + 1) w W7 := by rw [hW]; exact ((CC).trans (Chg.of_below ((Below.refl _ _).alloc (Nat.le_refl _) _)))
      replace r : Box W7 w.heap.size 25 #[.int .i64 0, .int .i64 0, .int .i64 0, .int .i64 0] := by rw [hW]; exact r.alloc _
      replace u : Box W7 (w.heap.size + 1) 90 #[.int .i64 0, .int .i64 0] := by rw [hW]; exact u.alloc _
      replace z : Box W7 (w.heap.size + 1 + 1) 87 #[.slice none 0 0, .slice none 0 0, .slice none 0 0] := by rw [hW]; exact z.alloc _
      replace q : Box W7 w1.heap.size 25 #[.int .i64 1, .int .i64 (nb : Int), .int .i64 (R : Int), .int .i64 (C : Int)] := by rw [hW]; exact q.alloc _
      replace l : Box W7 w2.heap.size 90 #[.int .i64 la, .int .i64 lh] := by rw [hW]; exact l.alloc _
      replace y : Box W7 w3.heap.size 87 #[.slice (some ⟨gA, 0, none⟩) n c, .slice B m d, .slice D p q2] := by rw [hW]; exact y.alloc _
      have at_ : Box W7 w6.heap.size 38 #[.int .i64 (ab : Int), .int .i64 (ar : Int), .int .i64 (ac : Int)] := by rw [hW]; exact (Box.newAt (by simp [World.setCell]))
      replace X : OwnX W7 W3.heap.size wr.heap.size (some ⟨gA, 0, none⟩) n c hs vs B m d ag D p q2 ht := by rw [hW]; exact X.alloc _
      clear hW
      refine (l01Below_c lo g 4 _ k (by omega) (by omega)).mono ?_
      rintro e w8 ⟨v, v0, v1, -, rfl, k8, C8⟩
      have v2 := v1 (by omega)
      clear v1
      have szw8 := C8.size
      clear k
      have k := k8
      replace CC := CC.trans C8
      clear k8
      replace r := r.chg C8 (by omega)
      replace u := u.chg C8 (by omega)
      replace z := z.chg C8 (by omega)
      replace q := q.chg C8 (by omega)
      replace l := l.chg C8 (by omega)
      replace y := y.chg C8 (by omega)
      replace at_ := at_.chg C8 (by omega)
      replace X := X.chg C8 (by omega)
      clear C8
      by_cases hv0 : v = 0
      · subst hv0
        go_wp2_with fail
        refine (l01Below_c lo g 30 _ k (by omega) (by omega)).mono ?_
        rintro e w9 ⟨t, t0, t1, -, rfl, k9, C9⟩
        have t2 := t1 (by omega)
        clear t1
        have szw9 := C9.size
        clear k
        have k := k9
        replace CC := CC.trans C9
        clear k9
        replace r := r.chg C9 (by omega)
        replace u := u.chg C9 (by omega)
        replace z := z.chg C9 (by omega)
        replace q := q.chg C9 (by omega)
        replace l := l.chg C9 (by omega)
        replace y := y.chg C9 (by omega)
        replace at_ := at_.chg C9 (by omega)
        replace X := X.chg C9 (by omega)
        clear C9
        go_wp2_with fail
        refine (l14TimeB_c t w3.heap.size W3.heap.size wr.heap.size (some ⟨gA, 0, none⟩) n c B m d D p q2 hs vs ag ht _ y X hpB (by omega) t0 (by omega) HA.out).mono ?_
        rintro e w10 ⟨rfl, ag2, X2, hag2, CX, y2⟩
        clear X y at_
        have kX := k.chg CX (by omega) (by omega)
        have CCX := CC.freshA CX (by omega)
        have szX := CX.size
        replace r := r.chg CX (by omega)
        replace u := u.chg CX (by omega)
        replace z := z.chg CX (by omega)
        replace q := q.chg CX (by omega)
        replace l := l.chg CX (by omega)
        go_wp2
        go_roundw
        case rel => exact ⟨j + 1, hs, vs, ag2, ht, by omega, by go_num, X2.mono (Nat.le_refl _) (by omega), r, u, z, q, l, y2, kX, CCX, HV.out, hag2, HT.out, hle.mono (by omega), hpR, by omega⟩
        case measure => simp [intOf]; omega
      · skip
        have t0 : (v == 0) = false := by simpa using hv0
        by_cases hv1 : v = 1
        · subst hv1
          obtain ⟨q_0, q_1, q_2, q_3⟩ := q.c4
          have q_lt := q.lt
          obtain ⟨at__0, at__1, at__2⟩ := at_.c3
          have at__lt := at_.lt
          obtain ⟨y_0, y_1, y_2⟩ := y.c3
          have y_lt := y.lt
          have hJ0 : (ab * R + ar) * C + ac < n := by rw [HN.out]; exact row_lt (row_lt hab har) hac
          obtain ⟨J, hJe⟩ : ∃ J, (ab * R + ar) * C + ac = J := ⟨_, rfl⟩
          have hJ : J < n := by omega
          have cA : ∀ Y, Calls Try.prog 160 #[.agg #[.int .i64 1, .int .i64 (nb : Int), .int .i64 (R : Int), .int .i64 (C : Int)], .agg #[.int .i64 (ab : Int), .int .i64 (ar : Int), .int .i64 (ac : Int)]] Y fun e w' => e = .returned (.int .i64 (J : Int)) ∧ Below Y.heap.size Y w' := fun Y => by
            have h := sAddrIndex_c 1 nb nb R C ab ar ac Y HG.out HB.out (by omega) (by omega) (by omega) hab har hac
            rw [hJe] at h
            exact h
          clear hJe hJ0
          have cB : ∀ Y, Cur lo Y g → Calls Try.prog 158 #[.pointer (some ⟨g, 0, none⟩)] Y (DrawnSyms lo g 11 Y) := fun Y hY => l12Bent_c lo g Y hY
          have cO : ∀ Y, Cur lo Y g → Calls Try.prog 159 #[.pointer (some ⟨g, 0, none⟩), .int .i64 5] Y (DrawnBool lo g Y) := fun Y hY => l01Once_c lo g 5 Y hY (by omega) (by omega)
          have i0 : (0 : Int) ≤ (J : Int) := by omega
          have i1 : (J : Int) < (n : Int) := by omega
          have hS : ∀ Y : World, Chg g (g + 1) w8 Y → (Y.cell? ⟨w3.heap.size, 0, none⟩ = some (.slice (some ⟨gA, 0, none⟩) n c) ∧ Y.cell? ⟨w1.heap.size, 0, none⟩ = some (.int .i64 1) ∧ Y.cell? ⟨w1.heap.size, 1, none⟩ = some (.int .i64 (nb : Int)) ∧ Y.cell? ⟨w1.heap.size, 2, none⟩ = some (.int .i64 (R : Int)) ∧ Y.cell? ⟨w1.heap.size, 3, none⟩ = some (.int .i64 (C : Int)) ∧ Y.cell? ⟨w6.heap.size, 0, none⟩ = some (.int .i64 (ab : Int)) ∧ Y.cell? ⟨w6.heap.size, 1, none⟩ = some (.int .i64 (ar : Int)) ∧ Y.cell? ⟨w6.heap.size, 2, none⟩ = some (.int .i64 (ac : Int))) := fun Y hY => by
            obtain ⟨a0, -, -⟩ := (y.chg hY (by omega)).c3
            obtain ⟨b0, b1, b2, b3⟩ := (q.chg hY (by omega)).c4
            obtain ⟨d0, d1, d2⟩ := (at_.chg hY (by omega)).c3
            exact ⟨a0, b0, b1, b2, b3, d0, d1, d2⟩
          have hS2 : ∀ (Y Z : World) (v1 v2 : Value), Chg g (g + 1) w8 Y → Z = (Y.setCell ⟨gA, J * 2, none⟩ v1).setCell ⟨gA, J * 2 + 1, none⟩ v2 → (Z.cell? ⟨w3.heap.size, 0, none⟩ = some (.slice (some ⟨gA, 0, none⟩) n c) ∧ Z.cell? ⟨w1.heap.size, 0, none⟩ = some (.int .i64 1) ∧ Z.cell? ⟨w1.heap.size, 1, none⟩ = some (.int .i64 (nb : Int)) ∧ Z.cell? ⟨w1.heap.size, 2, none⟩ = some (.int .i64 (R : Int)) ∧ Z.cell? ⟨w1.heap.size, 3, none⟩ = some (.int .i64 (C : Int)) ∧ Z.cell? ⟨w6.heap.size, 0, none⟩ = some (.int .i64 (ab : Int)) ∧ Z.cell? ⟨w6.heap.size, 1, none⟩ = some (.int .i64 (ar : Int)) ∧ Z.cell? ⟨w6.heap.size, 2, none⟩ = some (.int .i64 (ac : Int))) := fun Y Z v1 v2 hY hZ => by
            obtain ⟨a0, -, -⟩ := (((y.chg hY (by omega)).far (p := ⟨gA, J * 2, none⟩) (by dsimp only; omega) v1).far (p := ⟨gA, J * 2 + 1, none⟩) (by dsimp only; omega) v2).c3
            obtain ⟨b0, b1, b2, b3⟩ := (((q.chg hY (by omega)).far (p := ⟨gA, J * 2, none⟩) (by dsimp only; omega) v1).far (p := ⟨gA, J * 2 + 1, none⟩) (by dsimp only; omega) v2).c4
            obtain ⟨d0, d1, d2⟩ := (((at_.chg hY (by omega)).far (p := ⟨gA, J * 2, none⟩) (by dsimp only; omega) v1).far (p := ⟨gA, J * 2 + 1, none⟩) (by dsimp only; omega) v2).c3
            rw [hZ]
            exact ⟨a0, b0, b1, b2, b3, d0, d1, d2⟩
          clear q_0 q_1 q_2 q_3 q_lt at__0 at__1 at__2 at__lt y_0 y_1 y_2 y_lt
          go_wp2_with fail
          go_region_held3 (fun Y => (Y.cell? ⟨w3.heap.size, 0, none⟩ = some (.slice (some ⟨gA, 0, none⟩) n c) ∧ Y.cell? ⟨w1.heap.size, 0, none⟩ = some (.int .i64 1) ∧ Y.cell? ⟨w1.heap.size, 1, none⟩ = some (.int .i64 (nb : Int)) ∧ Y.cell? ⟨w1.heap.size, 2, none⟩ = some (.int .i64 (R : Int)) ∧ Y.cell? ⟨w1.heap.size, 3, none⟩ = some (.int .i64 (C : Int)) ∧ Y.cell? ⟨w6.heap.size, 0, none⟩ = some (.int .i64 (ab : Int)) ∧ Y.cell? ⟨w6.heap.size, 1, none⟩ = some (.int .i64 (ar : Int)) ∧ Y.cell? ⟨w6.heap.size, 2, none⟩ = some (.int .i64 (ac : Int))))
            (first | (with_reducible exact hS _ (Chg.refl _ _ _)) | (with_reducible exact hS _ ((Chg.refl _ _ _).drewN 1)) | (with_reducible exact hS _ CA) | (with_reducible exact hS _ CB) | (with_reducible exact hS _ CD) | (with_reducible exact hS2 _ _ _ _ CD rfl) | fail)
            (first
             | (go_at_call 160; (with_reducible refine (cA _).mono ?_); rintro e wA ⟨rfl, bA⟩; have bA' : Below w8.heap.size w8 wA := (by first | with_reducible exact bA | with_reducible exact belA_of_d bA); have CA : Chg g (g + 1) w8 wA := Chg.of_below bA'; have kA := k.below bA'; have XA := X.below bA'; have szA := bA'.size; clear bA bA')
             | (go_at_call 158; (with_reducible refine (cB _ kA).mono ?_); rintro e wB ⟨sa, sc, ys, rfl, oB, hys, kB, C1'⟩; have CB : Chg g (g + 1) w8 wB := CA.trans C1'; have szB := C1'.size; have XB := XA.chg C1' (by omega))
             | (go_at_call 159; (with_reducible refine (cO _ kB).mono ?_); rintro e wD ⟨pz, rfl, kD, C2'⟩; have CD : Chg g (g + 1) w8 wD := CB.trans C2'; have szD := C2'.size; have XD := XB.chg C2' (by omega); have oD := oB.chg C2' (by omega); obtain ⟨gX, s1, s2, s3, s4, s5, eX, -, -, hf, c0, c1, -, -, -⟩ := XD.1.at_ hJ; injection eX with eX; injection eX with eX _; subst eX; have f0 := hf (J * 2); have f1 := hf (J * 2 + 1))
             | fail)
          all_goals
            obtain ⟨X3, CE⟩ := XD.setNew (w0 := wD) rfl hJ (l := wA.heap.size) (hi2 := wB.heap.size) (by omega) (by omega) ⟨sa, 11, sc, pz⟩ (ys, pz) rfl oD (by omega)
            dsimp only at X3 CE
            have szT := Nat.le_trans szD CE.size
            have szU : w3.heap.size + 1 ≤ wB.heap.size := by omega
            have hv3 : (vs.set J (ys, pz)).all celF = true := all_setG HV.out (by unfold celF symOkN; rw [hys, oD.len]; rfl)
            have hpR3 : ∀ (i : Nat) (h : Cel), (hs.set J ⟨sa, 11, sc, pz⟩)[i]? = some h → blk h.sa h.sc ≠ some w3.heap.size := fun i h a => by
              rcases set_cases a with ⟨-, rfl, -⟩ | ⟨-, a⟩
              · intro e
                have := (oD.1.lt _ e).1
                omega
              · exact hpR i h a
            have kE := kD.chg CE (by omega) (by omega)
            have CCE := (CC.trans CD).freshA CE (by omega)
            have rE := (r.chg CD (by omega)).chg CE (by omega)
            have uE := (u.chg CD (by omega)).chg CE (by omega)
            have zE := (z.chg CD (by omega)).chg CE (by omega)
            have qE := (q.chg CD (by omega)).chg CE (by omega)
            have lE := (l.chg CD (by omega)).chg CE (by omega)
            have yE := (y.chg CD (by omega)).chg CE (by omega)
            clear cA cB cO hS hS2 i0 i1 hf c0 c1 f0 f1
            go_wp2
            go_roundw
            case rel => first | exact ⟨j + 1, _, _, ag, ht, by omega, by go_num, X3.mono (Nat.le_refl _) szT, rE, uE, zE, qE, lE, yE, kE, CCE, hv3, HA.out, HT.out, hle.mono (by omega), hpR3, Nat.le_trans szU szT⟩ | exact ⟨j + 1, _, _, ag, ht, by omega, by go_num, (X3.drewN 1).mono (Nat.le_refl _) szT, rE.drewN 1, uE.drewN 1, zE.drewN 1, qE.drewN 1, lE.drewN 1, yE.drewN 1, curA_d kE, CCE.drewN 1, hv3, HA.out, HT.out, hle.mono (by omega), hpR3, Nat.le_trans szU szT⟩
            case measure => simp [intOf]; omega
        · skip
          have t1 : (v == 1) = false := by simpa using hv1
          obtain ⟨q_0, q_1, q_2, q_3⟩ := q.c4
          have q_lt := q.lt
          obtain ⟨l_0, l_1⟩ := l.c2
          have l_lt := l.lt
          obtain ⟨at__0, at__1, at__2⟩ := at_.c3
          have at__lt := at_.lt
          go_wp2_with fail
          refine (l14SenseB_c 1 nb nb R C ab ar la lh w3.heap.size W3.heap.size wr.heap.size (some ⟨gA, 0, none⟩) n c B m d D p q2 hs vs ag ht _ y X hpB hpD hpR (by omega) HG.out HB.out (by omega) (by omega) (by omega) hab har HN.out HM.out HP.out HV.out rfl HA.out HT.out).mono ?_
          rintro e w10 ⟨rfl, X2, CX, y2⟩
          clear X y at_
          have kX := k.chg CX (by omega) (by omega)
          have CCX := CC.freshA CX (by omega)
          have szX := CX.size
          replace r := r.chg CX (by omega)
          replace u := u.chg CX (by omega)
          replace z := z.chg CX (by omega)
          replace q := q.chg CX (by omega)
          replace l := l.chg CX (by omega)
          go_wp2
          go_roundw
          case rel => exact ⟨j + 1, hs, _, _, _, by omega, by go_num, X2.mono (Nat.le_refl _) (by omega), r, u, z, q, l, y2, kX, CCX, senV_ok HV.out, senA_all HA.out, senH_all HT.out, senH_le (by omega) (by omega) har (by omega) hle, hpR, by omega⟩
          case measure => simp [intOf]; omega
    · skip
      obtain ⟨q_0, q_1, q_2, q_3⟩ := q.c4
      have q_lt := q.lt
      obtain ⟨l_0, l_1⟩ := l.c2
      have l_lt := l.lt
      obtain ⟨y_0, y_1, y_2⟩ := y.c3
      have y_lt := y.lt
      obtain ⟨r_0, r_1, r_2, r_3⟩ := r.c4
      have r_lt := r.lt
      obtain ⟨u_0, u_1⟩ := u.c2
      have u_lt := u.lt
      obtain ⟨z_0, z_1, z_2⟩ := z.c3
      have z_lt := z.lt
      have r_f := r.frozen
      have u_f := u.frozen
      have z_f := z.frozen
      go_wp2_with fail
      go_region
      go_wp2
      refine abs_body ?_
      intro W9 hW
      clear q_0 q_1 q_2 q_3 q_lt l_0 l_1 l_lt y_0 y_1 y_2 y_lt r_0 r_1 r_2 r_3 r_lt u_0 u_1 u_lt z_0 z_1 z_2 z_lt r_f u_f z_f
      have szW9 : w5.heap.size ≤ W9.heap.size := by rw [hW]; simp [World.setCell]
      have szW9c := CC.size
      replace k : Cur lo W9 g := by rw [hW]; exact (Cur.below ((Cur.chg ((Cur.chg ((Cur.chg ((Cur.chg ((Cur.chg ((Cur.chg ((Cur.chg ((Cur.chg ((Cur.chg (k) ((Chg.refl w.heap.size (w.heap.size + 1) _).setCell (.inl (by dsimp only; omega)) _) (by omega) (by omega))) ((Chg.refl w.heap.size (w.heap.size + 1) _).setCell (.inl (by dsimp only; omega)) _) (by omega) (by omega))) ((Chg.refl w.heap.size (w.heap.size + 1) _).setCell (.inl (by dsimp only; omega)) _) (by omega) (by omega))) ((Chg.refl w.heap.size (w.heap.size + 1) _).setCell (.inl (by dsimp only; omega)) _) (by omega) (by omega))) ((Chg.refl (w.heap.size + 1) ((w.heap.size + 1) + 1) _).setCell (.inl (by dsimp only; omega)) _) (by omega) (by omega))) ((Chg.refl (w.heap.size + 1) ((w.heap.size + 1) + 1) _).setCell (.inl (by dsimp only; omega)) _) (by omega) (by omega))) ((Chg.refl (w.heap.size + 1 + 1) ((w.heap.size + 1 + 1) + 1) _).setCell (.inl (by dsimp only; omega)) _) (by omega) (by omega))) ((Chg.refl (w.heap.size + 1 + 1) ((w.heap.size + 1 + 1) + 1) _).setCell (.inl (by dsimp only; omega)) _) (by omega) (by omega))) ((Chg.refl (w.heap.size + 1 + 1) ((w.heap.size + 1 + 1) + 1) _).setCell (.inl (by dsimp only; omega)) _) (by omega) (by omega))) (belowN (Below.refl _ _) 1))
      replace CC : Chg g (g + 1) w W9 := by rw [hW]; exact ((((((((((((((((((((CC).setCell (.inr (by dsimp only; omega)) _)).setCell (.inr (by dsimp only; omega)) _)).setCell (.inr (by dsimp only; omega)) _)).setCell (.inr (by dsimp only; omega)) _)).setCell (.inr (by dsimp only; omega)) _)).setCell (.inr (by dsimp only; omega)) _)).setCell (.inr (by dsimp only; omega)) _)).setCell (.inr (by dsimp only; omega)) _)).setCell (.inr (by dsimp only; omega)) _)).drewN 1)
      replace r : Box W9 w.heap.size 25 #[.int .i64 1, .int .i64 (nb : Int), .int .i64 (R : Int), .int .i64 (C : Int)] := by rw [hW]; exact ((((((((((r).set_ 0 _).set_ 1 _).set_ 2 _).set_ 3 _).far (by dsimp only; omega) _).far (by dsimp only; omega) _).far (by dsimp only; omega) _).far (by dsimp only; omega) _).far (by dsimp only; omega) _).drewN 1
      replace u : Box W9 (w.heap.size + 1) 90 #[.int .i64 la, .int .i64 lh] := by rw [hW]; exact ((((((((((u).far (by dsimp only; omega) _).far (by dsimp only; omega) _).far (by dsimp only; omega) _).far (by dsimp only; omega) _).set_ 0 _).set_ 1 _).far (by dsimp only; omega) _).far (by dsimp only; omega) _).far (by dsimp only; omega) _).drewN 1
      replace z : Box W9 (w.heap.size + 1 + 1) 87 #[.slice (some ⟨gA, 0, none⟩) n c, .slice B m d, .slice D p q2] := by rw [hW]; exact ((((((((((z).far (by dsimp only; omega) _).far (by dsimp only; omega) _).far (by dsimp only; omega) _).far (by dsimp only; omega) _).far (by dsimp only; omega) _).far (by dsimp only; omega) _).set_ 0 _).set_ 1 _).set_ 2 _).drewN 1
      replace q : Box W9 w1.heap.size 25 #[.int .i64 1, .int .i64 (nb : Int), .int .i64 (R : Int), .int .i64 (C : Int)] := by rw [hW]; exact ((((((((((q).far (by dsimp only; omega) _).far (by dsimp only; omega) _).far (by dsimp only; omega) _).far (by dsimp only; omega) _).far (by dsimp only; omega) _).far (by dsimp only; omega) _).far (by dsimp only; omega) _).far (by dsimp only; omega) _).far (by dsimp only; omega) _).drewN 1
      replace l : Box W9 w2.heap.size 90 #[.int .i64 la, .int .i64 lh] := by rw [hW]; exact ((((((((((l).far (by dsimp only; omega) _).far (by dsimp only; omega) _).far (by dsimp only; omega) _).far (by dsimp only; omega) _).far (by dsimp only; omega) _).far (by dsimp only; omega) _).far (by dsimp only; omega) _).far (by dsimp only; omega) _).far (by dsimp only; omega) _).drewN 1
      replace y : Box W9 w3.heap.size 87 #[.slice (some ⟨gA, 0, none⟩) n c, .slice B m d, .slice D p q2] := by rw [hW]; exact ((((((((((y).far (by dsimp only; omega) _).far (by dsimp only; omega) _).far (by dsimp only; omega) _).far (by dsimp only; omega) _).far (by dsimp only; omega) _).far (by dsimp only; omega) _).far (by dsimp only; omega) _).far (by dsimp only; omega) _).far (by dsimp only; omega) _).drewN 1
      replace X : OwnX W9 W3.heap.size wr.heap.size (some ⟨gA, 0, none⟩) n c hs vs B m d ag D p q2 ht := by rw [hW]; exact ((((((((((X).setCell _ _ (by dsimp only; omega)).setCell _ _ (by dsimp only; omega)).setCell _ _ (by dsimp only; omega)).setCell _ _ (by dsimp only; omega)).setCell _ _ (by dsimp only; omega)).setCell _ _ (by dsimp only; omega)).setCell _ _ (by dsimp only; omega)).setCell _ _ (by dsimp only; omega)).setCell _ _ (by dsimp only; omega)).drewN 1
      clear hW
      obtain ⟨r0, r1, r2, r3⟩ := r.c4
      obtain ⟨u0, u1⟩ := u.c2
      obtain ⟨z0, z1, z2⟩ := z.c3
      refine bodyPost_ret (v := .tuple #[.agg #[.int .i64 1, .int .i64 (nb : Int), .int .i64 (R : Int), .int .i64 (C : Int)], .agg #[.int .i64 la, .int .i64 lh], .agg #[.slice (some ⟨gA, 0, none⟩) n c, .slice B m d, .slice D p q2]]) (by simp [results, Try.results118, go_sem, r0, r1, r2, r3, u0, u1, z0, z1, z2]) rfl ?_
      have hok : arrOk 1 nb R C vs ag ht = true := by rw [arrOk_all HG.out HB.out (by rw [X.1.len]; exact HN.out) (by have := X.2.1.len; rw [← HM.out]; exact this) (by have := X.2.2.1.len; rw [← HP.out]; exact this), HV.out, HA.out, HT.out]; rfl
      exact ⟨nb, R, C, la, lh, _, n, c, B, m, d, D, p, q2, hs, vs, ag, ht, W3.heap.size, ⟨⟨by omega, by omega⟩, ⟨by omega, by omega⟩, ⟨by omega, by omega⟩, ⟨by omega, by omega⟩, ⟨by omega, by omega⟩⟩, HG.out, HB.out, HN.out, HM.out, HP.out, hok, hle.mono (by omega), X.mono (Nat.le_refl _) (by omega), by omega, rfl, k, CC⟩
end Go.Proofs.Ytbapamfomfbmmaa
namespace Go.Proofs.Ytbapamfomfbmmaa
open Go.RowKit
set_option linter.unusedSimpArgs false
set_option linter.unusedVariables false

/-- A drawn geometry, drawn limits and a drawn array, all in new memory. -/
def NewCase (w : World) (e : Ending) (w' : World) : Prop :=
  ∃ (nb R C : Nat) (la lh : Int) (A : Option Addr) (n c : Nat) (B : Option Addr) (m d : Nat) (D : Option Addr) (p q : Nat) (hs : List Cel) (vs : List CV) (ag ht : List Int),
    ((1 ≤ nb ∧ nb ≤ 2) ∧ (2 ≤ R ∧ R ≤ 4) ∧ (1 ≤ C ∧ C ≤ 2) ∧ (0 ≤ la ∧ la ≤ 100) ∧ (0 ≤ lh ∧ lh ≤ 20)) ∧ geoOk 1 nb R C = true ∧ bankCnt 1 nb R C = (nb : Int) ∧ n = nb * R * C ∧ m = nb * R ∧ p = nb * R ∧ arrOk 1 nb R C vs ag ht = true ∧ hitLe 20 ht ∧ OwnX w' w.heap.size w'.heap.size A n c hs vs B m d ag D p q ht ∧
    e = .returned (.tuple #[.agg #[.int .i64 1, .int .i64 (nb : Int), .int .i64 (R : Int), .int .i64 (C : Int)], .agg #[.int .i64 la, .int .i64 lh], .agg #[.slice A n c, .slice B m d, .slice D p q]]) ∧ Below w.heap.size w w'
set_option maxRecDepth 100000 in
set_option maxHeartbeats 4000000 in
theorem drawArray_c (A : Option Addr) (n c : Nat) (zs : List Int) (w : World) (hA : Bytes w A n zs) (hn : n ≤ maxLen) :
    Calls Try.prog 61 #[.slice A n c] w (NewCase w) := by
  have bel : Below w.heap.size w w := Below.refl _ _
  go_enter Try.func61, Try.ntmps61
  go_wp2_with fail
  refine abs_call ?_
  intro W hW
  have szW : w.heap.size + 1 + 1 + 1 ≤ W.heap.size := by rw [hW]; simp [World.setCell]
  have szW_ := bel.size
  replace bel : Below w.heap.size w W := by rw [hW]; exact (((bel).alloc (by first | omega | (simp [World.setCell] <;> omega)) _).alloc (by first | omega | (simp [World.setCell] <;> omega)) _).alloc (by first | omega | (simp [World.setCell] <;> omega)) _
  have r : Box W w.heap.size 25 #[.int .i64 0, .int .i64 0, .int .i64 0, .int .i64 0] := by rw [hW]; exact (((Box.newAt (by simp [World.setCell]))).alloc _).alloc _
  have u : Box W (w.heap.size + 1) 90 #[.int .i64 0, .int .i64 0] := by rw [hW]; exact ((Box.newAt (by simp [World.setCell]))).alloc _
  have z : Box W (w.heap.size + 1 + 1) 87 #[.slice none 0 0, .slice none 0 0, .slice none 0 0] := by rw [hW]; exact (Box.newAt (by simp [World.setCell]))
  clear hW
  refine (l01New_c A n c zs _ (hA.below bel) hn).mono ?_
  rintro e w1 ⟨g, rfl, k1, b1⟩
  have szg := k1.lt
  have szw1 := b1.size
  replace bel := bel.trans (b1.mono bel.size)
  replace r := r.kept b1
  replace u := u.kept b1
  replace z := z.kept b1
  clear b1
  go_wp2_with fail
  refine (l14Case_c _ g _ k1).mono ?_
  rintro e w2 ⟨nb, R, C, la, lh, A2, n2, c2, B, m, d, D, p, q, hs, vs, ag, ht, l, hnum, hg, hb, hN, hM, hP, hok, hle, X, hl, rfl, -, C2⟩
  have HN := Lib.hid hN
  have HM := Lib.hid hM
  have HP := Lib.hid hP
  clear hN hM hP
  have szw2 := C2.size
  replace bel := C2.below bel (by omega)
  replace r := r.chg C2 (by omega)
  replace u := u.chg C2 (by omega)
  replace z := z.chg C2 (by omega)
  clear C2
  obtain ⟨r_0, r_1, r_2, r_3⟩ := r.c4
  have r_lt := r.lt
  obtain ⟨u_0, u_1⟩ := u.c2
  have u_lt := u.lt
  obtain ⟨z_0, z_1, z_2⟩ := z.c3
  have z_lt := z.lt
  have r_f := r.frozen
  have u_f := u.frozen
  have z_f := z.frozen
  go_wp2_with fail
  refine abs_body ?_
  intro W9 hW
  clear r_0 r_1 r_2 r_3 r_lt u_0 u_1 u_lt z_0 z_1 z_2 z_lt r_f u_f z_f
  have szW9 : w2.heap.size ≤ W9.heap.size := by rw [hW]; simp [World.setCell]
  have szW9_ := bel.size
  replace bel : Below w.heap.size w W9 := by rw [hW]; exact (((((((((bel).setCell (by dsimp only; omega) _).setCell (by dsimp only; omega) _).setCell (by dsimp only; omega) _).setCell (by dsimp only; omega) _).setCell (by dsimp only; omega) _).setCell (by dsimp only; omega) _).setCell (by dsimp only; omega) _).setCell (by dsimp only; omega) _).setCell (by dsimp only; omega) _
  replace r : Box W9 w.heap.size 25 #[.int .i64 1, .int .i64 (nb : Int), .int .i64 (R : Int), .int .i64 (C : Int)] := by rw [hW]; exact (((((((((r).set_ 0 _).set_ 1 _).set_ 2 _).set_ 3 _).far (by dsimp only; omega) _).far (by dsimp only; omega) _).far (by dsimp only; omega) _).far (by dsimp only; omega) _).far (by dsimp only; omega) _
  replace u : Box W9 (w.heap.size + 1) 90 #[.int .i64 la, .int .i64 lh] := by rw [hW]; exact (((((((((u).far (by dsimp only; omega) _).far (by dsimp only; omega) _).far (by dsimp only; omega) _).far (by dsimp only; omega) _).set_ 0 _).set_ 1 _).far (by dsimp only; omega) _).far (by dsimp only; omega) _).far (by dsimp only; omega) _
  replace z : Box W9 (w.heap.size + 1 + 1) 87 #[.slice A2 n2 c2, .slice B m d, .slice D p q] := by rw [hW]; exact (((((((((z).far (by dsimp only; omega) _).far (by dsimp only; omega) _).far (by dsimp only; omega) _).far (by dsimp only; omega) _).far (by dsimp only; omega) _).far (by dsimp only; omega) _).set_ 0 _).set_ 1 _).set_ 2 _
  replace X : OwnX W9 l w2.heap.size A2 n2 c2 hs vs B m d ag D p q ht := by rw [hW]; exact (((((((((X).setCell _ _ (by dsimp only; omega)).setCell _ _ (by dsimp only; omega)).setCell _ _ (by dsimp only; omega)).setCell _ _ (by dsimp only; omega)).setCell _ _ (by dsimp only; omega)).setCell _ _ (by dsimp only; omega)).setCell _ _ (by dsimp only; omega)).setCell _ _ (by dsimp only; omega)).setCell _ _ (by dsimp only; omega)
  clear hW
  obtain ⟨r0, r1, r2, r3⟩ := r.c4
  obtain ⟨u0, u1⟩ := u.c2
  obtain ⟨z0, z1, z2⟩ := z.c3
  refine bodyPost_ret (v := .tuple #[.agg #[.int .i64 1, .int .i64 (nb : Int), .int .i64 (R : Int), .int .i64 (C : Int)], .agg #[.int .i64 la, .int .i64 lh], .agg #[.slice A2 n2 c2, .slice B m d, .slice D p q]]) (by simp [results, Try.results61, go_sem, r0, r1, r2, r3, u0, u1, z0, z1, z2]) rfl ?_
  exact ⟨nb, R, C, la, lh, A2, n2, c2, B, m, d, D, p, q, hs, vs, ag, ht, hnum, hg, hb, HN.out, HM.out, HP.out, hok, hle, X.mono (by omega) (by omega), rfl, bel⟩
end Go.Proofs.Ytbapamfomfbmmaa
