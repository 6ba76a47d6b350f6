/-
  Time that passes over an array whose blocks lie apart; the reference's AddrIndex; the counts behind sensing, place by place.
-/
import Derived.Test.YtbapamfomfbmmaaDrC
import Derived.Test.YtbapamfomfbmmaaSenP
namespace Go.Proofs.Ytbapamfomfbmmaa
open Go.RowKit
set_option linter.unusedSimpArgs false
set_option linter.unusedVariables false

theorem hitAdd_at {ht : List Int} {i j : Nat} (hj : j < ht.length) : (hitAdd ht i).getD j 0 = if i = j then min (ht.getD j 0 + 1) 100000 else ht.getD j 0 := by
  unfold hitAdd
  rw [List.getD_eq_getElem?_getD, List.getElem?_set]
  by_cases h : i = j
  · subst h
    rw [if_pos rfl, if_pos hj, if_pos rfl]
    rfl
  · rw [if_neg h, if_neg h, List.getD_eq_getElem?_getD]
theorem set0_at {ht : List Int} {i j : Nat} (hj : j < ht.length) : (ht.set i 0).getD j 0 = if i = j then 0 else ht.getD j 0 := by
  rw [List.getD_eq_getElem?_getD, List.getElem?_set]
  by_cases h : i = j
  · subst h
    rw [if_pos rfl, if_pos hj, if_pos rfl]
    rfl
  · rw [if_neg h, if_neg h, List.getD_eq_getElem?_getD]
/-- The counts behind sensing a row. -/
theorem senH_at {R b r j : Nat} {ht : List Int} (R2 : 2 ≤ R) (R16 : R ≤ 16) (hr : r < R) (hj : j < ht.length) :
    (senH R b r ht).getD j 0 = if b * R + r = j then 0 else if (j + 1 = b * R + r ∧ 0 < r) ∨ (j = b * R + r + 1 ∧ r + 1 < R) then min (ht.getD j 0 + 1) 100000 else ht.getD j 0 := by
  have HN : nears (R : Int) (r : Int) = (if 0 < (r : Int) then [(r : Int) - 1] else []) ++ (if (r : Int) < (R : Int) - 1 then [(r : Int) + 1] else []) := by unfold nears; rw [if_pos ⟨inB_mk (by omega) (by omega), inB_mk (by omega) (by omega)⟩]
  have hj1 : j < (ht.set (b * R + r) 0).length := by simpa using hj
  unfold senH
  rw [HN]
  obtain ⟨T, hT⟩ : ∃ T, b * R = T := ⟨_, rfl⟩
  rw [hT] at hj1 ⊢
  by_cases h0 : 0 < (r : Int)
  · have e0 : T + ((r : Int) - 1).toNat = T + r - 1 := by omega
    by_cases h1 : (r : Int) < (R : Int) - 1
    · have e1 : T + ((r : Int) + 1).toNat = T + r + 1 := by omega
      rw [if_pos h0, if_pos h1, hitsTo_snoc, show hitsTo T [(r : Int) - 1] (ht.set (T + r) 0) = hitAdd (ht.set (T + r) 0) (T + ((r : Int) - 1).toNat) from rfl, e0, e1, hitAdd_at (by rw [hitAdd_len]; exact hj1), hitAdd_at hj1, set0_at hj]
      grind
    · rw [if_pos h0, if_neg h1, List.append_nil, show hitsTo T [(r : Int) - 1] (ht.set (T + r) 0) = hitAdd (ht.set (T + r) 0) (T + ((r : Int) - 1).toNat) from rfl, e0, hitAdd_at hj1, set0_at hj]
      grind
  · by_cases h1 : (r : Int) < (R : Int) - 1
    · have e1 : T + ((r : Int) + 1).toNat = T + r + 1 := by omega
      rw [if_neg h0, if_pos h1, List.nil_append, show hitsTo T [(r : Int) + 1] (ht.set (T + r) 0) = hitAdd (ht.set (T + r) 0) (T + ((r : Int) + 1).toNat) from rfl, e1, hitAdd_at hj1, set0_at hj]
      grind
    · omega
theorem all_getD {f : Int → Bool} {l : List Int} {i : Nat} (h : l.all f = true) (hi : i < l.length) : f (l.getD i 0) = true := by
  rw [List.getD_eq_getElem?_getD, List.getElem?_eq_getElem hi]
  exact all_at h (List.getElem?_eq_getElem hi)
/-- Every count is at most k. -/
def hitLe (k : Int) (ht : List Int) : Prop := ∀ j, j < ht.length → ht.getD j 0 ≤ k
theorem hitLe.mono {k k' : Int} {ht : List Int} (h : hitLe k ht) (hk : k ≤ k') : hitLe k' ht := fun j hj => Int.le_trans (h j hj) hk
theorem senH_le {R b r : Nat} {ht : List Int} {k : Int} (R2 : 2 ≤ R) (R16 : R ≤ 16) (hr : r < R) (k0 : 0 ≤ k) (h : hitLe k ht) : hitLe (k + 1) (senH R b r ht) := by
  intro j hj
  rw [senH_len] at hj
  have := h j hj
  rw [senH_at R2 R16 hr hj]
  split
  · omega
  · split <;> omega
theorem hitLe_zero (M : Nat) : hitLe 0 (List.replicate M 0) := by
  intro j hj
  rw [List.getD_eq_getElem?_getD, List.getElem?_eq_getElem hj]
  simp
set_option maxRecDepth 100000 in
set_option maxHeartbeats 4000000 in
theorem l14TimeB_c (t : Int) (pB lo hi : Nat) (A : Option Addr) (n c : Nat) (B : Option Addr) (m d : Nat) (D : Option Addr) (p q : Nat) (hs : List Cel) (vs : List CV) (ag ht : List Int) (w : World)
    (P : Box w pB 87 #[.slice A n c, .slice B m d, .slice D p q]) (H : OwnX w lo hi A n c hs vs B m d ag D p q ht) (hpB : blk B d ≠ some pB) (hm : m ≤ 1048576) (t0 : 0 ≤ t) (t1 : t ≤ 100000) (hca : ag.all ageF = true) :
    Calls Try.prog 157 #[.pointer (some ⟨pB, 0, none⟩), .int .i64 t] w fun e w' => e = .returned (.tuple #[]) ∧ ∃ ag', OwnX w' lo hi A n c hs vs B m d ag' D p q ht ∧ ag'.all ageF = true ∧ Chg lo hi w w' ∧ Box w' pB 87 #[.slice A n c, .slice B m d, .slice D p q] := by
  go_enter Try.func157, Try.ntmps157
  go_wp2_with fail
  go_loopw [4] (fun i wr => ∃ (j : Nat) (zs : List Int), j ≤ m ∧ i = .int .i64 j ∧ OwnX wr lo hi A n c hs vs B m d zs D p q ht ∧ zs.all ageF = true ∧ Chg lo hi w wr ∧ Box wr pB 87 #[.slice A n c, .slice B m d, .slice D p q]) (fun i _ => m - (intOf i).toNat)
  case atStart => exact ⟨0, ag, Nat.zero_le _, rfl, H, hca, Chg.refl _ _ _, P⟩
  case round =>
    obtain ⟨j, zs, hj, rfl, o, hz, CJ, x⟩ := hrel
    have HZ := Lib.hid hz
    clear hz
    have szj := CJ.size
    obtain ⟨x0, x1, x2⟩ := x.c3
    have xlt := x.lt
    by_cases hlt : j < m
    · obtain ⟨g, y, rfl, hc, hf, hy, g1, g2⟩ := o.2.1.at_ hlt
      have hyb : 0 ≤ y ∧ y ≤ 100000 := inB_t (show ageF y = true from all_at HZ.out hy.out)
      obtain ⟨hy0, hy1⟩ := hyb
      have HS : Hid ((zs.set j (min (y + t) 100000)).all ageF = true) := set_all HZ.out (age_min ⟨hy0, hy1⟩ t0)
      have i0 : (0 : Int) ≤ (j : Int) := by omega
      have i1 : (j : Int) < (m : Int) := by omega
      have eY : IntKind.i64.wrap (y + t) = y + t := IntWalk.i64_in _ (by omega)
      have nePg : pB ≠ g := fun e => hpB (by rw [e]; exact own_blk o.2.1 hlt)
      clear hy
      go_wp2_with fail
      go_region
      go_wp2
      all_goals
        go_roundw
        case rel =>
          refine ⟨j + 1, zs.set j (min (y + t) 100000), by omega, by go_num, ?_, HS.out, ?_, (x.far (by dsimp only; omega) _).drewN 1⟩
          · rw [show (min (y + t) 100000 : Int) = (if 100000 < y + t then 100000 else y + t) by split <;> omega]
            exact (o.storeB hlt _).drewN 1
          · exact (CJ.setCell (.inl ⟨by dsimp only; omega, by dsimp only; omega⟩) _).drewN 1
        case measure => simp [intOf]; omega
    · obtain rfl : m = j := by omega
      go_wp2
      refine bodyPost_end (results_none rfl _ _ _) rfl ?_
      exact ⟨rfl, zs, o, HZ.out, CJ, x⟩
set_option maxHeartbeats 4000000 in
theorem sAddrIndex_c (gg gb : Int) (nb R C b r k : Nat) (w : World) (h : geoOk gg gb R C = true) (e : bankCnt gg gb R C = (nb : Int)) (h8 : nb ≤ 8) (h16 : R ≤ 16) (hC : C ≤ 8) (hb : b < nb) (hr : r < R) (hk : k < C) :
    Calls Try.prog 160 #[.agg #[.int .i64 gg, .int .i64 gb, .int .i64 (R : Int), .int .i64 (C : Int)], .agg #[.int .i64 (b : Int), .int .i64 (r : Int), .int .i64 (k : Int)]] w fun e w' => e = .returned (.int .i64 (((b * R + r) * C + k : Nat) : Int)) ∧ Below w.heap.size w w' := by
  have bel : Below w.heap.size w w := Below.refl _ _
  have HA : Hid (addrOk gg gb R C b r k = true) := by
    unfold Hid addrOk
    rw [h, e, inB_mk (show (0 : Int) ≤ (b : Int) by omega) (show (b : Int) ≤ (nb : Int) - 1 by omega), inB_mk (show (0 : Int) ≤ (r : Int) by omega) (show (r : Int) ≤ (R : Int) - 1 by omega), inB_mk (show (0 : Int) ≤ (k : Int) by omega) (show (k : Int) ≤ (C : Int) - 1 by omega)]
    rfl
  obtain ⟨Tt, hT⟩ : ∃ x, b * R = x := ⟨_, rfl⟩
  obtain ⟨I, hI⟩ : ∃ x, Tt + r = x := ⟨_, rfl⟩
  obtain ⟨J, hJ⟩ : ∃ x, I * C = x := ⟨_, rfl⟩
  have hT2 : Tt ≤ 128 := by rw [← hT]; exact Nat.le_trans (Nat.mul_le_mul (show b ≤ 8 by omega) h16) (by omega)
  have hJ2 : J ≤ 1200 := by rw [← hJ]; exact Nat.le_trans (Nat.mul_le_mul (show I ≤ 150 by omega) hC) (by omega)
  have eT : (b : Int) * (R : Int) = (Tt : Int) := by rw [← Int.natCast_mul, hT]
  have eI : (Tt : Int) + (r : Int) = (I : Int) := by omega
  have eJ : (I : Int) * (C : Int) = (J : Int) := by rw [← Int.natCast_mul, hJ]
  have eT' : IntKind.i64.wrap ((b : Int) * (R : Int)) = (Tt : Int) := by rw [eT]; exact IntWalk.i64_in _ (by omega)
  have eJ' : IntKind.i64.wrap ((I : Int) * (C : Int)) = (J : Int) := by rw [eJ]; exact IntWalk.i64_in _ (by omega)
  have HE : Hid ((((b * R + r) * C + k : Nat) : Int) = (J : Int) + (k : Int)) := by unfold Hid; rw [hT, hI, hJ]; simp
  clear hT hI hJ
  go_enter Try.func160, Try.ntmps160
  go_wp2_with fail
  refine abs_call ?_
  intro W hW
  have szW : w.heap.size + 1 + 1 ≤ W.heap.size := by rw [hW]; simp [World.setCell]
  have szW_ := bel.size
  replace bel : Below w.heap.size w W := by rw [hW]; exact ((bel).alloc (by first | omega | (simp [World.setCell] <;> omega)) _).alloc (by first | omega | (simp [World.setCell] <;> omega)) _
  have gq : Box W w.heap.size 25 #[.int .i64 gg, .int .i64 gb, .int .i64 (R : Int), .int .i64 (C : Int)] := by rw [hW]; exact ((Box.newAt (by simp [World.setCell]))).alloc _
  have x : Box W (w.heap.size + 1) 38 #[.int .i64 (b : Int), .int .i64 (r : Int), .int .i64 (k : Int)] := by rw [hW]; exact (Box.newAt (by simp [World.setCell]))
  clear hW
  refine (sAddrOk_c gg gb R C b r k _).mono ?_
  rintro e w1 ⟨rfl, b1⟩
  rw [HA.out]
  have szw1 := b1.size
  replace bel := bel.trans (b1.mono bel.size)
  replace gq := gq.kept b1
  replace x := x.kept b1
  clear b1
  obtain ⟨gq_0, gq_1, gq_2, gq_3⟩ := gq.c4
  have gq_lt := gq.lt
  obtain ⟨x_0, x_1, x_2⟩ := x.c3
  have x_lt := x.lt
  go_wp2
  go_ret
  exact ⟨ret_int HE.out.symm, bel⟩
end Go.Proofs.Ytbapamfomfbmmaa
