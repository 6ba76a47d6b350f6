/-
  The walk of FnNeeds.
-/
import Derived.Test.YtbapamfomfbmmaaNeB
import Derived.Test.YtbapamfomfbmmaaPagA
import Derived.Test.YtbapamfomfbmmaaPlc
import Derived.Deep.DeepCutAuto
import Derived.Deep.RegionHeld3
import Derived.Handy
namespace Go.Proofs.Ytbapamfomfbmmaa
open Go.RowKit
set_option linter.unusedSimpArgs false
set_option linter.unusedVariables false

/-- How far the access has come: its bank holds another row and nothing was done; it is closed; it holds the row. -/
def Stage (ks : List Bnk) (b row : Nat) (j : Nat) : Prop :=
  (∃ r : Int, ks[b]? = some ⟨true, r⟩ ∧ r ≠ (row : Int) ∧ j = 0) ∨ (∃ r : Int, ks[b]? = some ⟨false, r⟩ ∧ j ≤ 1) ∨ (ks[b]? = some ⟨true, (row : Int)⟩ ∧ j ≤ 2)
theorem bel_of_dn {w w' : World} (C : Below w.drew.heap.size w.drew w') : Below w.heap.size w w' := ⟨C.os, C.tape, C.output, C.size, C.block⟩
theorem lat_s4n {W X : World} (h : Below W.heap.size W X) {u : Nat} (hu : W.heap.size ≤ u) {a b c d : Value} : Below W.heap.size W ((((X.setCell ⟨u, 0, none⟩ a).setCell ⟨u, 1, none⟩ b).setCell ⟨u, 2, none⟩ c).setCell ⟨u, 3, none⟩ d) := (((h.setCell hu a).setCell hu b).setCell hu c).setCell hu d
theorem box_s4n {w : World} {g : Nat} {t : TypeId} {a b c d a' b' c' d' : Value} (h : Box w g t #[a, b, c, d]) : Box ((((w.setCell ⟨g, 0, none⟩ a').setCell ⟨g, 1, none⟩ b').setCell ⟨g, 2, none⟩ c').setCell ⟨g, 3, none⟩ d') g t #[a', b', c', d'] := (((h.set_ 0 _).set_ 1 _).set_ 2 _).set_ 3 _
theorem rkOk_set {R b : Nat} {ks : List Bnk} {r : Bnk} (h : rkOk R ks) (h1 : 0 ≤ r.row ∧ r.row ≤ (R : Int) - 1) (h2 : r.opn = false → r.row = 0) : rkOk R (ks.set b r) := by
  intro x hx
  rcases List.mem_or_eq_of_mem_set hx with hx | hx
  · exact h x hx
  · subst hx; exact ⟨h1, h2⟩
theorem rkOk_rep {R nb : Nat} (h : 0 < R) : rkOk R (List.replicate nb ⟨false, 0⟩) := by
  intro x hx
  have := List.eq_of_mem_replicate hx
  subst this
  exact ⟨⟨by simp, by simp; omega⟩, fun _ => rfl⟩
theorem open_in {ks : List Bnk} {b nb : Nat} (hl : ks.length = nb) (hb : b < nb) : inB (b : Int) 0 ((ks.length : Int) - 1) = true := inB_mk (by omega) (by omega)
theorem bank_lt {k nb R C : Nat} (h : k < nb * R * C) (hC : 0 < C) (hR : 0 < R) : k / C / R < nb := by
  have h1 : k / C < nb * R := (Nat.div_lt_iff_lt_mul hC).2 h
  exact (Nat.div_lt_iff_lt_mul hR).2 h1

set_option maxRecDepth 100000 in
set_option maxHeartbeats 16000000 in
theorem fnNeeds_walk (A : Option Addr) (n c : Nat) (zs : List Int) (w : World) (hA : Bytes w A n zs) (hn : n ≤ maxLen) :
    Calls Try.prog 4 #[.slice A n c] w fun e w' => e = .returned (.bool true) ∧ Below w.heap.size w w' := by
  by_cases hb : 1048576 < n
  · have hd : decide (1048576 < n) = true := by simpa using hb
    go_enter Try.func4, Try.ntmps4
    go_wp2_with (go_at_call 14; refine (big_c A n c _ hn).mono ?_; rintro e w' ⟨rfl, rfl⟩)
    go_ret
    exact ⟨rfl, Below.refl _ _⟩
  · have hd : decide (1048576 < n) = false := by simpa using hb
    have bel : Below w.heap.size w w := Below.refl _ _
    go_enter Try.func4, Try.ntmps4
    go_wp2_with (first | (go_at_call 14; refine (big_c A n c _ hn).mono ?_; rintro e w' ⟨rfl, rfl⟩) | fail)
    refine (drawGeometry_c A n c zs _ hA hn).mono ?_
    rintro e w1 ⟨gg, gb, gr, gc, hG, rfl, b1⟩
    have szw1 := b1.size
    replace bel := bel.trans (b1.mono bel.size)
    clear b1
    have hG' := hG
    obtain ⟨⟨ga1, ga2⟩, ⟨gb1, gb2⟩, ⟨gr1, gr2⟩, gc1, gc2⟩ := hG'
    obtain ⟨R, hR⟩ := Int.eq_ofNat_of_zero_le (show 0 ≤ gr by omega)
    obtain rfl : gr = (R : Int) := hR
    obtain ⟨C, hC⟩ := Int.eq_ofNat_of_zero_le (show 0 ≤ gc by omega)
    obtain rfl : gc = (C : Int) := hC
    have HG := hG.ok
    have h4 := bankCnt_bd gg gb (R : Int) (C : Int)
    have h5 := bankCnt_pos HG
    obtain ⟨nb, enb⟩ := Int.eq_ofNat_of_zero_le (show 0 ≤ bankCnt gg gb (R : Int) (C : Int) by omega)
    have nb1 : 1 ≤ nb := by omega
    have nb8 : nb ≤ 8 := by omega
    have R2 : 2 ≤ R := by omega
    have R8 : R ≤ 8 := by omega
    have R16 : R ≤ 16 := by omega
    have R0 : 0 < R := by omega
    have C1 : 0 < C := by omega
    have C4 : C ≤ 4 := by omega
    have C8 : C ≤ 8 := by omega
    obtain ⟨L, hL⟩ : ∃ L, nb * R * C = L := ⟨_, rfl⟩
    have hL0 : 0 < L := by rw [← hL]; exact Nat.mul_pos (Nat.mul_pos (by omega) (by omega)) (by omega)
    have hL2 : L ≤ 1024 := by rw [← hL]; exact Nat.le_trans (Nat.mul_le_mul (le_mul8 nb8 R16) C8) (by omega)
    replace HG := Lib.hid HG
    have HNB := Lib.hid enb
    have HL := Lib.hid hL
    clear hG enb h4 h5 hL ga1 ga2 gb1 gb2 gr1 gr2 gc1 gc2
    go_wp2_with fail
    refine abs_call ?_
    intro W2 hW
    have szW2 : w1.heap.size + 1 ≤ W2.heap.size := by rw [hW]; simp [World.setCell]
    have szW2_ := bel.size
    replace bel : Below w.heap.size w W2 := by rw [hW]; exact (bel).alloc (by first | omega | (simp [World.setCell] <;> omega)) _
    have q : Box W2 w1.heap.size 25 #[.int .i64 gg, .int .i64 gb, .int .i64 (R : Int), .int .i64 (C : Int)] := by rw [hW]; exact (Box.newAt (by simp [World.setCell]))
    clear hW
    refine (drawPlaces_c A n c zs _ (hA.below bel) hn).mono ?_
    rintro e w3 ⟨p, hp, A1, n1, c1, rfl, o1, b3⟩
    have szw3 := b3.size
    replace bel := bel.trans (b3.mono bel.size)
    replace q := q.kept b3
    clear b3
    have hn12 : n1 = 12 := by rw [← o1.len]; exact hp.1
    subst hn12
    obtain ⟨z0, hz0, z0a, z0b⟩ := hp.at_ (show 0 < 12 by omega)
    obtain ⟨z1, hz1, z1a, z1b⟩ := hp.at_ (show 1 < 12 by omega)
    obtain ⟨z2, hz2, z2a, z2b⟩ := hp.at_ (show 2 < 12 by omega)
    obtain ⟨z3, hz3, z3a, z3b⟩ := hp.at_ (show 3 < 12 by omega)
    obtain ⟨gp, x0, eg, -, -, -, gp1, gp2⟩ := o1.at_ (show 0 < 12 by omega)
    subst eg
    have HP0 := Lib.hid hz0
    have HP1 := Lib.hid hz1
    have HP2 := Lib.hid hz2
    have HP3 := Lib.hid hz3
    clear hp hz0 hz1 hz2 hz3
    obtain ⟨k, hk, ek1, ek2⟩ := rem_nat z0a hL0
    have HK : Hid (k < nb * R * C) := by unfold Hid; rw [HL.out]; exact hk
    obtain ⟨bb, hbb⟩ : ∃ x, x = k / C / R := ⟨_, rfl⟩
    obtain ⟨row, hrow⟩ : ∃ x, x = k / C % R := ⟨_, rfl⟩
    obtain ⟨col, hcol⟩ : ∃ x, x = k % C := ⟨_, rfl⟩
    have b8 : bb < nb := by rw [hbb]; exact bank_lt HK.out C1 R0
    have r8 : row < R := by rw [hrow]; exact Nat.mod_lt _ R0
    have c8 : col < C := by rw [hcol]; exact Nat.mod_lt _ C1
    have HB := Lib.hid hbb
    have HRw := Lib.hid hrow
    have HCl := Lib.hid hcol
    clear hbb hrow hcol
    have cp0 := place_cell o1 (show 0 < 12 by omega) HP0.out
    obtain ⟨q_0, q_1, q_2, q_3⟩ := q.c4
    have q_lt := q.lt
    go_wp2_with fail
    have gp3 : gp < w3.heap.size := by omega
    have hS : ∀ Y : World, Below w3.heap.size w3 Y → (Y.cell? ⟨w1.heap.size, 0, none⟩ = some (.int .i64 gg) ∧ Y.cell? ⟨w1.heap.size, 1, none⟩ = some (.int .i64 gb) ∧ Y.cell? ⟨w1.heap.size, 2, none⟩ = some (.int .i64 (R : Int)) ∧ Y.cell? ⟨w1.heap.size, 3, none⟩ = some (.int .i64 (C : Int)) ∧ Y.cell? ⟨gp, 0, none⟩ = some (.int .i64 z0)) :=
      fun Y hY => ⟨(hY.cell (p := ⟨w1.heap.size, 0, none⟩) q_lt).trans q_0, (hY.cell (p := ⟨w1.heap.size, 1, none⟩) q_lt).trans q_1, (hY.cell (p := ⟨w1.heap.size, 2, none⟩) q_lt).trans q_2, (hY.cell (p := ⟨w1.heap.size, 3, none⟩) q_lt).trans q_3, (hY.cell (p := ⟨gp, 0, none⟩) gp3).trans cp0⟩
    have L00 : ¬ ((L : Int) = 0) := by omega
    have L01 : ¬ (L = 0) := by omega
    have ew : IntKind.i64.wrap (k : Int) = (k : Int) := IntWalk.i64_in _ (by omega)
    have e12 : ((12 : Nat) : Int) = 12 := rfl
    go_cut [5] (fun s5 wx => ∃ (u : Nat), s5 = .pointer (some ⟨u, 0, none⟩) ∧ w3.heap.size ≤ u ∧ Box wx u 38 #[.int .i64 (bb : Int), .int .i64 (row : Int), .int .i64 (col : Int)] ∧ Below w3.heap.size w3 wx)
    case first =>
      go_region_held3 (fun Y => Y.cell? ⟨w1.heap.size, 0, none⟩ = some (.int .i64 gg) ∧ Y.cell? ⟨w1.heap.size, 1, none⟩ = some (.int .i64 gb) ∧ Y.cell? ⟨w1.heap.size, 2, none⟩ = some (.int .i64 (R : Int)) ∧ Y.cell? ⟨w1.heap.size, 3, none⟩ = some (.int .i64 (C : Int)) ∧ Y.cell? ⟨gp, 0, none⟩ = some (.int .i64 z0))
        (first | (with_reducible exact hS _ (lat_d (Below.refl _ _))) | (with_reducible exact hS _ hbt2) | (with_reducible exact hS _ hbt1) | (with_reducible exact hS _ (lat_a hbt2)) | (with_reducible exact hS _ (lat_a hbt1)) | (with_reducible exact hS _ (lat_ad (Below.refl _ _))) | (with_reducible exact hS _ (lat_s3 hbt2 hbl)) | fail)
        (first
         | (go_at_call 25; refine (sLineCount_c gg gb nb R C _ HG.out HNB.out nb8 R16 C8).mono ?_; rintro e wA ⟨rfl, bA⟩; rw [HL.out]; have hbt1 : Below w3.heap.size w3 wA := (by first | (with_reducible exact bel_of_dn bA) | exact below_after_alloc_d bA); have szA := hbt1.size; (first | (have bxA : Box wA w3.heap.size 38 #[.int .i64 0, .int .i64 0, .int .i64 0] := (by with_reducible exact box_after_alloc_d bA)) | skip))
         | (go_at_call 24; refine (sAddrAt_c gg gb nb R C k _ HG.out HNB.out nb8 R16 C8 R0 C1 HK.out).mono ?_; rintro e wB ⟨rfl, bB⟩; rw [← HB.out, ← HRw.out, ← HCl.out]; have hbt2 : Below w3.heap.size w3 wB := (by first | (with_reducible exact below_nxt hbt1 bB) | (with_reducible exact below_nxt (lat_a hbt1) bB)); (first | (have bxB : Box wB w3.heap.size 38 #[.int .i64 0, .int .i64 0, .int .i64 0] := (by with_reducible exact bxA.kept bB); obtain ⟨bxB_0, bxB_1, bxB_2⟩ := bxB.c3; have bxBf := bxB.frozen; have bxBl := bxB.lt; have hbl : w3.heap.size ≤ w3.heap.size := Nat.le_refl _) | (have bxB : Box wB wA.heap.size 38 #[.int .i64 0, .int .i64 0, .int .i64 0] := (by with_reducible exact (Box.new wA _ _).kept bB); obtain ⟨bxB_0, bxB_1, bxB_2⟩ := bxB.c3; have bxBf := bxB.frozen; have bxBl := bxB.lt; have hbl : w3.heap.size ≤ wA.heap.size := szA) | skip))
         | fail)
      all_goals
        go_wp2_with fail
        go_meet
      · exact ⟨_, rfl, hbt2.size, Box.new _ _ _, lat_a hbt2⟩
      · exact ⟨_, rfl, hbl, box_s3 bxB, lat_s3 hbt2 hbl⟩
      · exact ⟨_, rfl, hbl, box_s3 bxB, lat_s3 hbt2 hbl⟩
    case rest =>
      obtain ⟨u, rfl, hu, a, bA⟩ := hcut
      obtain ⟨Wc, hWc⟩ : ∃ v : World, v = wc := ⟨_, rfl⟩
      subst hWc
      have a_sz := a.lt
      clear hS cp0 ek1 ek2 ew
      clear q_0 q_1 q_2 q_3 q_lt
      have szWc := bA.size
      replace bel := bel.trans (bA.mono bel.size)
      replace q := q.kept bA
      replace o1 := o1.below bA
      clear bA
      obtain ⟨q_0, q_1, q_2, q_3⟩ := q.c4
      have q_lt := q.lt
      go_wp2_with fail
      refine (sRankNew_c gg gb (R : Int) (C : Int) nb _ HNB.out (by omega)).mono ?_
      rintro e w4 ⟨A4, n4, c4, rfl, o4, b4⟩
      have en4 : n4 = nb := by have := o4.len; simp at this; omega
      subst en4
      clear q_0 q_1 q_2 q_3 q_lt
      have szw4 := b4.size
      replace bel := bel.trans (b4.mono bel.size)
      replace q := q.kept b4
      replace a := a.kept b4
      replace o1 := o1.below b4
      clear b4
      have cp1 := place_cell o1 (show 1 < 12 by omega) HP1.out
      obtain ⟨m1, hm1, em1, em2⟩ := rem_nat z1a (show 0 < 3 by omega)
      have et1 : z1.tmod 3 = (m1 : Int) := by exact_mod_cast em2
      have et2 : z1 % 3 = (m1 : Int) := by exact_mod_cast em1
      clear em1 em2
      have gp4 : gp < w4.heap.size := by omega
      go_upto_if 35 with (fail)
      refine abs_code ?_
      intro W6 hW
      clear cp1
      have szW6 : w4.heap.size + 1 ≤ W6.heap.size := by rw [hW]; simp [World.setCell]
      have szW6_ := bel.size
      replace bel : Below w.heap.size w W6 := by rw [hW]; exact (bel).alloc (by first | omega | (simp [World.setCell] <;> omega)) _
      replace q : Box W6 w1.heap.size 25 #[.int .i64 gg, .int .i64 gb, .int .i64 (R : Int), .int .i64 (C : Int)] := by rw [hW]; exact q.alloc _
      replace a : Box W6 u 38 #[.int .i64 (bb : Int), .int .i64 (row : Int), .int .i64 (col : Int)] := by rw [hW]; exact a.alloc _
      have v : Box W6 w4.heap.size 43 #[.slice A4 n4 c4, .int .i64 0] := by rw [hW]; exact (Box.newAt (by simp [World.setCell]))
      replace o1 : OwnH W6 W2.heap.size w3.heap.size (some ⟨gp, 0, none⟩) 12 c1 p := by rw [hW]; exact o1.alloc _
      replace o4 : OwnBnk W6 Wc.heap.size w4.heap.size A4 n4 c4 (List.replicate n4 ⟨false, 0⟩) := by rw [hW]; exact o4.alloc _
      clear hW
      go_cut [] (fun wx => ∃ (ks : List Bnk), OwnBnk wx Wc.heap.size w4.heap.size A4 n4 c4 ks ∧ Chg Wc.heap.size w4.heap.size W6 wx ∧ rkOk R ks ∧ Stage ks bb row 0)
      case first =>
        have b00 : (0 : Int) ≤ (bb : Int) := by omega
        have b01 : (bb : Int) < (n4 : Int) := by omega
        obtain ⟨gB, op0, rw0, rfl, gB1, gB2, hfB, hc0, hc1, hz⟩ := o4.at_ b8
        clear hz
        by_cases hm : 0 < m1
        · have cp2 := place_cell o1 (show 2 < 12 by omega) HP2.out
          obtain ⟨Q, hQ, er1, er2⟩ := rem_nat z2a R0
          have N0 : ¬ ((R : Int) = 0) := by omega
          have N00 : ¬ (R = 0) := by omega
          have e25 : IntKind.i64.wrap (Q : Int) = (Q : Int) := IntWalk.i64_in _ (by omega)
          obtain ⟨q_0, q_1, q_2, q_3⟩ := q.c4
          have q_lt := q.lt
          obtain ⟨v_0, v_1⟩ := v.c2
          have v_lt := v.lt
          obtain ⟨a_0, a_1, a_2⟩ := a.c3
          have a_lt := a.lt
          go_wp2_with fail
          go_region
          go_wp2
          go_meet
          refine ⟨_, ((o4.stored rfl b8 ⟨true, (Q : Int)⟩).1).drewN 1, ((o4.stored rfl b8 ⟨true, (Q : Int)⟩).2).drewN 1, rkOk_set (rkOk_rep R0) ⟨by simp, by simp; omega⟩ (by simp), ?_⟩
          have hg : ((List.replicate n4 (⟨false, 0⟩ : Bnk)).set bb ⟨true, (Q : Int)⟩)[bb]? = some ⟨true, (Q : Int)⟩ := List.getElem?_set_self (by simpa using b8)
          by_cases hQr : Q = row
          · subst hQr
            exact .inr (.inr ⟨hg, by omega⟩)
          · exact .inl ⟨_, hg, by omega, rfl⟩
        · skip
          obtain rfl : m1 = 0 := by omega
          go_wp2_with fail
          go_meet
          exact ⟨_, o4, Chg.refl _ _ _, rkOk_rep R0, .inr (.inl ⟨0, by rw [List.getElem?_replicate, if_pos b8], by omega⟩)⟩
      case rest =>
        obtain ⟨ks, o5, C6, hk, hst⟩ := hcut
        obtain ⟨Wd, hWd⟩ : ∃ v : World, v = wc := ⟨_, rfl⟩
        subst hWd
        clear et1 et2 hm1
        clear o4
        have szWd := C6.size
        replace bel := C6.below bel (by omega)
        replace q := q.chg C6 (by omega)
        replace a := a.chg C6 (by omega)
        replace v := v.chg C6 (by omega)
        replace o1 := o1.chg C6 (by omega)
        clear C6
        go_wp2_with fail
        go_loopw [8] (fun i wr => ∃ (j : Nat) (A : Option Addr) (c l h : Nat) (ks : List Bnk), j ≤ 2 ∧ i = .int .i64 j ∧ Stage ks bb row j ∧ rkOk R ks ∧ Below w.heap.size w wr ∧ Box wr w1.heap.size 25 #[.int .i64 gg, .int .i64 gb, .int .i64 (R : Int), .int .i64 (C : Int)] ∧ Box wr u 38 #[.int .i64 (bb : Int), .int .i64 (row : Int), .int .i64 (col : Int)] ∧ Box wr w4.heap.size 43 #[.slice A n4 c, .int .i64 0] ∧ OwnBnk wr l h A n4 c ks ∧ (w4.heap.size < l ∨ h ≤ w4.heap.size) ∧ OwnH wr W2.heap.size w3.heap.size (some ⟨gp, 0, none⟩) 12 c1 p) (fun i _ => 3 - (intOf i).toNat)
        case atStart => exact ⟨0, A4, c4, _, _, ks, by omega, rfl, hst, hk, bel, q, a, v, o5, by omega, o1⟩
        case round =>
          clear hst hk bel q a v o5 o1
          obtain ⟨j, A, c, l, h, ks, hj, rfl, hst, hk, bel, q, a, v, o5, hsep, o1⟩ := hrel
          have cp3 := place_cell o1 (show 3 < 12 by omega) HP3.out
          obtain ⟨m3, hm3, em1, em2⟩ := rem_nat z3a (show 0 < 2 by omega)
          have et1 : z3.tmod 2 = (m3 : Int) := by exact_mod_cast em2
          have et2 : z3 % 2 = (m3 : Int) := by exact_mod_cast em1
          clear em1 em2
          obtain ⟨WR, hWR⟩ : ∃ x : Bool, ((m3 : Int) == 1) = x := ⟨_, rfl⟩
          have ew3 : IntKind.i64.wrap (m3 : Int) = (m3 : Int) := IntWalk.i64_in _ (by omega)
          have gpr : gp < wr.heap.size := by have := v.lt; omega
          have hlt3 : decide ((j : Int) < 3) = true := by simp; omega
          have iB := o5.recs
          obtain ⟨v_0, v_1⟩ := v.c2
          have v_lt := v.lt
          obtain ⟨a_0, a_1, a_2⟩ := a.c3
          have a_lt := a.lt
          have hS : ∀ Y : World, Below wr.heap.size wr Y → (Y.cell? ⟨w4.heap.size, 0, none⟩ = some (.slice A n4 c) ∧ Y.cell? ⟨w4.heap.size, 1, none⟩ = some (.int .i64 0) ∧ Y.cell? ⟨u, 0, none⟩ = some (.int .i64 (bb : Int)) ∧ Y.cell? ⟨u, 1, none⟩ = some (.int .i64 (row : Int)) ∧ Y.cell? ⟨u, 2, none⟩ = some (.int .i64 (col : Int)) ∧ Y.cell? ⟨gp, 3, none⟩ = some (.int .i64 z3)) :=
            fun Y hY => ⟨(hY.cell (p := ⟨w4.heap.size, 0, none⟩) v_lt).trans v_0, (hY.cell (p := ⟨w4.heap.size, 1, none⟩) v_lt).trans v_1, (hY.cell (p := ⟨u, 0, none⟩) a_lt).trans a_0, (hY.cell (p := ⟨u, 1, none⟩) a_lt).trans a_1, (hY.cell (p := ⟨u, 2, none⟩) a_lt).trans a_2, (hY.cell (p := ⟨gp, 3, none⟩) gpr).trans cp3⟩
          go_wp2_with fail
          go_cut [9] (fun s9 wx => ∃ (u9 : Nat), s9 = .pointer (some ⟨u9, 0, none⟩) ∧ wr.heap.size ≤ u9 ∧ Box wx u9 48 #[.int .i64 (needK ks bb row WR), .int .i64 (bb : Int), .int .i64 (needR ks bb row), .int .i64 (needC ks bb row col)] ∧ Below wr.heap.size wr wx)
          case first =>
            go_region_held3 (fun Y => Y.cell? ⟨w4.heap.size, 0, none⟩ = some (.slice A n4 c) ∧ Y.cell? ⟨w4.heap.size, 1, none⟩ = some (.int .i64 0) ∧ Y.cell? ⟨u, 0, none⟩ = some (.int .i64 (bb : Int)) ∧ Y.cell? ⟨u, 1, none⟩ = some (.int .i64 (row : Int)) ∧ Y.cell? ⟨u, 2, none⟩ = some (.int .i64 (col : Int)) ∧ Y.cell? ⟨gp, 3, none⟩ = some (.int .i64 z3))
              (first | (with_reducible exact hS _ (lat_d (Below.refl _ _))) | (with_reducible exact hS _ hbt1) | (with_reducible exact hS _ (lat_a hbt1)) | (with_reducible exact hS _ (lat_ad (Below.refl _ _))) | (with_reducible exact hS _ (lat_s4n hbt1 (Nat.le_refl _))) | fail)
              (first
               | (go_at_call 27; refine (iNeedOf_c A n4 c ks 0 bb row col WR _ (by first | exact iB.drewN 1 | exact Bnks.ad iB) (by omega)).mono ?_; rintro e wA ⟨rfl, bA⟩; have hbt1 : Below wr.heap.size wr wA := (by first | (with_reducible exact bel_of_dn bA) | exact below_after_alloc_d bA); (first | (have bxA : Box wA wr.heap.size 48 #[.int .i64 0, .int .i64 0, .int .i64 0, .int .i64 0] := (by with_reducible exact box_after_alloc_d bA); obtain ⟨bxA_0, bxA_1, bxA_2, bxA_3⟩ := bxA.c4; have bxAf := bxA.frozen; have bxAl := bxA.lt) | skip))
               | fail)
            all_goals
              go_wp2_with fail
              go_meet
            · exact ⟨_, rfl, hbt1.size, Box.new _ _ _, lat_a hbt1⟩
            · exact ⟨_, rfl, Nat.le_refl _, box_s4n bxA, lat_s4n hbt1 (Nat.le_refl _)⟩
          case rest =>
            obtain ⟨u9, rfl, hu9, x, bA⟩ := hcut
            obtain ⟨We, hWe⟩ : ∃ v : World, v = wc := ⟨_, rfl⟩
            subst hWe
            have x_sz := x.lt
            clear hS cp3 iB
            clear v_0 v_1 v_lt a_0 a_1 a_2 a_lt
            have szWe := bA.size
            replace bel := bel.trans (bA.mono bel.size)
            replace q := q.kept bA
            replace a := a.kept bA
            replace v := v.kept bA
            replace o1 := o1.below bA
            replace o5 := o5.below bA
            clear bA
            have v_sz := v.lt
            have HLen := Lib.hid o5.len
            have hin := open_in (b := bb) HLen.out b8
            rcases hst with ⟨r0, hg, hne, hj0⟩ | ⟨r0, hg, hj1⟩ | ⟨hg, hj2⟩
            · have HN := Lib.hid (need_1 (row := (row : Int)) (col := (col : Int)) (wr := WR) hg (open_at hg hin) (by simpa using hne))
              rw [HN.out.1, HN.out.2.1, HN.out.2.2] at x
              have HG2 := Lib.hid hg
              clear hg hin hne
              obtain ⟨q_0, q_1, q_2, q_3⟩ := q.c4
              have q_lt := q.lt
              obtain ⟨v_0, v_1⟩ := v.c2
              have v_lt := v.lt
              obtain ⟨x_0, x_1, x_2, x_3⟩ := x.c4
              have x_lt := x.lt
              go_wp2_with fail
              refine (sRankAfter_pre gg gb n4 R C bb b8 nb8 R16 HG.out HNB.out C1 R0 A c ks r0 _ o5.recs hk HG2.out).mono ?_
              rintro e w7 ⟨A7, n7, c7, rfl, o7, b7⟩
              have hn7 : n7 = n4 := by have := o7.len; have := HLen.out; simp at *; omega
              subst hn7
              clear q_0 q_1 q_2 q_3 q_lt v_0 v_1 v_lt x_0 x_1 x_2 x_3 x_lt
              have szw7 := b7.size
              replace bel := bel.trans (b7.mono bel.size)
              replace q := q.kept b7
              replace a := a.kept b7
              replace v := v.kept b7
              replace x := x.kept b7
              replace o1 := o1.below b7
              replace o5 := o5.below b7
              clear b7
              obtain ⟨v_0, v_1⟩ := v.c2
              have v_lt := v.lt
              have v_f := v.frozen
              go_wp2
              go_roundw
              case rel =>
                exact ⟨j + 1, A7, c7, _, _, _, by omega, by go_num, .inr (.inl ⟨0, List.getElem?_set_self (by have := HLen.out; omega), by omega⟩), rkOk_set hk ⟨by simp, by simp; omega⟩ (by simp), ((bel.setCell (by dsimp only; omega) _).setCell (by dsimp only; omega) _).alloc (by simp only [World.size_setCell]; omega) _, (box_s2n q (by omega)).alloc _, (box_s2n a (by omega)).alloc _, ((v.set_ 0 _).set_ 1 _).alloc _, ((o7.setCell _ _ (by dsimp only; omega)).setCell _ _ (by dsimp only; omega)).alloc _, by omega, ((o1.setCell _ _ (by dsimp only; omega)).setCell _ _ (by dsimp only; omega)).alloc _⟩
              case measure => simp [intOf]; omega
            · skip
              have HN := Lib.hid (need_0 (row := (row : Int)) (col := (col : Int)) (wr := WR) (open_at hg hin))
              rw [HN.out.1, HN.out.2.1, HN.out.2.2] at x
              have HG2 := Lib.hid hg
              clear hg hin
              obtain ⟨q_0, q_1, q_2, q_3⟩ := q.c4
              have q_lt := q.lt
              obtain ⟨v_0, v_1⟩ := v.c2
              have v_lt := v.lt
              obtain ⟨x_0, x_1, x_2, x_3⟩ := x.c4
              have x_lt := x.lt
              go_wp2_with fail
              refine (sRankAfter_act gg gb n4 R C bb b8 nb8 R16 HG.out HNB.out C1 R0 row r8 A c ks r0 _ o5.recs hk HG2.out).mono ?_
              rintro e w7 ⟨A7, n7, c7, rfl, o7, b7⟩
              have hn7 : n7 = n4 := by have := o7.len; have := HLen.out; simp at *; omega
              subst hn7
              clear q_0 q_1 q_2 q_3 q_lt v_0 v_1 v_lt x_0 x_1 x_2 x_3 x_lt
              have szw7 := b7.size
              replace bel := bel.trans (b7.mono bel.size)
              replace q := q.kept b7
              replace a := a.kept b7
              replace v := v.kept b7
              replace x := x.kept b7
              replace o1 := o1.below b7
              replace o5 := o5.below b7
              clear b7
              obtain ⟨v_0, v_1⟩ := v.c2
              have v_lt := v.lt
              have v_f := v.frozen
              go_wp2
              go_roundw
              case rel =>
                exact ⟨j + 1, A7, c7, _, _, _, by omega, by go_num, .inr (.inr ⟨List.getElem?_set_self (by have := HLen.out; omega), by omega⟩), rkOk_set hk ⟨by simp, by simp; omega⟩ (by simp), ((bel.setCell (by dsimp only; omega) _).setCell (by dsimp only; omega) _).alloc (by simp only [World.size_setCell]; omega) _, (box_s2n q (by omega)).alloc _, (box_s2n a (by omega)).alloc _, ((v.set_ 0 _).set_ 1 _).alloc _, ((o7.setCell _ _ (by dsimp only; omega)).setCell _ _ (by dsimp only; omega)).alloc _, by omega, ((o1.setCell _ _ (by dsimp only; omega)).setCell _ _ (by dsimp only; omega)).alloc _⟩
              case measure => simp [intOf]; omega
            · skip
              have HN := Lib.hid (need_2 (row := (row : Int)) (col := (col : Int)) (wr := WR) hg (open_at hg hin) (by simp))
              have HH : Hid (hitB ks bb row = true) := by
                unfold Hid hitB
                rw [rowOf_at hg (open_at hg hin)]
                simp
              have HG2 := Lib.hid hg
              clear hg hin
              have cp3 := place_cell o1 (show 3 < 12 by omega) HP3.out
              have gpe : gp < We.heap.size := by omega
              have cI : ∀ z : Later We, Calls Try.prog 28 #[.agg #[.slice A n4 c, .int .i64 0], .agg #[.int .i64 (bb : Int), .int .i64 (row : Int), .int .i64 (col : Int)]] z.w fun e w' => e = .returned (.bool true) ∧ Below z.w.heap.size z.w w' := fun z => by
                have h := iIsHit_c A n4 c ks 0 bb row col z.w (o5.recs.below z.bel) (by omega)
                rw [HH.out] at h
                exact h
              have tc : ((col : Int) == (col : Int)) = true := by simp
              have tb : ((bb : Int) == (bb : Int)) = true := by simp
              cases WR
              · rw [HN.out.1, HN.out.2.1, HN.out.2.2] at x
                simp only [Bool.false_eq_true, if_false] at x
                obtain ⟨v_0, v_1⟩ := v.c2
                have v_lt := v.lt
                obtain ⟨a_0, a_1, a_2⟩ := a.c3
                have a_lt := a.lt
                obtain ⟨x_0, x_1, x_2, x_3⟩ := x.c4
                have x_lt := x.lt
                have l0 := later_cell v_lt v_0
                have l1 := later_cell v_lt v_1
                have l2 := later_cell a_lt a_0
                have l3 := later_cell a_lt a_1
                have l4 := later_cell a_lt a_2
                have l5 := later_cell x_lt x_0
                have l6 := later_cell x_lt x_1
                have l7 := later_cell x_lt x_2
                have l8 := later_cell x_lt x_3
                have l9 := later_cell gpe cp3
                go_wp2_with fail
                refine wp_region_later (by kernel_rfl) (by kernel_rfl) ?_
                repeat (go_big_quiet_step ((go_at_call 28; exact later_call (cI _))))
                refine wpQuiet_nil ?_
                intro Z hw'
                obtain ⟨z, hw''⟩ := hw'
                have bZ := z.bel
                rw [← hw''] at bZ
                clear hw'' z l0 l1 l2 l3 l4 l5 l6 l7 l8 l9 cI
                clear v_0 v_1 v_lt a_0 a_1 a_2 a_lt x_0 x_1 x_2 x_3 x_lt
                have szZ := bZ.size
                replace bel := bel.trans (bZ.mono bel.size)
                replace q := q.kept bZ
                replace a := a.kept bZ
                replace v := v.kept bZ
                replace x := x.kept bZ
                replace o1 := o1.below bZ
                replace o5 := o5.below bZ
                clear bZ
                go_wp2
                go_ret
                exact ⟨rfl, bel⟩
              · skip
                rw [HN.out.1, HN.out.2.1, HN.out.2.2] at x
                simp only [if_true] at x
                obtain ⟨v_0, v_1⟩ := v.c2
                have v_lt := v.lt
                obtain ⟨a_0, a_1, a_2⟩ := a.c3
                have a_lt := a.lt
                obtain ⟨x_0, x_1, x_2, x_3⟩ := x.c4
                have x_lt := x.lt
                have l0 := later_cell v_lt v_0
                have l1 := later_cell v_lt v_1
                have l2 := later_cell a_lt a_0
                have l3 := later_cell a_lt a_1
                have l4 := later_cell a_lt a_2
                have l5 := later_cell x_lt x_0
                have l6 := later_cell x_lt x_1
                have l7 := later_cell x_lt x_2
                have l8 := later_cell x_lt x_3
                have l9 := later_cell gpe cp3
                go_wp2_with fail
                refine wp_region_later (by kernel_rfl) (by kernel_rfl) ?_
                repeat (go_big_quiet_step ((go_at_call 28; exact later_call (cI _))))
                refine wpQuiet_nil ?_
                intro Z hw'
                obtain ⟨z, hw''⟩ := hw'
                have bZ := z.bel
                rw [← hw''] at bZ
                clear hw'' z l0 l1 l2 l3 l4 l5 l6 l7 l8 l9 cI
                clear v_0 v_1 v_lt a_0 a_1 a_2 a_lt x_0 x_1 x_2 x_3 x_lt
                have szZ := bZ.size
                replace bel := bel.trans (bZ.mono bel.size)
                replace q := q.kept bZ
                replace a := a.kept bZ
                replace v := v.kept bZ
                replace x := x.kept bZ
                replace o1 := o1.below bZ
                replace o5 := o5.below bZ
                clear bZ
                go_wp2
                go_ret
                exact ⟨rfl, bel⟩
end Go.Proofs.Ytbapamfomfbmmaa
