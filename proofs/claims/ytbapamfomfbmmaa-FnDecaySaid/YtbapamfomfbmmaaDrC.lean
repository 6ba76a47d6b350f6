/-
  Time that passes over an array of one's own; drawn places.
-/
import Derived.Test.YtbapamfomfbmmaaDrB
import Derived.Test.YtbapamfomfbmmaaSenE
import Derived.Deep.RegionHeld3
import Derived.Deep.DeepCutAuto
namespace Go.Proofs.Ytbapamfomfbmmaa
open Go.RowKit
set_option linter.unusedSimpArgs false
set_option linter.unusedVariables false

theorem age_min {y t : Int} (h : 0 ≤ y ∧ y ≤ 100000) (t0 : 0 ≤ t) : ageF (min (y + t) 100000) = true := inB_mk (by omega) (by omega)
set_option maxRecDepth 100000 in
set_option maxHeartbeats 4000000 in
theorem l14Time_c (t : Int) (pB lo hi : Nat) (A : Option Addr) (n c : Nat) (B : Option Addr) (m d : Nat) (D : Option Addr) (p q : Nat) (vs : List CV) (ag ht : List Int) (w : World)
    (P : Box w pB 87 #[.slice A n c, .slice B m d, .slice D p q]) (H : OwnA w lo hi A n c vs B m d ag D p q ht) (hp : pB < lo ∨ hi ≤ pB) (hm : m ≤ 1048576) (t0 : 0 ≤ t) (t1 : t ≤ 100000) (hca : ag.all ageF = true) :
    Calls Try.prog 157 #[.pointer (some ⟨pB, 0, none⟩), .int .i64 t] w fun e w' => e = .returned (.tuple #[]) ∧ ∃ ag', OwnA w' lo hi A n c vs B m d ag' D p q ht ∧ ag'.all ageF = true ∧ Chg lo hi w w' := by
  obtain ⟨l1, h1, l2, h2, l3, h3, HC, o2, o3, ⟨a1, a2⟩, ⟨a3, a4⟩, ⟨a5, a6⟩, s1, s2, s3⟩ := H
  go_enter Try.func157, Try.ntmps157
  go_wp2_with fail
  go_loopw [4] (fun i wr => ∃ (j : Nat) (zs : List Int), j ≤ m ∧ i = .int .i64 j ∧ OwnH wr l2 h2 B m d zs ∧ zs.all ageF = true ∧ Chg l2 h2 w wr) (fun i _ => m - (intOf i).toNat)
  case atStart => exact ⟨0, ag, Nat.zero_le _, rfl, o2, hca, Chg.refl _ _ _⟩
  case round =>
    obtain ⟨j, zs, hj, rfl, o, hz, CJ⟩ := hrel
    have HZ := Lib.hid hz
    clear hz
    have szj := CJ.size
    have x := P.chg CJ (by omega)
    obtain ⟨x0, x1, x2⟩ := x.c3
    have xlt := x.lt
    by_cases hlt : j < m
    · obtain ⟨g, y, rfl, hc, hf, hy, g1, g2⟩ := o.at_ hlt
      have hyb : 0 ≤ y ∧ y ≤ 100000 := inB_t (show ageF y = true from all_at HZ.out hy.out)
      obtain ⟨hy0, hy1⟩ := hyb
      have HS : Hid ((zs.set j (min (y + t) 100000)).all ageF = true) := set_all HZ.out (age_min ⟨hy0, hy1⟩ t0)
      have i0 : (0 : Int) ≤ (j : Int) := by omega
      have i1 : (j : Int) < (m : Int) := by omega
      have eY : IntKind.i64.wrap (y + t) = y + t := IntWalk.i64_in _ (by omega)
      clear hy
      go_wp2_with fail
      go_region
      go_wp2
      all_goals
        go_roundw
        case rel =>
          refine ⟨j + 1, zs.set j (min (y + t) 100000), by omega, by go_num, ?_, HS.out, ?_⟩
          · rw [show (min (y + t) 100000 : Int) = (if 100000 < y + t then 100000 else y + t) by split <;> omega]
            exact ((o.stored rfl hlt _).1).drewN 1
          · exact (CJ.setCell (.inl ⟨by dsimp only; omega, by dsimp only; omega⟩) _).drewN 1
        case measure => simp [intOf]; omega
    · obtain rfl : m = j := by omega
      have CC9 : Chg lo hi w wr := CJ.mono a3 a4
      have HC9 := HC.chg CJ (by omega)
      have o39 := o3.chg CJ (by omega)
      go_wp2
      refine bodyPost_end (results_none rfl _ _ _) rfl ?_
      exact ⟨rfl, zs, ⟨l1, h1, l2, h2, l3, h3, HC9, o, o39, ⟨a1, a2⟩, ⟨a3, a4⟩, ⟨a5, a6⟩, s1, s2, s3⟩, HZ.out, CC9⟩
theorem belA_of_d {w w' : World} (C : Below w.drew.heap.size w.drew w') : Below w.heap.size w w' := ⟨C.os, C.tape, C.output, C.size, C.block⟩
/-- A drawn place. -/
def DrawnAddr (lo g nb R C : Nat) (w : World) (e : Ending) (w' : World) : Prop :=
  ∃ b r c : Nat, b < nb ∧ r < R ∧ c < C ∧ e = .returned (.agg #[.int .i64 (b : Int), .int .i64 (r : Int), .int .i64 (c : Int)]) ∧ Cur lo w' g ∧ Chg g (g + 1) w w'
set_option maxRecDepth 100000 in
set_option maxHeartbeats 8000000 in
theorem l03Addr_c (lo g : Nat) (gg gb : Int) (nb R C : Nat) (w : World) (k : Cur lo w g) (hnb : bankCnt gg gb R C = (nb : Int)) (n0 : 0 < nb) (n8 : nb ≤ 8) (R0 : 0 < R) (R16 : R ≤ 16) (C0 : 0 < C) (C8 : C ≤ 8) :
    Calls Try.prog 156 #[.pointer (some ⟨g, 0, none⟩), .agg #[.int .i64 gg, .int .i64 gb, .int .i64 (R : Int), .int .i64 (C : Int)]] w (DrawnAddr lo g nb R C w) := by
  have klt := k.lt
  have CC := Chg.refl g (g + 1) w
  go_enter Try.func156, Try.ntmps156
  go_wp2_with fail
  refine abs_code ?_
  intro W hW
  have szW : w.heap.size + 1 + 1 ≤ W.heap.size := by rw [hW]; simp [World.setCell]
  have szWc := CC.size
  replace k : Cur lo W g := by rw [hW]; exact (Cur.below ((Cur.below (k) ((Below.refl _ _).alloc (Nat.le_refl _) _))) ((Below.refl _ _).alloc (Nat.le_refl _) _))
  replace CC : Chg g (g + 1) w W := by rw [hW]; exact ((((CC).trans (Chg.of_below ((Below.refl _ _).alloc (Nat.le_refl _) _)))).trans (Chg.of_below ((Below.refl _ _).alloc (Nat.le_refl _) _)))
  have q : Box W w.heap.size 25 #[.int .i64 gg, .int .i64 gb, .int .i64 (R : Int), .int .i64 (C : Int)] := by rw [hW]; exact ((Box.newAt (by simp [World.setCell]))).alloc _
  have a : Box W (w.heap.size + 1) 38 #[.int .i64 0, .int .i64 0, .int .i64 0] := by rw [hW]; exact (Box.newAt (by simp [World.setCell]))
  clear hW
  obtain ⟨q_0, q_1, q_2, q_3⟩ := q.c4
  have q_lt := q.lt
  have cB : ∀ Y, Calls Try.prog 21 #[.agg #[.int .i64 gg, .int .i64 gb, .int .i64 (R : Int), .int .i64 (C : Int)]] Y fun e w' => e = .returned (.int .i64 (nb : Int)) ∧ Below Y.heap.size Y w' := by intro Y; rw [← hnb]; exact sBankCount_c gg gb R C Y
  have cL1 : ∀ Y, Cur lo Y g → Calls Try.prog 78 #[.pointer (some ⟨g, 0, none⟩), .int .i64 (nb : Int)] Y (Drawn lo g nb Y) := fun Y hY => l01Below_c lo g nb Y hY (by omega) (by omega)
  have cL2 : ∀ Y, Cur lo Y g → Calls Try.prog 78 #[.pointer (some ⟨g, 0, none⟩), .int .i64 (R : Int)] Y (Drawn lo g R Y) := fun Y hY => l01Below_c lo g R Y hY (by omega) (by omega)
  have cL3 : ∀ Y, Cur lo Y g → Calls Try.prog 78 #[.pointer (some ⟨g, 0, none⟩), .int .i64 (C : Int)] Y (Drawn lo g C Y) := fun Y hY => l01Below_c lo g C Y hY (by omega) (by omega)
  have hS : ∀ Y : World, Chg g (g + 1) W Y → (Y.cell? ⟨w.heap.size, 0, none⟩ = some (.int .i64 gg) ∧ Y.cell? ⟨w.heap.size, 1, none⟩ = some (.int .i64 gb) ∧ Y.cell? ⟨w.heap.size, 2, none⟩ = some (.int .i64 (R : Int)) ∧ Y.cell? ⟨w.heap.size, 3, none⟩ = some (.int .i64 (C : Int))) := fun Y hY => by
    obtain ⟨y0, y1, y2, y3⟩ := (q.chg hY (by omega)).c4
    exact ⟨y0, y1, y2, y3⟩
  have hS2 : ∀ (Y Z : World) (v1 v2 v3 : Value), Chg g (g + 1) W Y → Z = ((Y.setCell ⟨w.heap.size + 1, 0, none⟩ v1).setCell ⟨w.heap.size + 1, 1, none⟩ v2).setCell ⟨w.heap.size + 1, 2, none⟩ v3 → (Z.cell? ⟨w.heap.size, 0, none⟩ = some (.int .i64 gg) ∧ Z.cell? ⟨w.heap.size, 1, none⟩ = some (.int .i64 gb) ∧ Z.cell? ⟨w.heap.size, 2, none⟩ = some (.int .i64 (R : Int)) ∧ Z.cell? ⟨w.heap.size, 3, none⟩ = some (.int .i64 (C : Int))) := fun Y Z v1 v2 v3 hY hZ => by
    obtain ⟨y0, y1, y2, y3⟩ := ((((q.chg hY (by omega)).far (p := ⟨w.heap.size + 1, 0, none⟩) (by dsimp only; omega) v1).far (p := ⟨w.heap.size + 1, 1, none⟩) (by dsimp only; omega) v2).far (p := ⟨w.heap.size + 1, 2, none⟩) (by dsimp only; omega) v3).c4
    rw [hZ]
    exact ⟨y0, y1, y2, y3⟩
  go_region_held3 (fun Y => Y.cell? ⟨w.heap.size, 0, none⟩ = some (.int .i64 gg) ∧ Y.cell? ⟨w.heap.size, 1, none⟩ = some (.int .i64 gb) ∧ Y.cell? ⟨w.heap.size, 2, none⟩ = some (.int .i64 (R : Int)) ∧ Y.cell? ⟨w.heap.size, 3, none⟩ = some (.int .i64 (C : Int)))
    (first | (with_reducible exact hS _ (Chg.refl _ _ _)) | (with_reducible exact hS _ ((Chg.refl _ _ _).drewN 1)) | (with_reducible exact hS _ CA) | (with_reducible exact hS _ CB) | (with_reducible exact hS _ CX) | (with_reducible exact hS _ CD) | (with_reducible exact hS2 _ _ _ _ _ CD rfl) | fail)
    (first
     | (go_at_call 21; (with_reducible refine (cB _).mono ?_); rintro e wA ⟨rfl, bA⟩; have bA' : Below W.heap.size W wA := (by first | with_reducible exact bA | with_reducible exact belA_of_d bA); have CA : Chg g (g + 1) W wA := Chg.of_below bA'; have kA := k.below bA'; have aA := a.kept bA'; have szA := bA'.size; clear bA bA')
     | (go_at_call 78; (with_reducible refine (cL1 _ kA).mono ?_); rintro e wB ⟨x1, xa1, xc1, -, rfl, kB, C1⟩; have xd1 := xc1 (by omega); have CB : Chg g (g + 1) W wB := CA.trans C1; have aB := aA.chg C1 (by omega); have szB := C1.size)
     | (go_at_call 78; (with_reducible refine (cL2 _ kB).mono ?_); rintro e wX ⟨x2, xa2, xc2, -, rfl, kX, C2⟩; have xd2 := xc2 (by omega); have CX : Chg g (g + 1) W wX := CB.trans C2; have aX := aB.chg C2 (by omega); have szX := C2.size)
     | (go_at_call 78; (with_reducible refine (cL3 _ kX).mono ?_); rintro e wD ⟨x3, xa3, xc3, -, rfl, kD, C3⟩; have xd3 := xc3 (by omega); have CD : Chg g (g + 1) W wD := CX.trans C3; have aD := aX.chg C3 (by omega); have szD := C3.size; obtain ⟨aD0, aD1, aD2⟩ := aD.c3; have aDf := aD.frozen; have aDl := aD.lt)
     | fail)
  go_wp2
  refine abs_body ?_
  intro W9 hW
  have a9 : Box W9 (w.heap.size + 1) 38 #[.int .i64 x1, .int .i64 x2, .int .i64 x3] := by rw [hW]; exact ((aD.set_ 0 _).set_ 1 _).set_ 2 _
  have C9 : Chg g (g + 1) w W9 := by rw [hW]; exact (((CC.trans CD).setCell (.inr (by dsimp only; omega)) _).setCell (.inr (by dsimp only; omega)) _).setCell (.inr (by dsimp only; omega)) _
  have D9 : Chg (w.heap.size + 1) (w.heap.size + 2) wD W9 := by rw [hW]; exact (((Chg.refl _ _ _).setCell (.inl (by dsimp only; omega)) _).setCell (.inl (by dsimp only; omega)) _).setCell (.inl (by dsimp only; omega)) _
  have k9 := kD.chg D9 (by omega) (by omega)
  clear hW
  obtain ⟨z0, z1, z2⟩ := a9.c3
  obtain ⟨b, rfl⟩ := Int.eq_ofNat_of_zero_le xa1
  obtain ⟨r, rfl⟩ := Int.eq_ofNat_of_zero_le xa2
  obtain ⟨c, rfl⟩ := Int.eq_ofNat_of_zero_le xa3
  refine bodyPost_ret (v := .agg #[.int .i64 (b : Int), .int .i64 (r : Int), .int .i64 (c : Int)]) (by simp [results, Try.results156, go_sem, z0, z1, z2]) rfl ?_
  exact ⟨b, r, c, by omega, by omega, by omega, rfl, k9, C9⟩
end Go.Proofs.Ytbapamfomfbmmaa
