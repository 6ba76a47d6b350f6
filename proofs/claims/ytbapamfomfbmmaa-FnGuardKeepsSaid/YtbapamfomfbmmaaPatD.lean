/-
  Contracts of the drawn patterns: l15Pattern, DrawPattern. The draw ends: behind the last byte the cursor's numbers do not give 1 for ever.
-/
import Derived.Test.YtbapamfomfbmmaaCyc
namespace Go.Proofs.Ytbapamfomfbmmaa
open Go.RowKit
set_option linter.unusedSimpArgs false
set_option linter.unusedVariables false

theorem Chg.fresh {lo hi lo' hi' : Nat} {a b c : World} (h : Chg lo hi a b) (k : Chg lo' hi' b c) (hl : a.heap.size ≤ lo') : Chg lo hi a c :=
  ⟨k.os.trans h.os, k.tape.trans h.tape, k.output.trans h.output, Nat.le_trans h.size k.size, fun i hi hne => (k.block i (Nat.lt_of_lt_of_le hi h.size) (by omega)).trans (h.block i hi hne)⟩
/-- A drawn pattern. -/
def PatIn (rows : Int) (most : Nat) (p : List Int) : Prop := p.length ≤ most ∧ ∀ x ∈ p, 0 ≤ x ∧ x < rows
def DrawnPat (lo g : Nat) (rows : Int) (most : Nat) (w : World) (e : Ending) (w' : World) : Prop :=
  ∃ A n c p, e = .returned (.slice A n c) ∧ OwnI w' w.heap.size A n c p ∧ PatIn rows most p ∧ Cur lo w' g ∧ Chg g (g + 1) w w'
def NewPat (w : World) (e : Ending) (w' : World) : Prop :=
  ∃ (R : Nat) (A : Option Addr) (n c : Nat) (p : List Int), 3 ≤ R ∧ R ≤ 8 ∧ e = .returned (.tuple #[.int .i64 (R : Int), .slice A n c]) ∧ OwnH w' w.heap.size w'.heap.size A n c p ∧ PatIn R 60 p ∧ Below w.heap.size w w'

def BelowAt (lo g : Nat) (A : Option Addr) (n c : Nat) (zs : List Int) (i : Nat) (h m : Int) (w : World) (e : Ending) (w' : World) : Prop :=
  ∃ (x : Int) (i' : Nat), 0 ≤ x ∧ x < m ∧ e = .returned (.int .i64 x) ∧ CurAt lo w' g A n c zs i' (nextH h) ∧ Chg g (g + 1) w w' ∧ i ≤ i' ∧ (i < n → i' = i + 1) ∧ (i = n → x = rawByte (nextH h) % m)
set_option maxHeartbeats 1000000 in
theorem l01Below_at (lo g : Nat) (A : Option Addr) (n c : Nat) (zs : List Int) (i : Nat) (h m : Int) (w : World) (k : CurAt lo w g A n c zs i h) (h0 : 0 < m) (h1 : m ≤ 256) :
    Calls Try.prog 78 #[.pointer (some ⟨g, 0, none⟩), .int .i64 m] w (BelowAt lo g A n c zs i h m w) := by
  go_enter Try.func78, Try.ntmps78
  go_wp2_with fail
  refine (l01Byte_at lo g A n c zs i h _ k).mono ?_
  rintro e w' ⟨x, i', x0, x1, rfl, k', C, j1, j2, j3⟩
  go_wp2
  go_ret
  exact ⟨_, i', Int.emod_nonneg _ (by omega), Int.emod_lt_of_pos _ h0, rfl, k', C, j1, j2, fun e => by rw [j3 e]⟩

def lenOf : Value → Nat
  | .slice _ n _ => n
  | _ => 0
def curI (w : World) (g : Nat) : Nat := match w.cell? ⟨g, 1, none⟩ with
  | some (.int _ z) => z.toNat
  | _ => 0
def curH (w : World) (g : Nat) : Int := match w.cell? ⟨g, 2, none⟩ with
  | some (.int _ z) => z
  | _ => 0
def mesP (n nn g : Nat) (v : Value) (w : World) : Nat := (n - curI w g) * 1152921504606846976 + (nn - lenOf v) * 4503599627370496 + rounds (curH w g)
theorem mes_of {lo g n c i nn : Nat} {w : World} {A : Option Addr} {zs : List Int} {h : Int} (k : CurAt lo w g A n c zs i h) (v : Value) : mesP n nn g v w = (n - i) * 1152921504606846976 + (nn - lenOf v) * 4503599627370496 + rounds h := by
  obtain ⟨-, k2, -, -, -, k6⟩ := k
  obtain ⟨-, c1, c2⟩ := k2.c3
  unfold mesP curI curH
  rw [c1, c2]
  simp
/-- A round makes the measure less. -/
theorem mes_less {n i i2 i3 nn j j3 : Nat} {h h3 : Int} (hi : i ≤ n) (h1 : i < n → i2 = i + 1) (h2 : i ≤ i2) (h3' : i2 ≤ i3) (hi3 : i3 ≤ n) (hn : nn ≤ 255) (hj : j < nn) (hc : j3 = j + 1 ∨ (j3 = j ∧ (i = n → rounds h3 < rounds h))) :
    (n - i3) * 1152921504606846976 + (nn - j3) * 4503599627370496 + rounds h3 < (n - i) * 1152921504606846976 + (nn - j) * 4503599627370496 + rounds h := by
  have a := rounds_le h
  have b := rounds_le h3
  by_cases hlt : i < n
  · have := h1 hlt
    rcases hc with e | ⟨e, _⟩ <;> omega
  · have hin : i = n := by omega
    rcases hc with e | ⟨e, q⟩
    · omega
    · have := q hin
      omega

set_option maxHeartbeats 2000000 in
theorem l15Pattern_c (lo g : Nat) (rows : Int) (most : Nat) (w : World) (k : Cur lo w g) (hr1 : 1 ≤ rows) (hr2 : rows ≤ 256) (hm : most ≤ 255) :
    Calls Try.prog 102 #[.pointer (some ⟨g, 0, none⟩), .int .i64 rows, .int .i64 (most : Int)] w (DrawnPat lo g rows most w) := by
  have klt := k.lt
  go_enter Try.func102, Try.ntmps102
  go_wp2_with fail
  refine abs_call ?_
  intro W hW
  have b0 : Below w.heap.size w W := by rw [hW]; exact (Below.refl _ _).alloc (Nat.le_refl _) _
  have szW : w.heap.size + 1 ≤ W.heap.size := by rw [hW]; simp
  have k0 := k.below b0
  clear hW k
  refine (l01Below_c lo g _ _ k0 (by omega) (by omega)).mono ?_
  rintro e w1 ⟨x1, a1, c1, -, rfl, k1, C1⟩
  have d1 := c1 (by omega)
  clear c1 k0
  obtain ⟨nn, hnn⟩ := Int.eq_ofNat_of_zero_le a1
  subst hnn
  have hnn2 : nn ≤ 255 := by omega
  go_wp2_with fail
  refine (l01Below_c lo g rows _ k1 (by omega) (by omega)).mono ?_
  rintro e w2 ⟨x2, a2, c2, -, rfl, k2, C2⟩
  have d2 := c2 (by omega)
  clear c2 k1
  have CC : Chg g (g + 1) w w2 := ((Chg.of_below b0).trans C1).trans C2
  have sz2 : W.heap.size ≤ w2.heap.size := by have := C1.size; have := C2.size; omega
  clear b0 C1 C2
  obtain ⟨A, n, c, zs, i, h, k2⟩ := k2
  go_wp2_with fail
  go_loopw [7, 9] (fun v a wr => ∃ (j : Nat) (B : Option Addr) (d : Nat) (p : List Int) (a0 : Int) (i : Nat) (h : Int), v = .slice B j d ∧ a = .int .i64 a0 ∧ 0 ≤ a0 ∧ a0 < rows ∧ j ≤ nn ∧ OwnI wr W.heap.size B j d p ∧ Hid (∀ x ∈ p, 0 ≤ x ∧ x < rows) ∧ CurAt lo wr g A n c zs i h ∧ Chg g (g + 1) w wr ∧ W.heap.size ≤ wr.heap.size) (fun v _ wr => mesP n nn g v wr)
  case atStart => exact ⟨0, _, 0, [], x2, i, h, rfl, rfl, a2, d2, Nat.zero_le _, OwnI.nil _ _ _, Lib.hid (by simp), k2, CC, sz2⟩
  case round =>
    clear k2 CC sz2 a2 d2
    obtain ⟨j, B, d, p, a0, i, h, rfl, rfl, p0, p1, hj, ok, HP, kr, Cr, szr⟩ := hrel
    by_cases hlt : j < nn
    · have hl6 : True := trivial
      go_wp2_with fail
      refine (l01Below_at lo g A n c zs i h 6 _ kr (by omega) (by omega)).mono ?_
      rintro e w3 ⟨x, i2, x0, x6, rfl, k3, C3, j1, j2, j3⟩
      replace ok := ok.chg C3 (fun q hq => by have := ok.lt q hq; omega)
      have sz3 := C3.size
      have Cr3 := Cr.trans C3
      have HJ := Lib.hid (And.intro j1 (And.intro j2 j3))
      clear j1 j2 j3 C3
      by_cases e1 : x = 1
      · subst e1
        go_wp2_with fail
        refine (l01Below_at lo g A n c zs i2 (nextH h) rows _ k3 (by omega) (by omega)).mono ?_
        rintro e w4 ⟨y, i3, y0, y1, rfl, k4, C4, u1, u2, u3⟩
        have HU := Lib.hid (And.intro u1 u2)
        have sz4 := C4.size
        clear u1 u2 u3
        go_wp2
        go_roundw
        case rel => exact ⟨j, B, d, p, y, i3, _, rfl, rfl, y0, y1, hj, ok.chg C4 (fun q hq => by have := ok.lt q hq; omega), HP, k4, Cr3.trans C4, by omega⟩
        case measure =>
          rw [mes_of kr, mes_of k4]
          refine mes_less kr.2.2.2.2.2 HJ.out.2.1 HJ.out.1 HU.out.1 k4.2.2.2.2.2 hnn2 hlt (.inr ⟨rfl, fun e => rounds_step h ?_⟩)
          have := HJ.out.2.2 e
          omega
      · by_cases e0 : x = 0
        · subst e0
          go_wp2_with fail
          refine (l01Below_at lo g A n c zs i2 (nextH h) rows _ k3 (by omega) (by omega)).mono ?_
          rintro e w4 ⟨y, i3, y0, y1, rfl, k4, C4, u1, u2, u3⟩
          have HU := Lib.hid (And.intro u1 u2)
          have sz4 := C4.size
          have Cr4 := Cr3.trans C4
          replace ok := ok.chg C4 (fun q hq => by have := ok.lt q hq; omega)
          clear u1 u2 u3 C4
          go_wp2_with (at_builtin; refine wpList_app1 rfl (.tmp 30) (.tmp 34) 26 rfl Try.underlying26 infoInt B j d W.heap.size p rfl (ok.alloc _) w4.heap.size (y) rfl (by simp) (by omega) (by simp; omega) ?_; intro B5 d5 w5 o5 g5 at5)
          go_roundw
          case rel =>
            have sz5 := g5.size
            simp at sz5
            have C5 : Chg W.heap.size w4.heap.size (w4.alloc (.cells #[.int .i64 (y)] 3)) w5 := Chg.of_grown g5 (fun q hq => ok.lt q hq)
            have ba : Below w4.heap.size w4 (w4.alloc (.cells #[.int .i64 (y)] 3)) := (Below.refl _ _).alloc (Nat.le_refl _) _
            refine ⟨j + 1, B5, d5, p ++ [y], a0, i3, _, rfl, rfl, p0, p1, by omega, o5, Lib.hid ?_, (k4.below ba).chg C5 (by omega) (by omega), (Cr4.trans (Chg.of_below ba)).fresh C5 (by omega), by omega⟩
            intro y hy
            rcases List.mem_append.1 hy with hy | hy
            · exact HP.out y hy
            · simp at hy; subst hy; exact ⟨y0, y1⟩
          case measure =>
            have sz5 := g5.size
            simp at sz5
            have C5 : Chg W.heap.size w4.heap.size (w4.alloc (.cells #[.int .i64 (y)] 3)) w5 := Chg.of_grown g5 (fun q hq => ok.lt q hq)
            have ba : Below w4.heap.size w4 (w4.alloc (.cells #[.int .i64 (y)] 3)) := (Below.refl _ _).alloc (Nat.le_refl _) _
            have k5 := (k4.below ba).chg C5 (by omega) (by omega)
            rw [mes_of kr, mes_of k5]
            exact mes_less kr.2.2.2.2.2 HJ.out.2.1 HJ.out.1 HU.out.1 k5.2.2.2.2.2 hnn2 hlt (.inl rfl)
        · by_cases e2 : x = 2
          · subst e2
            have q0 : 0 ≤ (a0 + 2).tmod rows := by rw [Int.tmod_eq_emod_of_nonneg (by omega)]; exact Int.emod_nonneg _ (by omega)
            have q1 : (a0 + 2).tmod rows < rows := by rw [Int.tmod_eq_emod_of_nonneg (by omega)]; exact Int.emod_lt_of_pos _ (by omega)
            have q2 : rows ≠ 0 := by omega
            go_wp2_with (at_builtin; refine wpList_app1 rfl (.tmp 43) (.tmp 48) 26 rfl Try.underlying26 infoInt B j d W.heap.size p rfl (ok.alloc _) w3.heap.size ((a0 + 2) % rows) rfl (by simp) (by omega) (by simp; omega) ?_; intro B5 d5 w5 o5 g5 at5)
            go_roundw
            case rel =>
              have sz5 := g5.size
              simp at sz5
              have C5 : Chg W.heap.size w3.heap.size (w3.alloc (.cells #[.int .i64 ((a0 + 2) % rows)] 3)) w5 := Chg.of_grown g5 (fun q hq => ok.lt q hq)
              have ba : Below w3.heap.size w3 (w3.alloc (.cells #[.int .i64 ((a0 + 2) % rows)] 3)) := (Below.refl _ _).alloc (Nat.le_refl _) _
              refine ⟨j + 1, B5, d5, p ++ [(a0 + 2) % rows], a0, i2, _, rfl, rfl, p0, p1, by omega, o5, Lib.hid ?_, (k3.below ba).chg C5 (by omega) (by omega), (Cr3.trans (Chg.of_below ba)).fresh C5 (by omega), by omega⟩
              intro y hy
              rcases List.mem_append.1 hy with hy | hy
              · exact HP.out y hy
              · simp at hy; subst hy; exact ⟨Int.emod_nonneg _ (by omega), Int.emod_lt_of_pos _ (by omega)⟩
            case measure =>
              have sz5 := g5.size
              simp at sz5
              have C5 : Chg W.heap.size w3.heap.size (w3.alloc (.cells #[.int .i64 ((a0 + 2) % rows)] 3)) w5 := Chg.of_grown g5 (fun q hq => ok.lt q hq)
              have ba : Below w3.heap.size w3 (w3.alloc (.cells #[.int .i64 ((a0 + 2) % rows)] 3)) := (Below.refl _ _).alloc (Nat.le_refl _) _
              have k5 := (k3.below ba).chg C5 (by omega) (by omega)
              rw [mes_of kr, mes_of k5]
              exact mes_less kr.2.2.2.2.2 HJ.out.2.1 HJ.out.1 (Nat.le_refl _) k5.2.2.2.2.2 hnn2 hlt (.inl rfl)
          · have f0 : (x == 0) = false := by simpa using e0
            have f1 : (x == 1) = false := by simpa using e1
            have f2 : (x == 2) = false := by simpa using e2
            go_wp2_with (at_builtin; refine wpList_app1 rfl (.tmp 24) (.tmp 26) 26 rfl Try.underlying26 infoInt B j d W.heap.size p rfl (ok.alloc _) w3.heap.size (a0) rfl (by simp) (by omega) (by simp; omega) ?_; intro B5 d5 w5 o5 g5 at5)
            go_roundw
            case rel =>
              have sz5 := g5.size
              simp at sz5
              have C5 : Chg W.heap.size w3.heap.size (w3.alloc (.cells #[.int .i64 (a0)] 3)) w5 := Chg.of_grown g5 (fun q hq => ok.lt q hq)
              have ba : Below w3.heap.size w3 (w3.alloc (.cells #[.int .i64 (a0)] 3)) := (Below.refl _ _).alloc (Nat.le_refl _) _
              refine ⟨j + 1, B5, d5, p ++ [a0], a0, i2, _, rfl, rfl, p0, p1, by omega, o5, Lib.hid ?_, (k3.below ba).chg C5 (by omega) (by omega), (Cr3.trans (Chg.of_below ba)).fresh C5 (by omega), by omega⟩
              intro y hy
              rcases List.mem_append.1 hy with hy | hy
              · exact HP.out y hy
              · simp at hy; subst hy; exact ⟨p0, p1⟩
            case measure =>
              have sz5 := g5.size
              simp at sz5
              have C5 : Chg W.heap.size w3.heap.size (w3.alloc (.cells #[.int .i64 (a0)] 3)) w5 := Chg.of_grown g5 (fun q hq => ok.lt q hq)
              have ba : Below w3.heap.size w3 (w3.alloc (.cells #[.int .i64 (a0)] 3)) := (Below.refl _ _).alloc (Nat.le_refl _) _
              have k5 := (k3.below ba).chg C5 (by omega) (by omega)
              rw [mes_of kr, mes_of k5]
              exact mes_less kr.2.2.2.2.2 HJ.out.2.1 HJ.out.1 (Nat.le_refl _) k5.2.2.2.2.2 hnn2 hlt (.inl rfl)
    · obtain rfl : nn = j := by omega
      go_wp2
      go_ret
      exact ⟨_, _, _, p, rfl, ok.mono (by omega), ⟨by have := ok.len; omega, HP.out⟩, ⟨_, _, _, _, _, _, kr⟩, Cr⟩
set_option maxHeartbeats 1000000 in
theorem drawPattern_c (A : Option Addr) (n c : Nat) (zs : List Int) (w : World) (hA : Bytes w A n zs) (hn : n ≤ maxLen) :
    Calls Try.prog 46 #[.slice A n c] w (NewPat w) := by
  go_enter Try.func46, Try.ntmps46
  go_wp2_with fail
  refine (l01New_c A n c zs _ hA hn).mono ?_
  rintro e w1 ⟨g, rfl, k1, b1⟩
  have szg := k1.lt
  have sz1 := b1.size
  go_wp2_with fail
  refine (l01Below_c _ g 6 _ k1 (by omega) (by omega)).mono ?_
  rintro e w2 ⟨x1, a1, c1, -, rfl, k2, C2⟩
  have d1 := c1 (by omega)
  clear c1
  have sz2 := C2.size
  have b2 : Below w.heap.size w w2 := C2.below b1 (by omega)
  obtain ⟨R, hR⟩ := Int.eq_ofNat_of_zero_le (show 0 ≤ 3 + x1 by omega)
  have hR1 : 3 ≤ R := by omega
  have hR2 : R ≤ 8 := by omega
  obtain rfl : x1 = (R : Int) - 3 := by omega
  have e3 : 3 + ((R : Int) - 3) = (R : Int) := by omega
  clear hR k1 C2 b1
  go_wp2_with fail
  refine (l15Pattern_c _ g (R : Int) 60 _ k2 (by omega) (by omega) (by omega)).mono ?_
  rintro e w3 ⟨A3, n3, c3, p, rfl, o3, hp, -, C3⟩
  go_wp2
  go_ret2
  exact ⟨R, A3, n3, c3, p, hR1, hR2, rfl, OwnH.mk' (o3.mono (by omega)), hp, C3.below b2 (by omega)⟩
end Go.Proofs.Ytbapamfomfbmmaa
