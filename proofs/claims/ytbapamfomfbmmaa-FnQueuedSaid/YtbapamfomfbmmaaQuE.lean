/-
  The draws of queues, by existence; equality of two slices of requests.
-/
import Derived.Test.YtbapamfomfbmmaaQuD
import Derived.Test.YtbapamfomfbmmaaQuM
namespace Go.Proofs.Ytbapamfomfbmmaa
open Go.RowKit
set_option linter.unusedSimpArgs false
set_option linter.unusedVariables false

def DrawnQ (lo g : Nat) (w : World) (e : Ending) (w' : World) : Prop :=
  ∃ (A : Option Addr) (n c : Nat) (rs : List Req), n ≤ 13 ∧ e = .returned (.slice A n c) ∧ OwnReq w' w.heap.size w'.heap.size A n c rs ∧ Cur lo w' g ∧ Chg g (g + 1) w w'
def DrawnLQ (lo g : Nat) (w : World) (e : Ending) (w' : World) : Prop :=
  ∃ (l : Int) (A : Option Addr) (n c : Nat) (rs : List Req), -1 ≤ l ∧ l ≤ 6 ∧ n ≤ 14 ∧ e = .returned (.tuple #[.int .i64 l, .slice A n c]) ∧ OwnReq w' w.heap.size w'.heap.size A n c rs ∧ Cur lo w' g ∧ Chg g (g + 1) w w'
def NewLQ (w : World) (e : Ending) (w' : World) : Prop :=
  ∃ (l : Int) (A : Option Addr) (n c : Nat) (rs : List Req), n ≤ 14 ∧ e = .returned (.tuple #[.int .i64 l, .slice A n c]) ∧ OwnReq w' w.heap.size w'.heap.size A n c rs ∧ Below w.heap.size w w'
def NewLQR (w : World) (e : Ending) (w' : World) : Prop :=
  ∃ (l : Int) (A : Option Addr) (n c : Nat) (rs : List Req) (id ten line : Int) (wrt : Bool) (dat att : Int), n ≤ 14 ∧ e = .returned (.tuple #[.int .i64 l, .slice A n c, .agg #[.int .i64 id, .int .i64 ten, .int .i64 line, .bool wrt, .int .i64 dat, .int .i64 att]]) ∧ OwnReq w' w.heap.size w'.heap.size A n c rs ∧ Below w.heap.size w w'

set_option maxRecDepth 100000 in
set_option maxHeartbeats 4000000 in
theorem l19Queue_c (lo g : Nat) (lines : Int) (w : World) (k : Cur lo w g) (h1 : lines ≤ 9223372036854775807) (h0 : -9223372036854775808 ≤ lines) :
    Calls Try.prog 136 #[.pointer (some ⟨g, 0, none⟩), .int .i64 lines] w (DrawnQ lo g w) := by
  have klt := k.lt
  go_enter Try.func136, Try.ntmps136
  go_wp2_with fail
  refine abs_call ?_
  intro W hW
  have b0 : Below w.heap.size w W := by rw [hW]; exact (Below.refl _ _).alloc (Nat.le_refl _) _
  have k0 := k.below b0
  clear hW k
  refine (l01Below_c lo g 10 _ k0 (by omega) (by omega)).mono ?_
  rintro e w1 ⟨x, a1, c1, -, rfl, k1, C1⟩
  have d1 := c1 (by omega)
  obtain ⟨nn, hnn⟩ := Int.eq_ofNat_of_zero_le a1
  subst hnn
  have hn9 : nn ≤ 9 := by omega
  clear c1 k0
  go_wp2_with fail
  refine (l01Once_c lo g 10 _ k1 (by omega) (by omega)).mono ?_
  rintro e w2 ⟨b, rfl, k2, C2⟩
  have CC : Chg g (g + 1) w w2 := ((Chg.of_below b0).trans C1).trans C2
  clear C1 C2 k1 b0
  cases b
  · go_wp2_with fail
    go_loopw [5, 7] (fun q i wr => ∃ (j : Nat) (A : Option Addr) (m c : Nat) (rs : List Req), j ≤ nn ∧ i = .int .i64 j ∧ q = .slice A m c ∧ m ≤ 13 ∧ OwnReq wr w.heap.size wr.heap.size A m c rs ∧ Cur lo wr g ∧ Chg g (g + 1) w wr) (fun _ i _ => nn - (intOf i).toNat)
    case atStart => exact ⟨0, _, 0, 0, [], Nat.zero_le _, rfl, rfl, by omega, OwnReq.nil _ _ _ _, k2, CC⟩
    case round =>
      clear k2 CC
      obtain ⟨j, A, m, c, rs, hj, rfl, rfl, hm, o, kr, Cr⟩ := hrel
      by_cases hlt : j < nn
      · go_wp2_with fail
        refine (l19Req_c lo g lines _ kr h1 h0).mono ?_
        rintro e w3 ⟨id, ten, line, wrt, dat, att, rfl, k3, C3⟩
        replace o := o.chg C3 (by omega)
        have sz3 := C3.size
        have szr := Cr.size
        go_wp2_with fail
        refine (sQueueAdd_c lines A m c rs id ten line wrt dat att _ o.recs (by omega) o.1.cap).mono ?_
        rintro e w4 ⟨A4, n4, c4, rfl, o4, b4⟩
        have hl4 : n4 ≤ 13 := by have := o4.len; have := addQ_len13 lines rs ⟨id, ten, line, wrt, dat, att⟩; have := o.len; omega
        have Cr4 := (Cr.trans C3).trans (Chg.of_below b4)
        go_wp2
        go_roundw
        case rel => exact ⟨j + 1, A4, n4, c4, _, by omega, by go_num, rfl, hl4, o4.mono (by omega) (Nat.le_refl _), k3.below b4, Cr4⟩
        case measure => simp [intOf]; omega
      · go_wp2
        go_ret
        exact ⟨A, m, c, rs, hm, rfl, o, kr, Cr⟩
  · obtain ⟨n20, hn20⟩ : ∃ n20 : Nat, n20 = 20 := ⟨20, rfl⟩
    have e20 : (20 : Int) = (n20 : Int) := by omega
    go_wp2_with fail
    rw [e20]
    have hl20 : n20 ≤ 20 := by omega
    clear e20 hn20
    go_loopw [5, 7] (fun q i wr => ∃ (j : Nat) (A : Option Addr) (m c : Nat) (rs : List Req), j ≤ n20 ∧ i = .int .i64 j ∧ q = .slice A m c ∧ m ≤ 13 ∧ OwnReq wr w.heap.size wr.heap.size A m c rs ∧ Cur lo wr g ∧ Chg g (g + 1) w wr) (fun _ i _ => n20 - (intOf i).toNat)
    case atStart => exact ⟨0, _, 0, 0, [], Nat.zero_le _, rfl, rfl, by omega, OwnReq.nil _ _ _ _, k2, CC⟩
    case round =>
      clear k2 CC
      obtain ⟨j, A, m, c, rs, hj, rfl, rfl, hm, o, kr, Cr⟩ := hrel
      by_cases hlt : j < n20
      · go_wp2_with fail
        refine (l19Req_c lo g lines _ kr h1 h0).mono ?_
        rintro e w3 ⟨id, ten, line, wrt, dat, att, rfl, k3, C3⟩
        replace o := o.chg C3 (by omega)
        have sz3 := C3.size
        have szr := Cr.size
        go_wp2_with fail
        refine (sQueueAdd_c lines A m c rs id ten line wrt dat att _ o.recs (by omega) o.1.cap).mono ?_
        rintro e w4 ⟨A4, n4, c4, rfl, o4, b4⟩
        have hl4 : n4 ≤ 13 := by have := o4.len; have := addQ_len13 lines rs ⟨id, ten, line, wrt, dat, att⟩; have := o.len; omega
        have Cr4 := (Cr.trans C3).trans (Chg.of_below b4)
        go_wp2
        go_roundw
        case rel => exact ⟨j + 1, A4, n4, c4, _, by omega, by go_num, rfl, hl4, o4.mono (by omega) (Nat.le_refl _), k3.below b4, Cr4⟩
        case measure => simp [intOf]; omega
      · go_wp2
        go_ret
        exact ⟨A, m, c, rs, hm, rfl, o, kr, Cr⟩
set_option maxRecDepth 100000 in
set_option maxHeartbeats 8000000 in
theorem l19Any_c (lo g : Nat) (w : World) (k : Cur lo w g) :
    Calls Try.prog 85 #[.pointer (some ⟨g, 0, none⟩)] w (DrawnLQ lo g w) := by
  have klt := k.lt
  go_enter Try.func85, Try.ntmps85
  go_wp2_with fail
  refine (l01Below_c lo g 6 _ k (by omega) (by omega)).mono ?_
  rintro e w1 ⟨x1, a1, c1, -, rfl, k1, C1⟩
  have d1 := c1 (by omega)
  obtain ⟨lines, hl⟩ : ∃ l : Int, l = 1 + x1 := ⟨_, rfl⟩
  obtain rfl : x1 = lines - 1 := by omega
  have e1 : 1 + (lines - 1) = lines := by omega
  clear c1 k hl
  go_wp2_with fail
  refine (l19Queue_c lo g lines _ k1 (by omega) (by omega)).mono ?_
  rintro e w2 ⟨A, n, c, rs, hn, rfl, o, k2, C2⟩
  have CC := C1.trans C2
  have sz1 := C1.size
  have sz2 := C2.size
  replace o := o.mono (show w.heap.size ≤ w1.heap.size from sz1) (Nat.le_refl _)
  clear C1 C2 k1
  go_wp2_with fail
  refine (l01Below_c lo g n _ k2 (by omega) (by omega)).mono ?_
  rintro e w3 ⟨x3, a3, c3, -, rfl, k3, C3⟩
  obtain ⟨k, hk⟩ := Int.eq_ofNat_of_zero_le a3
  subst hk
  replace o := o.chg C3 (by omega)
  replace CC := CC.trans C3
  have sz3 := C3.size
  clear C3 k2
  go_wp2_with fail
  refine (l01Below_c lo g 12 _ k3 (by omega) (by omega)).mono ?_
  rintro e w4 ⟨x, a4, c4, -, rfl, k4, C4⟩
  have d4 := c4 (by omega)
  replace o := o.chg C4 (by omega)
  replace CC := CC.trans C4
  have sz4 := C4.size
  clear C4 k3 c4
  by_cases e0 : x = 0
  · subst e0
    by_cases hn0 : 0 < n
    · have hk : k < n := by have := c3 (by omega); omega
      have t0 : decide ((0 : Int) < (n : Int)) = true := by simpa using hn0
      go_wp2_with fail
      refine (l19AnyReq_c lo g lines _ k4 (by omega) (by omega)).mono ?_
      rintro e w5 ⟨id, ten, line, wrt, dat, att, rfl, k5, C5⟩
      replace o := o.chg C5 (by omega)
      replace CC := CC.trans C5
      have sz5 := C5.size
      obtain ⟨g', y0, y1, y2, y3, y4, y5, eA, gl, gh, hf, z0, z1, z2, z3, z4, z5, hr⟩ := o.at_ hk
      subst eA
      have i0 : (0 : Int) ≤ (k : Int) := by omega
      have i1 : (k : Int) < (n : Int) := by omega
      clear C5 k4 c3 hn0
      go_wp2_with fail
      refine abs_body ?_
      intro W9 hW
      have o9 : OwnReq W9 w.heap.size w2.heap.size (some ⟨g', 0, none⟩) n c (rs.set k ⟨id, ten, line, wrt, dat, att⟩) := by rw [hW]; exact (o.stored rfl hk ⟨id, ten, line, wrt, dat, att⟩).1
      have C9 : Chg w.heap.size w2.heap.size w5 W9 := by rw [hW]; exact (o.stored rfl hk ⟨id, ten, line, wrt, dat, att⟩).2
      have s9 := C9.size
      have k9 := k5.chg C9 (by omega) (by omega)
      have CC9 : Chg g (g + 1) w W9 := by rw [hW]; exact (((((CC.setCell (.inr (by dsimp only; omega)) _).setCell (.inr (by dsimp only; omega)) _).setCell (.inr (by dsimp only; omega)) _).setCell (.inr (by dsimp only; omega)) _).setCell (.inr (by dsimp only; omega)) _).setCell (.inr (by dsimp only; omega)) _
      clear hW
      go_ret2
      exact ⟨lines, _, n, c, _, by omega, by omega, by omega, rfl, o9.mono (Nat.le_refl _) (by omega), k9, CC9⟩
    · have t0 : decide ((0 : Int) < (n : Int)) = false := by simpa using hn0
      go_wp2
      go_ret2
      exact ⟨lines, A, n, c, rs, by omega, by omega, by omega, rfl, o.mono (Nat.le_refl _) (by omega), k4, CC⟩
  have f0 : (x == 0) = false := by simpa using e0
  by_cases e1' : x = 1
  · subst e1'
    go_wp2_with fail
    refine (l19AnyReq_c lo g lines _ k4 (by omega) (by omega)).mono ?_
    rintro e w5 ⟨id, ten, line, wrt, dat, att, rfl, k5, C5⟩
    replace o := o.chg C5 (by omega)
    replace CC := CC.trans C5
    have sz5 := C5.size
    clear C5 k4 c3
    have oR : RowReq w5 w.heap.size A n c rs := o.1
    go_wp2_with (at_builtin; refine wpList_appReq1 rfl (.tmp 32) (.tmp 36) 53 rfl Try.underlying53 infoReq A n c w.heap.size rs rfl (oR.alloc _) w5.heap.size ⟨id, ten, line, wrt, dat, att⟩ rfl (Box.new _ _ _) (by omega) (by simp; omega) ?_; intro A6 c6 w6 o6 g6 at6)
    have ba : Below w5.heap.size w5 (w5.alloc (.cells #[.int .i64 id, .int .i64 ten, .int .i64 line, .bool wrt, .int .i64 dat, .int .i64 att] 58)) := (Below.refl _ _).alloc (Nat.le_refl _) _
    have C6 : Chg w.heap.size w5.heap.size (w5.alloc (.cells #[.int .i64 id, .int .i64 ten, .int .i64 line, .bool wrt, .int .i64 dat, .int .i64 att] 58)) w6 := Chg.of_grown g6 (fun q hq => oR.lt q hq)
    have s6 := C6.size
    simp at s6
    have k6 := (k5.below ba).chg C6 (by omega) (by omega)
    have CC6 : Chg g (g + 1) w w6 := ⟨C6.os.trans (CC.trans (Chg.of_below ba)).os, C6.tape.trans (CC.trans (Chg.of_below ba)).tape, C6.output.trans (CC.trans (Chg.of_below ba)).output, by omega, fun i hi hne => (C6.block i (by simp; omega) (by omega)).trans ((CC.trans (Chg.of_below ba)).block i hi hne)⟩
    go_ret2
    exact ⟨lines, A6, n + 1, c6, _, by omega, by omega, by omega, rfl, o6.own, k6, CC6⟩
  have f1 : (x == 1) = false := by simpa using e1'
  by_cases e2 : x = 2
  · subst e2
    go_wp2_with fail
    refine abs_call ?_
    intro W hW
    have bW : Below w4.heap.size w4 W := by rw [hW]; exact (Below.refl _ _).alloc (Nat.le_refl _) _
    have hI : Ints W (some ⟨w4.heap.size, 0, none⟩) 3 [0, -1, 1] := by rw [hW]; exact Ints.lit _ [0, -1, 1] _
    clear hW
    refine (l01PickInt_c lo g _ 3 3 _ _ (k4.below bW) hI (by omega) (by omega) (by intro g' o e; injection e with e; injection e; omega)).mono ?_
    rintro e w5 ⟨y, hy, rfl, k5, C5⟩
    have sW := bW.size
    replace o := (o.below bW).chg C5 (by omega)
    replace CC := (CC.trans (Chg.of_below bW)).trans C5
    have sz5 := C5.size
    have hy2 : -1 ≤ y ∧ y ≤ 1 := by simp at hy; omega
    go_wp2
    go_ret2
    exact ⟨y, A, n, c, rs, by omega, by omega, by omega, rfl, o.mono (Nat.le_refl _) (by omega), k5, CC⟩
  have f2 : (x == 2) = false := by simpa using e2
  go_wp2
  go_ret2
  exact ⟨lines, A, n, c, rs, by omega, by omega, by omega, rfl, o.mono (Nat.le_refl _) (by omega), k4, CC⟩
set_option maxHeartbeats 1000000 in
theorem drawQueueOk_c (A : Option Addr) (n c : Nat) (zs : List Int) (w : World) (hA : Bytes w A n zs) (hn : n ≤ maxLen) :
    Calls Try.prog 30 #[.slice A n c] w (NewLQ w) := by
  go_enter Try.func30, Try.ntmps30
  go_wp2_with fail
  refine (l01New_c A n c zs _ hA hn).mono ?_
  rintro e w1 ⟨g, rfl, k1, b1⟩
  have szg := k1.lt
  have sz1 := b1.size
  go_wp2_with fail
  refine (l19Any_c _ g _ k1).mono ?_
  rintro e w2 ⟨l, A2, n2, c2, rs, -, -, hn2, rfl, o2, -, C2⟩
  go_wp2
  go_ret2
  exact ⟨l, A2, n2, c2, rs, hn2, rfl, o2.mono sz1 (Nat.le_refl _), C2.below b1 (by omega)⟩
set_option maxHeartbeats 1000000 in
theorem drawQueueAdd_c (A : Option Addr) (n c : Nat) (zs : List Int) (w : World) (hA : Bytes w A n zs) (hn : n ≤ maxLen) :
    Calls Try.prog 32 #[.slice A n c] w (NewLQR w) := by
  go_enter Try.func32, Try.ntmps32
  go_wp2_with fail
  refine abs_call ?_
  intro W hW
  have b0 : Below w.heap.size w W := by rw [hW]; exact (Below.refl _ _).alloc (Nat.le_refl _) _
  have r : Box W w.heap.size 58 #[.int .i64 0, .int .i64 0, .int .i64 0, .bool false, .int .i64 0, .int .i64 0] := by rw [hW]; exact Box.new _ _ _
  clear hW
  refine (l01New_c A n c zs _ (hA.below b0) hn).mono ?_
  rintro e w1 ⟨g, rfl, k1, b1⟩
  have szg := k1.lt
  have r_l0 := r.lt
  have sz1 := b1.size
  have b01 : Below w.heap.size w w1 := b0.trans (b1.mono b0.size)
  replace r := r.kept b1
  clear b1
  go_wp2_with fail
  refine (l19Any_c _ g _ k1).mono ?_
  rintro e w2 ⟨l, A2, n2, c2, rs, hl1, hl2, hn2, rfl, o2, k2, C2⟩
  replace r := r.chg C2 (by omega)
  have b2 : Below w.heap.size w w2 := C2.below b01 (by omega)
  have sz2 := C2.size
  clear C2 k1
  go_wp2_with fail
  refine (l19AnyReq_c _ g l _ k2 (by omega) (by omega)).mono ?_
  rintro e w3 ⟨id, ten, line, wrt, dat, att, rfl, k3, C3⟩
  replace r := r.chg C3 (by omega)
  replace o2 := o2.chg C3 (by omega)
  have b3 : Below w.heap.size w w3 := C3.below b2 (by omega)
  have sz3 := C3.size
  obtain ⟨r0, r1, r2, r3, r4, r5⟩ := r.c6
  have rf := r.frozen
  have rl := r.lt
  go_wp2
  refine abs_body ?_
  intro W9 hW
  have r9 : Box W9 w.heap.size 58 #[.int .i64 id, .int .i64 ten, .int .i64 line, .bool wrt, .int .i64 dat, .int .i64 att] := by rw [hW]; exact (((((r.set_ 0 _).set_ 1 _).set_ 2 _).set_ 3 _).set_ 4 _).set_ 5 _
  have o9 : OwnReq W9 w1.heap.size w2.heap.size A2 n2 c2 rs := by rw [hW]; exact (((((o2.setCell _ _ (.inl (by dsimp only; omega))).setCell _ _ (.inl (by dsimp only; omega))).setCell _ _ (.inl (by dsimp only; omega))).setCell _ _ (.inl (by dsimp only; omega))).setCell _ _ (.inl (by dsimp only; omega))).setCell _ _ (.inl (by dsimp only; omega))
  have b9 : Below w.heap.size w W9 := by rw [hW]; exact (((((b3.setCell (by dsimp only; omega) _).setCell (by dsimp only; omega) _).setCell (by dsimp only; omega) _).setCell (by dsimp only; omega) _).setCell (by dsimp only; omega) _).setCell (by dsimp only; omega) _
  have s9 : w3.heap.size ≤ W9.heap.size := by rw [hW]; simp [World.setCell]
  clear hW
  obtain ⟨z0, z1, z2, z3, z4, z5⟩ := r9.c6
  refine bodyPost_ret (v := .tuple #[.int .i64 l, .slice A2 n2 c2, .agg #[.int .i64 id, .int .i64 ten, .int .i64 line, .bool wrt, .int .i64 dat, .int .i64 att]]) (by simp [results, Try.results32, go_sem, z0, z1, z2, z3, z4, z5]) rfl ?_
  exact ⟨l, A2, n2, c2, rs, id, ten, line, wrt, dat, att, hn2, rfl, o9.mono (by omega) (by omega), b9⟩
set_option maxHeartbeats 1000000 in
theorem sameRequests_c (A : Option Addr) (n c : Nat) (B : Option Addr) (m d : Nat) (rs : List Req) (w : World) (h : Reqs w A n rs) (h' : Reqs w B m rs) (hn : n ≤ 1048576) :
    Calls Try.prog 35 #[.slice A n c, .slice B m d] w fun e w' => e = .returned (.bool true) ∧ Below w.heap.size w w' := by
  obtain rfl : n = m := h.len.symm.trans h'.len
  have hne : ((n : Int) != (n : Int)) = false := by simp
  go_enter Try.func35, Try.ntmps35
  go_wp2
  go_loopw [5] (fun i wr => ∃ k : Nat, k ≤ n ∧ i = .int .i64 k ∧ ∃ q, wr = w.drewN q) (fun i _ => n - (intOf i).toNat)
  case atStart => exact ⟨0, Nat.zero_le _, rfl, 0, rfl⟩
  case round =>
    obtain ⟨k, hk, rfl, q, rfl⟩ := hrel
    by_cases hlt : k < n
    · obtain ⟨g, o, id, ten, line, wrt, dat, att, rfl, hg, h0, h1, h2, h3, h4, h5, hr⟩ := h.at_ hlt
      obtain ⟨g', o', y0, y1, y2, y3, y4, y5, rfl, hg', z0, z1, z2, z3, z4, z5, hr'⟩ := h'.at_ hlt
      have er := hr.out.symm.trans hr'.out
      injection er with er
      injection er with e0 e1 e2 e3 e4 e5
      subst e0 e1 e2 e3 e4 e5
      have i1 : (0 : Int) ≤ (k : Int) := by omega
      have i2 : (k : Int) < (n : Int) := by omega
      go_wp2
      go_quiet (fail)
      go_wp2
      go_roundw
      case rel => exact ⟨k + 1, by omega, by go_num, _, rfl⟩
      case measure => simp [intOf]; omega
    · go_wp2
      go_ret
      exact ⟨rfl, belowN (Below.refl _ _) _⟩
end Go.Proofs.Ytbapamfomfbmmaa
