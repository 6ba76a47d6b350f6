/-
  Contracts of the cursor over the bytes of a draw: l01New, l01Byte, l01Below, DrawPlaces; and of the law's bound on its input.
-/
import Derived.Test.YtbapamfomfbmmaaKit3
import Derived.Test.YtbapamfomfbmmaaUni
import Derived.Test.YtbapamfomfbmmaaOpen
import Derived.Test.YtbapamfomfbmmaaLater
namespace Go.Proofs.Ytbapamfomfbmmaa
open Go.RowKit
set_option linter.unusedSimpArgs false
set_option linter.unusedVariables false

section
variable {w w' : World} {A : Option Addr} {n : Nat} {zs : List Int}
theorem Bytes.keep (h : Bytes w A n zs) (hs : w.heap.size ≤ w'.heap.size) (hk : ∀ g o, A = some ⟨g, o, none⟩ → 0 < n → g < w.heap.size → w'.heap[g]? = w.heap[g]?) : Bytes w' A n zs := by
  refine ⟨h.1, h.2.1, fun hn => ?_⟩
  obtain ⟨g, o, e, hg, hc⟩ := h.2.2 hn
  exact ⟨g, o, e, by omega, fun i hi => (World.cell?_of_block (w := w) (hk g o e hn hg)).trans (hc i hi)⟩
theorem Bytes.below (h : Bytes w A n zs) (hb : Below w.heap.size w w') : Bytes w' A n zs := h.keep hb.size fun g o _ _ hg => hb.block g hg
theorem Bytes.at_ (h : Bytes w A n zs) {k : Nat} (hk : k < n) :
    ∃ g o x, A = some ⟨g, o, none⟩ ∧ g < w.heap.size ∧ w.cell? ⟨g, o + k, none⟩ = some (.int .u8 x) ∧ 0 ≤ x ∧ x ≤ 255 := by
  obtain ⟨g, o, e, hg, hc⟩ := h.2.2 (by omega)
  refine ⟨g, o, _, e, hg, hc k hk, ?_⟩
  have hm : zs.getD k 0 ∈ zs := by
    rw [List.getD_eq_getElem?_getD, List.getElem?_eq_getElem (by have := h.1; omega)]
    exact List.getElem_mem _
  exact h.2.1 _ hm
theorem Bytes.lt (h : Bytes w A n zs) : ∀ g o, A = some ⟨g, o, none⟩ → 0 < n → g < w.heap.size := by
  intro g o e hn
  obtain ⟨g', o', e', hg, _⟩ := h.2.2 hn
  rw [e] at e'
  injection e' with e'
  injection e' with e1
  omega
end

set_option maxHeartbeats 1000000 in
theorem big_c (A : Option Addr) (n c : Nat) (w : World) (hn : n ≤ maxLen) :
    Calls Try.prog 14 #[.slice A n c] w fun e w' => e = .returned (.bool (decide (1048576 < n))) ∧ w = w' := by
  unfold maxLen at hn
  go_enter Try.func14, Try.ntmps14
  go_wp2
  go_ret
  exact ⟨ret_bool (by simp; omega), rfl⟩

/-- The cursor's block, its bytes in memory older than lo. -/
def CurAt (lo : Nat) (w : World) (g : Nat) (A : Option Addr) (n c : Nat) (zs : List Int) (i : Nat) (h : Int) : Prop :=
  lo ≤ g ∧ Box w g 162 #[.slice A n c, .int .i64 i, .int .i64 h] ∧ Bytes w A n zs ∧ n ≤ maxLen ∧ (∀ g' o, A = some ⟨g', o, none⟩ → 0 < n → g' < lo) ∧ i ≤ n
def Cur (lo : Nat) (w : World) (g : Nat) : Prop := ∃ A n c zs i h, CurAt lo w g A n c zs i h
section
variable {lo g n c i : Nat} {w w' : World} {A : Option Addr} {zs : List Int} {h : Int}
theorem CurAt.keep (k : CurAt lo w g A n c zs i h) (hs : w.heap.size ≤ w'.heap.size) (hg : w'.heap[g]? = w.heap[g]?) (hl : ∀ j, j < lo → j < w.heap.size → w'.heap[j]? = w.heap[j]?) : CurAt lo w' g A n c zs i h := by
  obtain ⟨k1, k2, k3, k4, k5, k6⟩ := k
  exact ⟨k1, hg.trans k2, k3.keep hs (fun g' o e hn hlt => hl g' (k5 g' o e hn) hlt), k4, k5, k6⟩
theorem CurAt.below (k : CurAt lo w g A n c zs i h) (hb : Below w.heap.size w w') : CurAt lo w' g A n c zs i h := k.keep hb.size (hb.block g k.2.1.lt) (fun j _ hj => hb.block j hj)
theorem CurAt.chg {lo' hi' : Nat} (k : CurAt lo w g A n c zs i h) (hc : Chg lo' hi' w w') (h1 : g < lo' ∨ hi' ≤ g) (h2 : lo ≤ lo') : CurAt lo w' g A n c zs i h :=
  k.keep hc.size (hc.block g k.2.1.lt h1) (fun j hj hjs => hc.block j hjs (by omega))
theorem Cur.below (k : Cur lo w g) (hb : Below w.heap.size w w') : Cur lo w' g := by
  obtain ⟨A, n, c, zs, i, h, k⟩ := k
  exact ⟨A, n, c, zs, i, h, k.below hb⟩
theorem Cur.chg {lo' hi' : Nat} (k : Cur lo w g) (hc : Chg lo' hi' w w') (h1 : g < lo' ∨ hi' ≤ g) (h2 : lo ≤ lo') : Cur lo w' g := by
  obtain ⟨A, n, c, zs, i, h, k⟩ := k
  exact ⟨A, n, c, zs, i, h, k.chg hc h1 h2⟩
theorem Cur.lt (k : Cur lo w g) : lo ≤ g ∧ g < w.heap.size := by
  obtain ⟨A, n, c, zs, i, h, k⟩ := k
  exact ⟨k.1, k.2.1.lt⟩
end

/-- A new cursor. -/
def NewCur (w : World) (e : Ending) (w' : World) : Prop := ∃ g, e = .returned (.pointer (some ⟨g, 0, none⟩)) ∧ Cur w.heap.size w' g ∧ Below w.heap.size w w'

theorem newCur_mk {A : Option Addr} {n c : Nat} {zs : List Int} {w : World} (hA : Bytes w A n zs) (hn : n ≤ maxLen) (z : Int) :
    NewCur w (.returned (.pointer (some ⟨w.heap.size, 0, none⟩))) (w.alloc (.cells #[.slice A n c, .int .i64 0, .int .i64 z] 162)) := by
  have b : Below w.heap.size w (w.alloc (.cells #[.slice A n c, .int .i64 0, .int .i64 z] 162)) := (Below.refl _ _).alloc (Nat.le_refl _) _
  exact ⟨_, rfl, ⟨A, n, c, zs, 0, z, Nat.le_refl _, Box.new w _ _, hA.below b, hn, hA.lt, Nat.zero_le _⟩, b⟩

set_option maxHeartbeats 1000000 in
theorem l01New_c (A : Option Addr) (n c : Nat) (zs : List Int) (w : World) (hA : Bytes w A n zs) (hn : n ≤ maxLen) :
    Calls Try.prog 68 #[.slice A n c] w (NewCur w) := by
  have hm := hn
  unfold maxLen at hm
  go_enter Try.func68, Try.ntmps68
  go_wp2
  go_loop [3, 4] (fun h i => ∃ (z : Int) (k : Nat), k ≤ n ∧ i = .int .i64 k ∧ h = .int .i64 z) (fun _ i => n - (intOf i).toNat)
  case atStart => exact ⟨_, 0, Nat.zero_le _, rfl, rfl⟩
  case round =>
    obtain ⟨z, k, hk, rfl, rfl⟩ := hrel
    by_cases hlt : k < n
    · obtain ⟨g, o, x, rfl, hg, hc, x0, x1⟩ := hA.at_ hlt
      by_cases h4 : (k : Int) < 4000
      · go_wp2
        go_round
        case rel => exact ⟨_, k + 1, by omega, by go_num, rfl⟩
        case measure => simp [intOf]; omega
      · go_wp2
        go_ret
        exact newCur_mk hA hn z
    · go_wp2
      go_ret
      exact newCur_mk hA hn z

theorem and255 (x : Int) : bits .and .i64 x 255 = x % 256 := by
  unfold bits
  have h1 : (BitVec.ofInt IntKind.i64.bits 255).toNat = 255 := by decide
  have h2 : (BitVec.ofInt IntKind.i64.bits x).toNat = (x % 18446744073709551616).toNat := by rw [BitVec.toNat_ofInt]; rfl
  have h3 : (BitVec.ofInt IntKind.i64.bits x &&& BitVec.ofInt IntKind.i64.bits 255).toNat = (x % 18446744073709551616).toNat % 256 := by
    rw [BitVec.toNat_and, h1, h2]
    exact Nat.and_two_pow_sub_one_eq_mod _ 8
  show IntKind.i64.wrap ((BitVec.ofInt IntKind.i64.bits x &&& BitVec.ofInt IntKind.i64.bits 255).toNat : Int) = x % 256
  rw [h3]
  have hb : ((x % 18446744073709551616).toNat % 256 : Nat) < 256 := Nat.mod_lt _ (by omega)
  rw [IntWalk.i64_in _ (by omega)]
  omega
/-- The cursor's next state. -/
def nextH (h : Int) : Int := wrap64 (wrap64 (h * 6364136223846793005) + 1442695040888963407)
/-- The byte that a state gives by itself. -/
def rawByte (H : Int) : Int := bits .xor .i64 (H / 8589934592) (H / 35184372088832) % 256
/-- A byte has been drawn. -/
def ByteAt (lo g : Nat) (A : Option Addr) (n c : Nat) (zs : List Int) (i : Nat) (h : Int) (w : World) (e : Ending) (w' : World) : Prop :=
  ∃ (x : Int) (i' : Nat), 0 ≤ x ∧ x ≤ 255 ∧ e = .returned (.int .i64 x) ∧ CurAt lo w' g A n c zs i' (nextH h) ∧ Chg g (g + 1) w w' ∧ i ≤ i' ∧ (i < n → i' = i + 1) ∧ (i = n → x = rawByte (nextH h))

set_option maxHeartbeats 1000000 in
theorem l01Byte_at (lo g : Nat) (A : Option Addr) (n c : Nat) (zs : List Int) (i : Nat) (h : Int) (w : World) (k : CurAt lo w g A n c zs i h) :
    Calls Try.prog 132 #[.pointer (some ⟨g, 0, none⟩)] w (ByteAt lo g A n c zs i h w) := by
  obtain ⟨k1, k2, k3, k4, k5, k6⟩ := k
  have k4' := k4
  unfold maxLen at k4'
  obtain ⟨c0, c1, c2⟩ := k2.c3
  have cf := k2.frozen
  have clt := k2.lt
  by_cases hlt : i < n
  · obtain ⟨g', o, x, rfl, hg, hc, x0, x1⟩ := k3.at_ hlt
    have hgl := k5 g' o rfl (by omega)
    have hne : g' ≠ g := by omega
    go_enter Try.func132, Try.ntmps132
    go_wp2
    refine abs_code ?_
    intro W1 hW
    generalize hH : wrap64 (wrap64 (h * 6364136223846793005) + 1442695040888963407) = H at hW ⊢
    have HH := Lib.hid hH
    clear hH
    have p1 : Box W1 g 162 #[.slice (some ⟨g', o, none⟩) n c, .int .i64 i, .int .i64 H] := by rw [hW]; exact k2.set_ 2 _
    have C1 : Chg g (g + 1) w W1 := by rw [hW]; exact (Chg.refl _ _ _).setCell (.inl ⟨by simp, by simp⟩) _
    have hc1 : W1.cell? ⟨g', o + i, none⟩ = some (.int .u8 x) := (World.cell?_of_block (w := w) (C1.block g' hg (by omega))).trans hc
    have k31 : Bytes W1 (some ⟨g', o, none⟩) n zs := k3.keep C1.size (fun g2 o2 e2 _ h2 => C1.block g2 h2 (by have := k5 g2 o2 e2 (by omega); omega))
    clear hW c0 c1 c2 cf clt hc
    obtain ⟨c0, c1, c2⟩ := p1.c3
    have cf := p1.frozen
    have clt := p1.lt
    have i0 : (0 : Int) ≤ (i : Int) := by omega
    have i1 : (i : Int) < (n : Int) := by omega
    have e255 := and255
    go_quiet (fail)
    go_wp2
    go_quiet (fail)
    go_wp2
    go_quiet (fail)
    go_wp2
    refine abs_body ?_
    intro W9 hW
    have p9 : Box W9 g 162 #[.slice (some ⟨g', o, none⟩) n c, .int .i64 ((i + 1 : Nat) : Int), .int .i64 H] := by rw [hW]; exact p1.set_ 1 (.int .i64 ((i + 1 : Nat) : Int))
    have C9 : Chg g (g + 1) w W9 := by rw [hW]; exact C1.trans (Chg.drewN ((Chg.refl _ _ _).setCell (.inl ⟨by simp, by simp⟩) _) _)
    clear hW
    go_ret
    refine ⟨_, i + 1, ?_, ?_, rfl, ⟨k1, ?_, ?_, k4, k5, by omega⟩, C9, by omega, by omega, by omega⟩
    · omega
    · omega
    · have e : nextH h = H := HH.out
      rw [e]; exact p9
    · exact k3.keep C9.size (fun g2 o2 e2 _ h2 => C9.block g2 h2 (by have := k5 g2 o2 e2 (by omega); omega))
  · obtain rfl : n = i := by omega
    have nlt : decide ((n : Int) < (n : Int)) = false := by simp
    go_enter Try.func132, Try.ntmps132
    go_wp2
    refine abs_code ?_
    intro W1 hW
    generalize hH : wrap64 (wrap64 (h * 6364136223846793005) + 1442695040888963407) = H at hW ⊢
    have HH := Lib.hid hH
    clear hH
    have p1 : Box W1 g 162 #[.slice A n c, .int .i64 n, .int .i64 H] := by rw [hW]; exact k2.set_ 2 _
    have C1 : Chg g (g + 1) w W1 := by rw [hW]; exact (Chg.refl _ _ _).setCell (.inl ⟨by simp, by simp⟩) _
    clear hW c0 c1 c2 cf clt
    obtain ⟨c0, c1, c2⟩ := p1.c3
    have cf := p1.frozen
    have clt := p1.lt
    have e255 := and255
    go_quiet (fail)
    go_wp2
    go_quiet (fail)
    go_wp2
    refine abs_body ?_
    intro W9 hW
    have p9 : Box W9 g 162 #[.slice A n c, .int .i64 n, .int .i64 H] := by rw [hW]; exact p1
    have C9 : Chg g (g + 1) w W9 := by rw [hW]; exact (C1.drewN _).drewN _
    clear hW
    go_ret
    have e : nextH h = H := HH.out
    refine ⟨_, n, ?_, ?_, rfl, ⟨k1, ?_, ?_, k4, k5, by omega⟩, C9, by omega, by omega, fun _ => ?_⟩
    · omega
    · omega
    · rw [e]; exact p9
    · exact k3.keep C9.size (fun g2 o2 e2 hn2 h2 => C9.block g2 h2 (by have := k5 g2 o2 e2 hn2; omega))
    · rw [e]; rfl

/-- A number has been drawn from the cursor. -/
def Drawn (lo g : Nat) (n : Int) (w : World) (e : Ending) (w' : World) : Prop :=
  ∃ x : Int, 0 ≤ x ∧ (0 < n → x < n) ∧ (n ≤ 0 → x = 0) ∧ e = .returned (.int .i64 x) ∧ Cur lo w' g ∧ Chg g (g + 1) w w'
theorem l01Byte_c (lo g : Nat) (w : World) (k : Cur lo w g) :
    Calls Try.prog 132 #[.pointer (some ⟨g, 0, none⟩)] w (Drawn lo g 256 w) := by
  obtain ⟨A, n, c, zs, i, h, k⟩ := k
  refine (l01Byte_at lo g A n c zs i h w k).mono ?_
  rintro e w' ⟨x, i', x0, x1, he, k', C, _⟩
  exact ⟨x, x0, by omega, by omega, he, ⟨_, _, _, _, _, _, k'⟩, C⟩

set_option maxHeartbeats 1000000 in
theorem l01Below_c (lo g : Nat) (n : Int) (w : World) (k : Cur lo w g) (hn : n ≤ 9223372036854775807) (hn' : -9223372036854775808 ≤ n) :
    Calls Try.prog 78 #[.pointer (some ⟨g, 0, none⟩), .int .i64 n] w (Drawn lo g n w) := by
  by_cases h0 : n ≤ 0
  · go_enter Try.func78, Try.ntmps78
    go_wp2
    go_ret
    exact ⟨0, by omega, by omega, by omega, rfl, k, Chg.refl _ _ _⟩
  · have h0' : 0 < n := by omega
    by_cases h1 : n ≤ 256
    · go_enter Try.func78, Try.ntmps78
      go_wp2_with (go_at_call 132; refine (l01Byte_c lo g _ k).mono ?_; rintro e w' ⟨x, x0, x1, x2, rfl, k', C⟩)
      go_ret
      exact ⟨_, Int.emod_nonneg _ (by omega), fun _ => Int.emod_lt_of_pos _ h0', by omega, rfl, k', C⟩
    · go_enter Try.func78, Try.ntmps78
      go_wp2_with fail
      refine (l01Byte_c lo g _ k).mono ?_
      rintro e w1 ⟨x, x0, x1, x2, rfl, k1, C1⟩
      have x1' := x1 (by omega)
      clear x1 x2
      go_wp2_with fail
      refine (l01Byte_c lo g _ k1).mono ?_
      rintro e w2 ⟨y, y0, y1, y2, rfl, k2, C2⟩
      have y1' := y1 (by omega)
      clear y1 y2
      go_wp2_with fail
      refine (l01Byte_c lo g _ k2).mono ?_
      rintro e w3 ⟨z, z0, z1, z2, rfl, k3, C3⟩
      have z1' := z1 (by omega)
      clear z1 z2
      go_wp2_with fail
      refine (l01Byte_c lo g _ k3).mono ?_
      rintro e w4 ⟨u, u0, u1, u2, rfl, k4, C4⟩
      have u1' := u1 (by omega)
      clear u1 u2
      go_wp2
      go_ret
      exact ⟨_, Int.emod_nonneg _ (by omega), fun _ => Int.emod_lt_of_pos _ h0', by omega, rfl, k4, ((C1.trans C2).trans C3).trans C4⟩

/-- Twelve places below 10000. -/
def Places (p : List Int) : Prop := p.length = 12 ∧ ∀ x ∈ p, 0 ≤ x ∧ x < 10000
theorem Places.at_ {p : List Int} (h : Places p) {k : Nat} (hk : k < 12) : ∃ x, p[k]? = some x ∧ 0 ≤ x ∧ x < 10000 := by
  have hl : k < p.length := by rw [h.1]; exact hk
  exact ⟨p[k], List.getElem?_eq_getElem hl, h.2 _ (List.getElem_mem hl)⟩
def NewPlaces (w : World) (e : Ending) (w' : World) : Prop := ∃ p, Places p ∧ NewL p w e w'

set_option maxHeartbeats 1000000 in
theorem drawPlaces_c (A : Option Addr) (n c : Nat) (zs : List Int) (w : World) (hA : Bytes w A n zs) (hn : n ≤ maxLen) :
    Calls Try.prog 20 #[.slice A n c] w (NewPlaces w) := by
  go_enter Try.func20, Try.ntmps20
  go_wp2_with fail
  refine (l01New_c A n c zs _ hA hn).mono ?_
  rintro e w1 ⟨g, rfl, k1, b1⟩
  have szg := k1.lt
  go_wp2_with fail
  refine abs_code ?_
  intro W hW
  have bW : Below w1.heap.size w1 W := by rw [hW]; exact (Below.refl _ _).alloc (Nat.le_refl _) _
  have szW := bW.size
  have kW := k1.below bW
  have bel : Below w.heap.size w W := b1.trans (bW.mono b1.size)
  clear hW
  go_loopw [4, 5] (fun v i wr => ∃ (k : Nat) (B : Option Addr) (d : Nat) (p : List Int), k ≤ 12 ∧ i = .int .i64 k ∧ v = .slice B k d ∧ OwnI wr W.heap.size B k d p ∧ (∀ x ∈ p, 0 ≤ x ∧ x < 10000) ∧ Cur w.heap.size wr g ∧ Below w.heap.size w wr ∧ W.heap.size ≤ wr.heap.size) (fun _ i _ => 12 - (intOf i).toNat)
  case atStart => exact ⟨0, _, 0, [], Nat.zero_le _, rfl, rfl, OwnI.nil _ _ _, by simp, kW, bel, Nat.le_refl _⟩
  case round =>
    obtain ⟨k, B, d, p, hk, rfl, rfl, ok, hp, kr, br, szr⟩ := hrel
    have HP := Lib.hid hp
    clear hp
    by_cases hlt : k < 12
    · go_wp2_with (first | (go_at_call 78; refine (l01Below_c w.heap.size g 10000 _ kr (by omega) (by omega)).mono ?_; rintro e w2 ⟨x, x0, x1, x2, rfl, k2, C2⟩; replace ok := ok.chg C2 (fun j hj => by have := ok.lt j hj; omega); have sz2 := C2.size; have br2 := C2.below br (by omega); clear kr) | (at_builtin; refine wpList_app1 rfl (.tmp 13) (.tmp 16) 26 rfl Try.underlying26 infoInt B k d W.heap.size p rfl (ok.alloc _) w2.heap.size x rfl (by simp) (by omega) (by simp; omega) ?_; intro B3 d3 w3 o3 g3 at3))
      go_roundw
      case rel =>
        have sz3 := g3.size
        simp at sz3
        have C3 : Chg W.heap.size w2.heap.size (w2.alloc (.cells #[.int .i64 x] 3)) w3 := Chg.of_grown g3 (fun j hj => ok.lt j hj)
        have ba : Below w2.heap.size w2 (w2.alloc (.cells #[.int .i64 x] 3)) := (Below.refl _ _).alloc (Nat.le_refl _) _
        refine ⟨k + 1, B3, d3, p ++ [x], by omega, by go_num, rfl, o3, ?_, (k2.below ba).chg C3 (by omega) (by omega), C3.below (br2.trans (ba.mono br2.size)) (by omega), by omega⟩
        intro y hy
        rcases List.mem_append.1 hy with h | h
        · exact HP.out y h
        · simp at h; subst h; exact ⟨x0, x1 (by omega)⟩
      case measure => simp [intOf]; omega
    · obtain rfl : k = 12 := by omega
      go_wp2
      go_ret
      exact ⟨p, ⟨ok.len, HP.out⟩, _, _, _, rfl, OwnH.mk' (ok.mono (by have := bel.size; omega)), br⟩
/-- The first four places, as cells. -/
theorem places_at {p : List Int} {w : World} {lo hi n c : Nat} {A : Option Addr} (h : Places p) (o : OwnH w lo hi A n c p) :
    ∃ g, (A = some ⟨g, 0, none⟩ ∧ n = 12 ∧ lo ≤ g ∧ g < hi) ∧ ∃ p0 p1 p2 p3 : Int, w.cell? ⟨g, 0, none⟩ = some (.int .i64 p0) ∧ w.cell? ⟨g, 1, none⟩ = some (.int .i64 p1) ∧ w.cell? ⟨g, 2, none⟩ = some (.int .i64 p2) ∧ w.cell? ⟨g, 3, none⟩ = some (.int .i64 p3) ∧
      (0 ≤ p0 ∧ p0 < 10000) ∧ (0 ≤ p1 ∧ p1 < 10000) ∧ (0 ≤ p2 ∧ p2 < 10000) ∧ (0 ≤ p3 ∧ p3 < 10000) := by
  have hn : n = 12 := by rw [← o.len]; exact h.1
  subst hn
  have at_ : ∀ k, k < 12 → ∃ g x, A = some ⟨g, 0, none⟩ ∧ w.cell? ⟨g, k, none⟩ = some (.int .i64 x) ∧ (0 ≤ x ∧ x < 10000) ∧ lo ≤ g ∧ g < hi := by
    intro k hk
    obtain ⟨g, x, e, hc, _, hx, h1, h2⟩ := o.at_ hk
    obtain ⟨y, ey, hy⟩ := h.at_ hk
    obtain rfl : y = x := by have := ey.symm.trans hx.out; injection this
    exact ⟨g, y, e, hc, hy, h1, h2⟩
  obtain ⟨g, p0, e0, c0, b0, l1, l2⟩ := at_ 0 (by omega)
  obtain ⟨g1, p1, e1, c1, b1, -, -⟩ := at_ 1 (by omega)
  obtain ⟨g2, p2, e2, c2, b2, -, -⟩ := at_ 2 (by omega)
  obtain ⟨g3, p3, e3, c3, b3, -, -⟩ := at_ 3 (by omega)
  subst e0
  obtain rfl : g = g1 := by injection e1 with e1; injection e1 with e1
  obtain rfl : g = g2 := by injection e2 with e2; injection e2 with e2
  obtain rfl : g = g3 := by injection e3 with e3; injection e3 with e3
  exact ⟨g, ⟨rfl, rfl, l1, l2⟩, p0, p1, p2, p3, c0, c1, c2, c3, b0, b1, b2, b3⟩
end Go.Proofs.Ytbapamfomfbmmaa
