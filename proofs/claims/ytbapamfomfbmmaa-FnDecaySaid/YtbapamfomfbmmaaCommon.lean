/-
  Contracts of the small functions that nearly every law calls: the tests of a range, and the laws' own helpers on slices of integers.
-/
import Derived.Test.YtbapamfomfbmmaaProg
import Derived.Test.YtbapamfomfbmmaaKit
namespace Go.Proofs.Ytbapamfomfbmmaa
open Go.RowKit
set_option linter.unusedSimpArgs false
set_option linter.unusedVariables false

theorem infoInt : (Try.prog.info? 3).map (fun i => (i.zero, i.size, i.bytes)) = some (some (.int .i64 0), 1, 8) := by kernel_rfl

set_option maxHeartbeats 400000 in
theorem between_c (x lo hi : Int) (w : World) :
    Calls Try.prog 75 #[.int .i64 x, .int .i64 lo, .int .i64 hi] w fun e w' => e = .returned (.bool (inB x lo hi)) ∧ w = w' := by
  unfold inB
  go_enter Try.func75, Try.ntmps75
  go_wp2
  all_goals
    go_ret
    refine ⟨ret_bool ?_, rfl⟩
    simp
    try omega

set_option maxHeartbeats 400000 in
theorem in_c (x lo hi : Int) (w : World) :
    Calls Try.prog 70 #[.int .i64 x, .int .i64 lo, .int .i64 hi] w fun e w' => e = .returned (.bool (inB x lo hi)) ∧ w = w' := by
  unfold inB
  go_enter Try.func70, Try.ntmps70
  go_wp2
  all_goals
    go_ret
    refine ⟨ret_bool ?_, rfl⟩
    simp
    try omega

set_option maxHeartbeats 400000 in
theorem toIntS_c (A : Option Addr) (n c : Nat) (zs : List Int) (w : World) (h : Ints w A n zs) (hn : n ≤ 1048576) :
    Calls Try.prog 41 #[.slice A n c] w fun e w' => ∃ g, e = .returned (.slice (some ⟨g, 0, none⟩) n n) ∧ OwnI w' w.heap.size (some ⟨g, 0, none⟩) n n zs ∧ Below w.heap.size w w' := by
  obtain ⟨i0, hi0, hz0, hz1, hz2⟩ := info_parts infoInt
  go_enter Try.func41, Try.ntmps41
  go_wp2_with (at_make; refine wpList_make_full _ rfl (.tmp 6) (.tmp 6) 26 rfl w.heap.size 3 i0 _ 1 Try.underlying26 hi0 hz0 hz1 .i64 .i64 n n n rfl rfl rfl rfl (by rw [hz2]; omega) (by unfold maxLen; omega) (Nat.le_refl _) ?_; intro w1 ho1 hg1)
  have hl := h.1
  have HL := Lib.hid hl
  clear hl
  go_loopw [4] (fun i wr => ∃ k : Nat, k ≤ n ∧ i = .int .i64 k ∧ wr.ownsRow w.heap.size 3 1 (.slice (some ⟨w.heap.size, 0, none⟩) n n) n (fillI zs n k) ∧ Below w.heap.size w wr) (fun i _ => n - (intOf i).toNat)
  case atStart => exact ⟨0, Nat.zero_le _, rfl, by rw [fillI_zero]; exact ho1, (Below.refl _ _).grown hg1 (Nat.le_refl _) (by simp)⟩
  case round =>
    obtain ⟨k, hk, rfl, ho, hb⟩ := hrel
    by_cases hlt : k < n
    · obtain ⟨g, o, rfl, hgs, hc⟩ := h.2 (by omega)
      have hc1 : wr.cell? ⟨g, o + k, none⟩ = some (.int .i64 (zs.getD k 0)) := (hb.cell hgs).trans (hc k hlt)
      have hck : wr.cell? ⟨w.heap.size, k, none⟩ = (fillI zs n k)[k]? := ho.cellAt k (by omega)
      have hfz : wr.frozen? ⟨w.heap.size, k, none⟩ = false := ho.frozenAt k
      obtain ⟨u, hu⟩ : ∃ u, (fillI zs n k)[k]? = some u := ⟨_, List.getElem?_eq_getElem (by rw [fillI_len _ _ _ HL.out hk]; exact hlt)⟩
      rw [hu] at hck
      clear hc hu
      have HO := Lib.hid ho
      have HB := Lib.hid hb
      clear ho hb
      go_wp2
      go_roundw
      case rel =>
        refine ⟨k + 1, by omega, by go_num, ?_, HB.out.setCell (Nat.le_refl _) _⟩
        have := (HO.out.stored k (.int .i64 (zs.getD k 0))).1
        rw [fillI_set _ _ _ HL.out hlt] at this
        simpa using this
      case measure => simp [intOf]; omega
    · go_wp2
      go_ret
      obtain rfl : k = n := by omega
      refine ⟨w.heap.size, rfl, ?_, hb⟩
      rw [fillI_all _ _ HL.out] at ho
      exact .inl ho

/-- Two slices that read as one list: true. -/
def EqPost (w : World) (e : Ending) (w' : World) : Prop := e = .returned (.bool true) ∧ ∃ k, w' = w.drewN k
set_option maxHeartbeats 800000 in
theorem eqIntS_c (A B : Option Addr) (n c m d : Nat) (zs : List Int) (w : World) (h : Ints w A n zs) (h' : Ints w B m zs) (hn : n ≤ 1048576) :
    Calls Try.prog 43 #[.slice A n c, .slice B m d] w (EqPost w) := by
  obtain rfl : n = m := h.1.symm.trans h'.1
  have hne : ((n : Int) != (n : Int)) = false := by simp
  go_enter Try.func43, Try.ntmps43
  go_wp2
  go_loopw [5] (fun i wr => ∃ k : Nat, k ≤ n ∧ i = .int .i64 k ∧ ∃ q, wr = w.drewN q) (fun i _ => n - (intOf i).toNat)
  case atStart => exact ⟨0, Nat.zero_le _, rfl, 0, rfl⟩
  case round =>
    obtain ⟨k, hk, rfl, q, rfl⟩ := hrel
    by_cases hlt : k < n
    · obtain ⟨g, o, x, rfl, hc1, hx⟩ := h.at_ hlt
      obtain ⟨g', o', y, rfl, hc2, hy⟩ := h'.at_ hlt
      obtain rfl : x = y := by have := hx.out.symm.trans hy.out; injection this
      have ht : (x != x) = false := by simp
      have i1 : (0 : Int) ≤ (k : Int) := by omega
      have i2 : (k : Int) < (n : Int) := by omega
      go_wp2
      go_quiet (fail)
      go_wp2
      go_roundw
      case rel => exact ⟨k + 1, by omega, by go_num, _, rfl⟩
      case measure => simp [intOf]; omega
    · go_wp2
      go_ret
      exact ⟨rfl, q, rfl⟩

set_option maxHeartbeats 400000 in
theorem markIntS_c (A : Option Addr) (n c lo : Nat) (zs : List Int) (m : Int) (w : World) (h : OwnI w lo A n c zs) (hn : n ≤ 1048576) (h0 : 0 ≤ m) (hm : m ≤ 1000000000) :
    Calls Try.prog 44 #[.slice A n c, .int .i64 m] w fun e w' => e = .returned (.int .i64 (m + n)) ∧ OwnI w' lo A n c (marks m n) ∧ w.grownBy w' (blk A c) := by
  have HL := Lib.hid h.len
  go_enter Try.func44, Try.ntmps44
  go_wp2
  go_loopw [1, 5] (fun j i wr => ∃ k : Nat, k ≤ n ∧ i = .int .i64 k ∧ j = .int .i64 (m + k) ∧ OwnI wr lo A n c (halfI zs m k) ∧ w.grownBy wr (blk A c)) (fun _ i _ => n - (intOf i).toNat)
  case atStart => exact ⟨0, Nat.zero_le _, rfl, by simp, by simpa [halfI, marks] using h, World.grownBy.refl _ _⟩
  case round =>
    obtain ⟨k, hk, rfl, rfl, ho, hg⟩ := hrel
    by_cases hlt : k < n
    · obtain ⟨hc0, g, rfl, hlo, hgs⟩ := ho.form (by omega)
      have hck : wr.cell? ⟨g, k, none⟩ = some (.int .i64 ((halfI zs m k).getD k 0)) := by
        rw [OwnV.cellAt ho rfl k (by omega), mapI_get _ _ (by rw [halfI_len _ _ _ (by rw [HL.out]; omega), HL.out]; exact hlt)]
      have hfz : wr.frozen? ⟨g, k, none⟩ = false := OwnV.frozenAt ho rfl hc0 k
      have HO := Lib.hid ho
      have HC0 := Lib.hid hc0
      clear hc0
      have HG := Lib.hid hg
      clear ho hg
      go_wp2
      go_roundw
      case rel =>
        obtain ⟨s1, s2⟩ := OwnV.stored HO.out rfl HC0.out k (.int .i64 (m + k))
        rw [mapI_set, halfI_set _ _ _ (by rw [HL.out]; omega)] at s1
        exact ⟨k + 1, by omega, by go_num, by go_num, s1, HG.out.trans s2⟩
      case measure => simp [intOf]; omega
    · go_wp2
      go_ret
      obtain rfl : k = n := by omega
      have hh := halfI_all zs m
      rw [HL.out] at hh
      rw [hh] at ho
      exact ⟨rfl, ho, hg⟩

set_option maxHeartbeats 400000 in
theorem heldIntS_c (A : Option Addr) (n c : Nat) (m : Int) (w : World) (h : Ints w A n (marks m n)) (hn : n ≤ 1048576) (h0 : 0 ≤ m) (hm : m ≤ 1000000000) :
    Calls Try.prog 45 #[.slice A n c, .int .i64 m] w fun e w' => e = .returned (.int .i64 (m + n)) ∧ w = w' := by
  go_enter Try.func45, Try.ntmps45
  go_wp2
  go_loop [1, 5] (fun j i => ∃ k : Nat, k ≤ n ∧ i = .int .i64 k ∧ j = .int .i64 (m + k)) (fun _ i => n - (intOf i).toNat)
  case atStart => exact ⟨0, Nat.zero_le _, rfl, by simp⟩
  case round =>
    obtain ⟨k, hk, rfl, rfl⟩ := hrel
    by_cases hlt : k < n
    · obtain ⟨g, o, x, rfl, hc1, hx⟩ := h.at_ hlt
      obtain rfl : m + (k : Int) = x := by rw [← getD_of hx.out, marks_get _ _ _ hlt]
      have ht : ((m + (k : Int)) != (m + (k : Int))) = false := by simp
      go_wp2
      go_round
      case rel => exact ⟨k + 1, by omega, by go_num, by go_num⟩
      case measure => simp [intOf]; omega
    · go_wp2
      go_ret
      obtain rfl : k = n := by omega
      exact ⟨rfl, rfl⟩

/-- What is left of a bound behind a slice; -1 where it does not reach. -/
def szLeft (left : Int) (n : Nat) : Int := if left - n < 0 then -1 else left - n
set_option maxHeartbeats 400000 in
theorem szIntS_c (A : Option Addr) (n c : Nat) (left : Int) (w : World) (h0 : 0 ≤ left) (h1 : left ≤ 1048576) (hn : n ≤ maxLen) :
    Calls Try.prog 106 #[.slice A n c, .int .i64 left] w fun e w' => e = .returned (.int .i64 (szLeft left n)) ∧ w = w' := by
  unfold maxLen at hn
  unfold szLeft
  by_cases h : left - n < 0
  · rw [if_pos h]
    go_enter Try.func106, Try.ntmps106
    go_wp2
    go_ret
    exact ⟨rfl, rfl⟩
  · rw [if_neg h]
    go_enter Try.func106, Try.ntmps106
    go_wp2
    go_ret
    exact ⟨rfl, rfl⟩
theorem szIntS_yes (A : Option Addr) (n c : Nat) (left : Int) (w : World) (h1 : left ≤ 1048576) (hn : (n : Int) ≤ left) :
    Calls Try.prog 106 #[.slice A n c, .int .i64 left] w fun e w' => e = .returned (.int .i64 (left - n)) ∧ w = w' := by
  have h := szIntS_c A n c left w (by omega) h1 (by unfold maxLen; omega)
  rwa [show szLeft left n = left - n from by unfold szLeft; rw [if_neg (by omega)]] at h
theorem szIntS_no (A : Option Addr) (n c : Nat) (left : Int) (w : World) (h0 : 0 ≤ left) (h1 : left ≤ 1048576) (hm : n ≤ maxLen) (hn : left < n) :
    Calls Try.prog 106 #[.slice A n c, .int .i64 left] w fun e w' => e = .returned (.int .i64 (-1)) ∧ w = w' := by
  have h := szIntS_c A n c left w h0 h1 hm
  rwa [show szLeft left n = -1 from by unfold szLeft; rw [if_pos (by omega)]] at h
end Go.Proofs.Ytbapamfomfbmmaa
