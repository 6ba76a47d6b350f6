/-
  Contracts of the laws' helpers on slices of bools.
-/
import Derived.Test.YtkhbpfliobhmiaaCommon
import Derived.Test.YtkhbpfliobhmiaaFlat
namespace Go.Proofs.Ytkhbpfliobhmiaa
open Go.RowKit
set_option linter.unusedSimpArgs false
set_option linter.unusedVariables false

theorem infoBool : (Try.prog.info? 4).map (fun i => (i.zero, i.size, i.bytes)) = some (some (.bool false), 1, 1) := by kernel_rfl
theorem madeB (m : Nat) : (madeCells (Value.bool false).cells (m * 1)).toList = mapB (List.replicate m false) := by
  simp [Value.cells, toList_madeCells_one, mapB]
theorem mapB_set (bs : List Bool) (k : Nat) (x : Bool) : (mapB bs).set k (.bool x) = mapB (bs.set k x) := by simp [mapB, List.map_set]
/-- A new slice of bools, in new memory; all that was there is as it was. -/
def NewB (bs : List Bool) (w : World) (e : Ending) (w' : World) : Prop :=
  ∃ A n c, e = .returned (.slice A n c) ∧ OwnB w' w.heap.size w'.heap.size A n c bs ∧ Below w.heap.size w w'
set_option maxHeartbeats 400000 in
theorem toBoolS_h (A : Option Addr) (n c : Nat) (bs : List Bool) (w : World) (h : Bools w A n bs) (hn : n ≤ 1048576) :
    Calls Try.prog 27 #[.slice A n c] w (NewB bs w) := by
  obtain ⟨i0, hi0, hz0, hz1, hz2⟩ := info_parts infoBool
  have hl := Lib.hid h.len
  go_enter Try.func27, Try.ntmps27
  go_wp2_with (at_make; refine wpList_make_full _ rfl (.tmp 6) (.tmp 6) 39 rfl w.heap.size 4 i0 _ 1 Try.underlying39 hi0 hz0 hz1 .i64 .i64 n n n rfl rfl rfl rfl (by rw [hz2]; omega) (by unfold maxLen; omega) (Nat.le_refl _) ?_; intro w1 ho1 hg1)
  have o1 : OwnB w1 w.heap.size w1.heap.size (some ⟨w.heap.size, 0, none⟩) n n (List.replicate n false) := by
    rw [madeB] at ho1
    exact OwnG.mk' (.inl ho1)
  have b1 : Below w.heap.size w w1 := (Below.refl _ _).grown hg1 (Nat.le_refl _) (by simp)
  clear ho1 hg1
  go_loopw [4] (fun i wr => ∃ k : Nat, k ≤ n ∧ i = .int .i64 k ∧ OwnB wr w.heap.size w1.heap.size (some ⟨w.heap.size, 0, none⟩) n n (upTo bs (List.replicate n false) k) ∧ Below w.heap.size w wr) (fun i _ => n - (intOf i).toNat)
  case atStart => exact ⟨0, Nat.zero_le _, rfl, by rw [upTo_zero]; exact o1, b1⟩
  case round =>
    obtain ⟨k, hk, rfl, ok, bk⟩ := hrel
    by_cases hlt : k < n
    · obtain ⟨g, o, x, rfl, hc1, hx⟩ := (h.below bk).at_ hlt
      obtain ⟨g', o', y, hg', hc2, hy⟩ := ok.bools.at_ hlt
      injection hg' with hg'
      injection hg' with hg1' hg2'
      subst hg1' hg2'
      have hf := OwnG.frozenAt ok rfl (by omega) k
      rw [Nat.zero_add] at hc2
      have HO := Lib.hid ok
      have HB := Lib.hid bk
      clear ok bk
      go_wp2
      go_roundw
      case rel =>
        refine ⟨k + 1, by omega, by go_num, ?_, HB.out.setCell (Nat.le_refl _) _⟩
        have := (OwnG.stored HO.out rfl (by omega) k (.bool x)).1
        rw [mapB_set, upTo_set (by simp [hl.out]) hx.out] at this
        exact this
      case measure => simp [intOf]; omega
    · go_wp2
      go_ret
      rw [upTo_all (by rw [hl.out]; omega) (by simp; omega)] at ok
      have := bk.size
      refine ⟨_, _, _, rfl, OwnG.mk' ok.1, bk⟩
set_option maxHeartbeats 800000 in
theorem eqBoolS_h (A : Option Addr) (n c : Nat) (B : Option Addr) (m d : Nat) (bs : List Bool) (w : World) (h : Bools w A n bs) (h' : Bools w B m bs) (hn : n ≤ 1048576) :
    Calls Try.prog 29 #[.slice A n c, .slice B m d] w fun e w' => e = .returned (.bool true) ∧ Below w.heap.size w w' := by
  obtain rfl : n = m := h.len.symm.trans h'.len
  have hne : ((n : Int) != (n : Int)) = false := by simp
  go_enter Try.func29, Try.ntmps29
  go_wp2
  go_loopw [5] (fun i wr => ∃ k : Nat, k ≤ n ∧ i = .int .i64 k ∧ ∃ q, wr = w.drewN q) (fun i _ => n - (intOf i).toNat)
  case atStart => exact ⟨0, Nat.zero_le _, rfl, 0, rfl⟩
  case round =>
    obtain ⟨k, hk, rfl, q, rfl⟩ := hrel
    by_cases hlt : k < n
    · obtain ⟨g, o, x, rfl, hc1, hx⟩ := h.at_ hlt
      obtain ⟨g', o', y, rfl, hc2, hy⟩ := h'.at_ hlt
      obtain rfl : x = y := by have := hx.out.symm.trans hy.out; injection this
      have ht : (x != x) = false := by simp
      have i1 : (0 : Int) ≤ (k : Int) := by omega
      have i2 : (k : Int) < (n : Int) := by omega
      go_wp2
      go_quiet (fail)
      go_wp2
      go_roundw
      case rel => exact ⟨k + 1, by omega, by go_num, _, rfl⟩
      case measure => simp [intOf]; omega
    · go_wp2
      go_ret
      exact ⟨rfl, belowN (Below.refl _ _) q⟩
end Go.Proofs.Ytkhbpfliobhmiaa
