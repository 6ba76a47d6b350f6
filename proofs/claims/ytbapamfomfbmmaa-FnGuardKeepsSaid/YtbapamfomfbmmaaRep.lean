/-
  Contracts of bits.Mul64, bits.Mul (one by a small number) and slices.Repeat of a slice with one element.
-/
import Derived.Test.YtbapamfomfbmmaaCommon
import Derived.Test.YtbapamfomfbmmaaKit3
import Derived.Test.YtbapamfomfbmmaaUni
import Derived.Laws.CopyOwn
import Derived.Laws.Bits64b
import Derived.Deep.RegionLaw
import Derived.Deep.DeepCutAuto
namespace Go.Proofs.Ytbapamfomfbmmaa
open Go.RowKit
set_option linter.unusedSimpArgs false
set_option linter.unusedVariables false

theorem mask_small : ∀ k, k ≤ 16 → bits .and .u64 ((k : Nat) : Int) 4294967295 = (k : Int) := by decide +kernel
set_option maxHeartbeats 1000000 in
theorem mul64_c (k : Nat) (hk : k ≤ 16) (w : World) :
    Calls Try.prog 180 #[.int .u64 1, .int .u64 (k : Int)] w fun e w' => e = .returned (.tuple #[.int .u64 0, .int .u64 (k : Int)]) ∧ w = w' := by
  have a0 : bits .and .u64 0 4294967295 = 0 := mask_small 0 (by omega)
  have a1 : bits .and .u64 1 4294967295 = 1 := mask_small 1 (by omega)
  have a2 := mask_small k hk
  have a3 : (k : Int) / 4294967296 = 0 := by omega
  have a4 : IntKind.u64.wrap (k : Int) = (k : Int) := by rw [IntKind.wrap_u64]; omega
  have a5 : (1 : Int) / 4294967296 = 0 := by decide
  have a6 : (0 : Int) / 4294967296 = 0 := by decide
  go_enter Try.func180, Try.ntmps180
  go_wp2
  go_ret2
  exact ⟨by simp [a0, a1, a2, a3, a4, a5, a6], rfl⟩
set_option maxHeartbeats 1000000 in
theorem mul_c (k : Nat) (hk : k ≤ 16) (w : World) :
    Calls Try.prog 171 #[.int .u64 1, .int .u64 (k : Int)] w fun e w' => e = .returned (.tuple #[.int .u64 0, .int .u64 (k : Int)]) ∧ w = w' := by
  go_enter Try.func171, Try.ntmps171
  go_wp2_with (go_at_call 180; refine (mul64_c k hk _).mono ?_; rintro e w' ⟨rfl, rfl⟩)
  go_ret2
  exact ⟨rfl, rfl⟩

/-- The first j of k elements are -1, the others 0. -/
def rp (j k : Nat) : List Int := List.replicate j (-1) ++ List.replicate (k - j) 0
theorem rp_len {j k : Nat} (h : j ≤ k) : (rp j k).length = k := by simp [rp]; omega
theorem rp_get {j k i : Nat} (h : i < j) : (rp j k)[i]? = some (-1) := by
  unfold rp
  rw [List.getElem?_append_left (by simpa using h)]
  simp [h]
theorem mapI_getx {zs : List Int} {i : Nat} {x : Int} (h : zs[i]? = some x) : (mapI zs)[i]? = some (.int .i64 x) := by
  unfold mapI
  rw [List.getElem?_map, h]; rfl
theorem rp_splice {j k m : Nat} (h : j + m ≤ k) : splice (mapI (rp j k)) j (mapI (List.replicate m (-1))) = mapI (rp (j + m) k) := by
  unfold splice rp mapI
  simp only [List.map_append, List.map_replicate, List.length_replicate]
  rw [List.take_append_of_le_length (by simp), List.take_of_length_le (by simp), List.drop_append]
  rw [List.drop_eq_nil_of_le (by simp), List.nil_append, List.drop_replicate, List.length_replicate]
  rw [← List.append_assoc, List.replicate_append_replicate]
  congr 2
  omega
theorem own_full {w : World} {lo g k : Nat} {zs : List Int} (hg : w.heap[g]? = some (.cells (mapI zs).toArray 3 (0, 0))) (hl : zs.length = k) (hlo : lo ≤ g) (hk : k ≤ maxLen) : OwnI w lo (some ⟨g, 0, none⟩) k k zs := by
  refine .inl ⟨by rw [mapI_len]; omega, .inr ⟨g, k, (mapI zs).toArray, rfl, hlo, hg, Nat.le_refl _, hk, by simp [mapI_len]; omega, ?_⟩⟩
  rw [List.take_of_length_le (by simp [mapI_len]; omega)]
theorem full_heap {w : World} {lo g k : Nat} {xs : List Value} (h : w.ownsRow lo 3 1 (.slice (some ⟨g, 0, none⟩) k k) k xs) : w.heap[g]? = some (.cells xs.toArray 3 (0, 0)) := by
  rcases h.2 with ⟨h', _⟩ | ⟨g', cap, cur, e1, e2, e3, e4, e5, e6, e7⟩
  · cases h'
  · injection e1 with a b c
    injection a with a
    injection a with a
    subst a
    subst c
    rw [e3, ← e7, List.take_of_length_le (by simp; omega)]
theorem madeZ0 (m : Nat) : (madeCells (Value.int .i64 0).cells (m * 1)).toList = mapI (List.replicate m 0) := by
  simp [Value.cells, toList_madeCells_one, mapI]
theorem infoOne : (Try.prog.info? 3).map (·.size) = some 1 := by
  obtain ⟨i0, hi0, hz0, hz1, hz2⟩ := info_parts infoInt
  rw [hi0]; simp [hz1]
theorem heap_lt {w : World} {g : Nat} {o : Obj} (h : w.heap[g]? = some o) : g < w.heap.size := by
  rcases Nat.lt_or_ge g w.heap.size with hl | hl
  · exact hl
  · rw [Array.getElem?_eq_none hl] at h; cases h
theorem Below_cell {w w' : World} (b : Below w.heap.size w w') {g o : Nat} {v : Value} (hg : g < w.heap.size) (h : w.cell? ⟨g, o, none⟩ = some v) : w'.cell? ⟨g, o, none⟩ = some v := (b.cell (p := ⟨g, o, none⟩) hg).trans h
theorem one_cell {w : World} {g : Nat} (h : w.cell? ⟨g, 0, none⟩ = some (.int .i64 (-1))) {j : Nat} {v : Value} (hv : (mapI (List.replicate 1 (-1) : List Int))[j]? = some v) : w.cell? ((⟨g, 0, none⟩ : Addr).add j) = some v := by
  have hj : j = 0 := by
    have := (List.getElem?_eq_some_iff.1 hv).1
    simp [mapI] at this
    exact this
  subst hj
  rw [addr_add]
  simp [mapI] at hv
  rw [← hv]
  exact h
set_option maxRecDepth 100000 in
set_option maxHeartbeats 4000000 in
theorem repeat_c (k g : Nat) (w : World) (h1 : 1 ≤ k) (hk : k ≤ 16) (hc : w.cell? ⟨g, 0, none⟩ = some (.int .i64 (-1))) (hg : g < w.heap.size) :
    Calls Try.prog 143 #[.slice (some ⟨g, 0, none⟩) 1 1, .int .i64 (k : Int)] w (NewL (List.replicate k (-1)) w) := by
  obtain ⟨i0, hi0, hz0, hz1, hz2⟩ := info_parts infoInt
  go_enter Try.func143, Try.ntmps143
  have hone : (mapI (List.replicate 1 (-1) : List Int)).length = 1 := rfl
  obtain ⟨C1, hC1⟩ : ∃ C1, C1 = mapI (List.replicate 1 (-1) : List Int) := ⟨_, rfl⟩
  obtain ⟨Z0, hZ0⟩ : ∃ Z0, Z0 = mapI (List.replicate k (0 : Int)) := ⟨_, rfl⟩
  have HC1 := Lib.hid hC1
  have HZ0 := Lib.hid hZ0
  rw [← hC1] at hone
  have HC1l := Lib.hid hone
  have HMK := Lib.hid (madeZ0 k)
  clear hC1 hZ0 hone
  go_wp2_with (first | (go_at_call 171; refine (mul_c k hk _).mono ?_; rintro e w' ⟨rfl, rfl⟩) | (at_make; refine wpList_make_full _ rfl (.tmp 29) (.tmp 29) 26 rfl w.heap.size 3 i0 _ 1 Try.underlying26 hi0 hz0 hz1 .i64 .i64 k k k rfl rfl rfl rfl (by rw [hz2]; omega) (by unfold maxLen; omega) (by simp) ?_; intro w5 ho5 hg5; rw [HMK.out, ← HZ0.out] at ho5; have hh5 := full_heap ho5; have b5 := grown_below hg5; have sz5 : w.heap.size < w5.heap.size := heap_lt hh5) | (refine wpList_copy_splice rfl (.tmp 31) (.tmp 32) 26 26 rfl 3 Try.underlying26 infoOne _ _ _ _ _ _ rfl rfl w.heap.size 0 Z0 3 hh5 C1 (by rw [HC1l.out]; simp [Nat.min_def] <;> omega) (fun _ => ⟨rfl, _, rfl, fun j v hv => by rw [HC1.out] at hv; exact one_cell (Below_cell b5 hg hc) hv⟩) (by rw [HC1l.out, HZ0.out, mapI_len, List.length_replicate]; omega) (by rw [HC1.out]; exact mapI_one _) w.heap.size w b5 (Nat.le_refl _) ?_; intro w6 hw6 b6; rw [HC1l.out]) | fail)
  have hr1 : splice Z0 0 C1 = mapI (rp 1 k) := by
    rw [HZ0.out, HC1.out]
    have h := rp_splice (j := 0) (k := k) (m := 1) (by omega)
    have e0 : rp 0 k = List.replicate k 0 := by simp [rp]
    rw [e0, Nat.zero_add] at h
    exact h
  have hh6 := hw6.out
  rw [hr1] at hh6
  replace hh6 := Lib.hid hh6
  clear hw6 hr1 HC1 HZ0 HC1l HMK ho5 hg5 hh5 b5
  go_loopw [8] (fun i wr => ∃ j : Nat, 1 ≤ j ∧ j ≤ k ∧ i = .int .i64 j ∧ Hid (wr.heap[w.heap.size]? = some (.cells (mapI (rp j k)).toArray 3 (0, 0))) ∧ Below w.heap.size w wr) (fun i _ => k - (intOf i).toNat)
  case atStart => exact ⟨1, Nat.le_refl _, h1, rfl, hh6, b6⟩
  case round =>
    obtain ⟨j, j1, jk, rfl, HH, br⟩ := hrel
    by_cases hlt : j < k
    · obtain ⟨q, hq⟩ : ∃ q, q = min j (k - j) := ⟨_, rfl⟩
      have q1 : 1 ≤ q := by omega
      have q2 : q ≤ j := by omega
      have q3 : j + q ≤ k := by omega
      have HQ := Lib.hid hq
      obtain ⟨Cq, hCq⟩ : ∃ C, C = mapI (List.replicate q (-1) : List Int) := ⟨_, rfl⟩
      obtain ⟨Zj, hZj⟩ : ∃ Z, Z = mapI (rp j k) := ⟨_, rfl⟩
      have HCl : Hid (Cq.length = q) := by unfold Hid; rw [hCq, mapI_len, List.length_replicate]
      have HZl : Hid (Zj.length = k) := by unfold Hid; rw [hZj, mapI_len, rp_len (by omega)]
      have HSp : Hid (splice Zj j Cq = mapI (rp (j + q) k)) := by unfold Hid; rw [hCq, hZj]; exact rp_splice q3
      have H1c : Hid (∀ v ∈ Cq, v.oneCell' = true) := by unfold Hid; rw [hCq]; exact mapI_one _
      have hh := HH.out
      have HSrc : Hid (∀ (i : Nat) (v : Value), Cq[i]? = some v → wr.cell? ((⟨w.heap.size, 0, none⟩ : Addr).add i) = some v) := by
        unfold Hid
        intro i v hv
        rw [hCq] at hv
        have hi := (List.getElem?_eq_some_iff.1 hv).1
        rw [mapI_len, List.length_replicate] at hi
        rw [mapI_getx (x := -1) (by simp [hi])] at hv
        rw [addr_add, Nat.zero_add, cell_of_row wr _ _ _ _ (0, 0) hh, ← hv]
        have := mapI_getx (rp_get (k := k) (show i < j by omega))
        simpa using this
      rw [← hZj] at hh
      clear hq hCq hZj HH
      have i0 : (0 : Int) ≤ (j : Int) := by omega
      have i1 : (j : Int) ≤ (k : Int) := by omega
      have i2 : (j : Int) < (k : Int) := by omega
      have i3 : j ≠ k := by omega
      have i4 : ¬ (k = j) := by omega
      have i5 : ¬ ((k : Int) = (j : Int)) := by omega
      have i6 : ¬ ((j : Int) = (k : Int)) := by omega
      have i7 : (k == j) = false := by simpa using i4
      have i8 : (j == k) = false := by simpa using i3
      have i9 : j ≤ k := by omega
      have i10 : decide (j ≤ k) = true := by simpa using i9
      have i11 : k - j ≠ 0 := by omega
      have i12 : IntKind.i64.wrap ((j : Int) + (q : Int)) = ((j + q : Nat) : Int) := by rw [IntWalk.i64_in _ (by omega)]; omega
      go_wp2_with fail
      go_region_held3 (fun _ => True) (exact trivial) ((refine step_copy_splice (by rfl) (.tmp 41) (.tmp 44) 26 26 (by rfl) 3 Try.underlying26 infoOne (some ⟨w.heap.size, j, none⟩) (some ⟨w.heap.size, 0, none⟩) (k - j) (k - j) j k (by rfl) (by rfl) w.heap.size j Zj 3 hh Cq (by rw [HCl.out, HQ.out]) (fun _ => ⟨rfl, _, rfl, HSrc.out⟩) (by rw [HCl.out, HZl.out]; exact q3) H1c.out w.heap.size w (by first | exact br | exact belowN br 1) (Nat.le_refl _) ?_; intro w4 hg4 hb4; rw [HCl.out]))
      all_goals
        go_wp2
        go_roundw
        case rel => exact ⟨j + q, by omega, q3, by go_num, Lib.hid (by have := hg4.out; rw [HSp.out] at this; exact this), hb4⟩
        case measure => simp [intOf]; omega
    · obtain rfl : k = j := by omega
      have hh := HH.out
      have e : rp k k = List.replicate k (-1) := by simp [rp]
      rw [e] at hh
      go_wp2
      go_ret
      exact ⟨_, _, _, rfl, OwnH.mk' (own_full hh (by simp) (Nat.le_refl _) (by unfold maxLen; omega)), br⟩
end Go.Proofs.Ytbapamfomfbmmaa
