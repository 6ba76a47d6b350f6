/-
  Contract of the reference's GuardedRun.
-/
import Derived.Test.YtbapamfomfbmmaaGrM
import Derived.Test.YtbapamfomfbmmaaTkD
import Derived.Test.YtbapamfomfbmmaaTkE
import Derived.Deep.DeepCutAuto
namespace Go.Proofs.Ytbapamfomfbmmaa
open Go.RowKit
set_option linter.unusedSimpArgs false
set_option linter.unusedVariables false

/-- A new slice of integers and a bool. -/
def NewLB (zs : List Int) (ok : Bool) (w : World) (e : Ending) (w' : World) : Prop :=
  ∃ A n c, e = .returned (.tuple #[.slice A n c, .bool ok]) ∧ OwnH w' w.heap.size w'.heap.size A n c zs ∧ Below w.heap.size w w'
theorem grown_comp {a b c : World} {r s : Option Nat} (h : a.grownBy b r) (k : b.grownBy c s) (hs : s = r ∨ ∀ j, s = some j → a.heap.size ≤ j) : a.grownBy c r :=
  ⟨k.os.trans h.os, k.tape.trans h.tape, k.output.trans h.output, Nat.le_trans h.size k.size, fun i hi hne => (k.block i (Nat.lt_of_lt_of_le hi h.size) (by
    rcases hs with hs | hs
    · rw [hs]; exact hne
    · intro e; have := hs i e.symm; omega)).trans (h.block i hi hne)⟩
theorem grown_alloc {a b : World} {r : Option Nat} (h : a.grownBy b r) (o : Obj) : a.grownBy (b.alloc o) r :=
  ⟨h.os, h.tape, h.output, by have := h.size; simp; omega, fun i hi hne => (Below.heap_alloc b o i (Nat.lt_of_lt_of_le hi h.size)).trans (h.block i hi hne)⟩
theorem grown_bel {a b : World} {r : Option Nat} (h : Below a.heap.size a b) : a.grownBy b r := below_grown h r
/-- The queue with the neighbors of a row: it lies where it lay, or in new memory. -/
def NearQ (lo : Nat) (A : Option Addr) (n c : Nat) (zs : List Int) (w : World) (e : Ending) (w' : World) : Prop :=
  ∃ A' n' c', e = .returned (.slice A' n' c') ∧ OwnI w' lo A' n' c' zs ∧ w.grownBy w' (blk A c) ∧ (blk A' c' = blk A c ∨ ∀ k, blk A' c' = some k → w.heap.size ≤ k) ∧ n' ≤ n + 2
set_option maxHeartbeats 400000 in
theorem hasI_c (A : Option Addr) (n c : Nat) (zs : List Int) (x : Int) (w : World) (h : Ints w A n zs) (hn : n ≤ 1048576) :
    Calls Try.prog 71 #[.slice A n c, .int .i64 x] w fun e w' => e = .returned (.bool (decide (x ∈ zs))) ∧ w = w' := by
  have HL := Lib.hid h.1
  go_enter Try.func71, Try.ntmps71
  go_wp2
  go_loop [5] (fun i => ∃ k : Nat, k ≤ n ∧ i = .int .i64 k ∧ Hid (x ∉ zs.take k)) (fun i => n - (intOf i).toNat)
  case atStart => exact ⟨0, Nat.zero_le _, rfl, by unfold Hid; simp⟩
  case round =>
    obtain ⟨k, hk, rfl, HK⟩ := hrel
    by_cases hlt : k < n
    · obtain ⟨g, o, y, rfl, hc1, hy⟩ := h.at_ hlt
      by_cases hxy : (y == x) = true
      · have HM : Hid (decide (x ∈ zs) = true) := by
          unfold Hid
          have e : y = x := by simpa using hxy
          rw [decide_eq_true_eq]
          exact e ▸ List.mem_of_getElem? hy.out
        go_wp2
        go_ret
        exact ⟨ret_bool HM.out.symm, rfl⟩
      · have hxy' : (y == x) = false := by simpa using hxy
        have HM := Lib.hid (not_mem_snoc HK.out hy.out (by rw [← hxy']; exact Bool.beq_comm ..))
        clear hxy
        go_wp2
        go_round
        case rel => exact ⟨k + 1, by omega, by go_num, HM.out⟩
        case measure => simp [intOf]; omega
    · have HM : Hid (decide (x ∈ zs) = false) := by
        have := HK.out
        rw [List.take_of_length_le (by rw [HL.out]; omega)] at this
        unfold Hid
        simpa using this
      go_wp2
      go_ret
      exact ⟨ret_bool HM.out.symm, rfl⟩
set_option maxRecDepth 100000 in
set_option maxHeartbeats 4000000 in
theorem l16Near_c (lo : Nat) (A : Option Addr) (n c : Nat) (q : List Int) (rows row : Int) (w : World) (o : OwnI w lo A n c q) (hn : n ≤ 1000000) (hlo : lo ≤ w.heap.size) :
    Calls Try.prog 95 #[.slice A n c, .int .i64 rows, .int .i64 row] w (NearQ lo A n c (gNear q (nears rows row)) w) := by
  have hnl := nears_len rows row
  obtain ⟨near, hnear⟩ : ∃ l, l = nears rows row := ⟨_, rfl⟩
  rw [← hnear] at hnl ⊢
  have HNR := Lib.hid hnear
  have HNL := Lib.hid hnl
  clear hnear hnl
  go_enter Try.func95, Try.ntmps95
  go_wp2_with fail
  refine (sNeighbors_c rows row _).mono ?_
  rintro e w1 ⟨A1, n1, c1, rfl, o1, b1⟩
  rw [← HNR.out] at o1
  have hl1 : n1 ≤ 2 := by have := o1.len; have := HNL.out; omega
  have HL := Lib.hid o1.len
  have sz1 := b1.size
  have o' := o.below b1
  clear HNL HNR
  go_wp2_with fail
  go_loopw [0, 8] (fun qv i wr => ∃ (j : Nat) (Q : Option Addr) (m e : Nat), j ≤ n1 ∧ i = .int .i64 j ∧ qv = .slice Q m e ∧ m ≤ n + j ∧ OwnI wr lo Q m e (gNear q (near.take j)) ∧ OwnI wr w.heap.size A1 n1 c1 near ∧ w1.grownBy wr (blk A c) ∧ (blk Q e = blk A c ∨ ∀ k, blk Q e = some k → w1.heap.size ≤ k)) (fun _ i _ => n1 - (intOf i).toNat)
  case atStart => exact ⟨0, A, n, c, Nat.zero_le _, rfl, rfl, Nat.le_refl _, by rw [List.take_zero]; exact o', o1, World.grownBy.refl _ _, .inl rfl⟩
  case round =>
    obtain ⟨j, Q, m, e, hj, rfl, rfl, hm, ok, okn, gk, hb⟩ := hrel
    have szk := gk.size
    by_cases hlt : j < n1
    · obtain ⟨gA, oA, x, rfl, hcx, hx⟩ := okn.ints.at_ hlt
      have HG := Lib.hid (gNear_take (q := q) hx.out)
      by_cases hmem : x ∈ gNear q (near.take j)
      · have hd : decide (x ∈ gNear q (near.take j)) = true := by simpa using hmem
        have HG2 : Hid (gNear q (near.take (j + 1)) = gNear q (near.take j)) := by unfold Hid; rw [HG.out, if_pos hmem]
        clear hmem HG
        go_wp2_with fail
        refine (hasI_c Q m e _ x _ ok.ints (by omega)).mono ?_
        rintro e w' ⟨rfl, rfl⟩
        rw [hd]
        go_wp2
        go_roundw
        case rel => exact ⟨j + 1, Q, m, _, by omega, by go_num, rfl, by omega, by rw [HG2.out]; exact ok, okn, gk, hb⟩
        case measure => simp [intOf]; omega
      · have hd : decide (x ∈ gNear q (near.take j)) = false := by simpa using hmem
        have HG2 : Hid (gNear q (near.take (j + 1)) = gNear q (near.take j) ++ [x]) := by unfold Hid; rw [HG.out, if_neg hmem]
        clear hmem HG
        go_wp2_with fail
        refine (hasI_c Q m e _ x _ ok.ints (by omega)).mono ?_
        rintro e' w' ⟨rfl, rfl⟩
        rw [hd]
        go_wp2_with (at_builtin; refine wpList_app1 rfl (.tmp 25) (.tmp 30) 26 rfl Try.underlying26 infoInt Q m e lo _ rfl (ok.alloc _) wr.heap.size x rfl (by simp) (by omega) (by simp; omega) ?_; intro Q2 e2 w5 o5 g5 at5)
        go_roundw
        case rel =>
          refine ⟨j + 1, Q2, m + 1, e2, by omega, by go_num, rfl, by omega, by rw [HG2.out]; exact o5, ?_, ?_, ?_⟩
          · refine (okn.alloc _).kept g5 fun k hk e => ?_
            have h1 := okn.lt k hk
            rcases hb with hb | hb
            · rw [hb] at e
              have := o.lt k e.symm
              omega
            · have := hb k e.symm
              obtain ⟨hc0, a, ha, hka⟩ := blk_some hk
              have h2 := o1.lt k hk
              omega
          · exact grown_comp (grown_alloc gk _) g5 hb
          · rcases at5 with at5 | at5
            · rw [at5]; exact hb
            · right
              intro k hk
              rw [at5] at hk
              injection hk with hk
              simp at hk
              omega
        case measure => simp [intOf]; omega
    · obtain rfl : n1 = j := by omega
      rw [List.take_of_length_le (by rw [HL.out]; omega)] at ok
      go_wp2
      go_ret
      refine ⟨Q, m, e, rfl, ok, grown_comp (grown_bel b1) gk (.inl rfl), ?_, by omega⟩
      rcases hb with hb | hb
      · exact .inl hb
      · exact .inr fun k hk => by have := hb k hk; omega
def lenV : Value → Nat
  | .slice _ n _ => n
  | _ => 0
theorem gOut_bind (rows limit p : Int) (ps : List Int) (st : GSt) : gOut rows limit (p :: ps) st = (gIn rows limit (1000 - st.out.length) st [p]).bind (gOut rows limit ps) := by
  show (match gIn rows limit (1000 - st.out.length) st [p] with
    | none => none
    | some st' => gOut rows limit ps st') = _
  cases gIn rows limit (1000 - st.out.length) st [p] <;> rfl
theorem gRun_no {rows k limit : Int} {pat : List Int} (h : ¬ (inB k 1 16 = true ∧ patOk rows pat = true ∧ inB limit 3 1000 = true)) : gList rows k limit pat = [] ∧ gOk rows k limit pat = false := by
  have : gRun rows k limit pat = none := by unfold gRun; rw [if_neg h]
  unfold gList gOk
  rw [this]
  exact ⟨rfl, rfl⟩
theorem gRun_none {rows k limit : Int} {pat : List Int} (h : gRun rows k limit pat = none) : gList rows k limit pat = [] ∧ gOk rows k limit pat = false := by
  unfold gList gOk
  rw [h]
  exact ⟨rfl, rfl⟩
theorem gRun_some {rows k limit : Int} {pat : List Int} {st : GSt} (h : gRun rows k limit pat = some st) : gList rows k limit pat = st.out ∧ gOk rows k limit pat = true := by
  unfold gList gOk
  rw [h]
  exact ⟨rfl, rfl⟩
theorem patOk_in {rows : Int} {zs : List Int} (h : patOk rows zs = true) : 2 ≤ rows ∧ rows ≤ 16 ∧ zs.length ≤ 1000 ∧ ∀ x ∈ zs, 0 ≤ x ∧ x < rows := by
  unfold patOk at h
  simp only [Bool.and_eq_true, decide_eq_true_eq] at h
  have h1 := inB_t h.1
  refine ⟨h1.1, h1.2, h.2.1, fun x hx => ?_⟩
  have h3 := h.2.2
  unfold rowsIn at h3
  rw [List.all_eq_true] at h3
  have := inB_t (h3 x hx)
  omega
/-- What the walk needs to know of the tracker. -/
theorem Est.nums {rs cs zs : List Int} {s : Int} {k : Nat} (h : Est rs cs s zs k) (hz : zs.length ≤ 1001) : 0 ≤ s ∧ s ≤ 1001 ∧ ∀ (i : Nat) (y : Int), cs[i]? = some y → s ≤ y ∧ y ≤ 1001 := by
  have h1 := h.sle
  exact ⟨h1.1, by omega, fun i y hy => by have := h.cle hy; omega⟩
theorem gHit_k {limit row y : Int} {st : GSt} {k : Nat} (hI : trkI st.rs st.cs st.s row = k) (hy : (trkC st.rs st.cs st.s row)[k]? = some y) : gHit limit st row = (y.tmod limit == 0) := by
  unfold gHit
  rw [hI, Int.toNat_natCast, getD_of hy]
  simp
theorem gHit_no {limit row : Int} {st : GSt} (hI : trkI st.rs st.cs st.s row = -1) : gHit limit st row = false := by
  unfold gHit
  rw [hI]
  simp
theorem gNext_yes {rows limit row : Int} {st : GSt} {q : List Int} (h : gHit limit st row = true) : gNext rows limit st row q = gNear q (nears rows row) := by unfold gNext; rw [if_pos h]
theorem gNext_no {rows limit row : Int} {st : GSt} {q : List Int} (h : gHit limit st row = false) : gNext rows limit st row q = q := by unfold gNext; rw [if_neg (by rw [h]; simp)]
end Go.Proofs.Ytbapamfomfbmmaa
