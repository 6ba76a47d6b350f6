/-
  Contracts of slices.Index and of the laws' helpers on trackers.
-/
import Derived.Test.YtbcbgdomjefdhaaCommon
import Derived.Test.YtbcbgdomjefdhaaKit2
namespace Go.Proofs.Ytbcbgdomjefdhaa
open Go.RowKit
set_option linter.unusedSimpArgs false
set_option linter.unusedVariables false

set_option maxHeartbeats 400000 in
theorem index_c (A : Option Addr) (n c : Nat) (zs : List Int) (x : Int) (w : World) (h : Ints w A n zs) (hn : n ≤ 1048576) :
    Calls Try.prog 100 #[.slice A n c, .int .i64 x] w fun e w' => e = .returned (.int .i64 (idxI zs x)) ∧ w = w' := by
  have HL := Lib.hid h.1
  go_enter Try.func100, Try.ntmps100
  go_wp2
  go_loop [8] (fun i => ∃ k : Nat, k ≤ n ∧ i = .int .i64 k ∧ Hid (x ∉ zs.take k)) (fun i => n - (intOf i).toNat)
  case atStart => exact ⟨0, Nat.zero_le _, rfl, by unfold Hid; simp⟩
  case round =>
    obtain ⟨k, hk, rfl, HK⟩ := hrel
    by_cases hlt : k < n
    · obtain ⟨g, o, y, rfl, hc1, hy⟩ := h.at_ hlt
      by_cases hxy : (x == y) = true
      · obtain rfl : x = y := by simpa using hxy
        have HI := Lib.hid (idxI_at HK.out hy.out)
        go_wp2
        go_ret
        exact ⟨ret_int HI.out.symm, rfl⟩
      · have hxy' : (x == y) = false := by simpa using hxy
        have HM := Lib.hid (not_mem_snoc HK.out hy.out hxy')
        clear hxy
        go_wp2
        go_round
        case rel => exact ⟨k + 1, by omega, by go_num, HM.out⟩
        case measure => simp [intOf]; omega
    · have HM : Hid (idxI zs x = -1) := by
        have := HK.out
        rw [List.take_of_length_le (by rw [HL.out]; omega)] at this
        exact idxI_none this
      go_wp2
      go_ret
      exact ⟨ret_int HM.out.symm, rfl⟩

set_option maxHeartbeats 400000 in
theorem szTracker_yes (A B : Option Addr) (n c m d : Nat) (s : Int) (w : World) (hn : n + m ≤ 1048576) :
    Calls Try.prog 50 #[.agg #[.slice A n c, .slice B m d, .int .i64 s], .int .i64 1048576] w fun e w' => e = .returned (.int .i64 (1048576 - n - m)) ∧ Below w.heap.size w w' := by
  go_enter Try.func50, Try.ntmps50
  go_wp2_with fail
  refine (szIntS_yes A n c _ _ (by omega) (by omega)).mono ?_
  rintro e w' ⟨rfl, rfl⟩
  go_wp2_with fail
  refine (szIntS_yes B m d _ _ (by omega) (by omega)).mono ?_
  rintro e w' ⟨rfl, rfl⟩
  go_wp2
  go_ret
  exact ⟨rfl, (Below.refl _ _).alloc (Nat.le_refl _) _⟩
set_option maxHeartbeats 400000 in
theorem szTracker_no (A B : Option Addr) (n c m d : Nat) (s : Int) (w : World) (h1 : n ≤ maxLen) (h2 : m ≤ maxLen) (hn : 1048576 < n + m) :
    Calls Try.prog 50 #[.agg #[.slice A n c, .slice B m d, .int .i64 s], .int .i64 1048576] w fun e w' => e = .returned (.int .i64 (-1)) ∧ Below w.heap.size w w' := by
  by_cases h : 1048576 < n
  · go_enter Try.func50, Try.ntmps50
    go_wp2_with fail
    refine (szIntS_no A n c _ _ (by omega) (by omega) h1 (by omega)).mono ?_
    rintro e w' ⟨rfl, rfl⟩
    go_wp2
    go_ret
    exact ⟨rfl, (Below.refl _ _).alloc (Nat.le_refl _) _⟩
  · go_enter Try.func50, Try.ntmps50
    go_wp2_with fail
    refine (szIntS_yes A n c _ _ (by omega) (by omega)).mono ?_
    rintro e w' ⟨rfl, rfl⟩
    go_wp2_with fail
    refine (szIntS_no B m d _ _ (by omega) (by omega) h2 (by omega)).mono ?_
    rintro e w' ⟨rfl, rfl⟩
    go_wp2
    go_ret
    exact ⟨rfl, (Below.refl _ _).alloc (Nat.le_refl _) _⟩

/-- The two rows of a tracker are the call's own, between lo and hi, and apart. -/
def OwnT (w : World) (lo hi : Nat) (A : Option Addr) (n c : Nat) (rs : List Int) (B : Option Addr) (m d : Nat) (cs : List Int) : Prop :=
  OwnH w lo hi A n c rs ∧ OwnH w lo hi B m d cs ∧ ∀ k, blk A c = some k → blk B d ≠ some k
theorem OwnT.below {w w' : World} {lo hi n c m d : Nat} {A B : Option Addr} {rs cs : List Int} (h : OwnT w lo hi A n c rs B m d cs) (hb : Below w.heap.size w w') : OwnT w' lo hi A n c rs B m d cs := ⟨h.1.below hb, h.2.1.below hb, h.2.2⟩
theorem OwnT.drewN {w : World} {lo hi n c m d : Nat} {A B : Option Addr} {rs cs : List Int} (h : OwnT w lo hi A n c rs B m d cs) (k : Nat) : OwnT (w.drewN k) lo hi A n c rs B m d cs := h
theorem OwnT.alloc {w : World} {lo hi n c m d : Nat} {A B : Option Addr} {rs cs : List Int} (h : OwnT w lo hi A n c rs B m d cs) (o : Obj) : OwnT (w.alloc o) lo hi A n c rs B m d cs := ⟨h.1.alloc o, h.2.1.alloc o, h.2.2⟩
theorem OwnT.chg {w w' : World} {lo hi lo' hi' n c m d : Nat} {A B : Option Addr} {rs cs : List Int} (h : OwnT w lo hi A n c rs B m d cs) (hc : Chg lo' hi' w w') (hne : hi ≤ lo' ∨ hi' ≤ lo) : OwnT w' lo hi A n c rs B m d cs := ⟨h.1.chg hc hne, h.2.1.chg hc hne, h.2.2⟩
theorem OwnT.mono {w : World} {lo hi lo' hi' n c m d : Nat} {A B : Option Addr} {rs cs : List Int} (h : OwnT w lo hi A n c rs B m d cs) (h1 : lo' ≤ lo) (h2 : hi ≤ hi') : OwnT w lo' hi' A n c rs B m d cs := ⟨h.1.mono h1 h2, h.2.1.mono h1 h2, h.2.2⟩
/-- A new tracker, its two rows in new memory and apart; all that was there is as it was. -/
def NewT (rs cs : List Int) (s : Int) (w : World) (e : Ending) (w' : World) : Prop :=
  ∃ A n c B m d, e = .returned (.agg #[.slice A n c, .slice B m d, .int .i64 s]) ∧ OwnT w' w.heap.size w'.heap.size A n c rs B m d cs ∧ Below w.heap.size w w'

set_option maxHeartbeats 1000000 in
theorem toTracker_c (A B : Option Addr) (n c m d : Nat) (rs cs : List Int) (s : Int) (w : World) (hA : Ints w A n rs) (hB : Ints w B m cs) (hn : n + m ≤ 1048576) :
    Calls Try.prog 52 #[.agg #[.slice A n c, .slice B m d, .int .i64 s]] w (NewT rs cs s w) := by
  go_enter Try.func52, Try.ntmps52
  go_wp2_with fail
  refine abs_call ?_
  intro W hW
  have p0 : Box W w.heap.size 81 #[.slice A n c, .slice B m d, .int .i64 s] := by rw [hW]; exact ((Box.new _ _ _).alloc _).alloc _
  have r0 : Box W (w.heap.size + 1) 75 #[.slice none 0 0, .slice none 0 0, .int .i64 0] := by rw [hW]; exact (Box.newAt (by simp)).alloc _
  have q0 : Box W (w.heap.size + 1 + 1) 75 #[.slice none 0 0, .slice none 0 0, .int .i64 0] := by rw [hW]; exact Box.newAt (by simp)
  have b0 : Below w.heap.size w W := by rw [hW]; exact (((Below.refl _ _).alloc (Nat.le_refl _) _).alloc (by simp) _).alloc (by simp; omega) _
  have hsz : W.heap.size = w.heap.size + 1 + 1 + 1 := by rw [hW]; simp
  clear hW
  refine (toIntS_c A n c rs _ (hA.below b0) (by omega)).mono ?_
  rintro e w1 ⟨g1, rfl, o1, b1⟩
  have l1 : ∀ k, blk (some ⟨g1, 0, none⟩) n = some k → W.heap.size ≤ k := fun k hk => (o1.lt k hk).1
  have s1 := b1.size
  have b01 : Below w.heap.size w w1 := b0.trans (b1.mono b0.size)
  have p1 := p0.kept b1
  have r1 := r0.kept b1
  have q1 := q0.kept b1
  clear b1 b0 p0 r0 q0
  rw [hsz] at o1 l1 s1
  clear hsz W
  have o1 := o1.mono (show w.heap.size ≤ w.heap.size + 1 + 1 + 1 by omega)
  obtain ⟨-, c1, -⟩ := p1.c3
  obtain ⟨c2, -, -⟩ := q1.c3
  have c3 := q1.frozen 0
  go_wp2_with fail
  have p2 := p1.far (p := ⟨w.heap.size + 1 + 1, 0, none⟩) (by simp; omega) (.slice (some ⟨g1, 0, none⟩) n n)
  have r2 := r1.far (p := ⟨w.heap.size + 1 + 1, 0, none⟩) (by simp) (.slice (some ⟨g1, 0, none⟩) n n)
  have q2 := q1.set_ 0 (.slice (some ⟨g1, 0, none⟩) n n)
  have b2 := b01.setCell (p := ⟨w.heap.size + 1 + 1, 0, none⟩) (by simp; omega) (.slice (some ⟨g1, 0, none⟩) n n)
  have o2 := o1.setCell ⟨w.heap.size + 1 + 1, 0, none⟩ (.slice (some ⟨g1, 0, none⟩) n n) (by intro k hk; have := l1 k hk; simp; omega)
  refine abs_call ?_
  intro W hW
  rw [← hW] at p2 r2 q2 b2 o2
  clear hW c1 c2 c3 p1 r1 q1 b01 o1
  refine (toIntS_c B m d cs _ (hB.below b2) (by omega)).mono ?_
  rintro e w2 ⟨g2, rfl, o3, b3⟩
  have l2 : ∀ k, blk (some ⟨g2, 0, none⟩) m = some k → W.heap.size ≤ k := fun k hk => (o3.lt k hk).1
  have s2 := b3.size
  have sW := b2.size
  have g1lt : ∀ k, blk (some ⟨g1, 0, none⟩) n = some k → k < W.heap.size := fun k hk => (o2.lt k hk).2
  have sW3 : w.heap.size + 1 + 1 < W.heap.size := q2.lt
  have L1 := Lib.hid l1
  have L2 := Lib.hid l2
  have L3 := Lib.hid g1lt
  clear l1 l2 g1lt
  have b03 : Below w.heap.size w w2 := b2.trans (b3.mono b2.size)
  have p3 := p2.kept b3
  have r3 := r2.kept b3
  have q3 := q2.kept b3
  have o2 := o2.below b3
  have o3 := o3.mono b2.size
  clear b3 b2 p2 r2 q2
  obtain ⟨-, -, c1⟩ := p3.c3
  obtain ⟨d1, d2, d3⟩ := r3.c3
  have q3' : Box w2 (w.heap.size + 1 + 1) 75 #[.slice (some ⟨g1, 0, none⟩) n n, .slice none 0 0, .int .i64 0] := q3
  obtain ⟨e1, e2, e3⟩ := q3'.c3
  have f1 := r3.frozen
  have f2 := q3.frozen
  have x1 : w.heap.size + 1 < w2.heap.size := by omega
  have x2 : w.heap.size + 1 + 1 < w2.heap.size := by omega
  have O2 := Lib.hid o2
  have O3 := Lib.hid o3
  have B03 := Lib.hid b03
  have R3 := Lib.hid r3
  clear o2 o3 b03 p3 r3 q3 q3'
  go_wp2
  refine abs_body ?_
  intro W' hW'
  have rr : Box W' (w.heap.size + 1) 75 #[.slice (some ⟨g1, 0, none⟩) n n, .slice (some ⟨g2, 0, none⟩) m m, .int .i64 s] := by
    rw [hW']; exact ((((R3.out.far (by simp) _).far (by simp) _).set_ 0 _).set_ 1 _).set_ 2 _
  obtain ⟨z1, z2, z3⟩ := rr.c3
  refine bodyPost_ret (v := .agg #[.slice (some ⟨g1, 0, none⟩) n n, .slice (some ⟨g2, 0, none⟩) m m, .int .i64 s]) (by simp [results, Try.results52, go_sem, z1, z2, z3]) rfl ?_
  refine ⟨_, _, _, _, _, _, rfl, ⟨OwnH.mk' ?_, OwnH.mk' ?_, ?_⟩, ?_⟩
  · rw [hW']
    refine ((((O2.out.setCell _ _ ?_).setCell _ _ ?_).setCell _ _ ?_).setCell _ _ ?_).setCell _ _ ?_
    all_goals (intro k hk; have := L1.out k hk; simp; omega)
  · rw [hW']
    refine ((((O3.out.setCell _ _ ?_).setCell _ _ ?_).setCell _ _ ?_).setCell _ _ ?_).setCell _ _ ?_
    all_goals (intro k hk; have := L2.out k hk; simp; omega)
  · intro k hk hk'; have := L3.out k hk; have := L2.out k hk'; omega
  · rw [hW']
    refine ((((B03.out.setCell ?_ _).setCell ?_ _).setCell ?_ _).setCell ?_ _).setCell ?_ _
    all_goals (simp; try omega)

set_option maxHeartbeats 1000000 in
theorem eqTracker_c (A B A' B' : Option Addr) (n c m d n' c' m' d' : Nat) (rs cs : List Int) (s : Int) (w : World) (hA : Ints w A n rs) (hB : Ints w B m cs) (hA' : Ints w A' n' rs) (hB' : Ints w B' m' cs) (hn : n ≤ 1048576) (hm : m ≤ 1048576) :
    Calls Try.prog 47 #[.agg #[.slice A n c, .slice B m d, .int .i64 s], .agg #[.slice A' n' c', .slice B' m' d', .int .i64 s]] w fun e w' => e = .returned (.bool true) ∧ Below w.heap.size w w' := by
  have hs : (s != s) = false := by simp
  go_enter Try.func47, Try.ntmps47
  go_wp2_with fail
  refine abs_call ?_
  intro W hW
  have p0 : Box W w.heap.size 75 #[.slice A n c, .slice B m d, .int .i64 s] := by rw [hW]; exact (Box.new _ _ _).alloc _
  have r0 : Box W (w.heap.size + 1) 75 #[.slice A' n' c', .slice B' m' d', .int .i64 s] := by rw [hW]; exact Box.newAt (by simp)
  have b0 : Below w.heap.size w W := by rw [hW]; exact ((Below.refl _ _).alloc (Nat.le_refl _) _).alloc (by simp) _
  clear hW
  obtain ⟨-, c1, c2⟩ := p0.c3
  obtain ⟨-, d1, d2⟩ := r0.c3
  refine (eqIntS_c A A' n c n' c' rs _ (hA.below b0) (hA'.below b0) hn).mono ?_
  rintro e w' ⟨rfl, k, rfl⟩
  go_wp2_with fail
  refine (eqIntS_c B B' m d m' d' cs _ ((hB.below b0).drewN k) ((hB'.below b0).drewN k) hm).mono ?_
  rintro e w' ⟨rfl, k', rfl⟩
  go_wp2
  go_ret
  exact ⟨rfl, belowN b0 _⟩

set_option maxHeartbeats 1000000 in
theorem markTracker_c (A B : Option Addr) (n c m d lo hi : Nat) (rs cs : List Int) (s : Int) (k : Int) (w : World) (h : OwnT w lo hi A n c rs B m d cs) (hn : n ≤ 1048576) (hm : m ≤ 1048576) (hk0 : 0 ≤ k) (hk : k ≤ 100000000) :
    Calls Try.prog 48 #[.agg #[.slice A n c, .slice B m d, .int .i64 s], .int .i64 k] w fun e w' => e = .returned (.int .i64 (k + n + m)) ∧ OwnT w' lo hi A n c (marks k n) B m d (marks (k + n) m) ∧ Chg lo hi w w' := by
  obtain ⟨hA, hB, hne⟩ := h
  go_enter Try.func48, Try.ntmps48
  go_wp2_with fail
  refine abs_call ?_
  intro W hW
  have p0 : Box W w.heap.size 75 #[.slice A n c, .slice B m d, .int .i64 s] := by rw [hW]; exact Box.new _ _ _
  have b0 : Below w.heap.size w W := by rw [hW]; exact (Below.refl _ _).alloc (Nat.le_refl _) _
  clear hW
  have lA : ∀ k, blk A c = some k → k < w.heap.size := fun k hk => (hA.1.lt k hk).2
  have oA := hA.below b0
  have oB := hB.below b0
  refine (markIntS_c A n c lo rs k _ oA.1 (by omega) hk0 (by omega)).mono ?_
  rintro e w1 ⟨rfl, o1, g1⟩
  have C1 : Chg lo hi W w1 := Chg.of_grown g1 (fun j hj => ⟨(oA.1.lt j hj).1, oA.2 j hj⟩)
  have oB1 : OwnI w1 lo B m d cs := oB.1.kept g1 (fun j hj e => hne j e.symm hj)
  have p1 := p0.grown g1 (fun e => by have := lA _ e.symm; omega)
  obtain ⟨-, c1, -⟩ := p1.c3
  go_wp2_with fail
  refine (markIntS_c B m d lo cs (k + n) _ oB1 (by omega) (by omega) (by omega)).mono ?_
  rintro e w2 ⟨rfl, o2, g2⟩
  have C2 : Chg lo hi w1 w2 := Chg.of_grown g2 (fun j hj => ⟨(oB.1.lt j hj).1, oB.2 j hj⟩)
  have o1' : OwnI w2 lo A n c (marks k n) := o1.kept g2 (fun j hj e => hne j hj e.symm)
  go_wp2
  go_ret
  exact ⟨rfl, ⟨⟨o1', hA.2⟩, ⟨o2, hB.2⟩, hne⟩, (Chg.of_below b0).trans (C1.trans C2)⟩

set_option maxHeartbeats 1000000 in
theorem heldTracker_c (A B : Option Addr) (n c m d : Nat) (s : Int) (k : Int) (w : World) (hA : Ints w A n (marks k n)) (hB : Ints w B m (marks (k + n) m)) (hn : n ≤ 1048576) (hm : m ≤ 1048576) (hk0 : 0 ≤ k) (hk : k ≤ 100000000) :
    Calls Try.prog 49 #[.agg #[.slice A n c, .slice B m d, .int .i64 s], .int .i64 k] w fun e w' => e = .returned (.int .i64 (k + n + m)) ∧ Below w.heap.size w w' := by
  go_enter Try.func49, Try.ntmps49
  go_wp2_with fail
  refine abs_call ?_
  intro W hW
  have p0 : Box W w.heap.size 75 #[.slice A n c, .slice B m d, .int .i64 s] := by rw [hW]; exact Box.new _ _ _
  have b0 : Below w.heap.size w W := by rw [hW]; exact (Below.refl _ _).alloc (Nat.le_refl _) _
  clear hW
  obtain ⟨-, c1, -⟩ := p0.c3
  refine (heldIntS_c A n c k _ (hA.below b0) (by omega) hk0 (by omega)).mono ?_
  rintro e w' ⟨rfl, rfl⟩
  have t1 : decide (k + (n : Int) < 0) = false := by simp; omega
  go_wp2_with fail
  refine (heldIntS_c B m d (k + n) _ (hB.below b0) (by omega) (by omega) (by omega)).mono ?_
  rintro e w' ⟨rfl, rfl⟩
  have t2 : decide (k + (n : Int) + (m : Int) < 0) = false := by simp; omega
  go_wp2
  go_ret
  exact ⟨rfl, b0⟩
end Go.Proofs.Ytbcbgdomjefdhaa
