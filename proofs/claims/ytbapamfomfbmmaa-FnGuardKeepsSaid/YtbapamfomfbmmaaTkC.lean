/-
  Contract of the program's TrackRow.
-/
import Derived.Test.YtbapamfomfbmmaaTkB
import Derived.Test.YtbapamfomfbmmaaTkM
import Derived.Deep.DeepCutAuto
namespace Go.Proofs.Ytbapamfomfbmmaa
open Go.RowKit
set_option linter.unusedSimpArgs false
set_option linter.unusedVariables false

theorem cell_s3 {w : World} {g u k : Nat} {a b c : Value} (hne : g ≠ u) : (((w.setCell ⟨u, 0, none⟩ a).setCell ⟨u, 1, none⟩ b).setCell ⟨u, 2, none⟩ c).cell? ⟨g, k, none⟩ = w.cell? ⟨g, k, none⟩ :=
  World.cell?_of_block (((Below.heap_setCell _ _ _ g hne).trans (Below.heap_setCell _ _ _ g hne)).trans (Below.heap_setCell _ _ _ g hne))
theorem cell_dr {w : World} {p : Addr} {v : Option Value} (h : w.cell? p = v) : w.drew.cell? p = v := h
theorem cell_s3d {w : World} {g u k : Nat} {a b c : Value} {v : Option Value} (hne : g ≠ u) (h : w.cell? ⟨g, k, none⟩ = v) : (((w.setCell ⟨u, 0, none⟩ a).setCell ⟨u, 1, none⟩ b).setCell ⟨u, 2, none⟩ c).drew.cell? ⟨g, k, none⟩ = v := (cell_s3 hne).trans h
theorem trk_no {rs cs : List Int} {s row limit : Int} (h : trkOk rs cs s row limit = false) : trkR' rs cs s row limit = rs ∧ trkC' rs cs s row limit = cs ∧ trkS' rs cs s row limit = s ∧ trkFull rs cs s row limit = false := by
  unfold trkR' trkC' trkS' trkFull
  rw [h]
  exact ⟨rfl, rfl, rfl, rfl⟩
theorem trk_yes {rs cs : List Int} {s row limit : Int} (h : trkOk rs cs s row limit = true) : trkR' rs cs s row limit = trkR rs cs s row ∧ trkC' rs cs s row limit = trkC rs cs s row ∧ trkS' rs cs s row limit = trkS rs cs s row := by
  unfold trkR' trkC' trkS'
  rw [h]
  exact ⟨rfl, rfl, rfl⟩
theorem trkOk_no1 {rs cs : List Int} {s row limit : Int} (h : trkIn rs cs s row limit = false) : trkOk rs cs s row limit = false := by unfold trkOk; rw [h]; rfl
theorem trkOk_at {rs cs : List Int} {s row limit : Int} {b : Bool} (h : trkIn rs cs s row limit = true) (h2 : tokOk (trkR rs cs s row) (trkC rs cs s row) (trkS rs cs s row) = b) : trkOk rs cs s row limit = b := by unfold trkOk; rw [h, h2]; rfl
theorem tokOk_nums {rs cs : List Int} {s : Int} (h : tokOk rs cs s = true) : 1 ≤ rs.length ∧ rs.length ≤ 16 ∧ cs.length = rs.length ∧ 0 ≤ s ∧ s ≤ 100000 ∧ ∀ (i : Nat) (y : Int), cs[i]? = some y → s ≤ y ∧ y ≤ 100000 := by
  unfold tokOk at h
  simp only [Bool.and_eq_true, decide_eq_true_eq] at h
  obtain ⟨h1, h2, h3, h4⟩ := h
  have a1 := inB_t h1
  have a3 := inB_t h3
  refine ⟨by omega, by omega, h2, a3.1, a3.2, fun i y hy => ?_⟩
  have hi := lt_of_get hy
  unfold tokTo at h4
  rw [List.all_eq_true] at h4
  have h5 := h4 i (List.mem_range.2 (by omega))
  obtain ⟨x, hx⟩ := get_some (show i < rs.length by omega)
  rw [tok1_eq hx hy] at h5
  simp only [Bool.and_eq_true] at h5
  exact inB_t h5.2.1
/-- The three ways of a count. -/
theorem trk_hit {rs cs : List Int} {s row : Int} (hm : row ∈ rs) (hl : cs.length = rs.length) : ∃ (k : Nat) (y : Int), k < rs.length ∧ idxI rs row = k ∧ cs[k]? = some y ∧ trkR rs cs s row = rs ∧ trkC rs cs s row = cs.set k (y + 1) ∧ trkS rs cs s row = s ∧ trkI rs cs s row = k := by
  obtain ⟨k, ek, hk, hkl, hI⟩ := mem_idx hm
  obtain ⟨y, hy⟩ := get_some (show k < cs.length by omega)
  refine ⟨k, y, hkl, hI, hy, ?_, ?_, ?_, ?_⟩
  · unfold trkR; rw [if_pos hm]
  · unfold trkC; rw [if_pos hm, ek, getD_of hy]
  · unfold trkS; rw [if_pos hm]
  · unfold trkI; rw [if_pos hm, hI]
theorem trk_new {rs cs : List Int} {s row : Int} (hm : row ∉ rs) (hs : s ∈ cs) (hl : cs.length = rs.length) : ∃ (k : Nat), k < rs.length ∧ idxI rs row = -1 ∧ idxI cs s = k ∧ cs[k]? = some s ∧ trkR rs cs s row = rs.set k row ∧ trkC rs cs s row = cs.set k (s + 1) ∧ trkS rs cs s row = s ∧ trkI rs cs s row = k := by
  obtain ⟨k, ek, hk, hkl, hI⟩ := mem_idx hs
  refine ⟨k, by omega, idxI_none hm, hI, hk, ?_, ?_, ?_, ?_⟩
  · unfold trkR; rw [if_neg hm, if_pos hs, ek]
  · unfold trkC; rw [if_neg hm, if_pos hs, ek]
  · unfold trkS; rw [if_neg hm, if_pos hs]
  · unfold trkI; rw [if_neg hm, hI]
theorem trk_spill {rs cs : List Int} {s row : Int} (hm : row ∉ rs) (hs : s ∉ cs) : idxI rs row = -1 ∧ idxI cs s = -1 ∧ trkR rs cs s row = rs ∧ trkC rs cs s row = cs ∧ trkS rs cs s row = s + 1 ∧ trkI rs cs s row = -1 := by
  refine ⟨idxI_none hm, idxI_none hs, ?_, ?_, ?_, ?_⟩
  · unfold trkR; rw [if_neg hm, if_neg hs]
  · unfold trkC; rw [if_neg hm, if_neg hs]
  · unfold trkS; rw [if_neg hm, if_neg hs]
  · unfold trkI; rw [if_neg hm]; exact idxI_none hs
theorem trkFull_at {rs cs : List Int} {s row limit y : Int} {k : Nat} (h : trkOk rs cs s row limit = true) (hI : trkI rs cs s row = k) (hy : (trkC rs cs s row)[k]? = some y) : trkFull rs cs s row limit = (y.tmod limit == 0) := by
  unfold trkFull
  rw [h, hI, Int.toNat_natCast, getD_of hy]
  simp
theorem trkFull_no {rs cs : List Int} {s row limit : Int} (hI : trkI rs cs s row = -1) : trkFull rs cs s row limit = false := by
  unfold trkFull
  rw [hI]
  simp
set_option maxRecDepth 100000 in
set_option maxHeartbeats 8000000 in
theorem iTrackRow_c (A B : Option Addr) (n c m d : Nat) (rs cs : List Int) (s row limit : Int) (w : World) (hA : Ints w A n rs) (hB : Ints w B m cs) (hn : n ≤ 1048576) (hm : m ≤ 1048576) :
    Calls Try.prog 99 #[.agg #[.slice A n c, .slice B m d, .int .i64 s], .int .i64 row, .int .i64 limit] w (NewTkB (trkR' rs cs s row limit) (trkC' rs cs s row limit) (trkS' rs cs s row limit) (trkFull rs cs s row limit) w) := by
  have bel : Below w.heap.size w w := Below.refl _ _
  have HLA := Lib.hid hA.1
  have HLB := Lib.hid hB.1
  go_enter Try.func99, Try.ntmps99
  go_wp2_with fail
  refine abs_call ?_
  intro W hW
  have szW : w.heap.size + 1 + 1 ≤ W.heap.size := by rw [hW]; simp [World.setCell]
  have szW_ := bel.size
  replace bel : Below w.heap.size w W := by rw [hW]; exact ((bel).alloc (by first | omega | (simp [World.setCell] <;> omega)) _).alloc (by first | omega | (simp [World.setCell] <;> omega)) _
  have p : Box W w.heap.size 132 #[.slice A n c, .slice B m d, .int .i64 s] := by rw [hW]; exact ((Box.newAt (by simp [World.setCell]))).alloc _
  have r : Box W (w.heap.size + 1) 132 #[.slice none 0 0, .slice none 0 0, .int .i64 0] := by rw [hW]; exact (Box.newAt (by simp [World.setCell]))
  clear hW
  have iA := hA.below bel
  have iB := hB.below bel
  refine (copyTracker_c A B n c m d rs cs s _ iA iB hn hm).mono ?_
  rintro e w1 ⟨A1, n1, c1, B1, m1, d1, u1, v1, u2, v2, rfl, o1, q1, ⟨ha1, ha2, ha3, ha4, hsep⟩, b1⟩
  have hn1 : n = n1 := by have := o1.len; have := HLA.out; omega
  have hnm : m = m1 := by have := q1.len; have := HLB.out; omega
  subst hn1 hnm
  have szw1 := b1.size
  replace bel := bel.trans (b1.mono bel.size)
  replace p := p.kept b1
  replace r := r.kept b1
  clear b1
  obtain ⟨p_0, p_1, p_2⟩ := p.c3
  have p_lt := p.lt
  go_wp2_with fail
  refine abs_call ?_
  intro W2 hW
  clear p_0 p_1 p_2 p_lt
  have szW2 : w1.heap.size + 1 ≤ W2.heap.size := by rw [hW]; simp [World.setCell]
  have szW2_ := bel.size
  replace bel : Below w.heap.size w W2 := by rw [hW]; exact (bel).alloc (by first | omega | (simp [World.setCell] <;> omega)) _
  replace p : Box W2 w.heap.size 132 #[.slice A n c, .slice B m d, .int .i64 s] := by rw [hW]; exact p.alloc _
  replace r : Box W2 (w.heap.size + 1) 132 #[.slice none 0 0, .slice none 0 0, .int .i64 0] := by rw [hW]; exact r.alloc _
  have q : Box W2 w1.heap.size 132 #[.slice A1 n c1, .slice B1 m d1, .int .i64 s] := by rw [hW]; exact (Box.newAt (by simp [World.setCell]))
  replace o1 : OwnH W2 u1 v1 A1 n c1 rs := by rw [hW]; exact o1.alloc _
  replace q1 : OwnH W2 u2 v2 B1 m d1 cs := by rw [hW]; exact q1.alloc _
  clear hW
  obtain ⟨p_0, p_1, p_2⟩ := p.c3
  have p_lt := p.lt
  obtain ⟨r_0, r_1, r_2⟩ := r.c3
  have r_lt := r.lt
  obtain ⟨q_0, q_1, q_2⟩ := q.c3
  have q_lt := q.lt
  have r_f := r.frozen
  have q_f := q.frozen
  refine (iTrackerOk_c A B n c m d rs cs s _ (hA.below bel) (hB.below bel) hn hm).mono ?_
  rintro e w3 ⟨rfl, b3⟩
  clear p_0 p_1 p_2 p_lt r_0 r_1 r_2 r_lt q_0 q_1 q_2 q_lt r_f q_f
  have szw3 := b3.size
  replace bel := bel.trans (b3.mono bel.size)
  replace p := p.kept b3
  replace r := r.kept b3
  replace q := q.kept b3
  replace o1 := o1.below b3
  replace q1 := q1.below b3
  clear b3
  obtain ⟨p_0, p_1, p_2⟩ := p.c3
  have p_lt := p.lt
  obtain ⟨r_0, r_1, r_2⟩ := r.c3
  have r_lt := r.lt
  obtain ⟨q_0, q_1, q_2⟩ := q.c3
  have q_lt := q.lt
  have r_f := r.frozen
  have q_f := q.frozen
  by_cases h1 : tokOk rs cs s = true
  case neg =>
    have h1 : tokOk rs cs s = false := by simpa using h1
    have hin : trkIn rs cs s row limit = false := by unfold trkIn; rw [h1]; rfl
    rw [h1]
    have HT := Lib.hid (trk_no (trkOk_no1 (limit := limit) (row := row) (rs := rs) (cs := cs) (s := s) hin))
    clear hin
    go_wp2_with (go_at_call 75; refine (between_c _ _ _ _).mono ?_; rintro e w' ⟨rfl, rfl⟩)
    refine abs_body ?_
    intro W9 hW
    clear p_0 p_1 p_2 p_lt r_0 r_1 r_2 r_lt q_0 q_1 q_2 q_lt r_f q_f
    have szW9 : w3.heap.size ≤ W9.heap.size := by rw [hW]; simp [World.setCell]
    have szW9_ := bel.size
    replace bel : Below w.heap.size w W9 := by rw [hW]; exact (((bel).setCell (by dsimp only; omega) _).setCell (by dsimp only; omega) _).setCell (by dsimp only; omega) _
    replace p : Box W9 w.heap.size 132 #[.slice A n c, .slice B m d, .int .i64 s] := by rw [hW]; exact (((p).far (by dsimp only; omega) _).far (by dsimp only; omega) _).far (by dsimp only; omega) _
    replace r : Box W9 (w.heap.size + 1) 132 #[.slice A1 n c1, .slice B1 m d1, .int .i64 (s)] := by rw [hW]; exact (((r).set_ 0 _).set_ 1 _).set_ 2 _
    replace q : Box W9 w1.heap.size 132 #[.slice A1 n c1, .slice B1 m d1, .int .i64 s] := by rw [hW]; exact (((q).far (by dsimp only; omega) _).far (by dsimp only; omega) _).far (by dsimp only; omega) _
    replace o1 : OwnH W9 u1 v1 A1 n c1 rs := by rw [hW]; exact (((o1).setCell _ _ (by dsimp only; omega)).setCell _ _ (by dsimp only; omega)).setCell _ _ (by dsimp only; omega)
    replace q1 : OwnH W9 u2 v2 B1 m d1 cs := by rw [hW]; exact (((q1).setCell _ _ (by dsimp only; omega)).setCell _ _ (by dsimp only; omega)).setCell _ _ (by dsimp only; omega)
    clear hW
    obtain ⟨z0, z1, z2⟩ := r.c3
    refine bodyPost_ret (v := .tuple #[.agg #[.slice A1 n c1, .slice B1 m d1, .int .i64 (s)], .bool false]) (by simp [results, Try.results99, go_sem, z0, z1, z2]) rfl ?_
    rw [HT.out.1, HT.out.2.1, HT.out.2.2.1, HT.out.2.2.2]
    refine ⟨_, _, _, _, _, _, u1, v1, u2, v2, rfl, ?_, ?_, ⟨by omega, by omega, by omega, by omega, by omega⟩, bel⟩
    · exact o1
    · exact q1
  by_cases h2 : inB row 0 15 = true
  case neg =>
    have h2 : inB row 0 15 = false := by simpa using h2
    have hin : trkIn rs cs s row limit = false := by unfold trkIn; rw [h1, h2]; rfl
    rw [h1]
    have HT := Lib.hid (trk_no (trkOk_no1 (limit := limit) (row := row) (rs := rs) (cs := cs) (s := s) hin))
    clear hin
    go_wp2_with (go_at_call 75; refine (between_c _ _ _ _).mono ?_; rintro e w' ⟨rfl, rfl⟩)
    refine abs_body ?_
    intro W9 hW
    clear p_0 p_1 p_2 p_lt r_0 r_1 r_2 r_lt q_0 q_1 q_2 q_lt r_f q_f
    have szW9 : w3.heap.size ≤ W9.heap.size := by rw [hW]; simp [World.setCell]
    have szW9_ := bel.size
    replace bel : Below w.heap.size w W9 := by rw [hW]; exact (((bel).setCell (by dsimp only; omega) _).setCell (by dsimp only; omega) _).setCell (by dsimp only; omega) _
    replace p : Box W9 w.heap.size 132 #[.slice A n c, .slice B m d, .int .i64 s] := by rw [hW]; exact (((p).far (by dsimp only; omega) _).far (by dsimp only; omega) _).far (by dsimp only; omega) _
    replace r : Box W9 (w.heap.size + 1) 132 #[.slice A1 n c1, .slice B1 m d1, .int .i64 (s)] := by rw [hW]; exact (((r).set_ 0 _).set_ 1 _).set_ 2 _
    replace q : Box W9 w1.heap.size 132 #[.slice A1 n c1, .slice B1 m d1, .int .i64 s] := by rw [hW]; exact (((q).far (by dsimp only; omega) _).far (by dsimp only; omega) _).far (by dsimp only; omega) _
    replace o1 : OwnH W9 u1 v1 A1 n c1 rs := by rw [hW]; exact (((o1).setCell _ _ (by dsimp only; omega)).setCell _ _ (by dsimp only; omega)).setCell _ _ (by dsimp only; omega)
    replace q1 : OwnH W9 u2 v2 B1 m d1 cs := by rw [hW]; exact (((q1).setCell _ _ (by dsimp only; omega)).setCell _ _ (by dsimp only; omega)).setCell _ _ (by dsimp only; omega)
    clear hW
    obtain ⟨z0, z1, z2⟩ := r.c3
    refine bodyPost_ret (v := .tuple #[.agg #[.slice A1 n c1, .slice B1 m d1, .int .i64 (s)], .bool false]) (by simp [results, Try.results99, go_sem, z0, z1, z2]) rfl ?_
    rw [HT.out.1, HT.out.2.1, HT.out.2.2.1, HT.out.2.2.2]
    refine ⟨_, _, _, _, _, _, u1, v1, u2, v2, rfl, ?_, ?_, ⟨by omega, by omega, by omega, by omega, by omega⟩, bel⟩
    · exact o1
    · exact q1
  by_cases h3 : inB limit 2 1000 = true
  case neg =>
    have h3 : inB limit 2 1000 = false := by simpa using h3
    have hin : trkIn rs cs s row limit = false := by unfold trkIn; rw [h1, h2, h3]; rfl
    rw [h1]
    have HT := Lib.hid (trk_no (trkOk_no1 (limit := limit) (row := row) (rs := rs) (cs := cs) (s := s) hin))
    clear hin
    go_wp2_with (go_at_call 75; refine (between_c _ _ _ _).mono ?_; rintro e w' ⟨rfl, rfl⟩)
    refine abs_body ?_
    intro W9 hW
    clear p_0 p_1 p_2 p_lt r_0 r_1 r_2 r_lt q_0 q_1 q_2 q_lt r_f q_f
    have szW9 : w3.heap.size ≤ W9.heap.size := by rw [hW]; simp [World.setCell]
    have szW9_ := bel.size
    replace bel : Below w.heap.size w W9 := by rw [hW]; exact (((bel).setCell (by dsimp only; omega) _).setCell (by dsimp only; omega) _).setCell (by dsimp only; omega) _
    replace p : Box W9 w.heap.size 132 #[.slice A n c, .slice B m d, .int .i64 s] := by rw [hW]; exact (((p).far (by dsimp only; omega) _).far (by dsimp only; omega) _).far (by dsimp only; omega) _
    replace r : Box W9 (w.heap.size + 1) 132 #[.slice A1 n c1, .slice B1 m d1, .int .i64 (s)] := by rw [hW]; exact (((r).set_ 0 _).set_ 1 _).set_ 2 _
    replace q : Box W9 w1.heap.size 132 #[.slice A1 n c1, .slice B1 m d1, .int .i64 s] := by rw [hW]; exact (((q).far (by dsimp only; omega) _).far (by dsimp only; omega) _).far (by dsimp only; omega) _
    replace o1 : OwnH W9 u1 v1 A1 n c1 rs := by rw [hW]; exact (((o1).setCell _ _ (by dsimp only; omega)).setCell _ _ (by dsimp only; omega)).setCell _ _ (by dsimp only; omega)
    replace q1 : OwnH W9 u2 v2 B1 m d1 cs := by rw [hW]; exact (((q1).setCell _ _ (by dsimp only; omega)).setCell _ _ (by dsimp only; omega)).setCell _ _ (by dsimp only; omega)
    clear hW
    obtain ⟨z0, z1, z2⟩ := r.c3
    refine bodyPost_ret (v := .tuple #[.agg #[.slice A1 n c1, .slice B1 m d1, .int .i64 (s)], .bool false]) (by simp [results, Try.results99, go_sem, z0, z1, z2]) rfl ?_
    rw [HT.out.1, HT.out.2.1, HT.out.2.2.1, HT.out.2.2.2]
    refine ⟨_, _, _, _, _, _, u1, v1, u2, v2, rfl, ?_, ?_, ⟨by omega, by omega, by omega, by omega, by omega⟩, bel⟩
    · exact o1
    · exact q1
  have hin : trkIn rs cs s row limit = true := by unfold trkIn; rw [h1, h2, h3]; rfl
  have HIN := Lib.hid hin
  rw [h1]
  obtain ⟨r0, r15⟩ := inB_t h2
  obtain ⟨l2, l1000⟩ := inB_t h3
  obtain ⟨k1, k16, kl, s0, s1, kc⟩ := tokOk_nums h1
  have n1 : 1 ≤ n := by have := HLA.out; omega
  have n16 : n ≤ 16 := by have := HLA.out; omega
  have mn : m = n := by have := HLA.out; have := HLB.out; omega
  subst mn
  have KC := Lib.hid kc
  have KL := Lib.hid kl
  clear hin k1 k16 kl kc
  go_wp2_with (go_at_call 75; refine (between_c _ _ _ _).mono ?_; rintro e w' ⟨rfl, rfl⟩)
  refine (index_c A1 m c1 rs row _ (by exact o1.ints) hm).mono ?_
  rintro e w' ⟨rfl, rfl⟩
  by_cases hmem : row ∈ rs
  case pos =>
    obtain ⟨k, y, kn, eI, hy, e1, e2, e3, e4⟩ := trk_hit (s := s) hmem KL.out
    have HK := Lib.hid (And.intro e1 (And.intro e2 (And.intro e3 e4)))
    have yb := KC.out k y hy
    obtain ⟨y0, y1⟩ := yb
    have kn' : k < m := by have := HLA.out; omega
    rw [eI]
    have HY := Lib.hid hy
    clear e1 e2 e3 e4 eI kn hmem hy
    obtain ⟨gB, y', rfl, hcB, hfB, hyB, gB1, gB2⟩ := q1.at_ kn'
    obtain rfl : y' = y := by have := hyB.out.symm.trans HY.out; injection this
    clear hyB
    have k0 : (0 : Int) ≤ (k : Int) := by omega
    have k1 : (k : Int) < (m : Int) := by omega
    go_wp2_with fail
    refine abs_call ?_
    intro W4 hW
    clear p_0 p_1 p_2 p_lt r_0 r_1 r_2 r_lt q_0 q_1 q_2 q_lt r_f q_f
    have szW4 : w3.heap.size ≤ W4.heap.size := by rw [hW]; simp [World.setCell]
    have szW4_ := bel.size
    replace bel : Below w.heap.size w W4 := by rw [hW]; exact (bel).setCell (by dsimp only; omega) _
    replace p : Box W4 w.heap.size 132 #[.slice A (m) c, .slice B m d, .int .i64 s] := by rw [hW]; exact (p).far (by dsimp only; omega) _
    replace r : Box W4 (w.heap.size + 1) 132 #[.slice none 0 0, .slice none 0 0, .int .i64 0] := by rw [hW]; exact (r).far (by dsimp only; omega) _
    replace q : Box W4 w1.heap.size 132 #[.slice A1 (m) c1, .slice (some ⟨gB, 0, none⟩) m d1, .int .i64 s] := by rw [hW]; exact (q).far (by dsimp only; omega) _
    replace o1 : OwnH W4 u1 v1 A1 (m) c1 rs := by rw [hW]; exact (o1).setCell _ _ (by dsimp only; omega)
    replace q1 : OwnH W4 u2 v2 (some ⟨gB, 0, none⟩) m d1 (cs.set k (y' + 1)) := by rw [hW]; exact ((q1).stored rfl kn' _).1
    clear hW
    obtain ⟨p_0, p_1, p_2⟩ := p.c3
    have p_lt := p.lt
    obtain ⟨r_0, r_1, r_2⟩ := r.c3
    have r_lt := r.lt
    obtain ⟨q_0, q_1, q_2⟩ := q.c3
    have q_lt := q.lt
    have r_f := r.frozen
    have q_f := q.frozen
    refine (iTrackerOk_c A1 (some ⟨gB, 0, none⟩) m c1 m d1 (rs) (cs.set k (y' + 1)) (s) _ (by exact o1.ints) (by exact q1.ints) hm hm).mono ?_
    rintro e w5 ⟨rfl, b5⟩
    clear p_0 p_1 p_2 p_lt r_0 r_1 r_2 r_lt q_0 q_1 q_2 q_lt r_f q_f
    have szw5 := b5.size
    replace bel := bel.trans (b5.mono bel.size)
    replace p := p.kept b5
    replace r := r.kept b5
    replace q := q.kept b5
    replace o1 := o1.below b5
    replace q1 := q1.below b5
    clear b5
    obtain ⟨p_0, p_1, p_2⟩ := p.c3
    have p_lt := p.lt
    obtain ⟨r_0, r_1, r_2⟩ := r.c3
    have r_lt := r.lt
    obtain ⟨q_0, q_1, q_2⟩ := q.c3
    have q_lt := q.lt
    have r_f := r.frozen
    have q_f := q.frozen
    by_cases hg : tokOk (rs) (cs.set k (y' + 1)) (s) = true
    case neg =>
      have hg : tokOk (rs) (cs.set k (y' + 1)) (s) = false := by simpa using hg
      have HT := Lib.hid (trk_no (trkOk_at HIN.out (b := false) (by rw [HK.out.1, HK.out.2.1, HK.out.2.2.1]; exact hg)))
      rw [hg]
      go_wp2_with fail
      refine (copyTracker_c A B m c m d rs cs s _ (hA.below bel) (hB.below bel) hn hm).mono ?_
      rintro e w6 ⟨A6, n6, c6, B6, m6, d6, u3, v3, u4, v4, rfl, o6, q6, ⟨hb1, hb2, hb3, hb4, hsep6⟩, b6⟩
      have hn6 : m = n6 := by have := o6.len; have := HLA.out; omega
      have hmm6 : m = m6 := by have := q6.len; have := HLB.out; omega
      subst hn6 hmm6
      clear p_0 p_1 p_2 p_lt r_0 r_1 r_2 r_lt q_0 q_1 q_2 q_lt r_f q_f
      have szw6 := b6.size
      replace bel := bel.trans (b6.mono bel.size)
      replace p := p.kept b6
      replace r := r.kept b6
      replace q := q.kept b6
      replace o1 := o1.below b6
      replace q1 := q1.below b6
      clear b6
      obtain ⟨r_0, r_1, r_2⟩ := r.c3
      have r_lt := r.lt
      have r_f := r.frozen
      go_wp2_with fail
      refine abs_body ?_
      intro W9 hW
      clear r_0 r_1 r_2 r_lt r_f
      have szW9 : w6.heap.size ≤ W9.heap.size := by rw [hW]; simp [World.setCell]
      have szW9_ := bel.size
      replace bel : Below w.heap.size w W9 := by rw [hW]; exact (((bel).setCell (by dsimp only; omega) _).setCell (by dsimp only; omega) _).setCell (by dsimp only; omega) _
      replace p : Box W9 w.heap.size 132 #[.slice A (m) c, .slice B m d, .int .i64 s] := by rw [hW]; exact (((p).far (by dsimp only; omega) _).far (by dsimp only; omega) _).far (by dsimp only; omega) _
      replace r : Box W9 (w.heap.size + 1) 132 #[.slice A6 m c6, .slice B6 m d6, .int .i64 (s)] := by rw [hW]; exact (((r).set_ 0 _).set_ 1 _).set_ 2 _
      replace q : Box W9 w1.heap.size 132 #[.slice A1 (m) c1, .slice (some ⟨gB, 0, none⟩) m d1, .int .i64 s] := by rw [hW]; exact (((q).far (by dsimp only; omega) _).far (by dsimp only; omega) _).far (by dsimp only; omega) _
      replace o1 : OwnH W9 u1 v1 A1 (m) c1 rs := by rw [hW]; exact (((o1).setCell _ _ (by dsimp only; omega)).setCell _ _ (by dsimp only; omega)).setCell _ _ (by dsimp only; omega)
      replace q1 : OwnH W9 u2 v2 (some ⟨gB, 0, none⟩) m d1 (cs.set k (y' + 1)) := by rw [hW]; exact (((q1).setCell _ _ (by dsimp only; omega)).setCell _ _ (by dsimp only; omega)).setCell _ _ (by dsimp only; omega)
      replace o6 : OwnH W9 u3 v3 A6 m c6 rs := by rw [hW]; exact (((o6).setCell _ _ (by dsimp only; omega)).setCell _ _ (by dsimp only; omega)).setCell _ _ (by dsimp only; omega)
      replace q6 : OwnH W9 u4 v4 B6 m d6 cs := by rw [hW]; exact (((q6).setCell _ _ (by dsimp only; omega)).setCell _ _ (by dsimp only; omega)).setCell _ _ (by dsimp only; omega)
      clear hW
      obtain ⟨z0, z1, z2⟩ := r.c3
      refine bodyPost_ret (v := .tuple #[.agg #[.slice A6 m c6, .slice B6 m d6, .int .i64 (s)], .bool false]) (by simp [results, Try.results99, go_sem, z0, z1, z2]) rfl ?_
      rw [HT.out.1, HT.out.2.1, HT.out.2.2.1, HT.out.2.2.2]
      refine ⟨_, _, _, _, _, _, u3, v3, u4, v4, rfl, ?_, ?_, ⟨by omega, by omega, by omega, by omega, by omega⟩, bel⟩
      · exact o6
      · exact q6
    have HTO := Lib.hid (trkOk_at HIN.out (b := true) (by rw [HK.out.1, HK.out.2.1, HK.out.2.2.1]; exact hg))
    have HT := Lib.hid (trk_yes HTO.out)
    rw [hg]
    clear hg
    obtain ⟨gB5, y5, eB, hcy, -, hy5, -, -⟩ := q1.at_ kn'
    obtain rfl : gB = gB5 := by injection eB with e; injection e
    obtain rfl : y5 = y' + 1 := by have h := hy5.out; rw [List.getElem?_set_self (by have := q1.len; simp at this; omega)] at h; injection h with h; exact h.symm
    clear eB hy5
    have HF : Hid (trkFull rs cs s row limit = ((y' + 1).tmod limit == 0)) := by
      refine trkFull_at HTO.out HK.out.2.2.2 ?_
      rw [HK.out.2.1]
      exact List.getElem?_set_self (by have := KL.out; have := HLA.out; omega)
    have l0 : limit ≠ 0 := by omega
    go_wp2_with fail
    go_region_held3 (fun Y => Y.cell? ⟨w1.heap.size, 0, none⟩ = some (.slice A1 m c1) ∧ Y.cell? ⟨w1.heap.size, 1, none⟩ = some (.slice (some ⟨gB, 0, none⟩) m d1) ∧ Y.cell? ⟨w1.heap.size, 2, none⟩ = some (.int .i64 (s)) ∧ Y.cell? ⟨gB, k, none⟩ = some (.int .i64 (y' + 1)))
      (first | (with_reducible exact ⟨q_0, q_1, q_2, hcy⟩) | (with_reducible exact ⟨cell_dr q_0, cell_dr q_1, cell_dr q_2, cell_dr hcy⟩) | (with_reducible exact ⟨cell_s3d (by omega) q_0, cell_s3d (by omega) q_1, cell_s3d (by omega) q_2, cell_s3d (by omega) hcy⟩) | fail) (fail)
    all_goals
      go_wp2_with fail
      refine abs_body ?_
      intro W9 hW
      clear p_0 p_1 p_2 p_lt r_0 r_1 r_2 r_lt q_0 q_1 q_2 q_lt r_f q_f
      have szW9 : w5.heap.size ≤ W9.heap.size := by rw [hW]; simp [World.setCell]
      have szW9_ := bel.size
      replace bel : Below w.heap.size w W9 := by rw [hW]; exact (bel_d ((((bel).setCell (by dsimp only; omega) _).setCell (by dsimp only; omega) _).setCell (by dsimp only; omega) _))
      replace p : Box W9 w.heap.size 132 #[.slice A (m) c, .slice B m d, .int .i64 s] := by rw [hW]; exact (Box.dr ((((p).far (by dsimp only; omega) _).far (by dsimp only; omega) _).far (by dsimp only; omega) _))
      replace r : Box W9 (w.heap.size + 1) 132 #[.slice A1 m c1, .slice (some ⟨gB, 0, none⟩) m d1, .int .i64 (s)] := by rw [hW]; exact (Box.dr ((((r).set_ 0 _).set_ 1 _).set_ 2 _))
      replace q : Box W9 w1.heap.size 132 #[.slice A1 (m) c1, .slice (some ⟨gB, 0, none⟩) m d1, .int .i64 s] := by rw [hW]; exact (Box.dr ((((q).far (by dsimp only; omega) _).far (by dsimp only; omega) _).far (by dsimp only; omega) _))
      replace o1 : OwnH W9 u1 v1 A1 (m) c1 rs := by rw [hW]; exact (OwnH.dr ((((o1).setCell _ _ (by dsimp only; omega)).setCell _ _ (by dsimp only; omega)).setCell _ _ (by dsimp only; omega)))
      replace q1 : OwnH W9 u2 v2 (some ⟨gB, 0, none⟩) m d1 (cs.set k (y' + 1)) := by rw [hW]; exact (OwnH.dr ((((q1).setCell _ _ (by dsimp only; omega)).setCell _ _ (by dsimp only; omega)).setCell _ _ (by dsimp only; omega)))
      clear hW
      obtain ⟨z0, z1, z2⟩ := r.c3
      refine bodyPost_ret (v := .tuple #[.agg #[.slice A1 m c1, .slice (some ⟨gB, 0, none⟩) m d1, .int .i64 (s)], .bool ((y' + 1).tmod limit == 0)]) (by simp [results, Try.results99, go_sem, z0, z1, z2]) rfl ?_
      rw [HT.out.1, HT.out.2.1, HT.out.2.2, HK.out.1, HK.out.2.1, HK.out.2.2.1, HF.out]
      refine ⟨_, _, _, _, _, _, u1, v1, u2, v2, rfl, ?_, ?_, ⟨by omega, by omega, by omega, by omega, by omega⟩, bel⟩
      · exact o1
      · exact q1
  by_cases hsm : s ∈ cs
  case pos =>
    obtain ⟨k, kn, eI, eI2, hy, e1, e2, e3, e4⟩ := trk_new (row := row) hmem hsm KL.out
    have HK := Lib.hid (And.intro e1 (And.intro e2 (And.intro e3 e4)))
    have kn' : k < m := by have := HLA.out; omega
    rw [eI]
    have HY := Lib.hid hy
    have HI2 := Lib.hid eI2
    clear e1 e2 e3 e4 eI eI2 kn hmem hsm hy
    obtain ⟨gA, x', rfl, hcA, hfA, hxA, gA1, gA2⟩ := o1.at_ kn'
    obtain ⟨gB, y', rfl, hcB, hfB, hyB, gB1, gB2⟩ := q1.at_ kn'
    obtain rfl : y' = s := by have := hyB.out.symm.trans HY.out; injection this
    clear hyB hxA
    have k0 : (0 : Int) ≤ (k : Int) := by omega
    have k1 : (k : Int) < (m : Int) := by omega
    go_wp2_with fail
    refine (index_c (some ⟨gB, 0, none⟩) m d1 cs y' _ (by exact q1.ints) hm).mono ?_
    rintro e w' ⟨rfl, rfl⟩
    rw [HI2.out]
    go_wp2_with fail
    refine abs_call ?_
    intro W4 hW
    clear p_0 p_1 p_2 p_lt r_0 r_1 r_2 r_lt q_0 q_1 q_2 q_lt r_f q_f
    have szW4 : w3.heap.size ≤ W4.heap.size := by rw [hW]; simp [World.setCell]
    have szW4_ := bel.size
    replace bel : Below w.heap.size w W4 := by rw [hW]; exact ((bel).setCell (by dsimp only; omega) _).setCell (by dsimp only; omega) _
    replace p : Box W4 w.heap.size 132 #[.slice A (m) c, .slice B m d, .int .i64 (y')] := by rw [hW]; exact ((p).far (by dsimp only; omega) _).far (by dsimp only; omega) _
    replace r : Box W4 (w.heap.size + 1) 132 #[.slice none 0 0, .slice none 0 0, .int .i64 0] := by rw [hW]; exact ((r).far (by dsimp only; omega) _).far (by dsimp only; omega) _
    replace q : Box W4 w1.heap.size 132 #[.slice (some ⟨gA, 0, none⟩) (m) c1, .slice (some ⟨gB, 0, none⟩) m d1, .int .i64 (y')] := by rw [hW]; exact ((q).far (by dsimp only; omega) _).far (by dsimp only; omega) _
    replace o1 : OwnH W4 u1 v1 (some ⟨gA, 0, none⟩) m c1 (rs.set k row) := by rw [hW]; exact (((o1).stored rfl kn' _).1).setCell _ _ (by dsimp only; omega)
    replace q1 : OwnH W4 u2 v2 (some ⟨gB, 0, none⟩) m d1 (cs.set k (y' + 1)) := by rw [hW]; exact (((q1).setCell _ _ (by dsimp only; omega)).stored rfl kn' _).1
    clear hW
    obtain ⟨p_0, p_1, p_2⟩ := p.c3
    have p_lt := p.lt
    obtain ⟨r_0, r_1, r_2⟩ := r.c3
    have r_lt := r.lt
    obtain ⟨q_0, q_1, q_2⟩ := q.c3
    have q_lt := q.lt
    have r_f := r.frozen
    have q_f := q.frozen
    refine (iTrackerOk_c (some ⟨gA, 0, none⟩) (some ⟨gB, 0, none⟩) m c1 m d1 (rs.set k row) (cs.set k (y' + 1)) (y') _ (by exact o1.ints) (by exact q1.ints) hm hm).mono ?_
    rintro e w5 ⟨rfl, b5⟩
    clear p_0 p_1 p_2 p_lt r_0 r_1 r_2 r_lt q_0 q_1 q_2 q_lt r_f q_f
    have szw5 := b5.size
    replace bel := bel.trans (b5.mono bel.size)
    replace p := p.kept b5
    replace r := r.kept b5
    replace q := q.kept b5
    replace o1 := o1.below b5
    replace q1 := q1.below b5
    clear b5
    obtain ⟨p_0, p_1, p_2⟩ := p.c3
    have p_lt := p.lt
    obtain ⟨r_0, r_1, r_2⟩ := r.c3
    have r_lt := r.lt
    obtain ⟨q_0, q_1, q_2⟩ := q.c3
    have q_lt := q.lt
    have r_f := r.frozen
    have q_f := q.frozen
    by_cases hg : tokOk (rs.set k row) (cs.set k (y' + 1)) (y') = true
    case neg =>
      have hg : tokOk (rs.set k row) (cs.set k (y' + 1)) (y') = false := by simpa using hg
      have HT := Lib.hid (trk_no (trkOk_at HIN.out (b := false) (by rw [HK.out.1, HK.out.2.1, HK.out.2.2.1]; exact hg)))
      rw [hg]
      go_wp2_with fail
      refine (copyTracker_c A B m c m d rs cs y' _ (hA.below bel) (hB.below bel) hn hm).mono ?_
      rintro e w6 ⟨A6, n6, c6, B6, m6, d6, u3, v3, u4, v4, rfl, o6, q6, ⟨hb1, hb2, hb3, hb4, hsep6⟩, b6⟩
      have hn6 : m = n6 := by have := o6.len; have := HLA.out; omega
      have hmm6 : m = m6 := by have := q6.len; have := HLB.out; omega
      subst hn6 hmm6
      clear p_0 p_1 p_2 p_lt r_0 r_1 r_2 r_lt q_0 q_1 q_2 q_lt r_f q_f
      have szw6 := b6.size
      replace bel := bel.trans (b6.mono bel.size)
      replace p := p.kept b6
      replace r := r.kept b6
      replace q := q.kept b6
      replace o1 := o1.below b6
      replace q1 := q1.below b6
      clear b6
      obtain ⟨r_0, r_1, r_2⟩ := r.c3
      have r_lt := r.lt
      have r_f := r.frozen
      go_wp2_with fail
      refine abs_body ?_
      intro W9 hW
      clear r_0 r_1 r_2 r_lt r_f
      have szW9 : w6.heap.size ≤ W9.heap.size := by rw [hW]; simp [World.setCell]
      have szW9_ := bel.size
      replace bel : Below w.heap.size w W9 := by rw [hW]; exact (((bel).setCell (by dsimp only; omega) _).setCell (by dsimp only; omega) _).setCell (by dsimp only; omega) _
      replace p : Box W9 w.heap.size 132 #[.slice A (m) c, .slice B m d, .int .i64 (y')] := by rw [hW]; exact (((p).far (by dsimp only; omega) _).far (by dsimp only; omega) _).far (by dsimp only; omega) _
      replace r : Box W9 (w.heap.size + 1) 132 #[.slice A6 m c6, .slice B6 m d6, .int .i64 (y')] := by rw [hW]; exact (((r).set_ 0 _).set_ 1 _).set_ 2 _
      replace q : Box W9 w1.heap.size 132 #[.slice (some ⟨gA, 0, none⟩) (m) c1, .slice (some ⟨gB, 0, none⟩) m d1, .int .i64 (y')] := by rw [hW]; exact (((q).far (by dsimp only; omega) _).far (by dsimp only; omega) _).far (by dsimp only; omega) _
      replace o1 : OwnH W9 u1 v1 (some ⟨gA, 0, none⟩) m c1 (rs.set k row) := by rw [hW]; exact (((o1).setCell _ _ (by dsimp only; omega)).setCell _ _ (by dsimp only; omega)).setCell _ _ (by dsimp only; omega)
      replace q1 : OwnH W9 u2 v2 (some ⟨gB, 0, none⟩) m d1 (cs.set k (y' + 1)) := by rw [hW]; exact (((q1).setCell _ _ (by dsimp only; omega)).setCell _ _ (by dsimp only; omega)).setCell _ _ (by dsimp only; omega)
      replace o6 : OwnH W9 u3 v3 A6 m c6 rs := by rw [hW]; exact (((o6).setCell _ _ (by dsimp only; omega)).setCell _ _ (by dsimp only; omega)).setCell _ _ (by dsimp only; omega)
      replace q6 : OwnH W9 u4 v4 B6 m d6 cs := by rw [hW]; exact (((q6).setCell _ _ (by dsimp only; omega)).setCell _ _ (by dsimp only; omega)).setCell _ _ (by dsimp only; omega)
      clear hW
      obtain ⟨z0, z1, z2⟩ := r.c3
      refine bodyPost_ret (v := .tuple #[.agg #[.slice A6 m c6, .slice B6 m d6, .int .i64 (y')], .bool false]) (by simp [results, Try.results99, go_sem, z0, z1, z2]) rfl ?_
      rw [HT.out.1, HT.out.2.1, HT.out.2.2.1, HT.out.2.2.2]
      refine ⟨_, _, _, _, _, _, u3, v3, u4, v4, rfl, ?_, ?_, ⟨by omega, by omega, by omega, by omega, by omega⟩, bel⟩
      · exact o6
      · exact q6
    have HTO := Lib.hid (trkOk_at HIN.out (b := true) (by rw [HK.out.1, HK.out.2.1, HK.out.2.2.1]; exact hg))
    have HT := Lib.hid (trk_yes HTO.out)
    rw [hg]
    clear hg
    obtain ⟨gB5, y5, eB, hcy, -, hy5, -, -⟩ := q1.at_ kn'
    obtain rfl : gB = gB5 := by injection eB with e; injection e
    obtain rfl : y5 = y' + 1 := by have h := hy5.out; rw [List.getElem?_set_self (by have := q1.len; simp at this; omega)] at h; injection h with h; exact h.symm
    clear eB hy5
    have HF : Hid (trkFull rs cs y' row limit = ((y' + 1).tmod limit == 0)) := by
      refine trkFull_at HTO.out HK.out.2.2.2 ?_
      rw [HK.out.2.1]
      exact List.getElem?_set_self (by have := KL.out; have := HLA.out; omega)
    have l0 : limit ≠ 0 := by omega
    go_wp2_with fail
    go_region_held3 (fun Y => Y.cell? ⟨w1.heap.size, 0, none⟩ = some (.slice (some ⟨gA, 0, none⟩) m c1) ∧ Y.cell? ⟨w1.heap.size, 1, none⟩ = some (.slice (some ⟨gB, 0, none⟩) m d1) ∧ Y.cell? ⟨w1.heap.size, 2, none⟩ = some (.int .i64 (y')) ∧ Y.cell? ⟨gB, k, none⟩ = some (.int .i64 (y' + 1)))
      (first | (with_reducible exact ⟨q_0, q_1, q_2, hcy⟩) | (with_reducible exact ⟨cell_dr q_0, cell_dr q_1, cell_dr q_2, cell_dr hcy⟩) | (with_reducible exact ⟨cell_s3d (by omega) q_0, cell_s3d (by omega) q_1, cell_s3d (by omega) q_2, cell_s3d (by omega) hcy⟩) | fail) (fail)
    all_goals
      go_wp2_with fail
      refine abs_body ?_
      intro W9 hW
      clear p_0 p_1 p_2 p_lt r_0 r_1 r_2 r_lt q_0 q_1 q_2 q_lt r_f q_f
      have szW9 : w5.heap.size ≤ W9.heap.size := by rw [hW]; simp [World.setCell]
      have szW9_ := bel.size
      replace bel : Below w.heap.size w W9 := by rw [hW]; exact (bel_d ((((bel).setCell (by dsimp only; omega) _).setCell (by dsimp only; omega) _).setCell (by dsimp only; omega) _))
      replace p : Box W9 w.heap.size 132 #[.slice A (m) c, .slice B m d, .int .i64 (y')] := by rw [hW]; exact (Box.dr ((((p).far (by dsimp only; omega) _).far (by dsimp only; omega) _).far (by dsimp only; omega) _))
      replace r : Box W9 (w.heap.size + 1) 132 #[.slice (some ⟨gA, 0, none⟩) m c1, .slice (some ⟨gB, 0, none⟩) m d1, .int .i64 (y')] := by rw [hW]; exact (Box.dr ((((r).set_ 0 _).set_ 1 _).set_ 2 _))
      replace q : Box W9 w1.heap.size 132 #[.slice (some ⟨gA, 0, none⟩) (m) c1, .slice (some ⟨gB, 0, none⟩) m d1, .int .i64 (y')] := by rw [hW]; exact (Box.dr ((((q).far (by dsimp only; omega) _).far (by dsimp only; omega) _).far (by dsimp only; omega) _))
      replace o1 : OwnH W9 u1 v1 (some ⟨gA, 0, none⟩) m c1 (rs.set k row) := by rw [hW]; exact (OwnH.dr ((((o1).setCell _ _ (by dsimp only; omega)).setCell _ _ (by dsimp only; omega)).setCell _ _ (by dsimp only; omega)))
      replace q1 : OwnH W9 u2 v2 (some ⟨gB, 0, none⟩) m d1 (cs.set k (y' + 1)) := by rw [hW]; exact (OwnH.dr ((((q1).setCell _ _ (by dsimp only; omega)).setCell _ _ (by dsimp only; omega)).setCell _ _ (by dsimp only; omega)))
      clear hW
      obtain ⟨z0, z1, z2⟩ := r.c3
      refine bodyPost_ret (v := .tuple #[.agg #[.slice (some ⟨gA, 0, none⟩) m c1, .slice (some ⟨gB, 0, none⟩) m d1, .int .i64 (y')], .bool ((y' + 1).tmod limit == 0)]) (by simp [results, Try.results99, go_sem, z0, z1, z2]) rfl ?_
      rw [HT.out.1, HT.out.2.1, HT.out.2.2, HK.out.1, HK.out.2.1, HK.out.2.2.1, HF.out]
      refine ⟨_, _, _, _, _, _, u1, v1, u2, v2, rfl, ?_, ?_, ⟨by omega, by omega, by omega, by omega, by omega⟩, bel⟩
      · exact o1
      · exact q1
  obtain ⟨eI, eI2, e1, e2, e3, e4⟩ := trk_spill (row := row) hmem hsm
  have HK := Lib.hid (And.intro e1 (And.intro e2 (And.intro e3 e4)))
  rw [eI]
  obtain ⟨z, hz⟩ : ∃ z : Int, z = -1 := ⟨_, rfl⟩
  rw [← hz] at eI2
  have hneg : decide (0 ≤ z) = false := by rw [hz]; rfl
  have HI2 := Lib.hid eI2
  clear e1 e2 e3 e4 eI eI2 hmem hsm hz
  go_wp2_with fail
  refine (index_c B1 m d1 cs s _ (by exact q1.ints) hm).mono ?_
  rintro e w' ⟨rfl, rfl⟩
  rw [HI2.out]
  go_wp2_with fail
  refine abs_call ?_
  intro W4 hW
  clear p_0 p_1 p_2 p_lt r_0 r_1 r_2 r_lt q_0 q_1 q_2 q_lt r_f q_f
  have szW4 : w3.heap.size ≤ W4.heap.size := by rw [hW]; simp [World.setCell]
  have szW4_ := bel.size
  replace bel : Below w.heap.size w W4 := by rw [hW]; exact (bel).setCell (by dsimp only; omega) _
  replace p : Box W4 w.heap.size 132 #[.slice A (m) c, .slice B m d, .int .i64 s] := by rw [hW]; exact (p).far (by dsimp only; omega) _
  replace r : Box W4 (w.heap.size + 1) 132 #[.slice none 0 0, .slice none 0 0, .int .i64 0] := by rw [hW]; exact (r).far (by dsimp only; omega) _
  replace q : Box W4 w1.heap.size 132 #[.slice A1 (m) c1, .slice B1 m d1, .int .i64 (s + 1)] := by rw [hW]; exact (q).set_ 2 _
  replace o1 : OwnH W4 u1 v1 A1 (m) c1 rs := by rw [hW]; exact (o1).setCell _ _ (by dsimp only; omega)
  replace q1 : OwnH W4 u2 v2 B1 m d1 cs := by rw [hW]; exact (q1).setCell _ _ (by dsimp only; omega)
  clear hW
  obtain ⟨p_0, p_1, p_2⟩ := p.c3
  have p_lt := p.lt
  obtain ⟨r_0, r_1, r_2⟩ := r.c3
  have r_lt := r.lt
  obtain ⟨q_0, q_1, q_2⟩ := q.c3
  have q_lt := q.lt
  have r_f := r.frozen
  have q_f := q.frozen
  refine (iTrackerOk_c A1 B1 m c1 m d1 (rs) (cs) (s + 1) _ (by exact o1.ints) (by exact q1.ints) hm hm).mono ?_
  rintro e w5 ⟨rfl, b5⟩
  clear p_0 p_1 p_2 p_lt r_0 r_1 r_2 r_lt q_0 q_1 q_2 q_lt r_f q_f
  have szw5 := b5.size
  replace bel := bel.trans (b5.mono bel.size)
  replace p := p.kept b5
  replace r := r.kept b5
  replace q := q.kept b5
  replace o1 := o1.below b5
  replace q1 := q1.below b5
  clear b5
  obtain ⟨p_0, p_1, p_2⟩ := p.c3
  have p_lt := p.lt
  obtain ⟨r_0, r_1, r_2⟩ := r.c3
  have r_lt := r.lt
  obtain ⟨q_0, q_1, q_2⟩ := q.c3
  have q_lt := q.lt
  have r_f := r.frozen
  have q_f := q.frozen
  by_cases hg : tokOk (rs) (cs) (s + 1) = true
  case neg =>
    have hg : tokOk (rs) (cs) (s + 1) = false := by simpa using hg
    have HT := Lib.hid (trk_no (trkOk_at HIN.out (b := false) (by rw [HK.out.1, HK.out.2.1, HK.out.2.2.1]; exact hg)))
    rw [hg]
    go_wp2_with fail
    refine (copyTracker_c A B m c m d rs cs s _ (hA.below bel) (hB.below bel) hn hm).mono ?_
    rintro e w6 ⟨A6, n6, c6, B6, m6, d6, u3, v3, u4, v4, rfl, o6, q6, ⟨hb1, hb2, hb3, hb4, hsep6⟩, b6⟩
    have hn6 : m = n6 := by have := o6.len; have := HLA.out; omega
    have hmm6 : m = m6 := by have := q6.len; have := HLB.out; omega
    subst hn6 hmm6
    clear p_0 p_1 p_2 p_lt r_0 r_1 r_2 r_lt q_0 q_1 q_2 q_lt r_f q_f
    have szw6 := b6.size
    replace bel := bel.trans (b6.mono bel.size)
    replace p := p.kept b6
    replace r := r.kept b6
    replace q := q.kept b6
    replace o1 := o1.below b6
    replace q1 := q1.below b6
    clear b6
    obtain ⟨r_0, r_1, r_2⟩ := r.c3
    have r_lt := r.lt
    have r_f := r.frozen
    go_wp2_with fail
    refine abs_body ?_
    intro W9 hW
    clear r_0 r_1 r_2 r_lt r_f
    have szW9 : w6.heap.size ≤ W9.heap.size := by rw [hW]; simp [World.setCell]
    have szW9_ := bel.size
    replace bel : Below w.heap.size w W9 := by rw [hW]; exact (((bel).setCell (by dsimp only; omega) _).setCell (by dsimp only; omega) _).setCell (by dsimp only; omega) _
    replace p : Box W9 w.heap.size 132 #[.slice A (m) c, .slice B m d, .int .i64 s] := by rw [hW]; exact (((p).far (by dsimp only; omega) _).far (by dsimp only; omega) _).far (by dsimp only; omega) _
    replace r : Box W9 (w.heap.size + 1) 132 #[.slice A6 m c6, .slice B6 m d6, .int .i64 (s)] := by rw [hW]; exact (((r).set_ 0 _).set_ 1 _).set_ 2 _
    replace q : Box W9 w1.heap.size 132 #[.slice A1 (m) c1, .slice B1 m d1, .int .i64 (s + 1)] := by rw [hW]; exact (((q).far (by dsimp only; omega) _).far (by dsimp only; omega) _).far (by dsimp only; omega) _
    replace o1 : OwnH W9 u1 v1 A1 (m) c1 rs := by rw [hW]; exact (((o1).setCell _ _ (by dsimp only; omega)).setCell _ _ (by dsimp only; omega)).setCell _ _ (by dsimp only; omega)
    replace q1 : OwnH W9 u2 v2 B1 m d1 cs := by rw [hW]; exact (((q1).setCell _ _ (by dsimp only; omega)).setCell _ _ (by dsimp only; omega)).setCell _ _ (by dsimp only; omega)
    replace o6 : OwnH W9 u3 v3 A6 m c6 rs := by rw [hW]; exact (((o6).setCell _ _ (by dsimp only; omega)).setCell _ _ (by dsimp only; omega)).setCell _ _ (by dsimp only; omega)
    replace q6 : OwnH W9 u4 v4 B6 m d6 cs := by rw [hW]; exact (((q6).setCell _ _ (by dsimp only; omega)).setCell _ _ (by dsimp only; omega)).setCell _ _ (by dsimp only; omega)
    clear hW
    obtain ⟨z0, z1, z2⟩ := r.c3
    refine bodyPost_ret (v := .tuple #[.agg #[.slice A6 m c6, .slice B6 m d6, .int .i64 (s)], .bool false]) (by simp [results, Try.results99, go_sem, z0, z1, z2]) rfl ?_
    rw [HT.out.1, HT.out.2.1, HT.out.2.2.1, HT.out.2.2.2]
    refine ⟨_, _, _, _, _, _, u3, v3, u4, v4, rfl, ?_, ?_, ⟨by omega, by omega, by omega, by omega, by omega⟩, bel⟩
    · exact o6
    · exact q6
  have HTO := Lib.hid (trkOk_at HIN.out (b := true) (by rw [HK.out.1, HK.out.2.1, HK.out.2.2.1]; exact hg))
  have HT := Lib.hid (trk_yes HTO.out)
  rw [hg]
  clear hg
  have HF : Hid (trkFull rs cs s row limit = false) := trkFull_no HK.out.2.2.2
  go_wp2_with fail
  go_region
  all_goals
    go_wp2_with fail
    refine abs_body ?_
    intro W9 hW
    clear p_0 p_1 p_2 p_lt r_0 r_1 r_2 r_lt q_0 q_1 q_2 q_lt r_f q_f
    have szW9 : w5.heap.size ≤ W9.heap.size := by rw [hW]; simp [World.setCell]
    have szW9_ := bel.size
    replace bel : Below w.heap.size w W9 := by rw [hW]; exact (bel_d ((((bel).setCell (by dsimp only; omega) _).setCell (by dsimp only; omega) _).setCell (by dsimp only; omega) _))
    replace p : Box W9 w.heap.size 132 #[.slice A (m) c, .slice B m d, .int .i64 s] := by rw [hW]; exact (Box.dr ((((p).far (by dsimp only; omega) _).far (by dsimp only; omega) _).far (by dsimp only; omega) _))
    replace r : Box W9 (w.heap.size + 1) 132 #[.slice A1 m c1, .slice B1 m d1, .int .i64 (s + 1)] := by rw [hW]; exact (Box.dr ((((r).set_ 0 _).set_ 1 _).set_ 2 _))
    replace q : Box W9 w1.heap.size 132 #[.slice A1 (m) c1, .slice B1 m d1, .int .i64 (s + 1)] := by rw [hW]; exact (Box.dr ((((q).far (by dsimp only; omega) _).far (by dsimp only; omega) _).far (by dsimp only; omega) _))
    replace o1 : OwnH W9 u1 v1 A1 (m) c1 rs := by rw [hW]; exact (OwnH.dr ((((o1).setCell _ _ (by dsimp only; omega)).setCell _ _ (by dsimp only; omega)).setCell _ _ (by dsimp only; omega)))
    replace q1 : OwnH W9 u2 v2 B1 m d1 cs := by rw [hW]; exact (OwnH.dr ((((q1).setCell _ _ (by dsimp only; omega)).setCell _ _ (by dsimp only; omega)).setCell _ _ (by dsimp only; omega)))
    clear hW
    obtain ⟨z0, z1, z2⟩ := r.c3
    refine bodyPost_ret (v := .tuple #[.agg #[.slice A1 m c1, .slice B1 m d1, .int .i64 (s + 1)], .bool false]) (by simp [results, Try.results99, go_sem, z0, z1, z2]) rfl ?_
    rw [HT.out.1, HT.out.2.1, HT.out.2.2, HK.out.1, HK.out.2.1, HK.out.2.2.1, HF.out]
    refine ⟨_, _, _, _, _, _, u1, v1, u2, v2, rfl, ?_, ?_, ⟨by omega, by omega, by omega, by omega, by omega⟩, bel⟩
    · exact o1
    · exact q1
end Go.Proofs.Ytbapamfomfbmmaa
