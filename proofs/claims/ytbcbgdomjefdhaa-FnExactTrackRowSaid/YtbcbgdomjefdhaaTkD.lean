/-
  Contracts of the reference's l16Track and TrackRow.
-/
import Derived.Test.YtbcbgdomjefdhaaTkC
import Derived.Test.YtbcbgdomjefdhaaTrk2s
import Derived.Deep.DeepCutAuto
namespace Go.Proofs.Ytbcbgdomjefdhaa
open Go.RowKit
set_option linter.unusedSimpArgs false
set_option linter.unusedVariables false

/-- A row has been counted in the tracker at u. -/
def Tracked (u : Nat) (A B : Option Addr) (n c d l1 h1 l2 h2 : Nat) (rs cs : List Int) (s row : Int) (w : World) (e : Ending) (w' : World) : Prop :=
  e = .returned (.int .i64 (trkI rs cs s row)) ∧ Box w' u 75 #[.slice A n c, .slice B n d, .int .i64 (trkS rs cs s row)] ∧ OwnH w' l1 h1 A n c (trkR rs cs s row) ∧ OwnH w' l2 h2 B n d (trkC rs cs s row) ∧
  (∀ (b0 : Nat) (w0 : World), Below b0 w0 w → b0 ≤ u → b0 ≤ l1 → b0 ≤ l2 → Below b0 w0 w') ∧ (∀ (g : Nat), g < w.heap.size → g ≠ u → (g < l1 ∨ h1 ≤ g) → (g < l2 ∨ h2 ≤ g) → w'.heap[g]? = w.heap[g]?)
theorem trk_at {rs cs : List Int} {s row : Int} (h : row ∈ rs ∨ s ∈ cs) (hl : cs.length = rs.length) : ∃ (k : Nat) (y : Int), k < rs.length ∧ trkI rs cs s row = k ∧ (trkC rs cs s row)[k]? = some y := by
  by_cases hm : row ∈ rs
  · obtain ⟨k, y, kn, -, hy, -, e2, -, e4⟩ := trk_hit (s := s) hm hl
    exact ⟨k, y + 1, kn, e4, by rw [e2]; exact List.getElem?_set_self (by omega)⟩
  · obtain ⟨k, kn, -, -, hy, -, e2, -, e4⟩ := trk_new (row := row) hm (h.resolve_left hm) hl
    exact ⟨k, s + 1, kn, e4, by rw [e2]; exact List.getElem?_set_self (by omega)⟩
theorem take_all_not {l : List Int} {x : Int} {k n : Nat} (h : x ∉ l.take k) (hl : l.length = n) (hk : n ≤ k) : x ∉ l := by rwa [List.take_of_length_le (by omega)] at h
set_option maxRecDepth 100000 in
set_option maxHeartbeats 4000000 in
theorem l16Track_c (u : Nat) (A B : Option Addr) (n c d l1 h1 l2 h2 : Nat) (rs cs : List Int) (s row : Int) (w : World) (t : Box w u 75 #[.slice A n c, .slice B n d, .int .i64 s]) (oA : OwnH w l1 h1 A n c rs) (oB : OwnH w l2 h2 B n d cs) (n16 : n ≤ 16)
    (s1 : u < l1 ∨ h1 ≤ u) (s2 : u < l2 ∨ h2 ≤ u) (s3 : h1 ≤ l2 ∨ h2 ≤ l1) (s0 : 0 ≤ s) (s9 : s ≤ 100000) (kc : ∀ (i : Nat) (y : Int), cs[i]? = some y → s ≤ y ∧ y ≤ 100000) :
    Calls Try.prog 98 #[.pointer (some ⟨u, 0, none⟩), .int .i64 row] w (Tracked u A B n c d l1 h1 l2 h2 rs cs s row w) := by
  have KC := Lib.hid kc
  have KL := Lib.hid (show cs.length = rs.length by rw [oA.len, oB.len])
  have KA := Lib.hid (show rs.length = n from oA.len)
  clear kc
  obtain ⟨t_0, t_1, t_2⟩ := t.c3
  have t_f := t.frozen
  have t_lt := t.lt
  go_enter Try.func98, Try.ntmps98
  go_wp2_with fail
  go_loopw [5] (fun i wr => ∃ (j : Nat), j ≤ n ∧ i = .int .i64 j ∧ Hid (row ∉ rs.take j) ∧ ∃ q, wr = w.drewN q) (fun i _ => n - (intOf i).toNat)
  case atStart => exact ⟨0, Nat.zero_le _, rfl, Lib.hid (by simp), 0, rfl⟩
  case round =>
    obtain ⟨j, hj, rfl, HJ, q, rfl⟩ := hrel
    by_cases hlt : j < n
    · obtain ⟨gA, x, rfl, hcA, hfA, hxA, gA1, gA2⟩ := oA.at_ hlt
      have j0 : (0 : Int) ≤ (j : Int) := by omega
      have j1 : (j : Int) < (n : Int) := by omega
      by_cases hxr : x = row
      · subst hxr
        obtain ⟨gB, y, rfl, hcB, hfB, hyB, gB1, gB2⟩ := oB.at_ hlt
        obtain ⟨k, y', kn, eI, hy, e1, e2, e3, e4⟩ := trk_hit (s := s) (List.mem_of_getElem? hxA.out) KL.out
        have hkj : k = j := by have := idxI_at HJ.out hxA.out; omega
        subst hkj
        obtain rfl : y' = y := by have := hy.symm.trans hyB.out; injection this
        have yb := KC.out k y' hy
        obtain ⟨y0, y1⟩ := yb
        have HK := Lib.hid (And.intro e1 (And.intro e2 (And.intro e3 e4)))
        clear e1 e2 e3 e4 eI hy hxA hyB kn
        have yw : IntKind.i64.wrap (y' + 1) = y' + 1 := IntWalk.i64_in _ (by omega)
        have t' := t.drewN q
        have oA' := oA.drewN q
        have oB' := oB.drewN q
        go_wp2_with fail
        go_region
        all_goals
          go_wp2_with fail
          refine abs_body ?_
          intro W9 hW
          have bx : Box W9 u 75 #[.slice (some ⟨gA, 0, none⟩) n c, .slice (some ⟨gB, 0, none⟩) n d, .int .i64 s] := by rw [hW]; first | exact Box.dr (t'.far (by dsimp only; omega) _) | exact t'.far (by dsimp only; omega) _
          have ox : OwnH W9 l1 h1 (some ⟨gA, 0, none⟩) n c rs := by rw [hW]; first | exact OwnH.dr (oA'.setCell _ _ (by dsimp only; omega)) | exact oA'.setCell _ _ (by dsimp only; omega)
          have qx : OwnH W9 l2 h2 (some ⟨gB, 0, none⟩) n d (cs.set k (y' + 1)) := by rw [hW]; first | exact OwnH.dr (oB'.stored rfl hlt _).1 | exact (oB'.stored rfl hlt _).1
          have bl : ∀ (b0 : Nat) (w0 : World), Below b0 w0 w → b0 ≤ u → b0 ≤ l1 → b0 ≤ l2 → Below b0 w0 W9 := by intro b0 w0 hb g1 g2 g3; rw [hW]; first | exact bel_d ((belowN hb q).setCell (by dsimp only; omega) _) | exact (belowN hb q).setCell (by dsimp only; omega) _
          have bh : ∀ (g : Nat), g < w.heap.size → g ≠ u → (g < l1 ∨ h1 ≤ g) → (g < l2 ∨ h2 ≤ g) → W9.heap[g]? = w.heap[g]? := by intro g _ g1 g2 g3; rw [hW]; exact Below.heap_setCell (w.drewN q) ⟨gB, k, none⟩ _ g (by dsimp only; omega)
          clear hW
          go_ret
          refine ⟨?_, ?_, ?_, ?_, bl, bh⟩
          · exact ret_int HK.out.2.2.2.symm
          · rw [HK.out.2.2.1]; exact bx
          · rw [HK.out.1]; exact ox
          · rw [HK.out.2.1]; exact qx
      · have hxf : (x == row) = false := by simpa using hxr
        have HM : Hid (row ∉ rs.take (j + 1)) := not_mem_snoc HJ.out hxA.out (by simp; exact fun e => hxr e.symm)
        clear hxr
        go_wp2
        go_roundw
        case rel => exact ⟨j + 1, by omega, by go_num, HM, _, rfl⟩
        case measure => simp [intOf]; omega
    · obtain rfl : n = j := by omega
      have hnr := Lib.hid (take_all_not HJ.out KA.out (Nat.le_refl _))
      clear hj hlt HJ
      go_wp2_with fail
      go_loopw [6] (fun i wr => ∃ (j : Nat), j ≤ n ∧ i = .int .i64 j ∧ Hid (s ∉ cs.take j) ∧ ∃ q, wr = w.drewN q) (fun i _ => n - (intOf i).toNat)
      case atStart => exact ⟨0, Nat.zero_le _, rfl, Lib.hid (by simp), q, rfl⟩
      case round =>
        obtain ⟨j, hj, rfl, HJ, q, rfl⟩ := hrel
        by_cases hlt : j < n
        · obtain ⟨gB, y, rfl, hcB, hfB, hyB, gB1, gB2⟩ := oB.at_ hlt
          have j0 : (0 : Int) ≤ (j : Int) := by omega
          have j1 : (j : Int) < (n : Int) := by omega
          by_cases hys : y = s
          · obtain ⟨gA, x, rfl, hcA, hfA, hxA, gA1, gA2⟩ := oA.at_ hlt
            obtain ⟨k, kn, eI, eI2, hy, e1, e2, e3, e4⟩ := trk_new (row := row) hnr.out (List.mem_of_getElem? (hys ▸ hyB.out)) KL.out
            have hkj : k = j := by have := idxI_at HJ.out (hys ▸ hyB.out); omega
            subst hkj
            have HK := Lib.hid (And.intro e1 (And.intro e2 (And.intro e3 e4)))
            clear e1 e2 e3 e4 eI eI2 hy hxA hyB kn
            subst hys
            have yw : IntKind.i64.wrap (y + 1) = y + 1 := IntWalk.i64_in _ (by omega)
            have t' := t.drewN q
            have oA' := oA.drewN q
            have oB' := oB.drewN q
            go_wp2_with fail
            go_quiet (fail)
            go_wp2_with fail
            refine abs_code ?_
            intro W5 hW
            have t5 : Box W5 u 75 #[.slice (some ⟨gA, 0, none⟩) n c, .slice (some ⟨gB, 0, none⟩) n d, .int .i64 y] := by rw [hW]; exact (t.drewN _).far (p := ⟨gA, k, none⟩) (by first | omega | (dsimp only; omega)) _
            have o5 : OwnH W5 l1 h1 (some ⟨gA, 0, none⟩) n c (rs.set k row) := by rw [hW]; exact ((oA'.drewN nq).stored rfl hlt _).1
            have q5 : OwnH W5 l2 h2 (some ⟨gB, 0, none⟩) n d cs := by rw [hW]; exact (oB'.drewN nq).setCell _ _ (by dsimp only; omega)
            have bl5 : ∀ (b0 : Nat) (w0 : World), Below b0 w0 w → b0 ≤ u → b0 ≤ l1 → b0 ≤ l2 → Below b0 w0 W5 := by intro b0 w0 hb g1 g2 g3; rw [hW]; exact (belowN hb (q + nq)).setCell (by dsimp only; omega) _
            have bh5 : ∀ (g : Nat), g < w.heap.size → g ≠ u → (g < l1 ∨ h1 ≤ g) → (g < l2 ∨ h2 ≤ g) → W5.heap[g]? = w.heap[g]? := by intro g _ g1 g2 g3; rw [hW]; exact Below.heap_setCell (w.drewN q) ⟨gA, k, none⟩ _ g (by dsimp only; omega)
            clear hW t' oA' oB' t_0 t_1 t_2 t_f t_lt hcB hfB
            obtain ⟨t_0, t_1, t_2⟩ := t5.c3
            have t_f := t5.frozen
            have t_lt := t5.lt
            obtain ⟨gB', y', eB, hcB, hfB, -, -, -⟩ := q5.at_ hlt
            obtain rfl : gB = gB' := by injection eB with e; injection e
            clear eB
            go_region
            all_goals
              go_wp2_with fail
              refine abs_body ?_
              intro W9 hW
              have bx : Box W9 u 75 #[.slice (some ⟨gA, 0, none⟩) n c, .slice (some ⟨gB, 0, none⟩) n d, .int .i64 y] := by rw [hW]; first | exact Box.dr (t5.far (by dsimp only; omega) _) | exact t5.far (by dsimp only; omega) _
              have ox : OwnH W9 l1 h1 (some ⟨gA, 0, none⟩) n c (rs.set k row) := by rw [hW]; first | exact OwnH.dr (o5.setCell _ _ (by dsimp only; omega)) | exact o5.setCell _ _ (by dsimp only; omega)
              have qx : OwnH W9 l2 h2 (some ⟨gB, 0, none⟩) n d (cs.set k (y + 1)) := by rw [hW]; first | exact OwnH.dr (q5.stored rfl hlt _).1 | exact (q5.stored rfl hlt _).1
              have bl : ∀ (b0 : Nat) (w0 : World), Below b0 w0 w → b0 ≤ u → b0 ≤ l1 → b0 ≤ l2 → Below b0 w0 W9 := by intro b0 w0 hb g1 g2 g3; rw [hW]; first | exact bel_d ((bl5 b0 w0 hb g1 g2 g3).setCell (by dsimp only; omega) _) | exact (bl5 b0 w0 hb g1 g2 g3).setCell (by dsimp only; omega) _
              have bh : ∀ (g : Nat), g < w.heap.size → g ≠ u → (g < l1 ∨ h1 ≤ g) → (g < l2 ∨ h2 ≤ g) → W9.heap[g]? = w.heap[g]? := by intro g g0 g1 g2 g3; rw [hW]; exact (Below.heap_setCell W5 ⟨gB, k, none⟩ _ g (by dsimp only; omega)).trans (bh5 g g0 g1 g2 g3)
              clear hW
              go_ret
              refine ⟨?_, ?_, ?_, ?_, bl, bh⟩
              · exact ret_int HK.out.2.2.2.symm
              · rw [HK.out.2.2.1]; exact bx
              · rw [HK.out.1]; exact ox
              · rw [HK.out.2.1]; exact qx
          · have hxf : (y == s) = false := by simpa using hys
            have HM : Hid (s ∉ cs.take (j + 1)) := not_mem_snoc HJ.out hyB.out (by simp; exact fun e => hys e.symm)
            clear hys
            go_wp2_with fail
            go_quiet (fail)
            go_wp2
            go_roundw
            case rel => exact ⟨j + 1, by omega, by go_num, HM, _, rfl⟩
            case measure => simp [intOf]; omega
        · obtain rfl : n = j := by omega
          have hns := Lib.hid (take_all_not HJ.out (show cs.length = n from oB.len) (Nat.le_refl _))
          obtain ⟨eI, eI2, e1, e2, e3, e4⟩ := trk_spill (row := row) hnr.out hns.out
          have HK := Lib.hid (And.intro e1 (And.intro e2 (And.intro e3 e4)))
          clear e1 e2 e3 e4 eI eI2 hj hlt HJ
          have t' := t.drewN q
          have oA' := oA.drewN q
          have oB' := oB.drewN q
          go_wp2
          refine abs_body ?_
          intro W9 hW
          have bx : Box W9 u 75 #[.slice A n c, .slice B n d, .int .i64 (s + 1)] := by rw [hW]; exact t'.set_ 2 _
          have ox : OwnH W9 l1 h1 A n c rs := by rw [hW]; exact oA'.setCell _ _ (by dsimp only; omega)
          have qx : OwnH W9 l2 h2 B n d cs := by rw [hW]; exact oB'.setCell _ _ (by dsimp only; omega)
          have bl : ∀ (b0 : Nat) (w0 : World), Below b0 w0 w → b0 ≤ u → b0 ≤ l1 → b0 ≤ l2 → Below b0 w0 W9 := by intro b0 w0 hb g1 g2 g3; rw [hW]; exact (belowN hb q).setCell (by dsimp only; omega) _
          have bh : ∀ (g : Nat), g < w.heap.size → g ≠ u → (g < l1 ∨ h1 ≤ g) → (g < l2 ∨ h2 ≤ g) → W9.heap[g]? = w.heap[g]? := by intro g _ g1 g2 g3; rw [hW]; exact Below.heap_setCell (w.drewN q) ⟨u, 2, none⟩ _ g (by dsimp only; omega)
          clear hW
          go_ret
          refine ⟨?_, ?_, ?_, ?_, bl, bh⟩
          · exact ret_int HK.out.2.2.2.symm
          · rw [HK.out.2.2.1]; exact bx
          · rw [HK.out.1]; exact ox
          · rw [HK.out.2.1]; exact qx
set_option maxRecDepth 100000 in
set_option maxHeartbeats 8000000 in
theorem sTrackRow_c (A B : Option Addr) (n c m d : Nat) (rs cs : List Int) (s row limit : Int) (w : World) (hA : Ints w A n rs) (hB : Ints w B m cs) (hn : n ≤ 1048576) (hm : m ≤ 1048576) :
    Calls Try.prog 51 #[.agg #[.slice A n c, .slice B m d, .int .i64 s], .int .i64 row, .int .i64 limit] w (NewTkB (trkR' rs cs s row limit) (trkC' rs cs s row limit) (trkS' rs cs s row limit) (trkFull rs cs s row limit) w) := by
  have bel : Below w.heap.size w w := Below.refl _ _
  have HLA := Lib.hid hA.1
  have HLB := Lib.hid hB.1
  go_enter Try.func51, Try.ntmps51
  go_wp2_with fail
  refine abs_call ?_
  intro W hW
  have szW : w.heap.size + 1 + 1 ≤ W.heap.size := by rw [hW]; simp [World.setCell]
  have szW_ := bel.size
  replace bel : Below w.heap.size w W := by rw [hW]; exact ((bel).alloc (by first | omega | (simp [World.setCell] <;> omega)) _).alloc (by first | omega | (simp [World.setCell] <;> omega)) _
  have p : Box W w.heap.size 75 #[.slice A n c, .slice B m d, .int .i64 s] := by rw [hW]; exact ((Box.newAt (by simp [World.setCell]))).alloc _
  have r : Box W (w.heap.size + 1) 75 #[.slice none 0 0, .slice none 0 0, .int .i64 0] := by rw [hW]; exact (Box.newAt (by simp [World.setCell]))
  clear hW
  have iA := hA.below bel
  have iB := hB.below bel
  refine (l16Copy_c A B n c m d rs cs s _ iA iB hn hm).mono ?_
  rintro e w1 ⟨A1, n1, c1, B1, m1, d1, u1, v1, u2, v2, rfl, o1, q1, ⟨ha1, ha2, ha3, ha4, hsep⟩, b1⟩
  have hn1 : n = n1 := by have := o1.len; have := HLA.out; omega
  have hnm : m = m1 := by have := q1.len; have := HLB.out; omega
  subst hn1 hnm
  have szw1 := b1.size
  replace bel := bel.trans (b1.mono bel.size)
  replace p := p.kept b1
  replace r := r.kept b1
  clear b1
  obtain ⟨p_0, p_1, p_2⟩ := p.c3
  have p_lt := p.lt
  go_wp2_with fail
  refine abs_call ?_
  intro W2 hW
  clear p_0 p_1 p_2 p_lt
  have szW2 : w1.heap.size + 1 ≤ W2.heap.size := by rw [hW]; simp [World.setCell]
  have szW2_ := bel.size
  replace bel : Below w.heap.size w W2 := by rw [hW]; exact (bel).alloc (by first | omega | (simp [World.setCell] <;> omega)) _
  replace p : Box W2 w.heap.size 75 #[.slice A n c, .slice B m d, .int .i64 s] := by rw [hW]; exact p.alloc _
  replace r : Box W2 (w.heap.size + 1) 75 #[.slice none 0 0, .slice none 0 0, .int .i64 0] := by rw [hW]; exact r.alloc _
  have q : Box W2 w1.heap.size 75 #[.slice A1 n c1, .slice B1 m d1, .int .i64 s] := by rw [hW]; exact (Box.newAt (by simp [World.setCell]))
  replace o1 : OwnH W2 u1 v1 A1 n c1 rs := by rw [hW]; exact o1.alloc _
  replace q1 : OwnH W2 u2 v2 B1 m d1 cs := by rw [hW]; exact q1.alloc _
  clear hW
  obtain ⟨p_0, p_1, p_2⟩ := p.c3
  have p_lt := p.lt
  obtain ⟨r_0, r_1, r_2⟩ := r.c3
  have r_lt := r.lt
  obtain ⟨q_0, q_1, q_2⟩ := q.c3
  have q_lt := q.lt
  have r_f := r.frozen
  have q_f := q.frozen
  refine (sTrackerOk_c A B n c m d rs cs s _ (hA.below bel) (hB.below bel) hn hm).mono ?_
  rintro e w3 ⟨rfl, b3⟩
  clear p_0 p_1 p_2 p_lt r_0 r_1 r_2 r_lt q_0 q_1 q_2 q_lt r_f q_f
  have szw3 := b3.size
  replace bel := bel.trans (b3.mono bel.size)
  replace p := p.kept b3
  replace r := r.kept b3
  replace q := q.kept b3
  replace o1 := o1.below b3
  replace q1 := q1.below b3
  clear b3
  obtain ⟨p_0, p_1, p_2⟩ := p.c3
  have p_lt := p.lt
  obtain ⟨r_0, r_1, r_2⟩ := r.c3
  have r_lt := r.lt
  obtain ⟨q_0, q_1, q_2⟩ := q.c3
  have q_lt := q.lt
  have r_f := r.frozen
  have q_f := q.frozen
  by_cases h1 : tokOk rs cs s = true
  case neg =>
    have h1 : tokOk rs cs s = false := by simpa using h1
    have hin : trkIn rs cs s row limit = false := by unfold trkIn; rw [h1]; rfl
    rw [h1]
    have HT := Lib.hid (trk_no (trkOk_no1 (limit := limit) (row := row) (rs := rs) (cs := cs) (s := s) hin))
    clear hin
    go_wp2_with (go_at_call 79; refine (in_c _ _ _ _).mono ?_; rintro e w' ⟨rfl, rfl⟩)
    refine abs_body ?_
    intro W9 hW
    clear p_0 p_1 p_2 p_lt r_0 r_1 r_2 r_lt q_0 q_1 q_2 q_lt r_f q_f
    have szW9 : w3.heap.size ≤ W9.heap.size := by rw [hW]; simp [World.setCell]
    have szW9_ := bel.size
    replace bel : Below w.heap.size w W9 := by rw [hW]; exact (((bel).setCell (by dsimp only; omega) _).setCell (by dsimp only; omega) _).setCell (by dsimp only; omega) _
    replace p : Box W9 w.heap.size 75 #[.slice A n c, .slice B m d, .int .i64 s] := by rw [hW]; exact (((p).far (by dsimp only; omega) _).far (by dsimp only; omega) _).far (by dsimp only; omega) _
    replace r : Box W9 (w.heap.size + 1) 75 #[.slice A1 n c1, .slice B1 m d1, .int .i64 (s)] := by rw [hW]; exact (((r).set_ 0 _).set_ 1 _).set_ 2 _
    replace q : Box W9 w1.heap.size 75 #[.slice A1 n c1, .slice B1 m d1, .int .i64 s] := by rw [hW]; exact (((q).far (by dsimp only; omega) _).far (by dsimp only; omega) _).far (by dsimp only; omega) _
    replace o1 : OwnH W9 u1 v1 A1 n c1 rs := by rw [hW]; exact (((o1).setCell _ _ (by dsimp only; omega)).setCell _ _ (by dsimp only; omega)).setCell _ _ (by dsimp only; omega)
    replace q1 : OwnH W9 u2 v2 B1 m d1 cs := by rw [hW]; exact (((q1).setCell _ _ (by dsimp only; omega)).setCell _ _ (by dsimp only; omega)).setCell _ _ (by dsimp only; omega)
    clear hW
    obtain ⟨z0, z1, z2⟩ := r.c3
    refine bodyPost_ret (v := .tuple #[.agg #[.slice A1 n c1, .slice B1 m d1, .int .i64 (s)], .bool false]) (by simp [results, Try.results51, go_sem, z0, z1, z2]) rfl ?_
    rw [HT.out.1, HT.out.2.1, HT.out.2.2.1, HT.out.2.2.2]
    refine ⟨_, _, _, _, _, _, u1, v1, u2, v2, rfl, ?_, ?_, ⟨by omega, by omega, by omega, by omega, by omega⟩, bel⟩
    · exact o1
    · exact q1
  by_cases h2 : inB row 0 15 = true
  case neg =>
    have h2 : inB row 0 15 = false := by simpa using h2
    have hin : trkIn rs cs s row limit = false := by unfold trkIn; rw [h1, h2]; rfl
    rw [h1]
    have HT := Lib.hid (trk_no (trkOk_no1 (limit := limit) (row := row) (rs := rs) (cs := cs) (s := s) hin))
    clear hin
    go_wp2_with (go_at_call 79; refine (in_c _ _ _ _).mono ?_; rintro e w' ⟨rfl, rfl⟩)
    refine abs_body ?_
    intro W9 hW
    clear p_0 p_1 p_2 p_lt r_0 r_1 r_2 r_lt q_0 q_1 q_2 q_lt r_f q_f
    have szW9 : w3.heap.size ≤ W9.heap.size := by rw [hW]; simp [World.setCell]
    have szW9_ := bel.size
    replace bel : Below w.heap.size w W9 := by rw [hW]; exact (((bel).setCell (by dsimp only; omega) _).setCell (by dsimp only; omega) _).setCell (by dsimp only; omega) _
    replace p : Box W9 w.heap.size 75 #[.slice A n c, .slice B m d, .int .i64 s] := by rw [hW]; exact (((p).far (by dsimp only; omega) _).far (by dsimp only; omega) _).far (by dsimp only; omega) _
    replace r : Box W9 (w.heap.size + 1) 75 #[.slice A1 n c1, .slice B1 m d1, .int .i64 (s)] := by rw [hW]; exact (((r).set_ 0 _).set_ 1 _).set_ 2 _
    replace q : Box W9 w1.heap.size 75 #[.slice A1 n c1, .slice B1 m d1, .int .i64 s] := by rw [hW]; exact (((q).far (by dsimp only; omega) _).far (by dsimp only; omega) _).far (by dsimp only; omega) _
    replace o1 : OwnH W9 u1 v1 A1 n c1 rs := by rw [hW]; exact (((o1).setCell _ _ (by dsimp only; omega)).setCell _ _ (by dsimp only; omega)).setCell _ _ (by dsimp only; omega)
    replace q1 : OwnH W9 u2 v2 B1 m d1 cs := by rw [hW]; exact (((q1).setCell _ _ (by dsimp only; omega)).setCell _ _ (by dsimp only; omega)).setCell _ _ (by dsimp only; omega)
    clear hW
    obtain ⟨z0, z1, z2⟩ := r.c3
    refine bodyPost_ret (v := .tuple #[.agg #[.slice A1 n c1, .slice B1 m d1, .int .i64 (s)], .bool false]) (by simp [results, Try.results51, go_sem, z0, z1, z2]) rfl ?_
    rw [HT.out.1, HT.out.2.1, HT.out.2.2.1, HT.out.2.2.2]
    refine ⟨_, _, _, _, _, _, u1, v1, u2, v2, rfl, ?_, ?_, ⟨by omega, by omega, by omega, by omega, by omega⟩, bel⟩
    · exact o1
    · exact q1
  by_cases h3 : inB limit 2 1000 = true
  case neg =>
    have h3 : inB limit 2 1000 = false := by simpa using h3
    have hin : trkIn rs cs s row limit = false := by unfold trkIn; rw [h1, h2, h3]; rfl
    rw [h1]
    have HT := Lib.hid (trk_no (trkOk_no1 (limit := limit) (row := row) (rs := rs) (cs := cs) (s := s) hin))
    clear hin
    go_wp2_with (go_at_call 79; refine (in_c _ _ _ _).mono ?_; rintro e w' ⟨rfl, rfl⟩)
    refine abs_body ?_
    intro W9 hW
    clear p_0 p_1 p_2 p_lt r_0 r_1 r_2 r_lt q_0 q_1 q_2 q_lt r_f q_f
    have szW9 : w3.heap.size ≤ W9.heap.size := by rw [hW]; simp [World.setCell]
    have szW9_ := bel.size
    replace bel : Below w.heap.size w W9 := by rw [hW]; exact (((bel).setCell (by dsimp only; omega) _).setCell (by dsimp only; omega) _).setCell (by dsimp only; omega) _
    replace p : Box W9 w.heap.size 75 #[.slice A n c, .slice B m d, .int .i64 s] := by rw [hW]; exact (((p).far (by dsimp only; omega) _).far (by dsimp only; omega) _).far (by dsimp only; omega) _
    replace r : Box W9 (w.heap.size + 1) 75 #[.slice A1 n c1, .slice B1 m d1, .int .i64 (s)] := by rw [hW]; exact (((r).set_ 0 _).set_ 1 _).set_ 2 _
    replace q : Box W9 w1.heap.size 75 #[.slice A1 n c1, .slice B1 m d1, .int .i64 s] := by rw [hW]; exact (((q).far (by dsimp only; omega) _).far (by dsimp only; omega) _).far (by dsimp only; omega) _
    replace o1 : OwnH W9 u1 v1 A1 n c1 rs := by rw [hW]; exact (((o1).setCell _ _ (by dsimp only; omega)).setCell _ _ (by dsimp only; omega)).setCell _ _ (by dsimp only; omega)
    replace q1 : OwnH W9 u2 v2 B1 m d1 cs := by rw [hW]; exact (((q1).setCell _ _ (by dsimp only; omega)).setCell _ _ (by dsimp only; omega)).setCell _ _ (by dsimp only; omega)
    clear hW
    obtain ⟨z0, z1, z2⟩ := r.c3
    refine bodyPost_ret (v := .tuple #[.agg #[.slice A1 n c1, .slice B1 m d1, .int .i64 (s)], .bool false]) (by simp [results, Try.results51, go_sem, z0, z1, z2]) rfl ?_
    rw [HT.out.1, HT.out.2.1, HT.out.2.2.1, HT.out.2.2.2]
    refine ⟨_, _, _, _, _, _, u1, v1, u2, v2, rfl, ?_, ?_, ⟨by omega, by omega, by omega, by omega, by omega⟩, bel⟩
    · exact o1
    · exact q1
  have hin : trkIn rs cs s row limit = true := by unfold trkIn; rw [h1, h2, h3]; rfl
  have HIN := Lib.hid hin
  rw [h1]
  obtain ⟨r0, r15⟩ := inB_t h2
  obtain ⟨l2, l1000⟩ := inB_t h3
  obtain ⟨k1, k16, kl, s0, s1, kc⟩ := tokOk_nums h1
  have n1 : 1 ≤ n := by have := HLA.out; omega
  have n16 : n ≤ 16 := by have := HLA.out; omega
  have mn : m = n := by have := HLA.out; have := HLB.out; omega
  subst mn
  have KC := Lib.hid kc
  have KL := Lib.hid kl
  clear hin k1 k16 kl kc
  go_wp2_with (go_at_call 79; refine (in_c _ _ _ _).mono ?_; rintro e w' ⟨rfl, rfl⟩)
  refine (l16Track_c w1.heap.size A1 B1 m c1 d1 u1 v1 u2 v2 rs cs s row _ q o1 q1 n16 (by omega) (by omega) hsep s0 s1 KC.out).mono ?_
  rintro e w4 ⟨rfl, qb, oo, qq, bl, bh⟩
  have bel4 := bl w.heap.size w bel (by omega) (by omega) (by omega)
  have sz34 : w3.heap.size ≤ w4.heap.size := (bl 0 w3 (Below.refl _ _) (Nat.zero_le _) (Nat.zero_le _) (Nat.zero_le _)).size
  have p4 : Box w4 w.heap.size 75 #[.slice A m c, .slice B m d, .int .i64 s] := (bh _ p.lt (by omega) (by omega) (by omega)).trans p
  have r4 : Box w4 (w.heap.size + 1) 75 #[.slice none 0 0, .slice none 0 0, .int .i64 0] := (bh _ r.lt (by omega) (by omega) (by omega)).trans r
  replace bel := bel4
  replace p := p4
  replace r := r4
  replace q := qb
  replace o1 := oo
  replace q1 := qq
  clear bl bh bel4 p4 r4 qb oo qq
  clear p_0 p_1 p_2 p_lt r_0 r_1 r_2 r_lt q_0 q_1 q_2 q_lt r_f q_f
  obtain ⟨RR, hRR⟩ : ∃ R, R = trkR rs cs s row := ⟨_, rfl⟩
  obtain ⟨CC, hCC⟩ : ∃ C, C = trkC rs cs s row := ⟨_, rfl⟩
  obtain ⟨SS, hSS⟩ : ∃ S, S = trkS rs cs s row := ⟨_, rfl⟩
  rw [← hRR] at o1
  rw [← hCC] at q1
  rw [← hSS] at q
  have HK : Hid (trkR rs cs s row = RR ∧ trkC rs cs s row = CC ∧ trkS rs cs s row = SS ∧ True) := ⟨hRR.symm, hCC.symm, hSS.symm, trivial⟩
  clear hRR hCC hSS
  have HR1 := Lib.hid o1.len
  have HC1 := Lib.hid q1.len
  by_cases hI : row ∈ rs ∨ s ∈ cs
  case pos =>
    obtain ⟨k, y, kn, eI, hy⟩ := trk_at hI KL.out
    have kn' : k < m := by have := HLA.out; omega
    rw [eI]
    have HI := Lib.hid eI
    have HY0 := Lib.hid hy
    rw [HK.out.2.1] at hy
    have HY := Lib.hid hy
    clear eI hy kn hI
    obtain ⟨gB, y', rfl, -, -, -, gb1, gb2⟩ := q1.at_ kn'
    have k0 : (0 : Int) ≤ (k : Int) := by omega
    have k1 : (k : Int) < (m : Int) := by omega
    obtain ⟨p_0, p_1, p_2⟩ := p.c3
    have p_lt := p.lt
    obtain ⟨r_0, r_1, r_2⟩ := r.c3
    have r_lt := r.lt
    obtain ⟨q_0, q_1, q_2⟩ := q.c3
    have q_lt := q.lt
    have r_f := r.frozen
    have q_f := q.frozen
    go_wp2_with fail
    refine (sTrackerOk_c A1 (some ⟨gB, 0, none⟩) m c1 m d1 (RR) (CC) (SS) _ (by exact o1.ints) (by exact q1.ints) hm hm).mono ?_
    rintro e w5 ⟨rfl, b5⟩
    clear p_0 p_1 p_2 p_lt r_0 r_1 r_2 r_lt q_0 q_1 q_2 q_lt r_f q_f
    have szw5 := b5.size
    replace bel := bel.trans (b5.mono bel.size)
    replace p := p.kept b5
    replace r := r.kept b5
    replace q := q.kept b5
    replace o1 := o1.below b5
    replace q1 := q1.below b5
    clear b5
    obtain ⟨p_0, p_1, p_2⟩ := p.c3
    have p_lt := p.lt
    obtain ⟨r_0, r_1, r_2⟩ := r.c3
    have r_lt := r.lt
    obtain ⟨q_0, q_1, q_2⟩ := q.c3
    have q_lt := q.lt
    have r_f := r.frozen
    have q_f := q.frozen
    by_cases hg : tokOk (RR) (CC) (SS) = true
    case neg =>
      have hg : tokOk (RR) (CC) (SS) = false := by simpa using hg
      have HT := Lib.hid (trk_no (trkOk_at HIN.out (b := false) (by rw [HK.out.1, HK.out.2.1, HK.out.2.2.1]; exact hg)))
      rw [hg]
      go_wp2_with fail
      refine (l16Copy_c A B m c m d rs cs s _ (hA.below bel) (hB.below bel) hn hm).mono ?_
      rintro e w6 ⟨A6, n6, c6, B6, m6, d6, u3, v3, u4, v4, rfl, o6, q6, ⟨hb1, hb2, hb3, hb4, hsep6⟩, b6⟩
      have hn6 : m = n6 := by have := o6.len; have := HLA.out; omega
      have hmm6 : m = m6 := by have := q6.len; have := HLB.out; omega
      subst hn6 hmm6
      clear p_0 p_1 p_2 p_lt r_0 r_1 r_2 r_lt q_0 q_1 q_2 q_lt r_f q_f
      have szw6 := b6.size
      replace bel := bel.trans (b6.mono bel.size)
      replace p := p.kept b6
      replace r := r.kept b6
      replace q := q.kept b6
      replace o1 := o1.below b6
      replace q1 := q1.below b6
      clear b6
      obtain ⟨r_0, r_1, r_2⟩ := r.c3
      have r_lt := r.lt
      have r_f := r.frozen
      go_wp2_with fail
      refine abs_body ?_
      intro W9 hW
      clear r_0 r_1 r_2 r_lt r_f
      have szW9 : w6.heap.size ≤ W9.heap.size := by rw [hW]; simp [World.setCell]
      have szW9_ := bel.size
      replace bel : Below w.heap.size w W9 := by rw [hW]; exact (((bel).setCell (by dsimp only; omega) _).setCell (by dsimp only; omega) _).setCell (by dsimp only; omega) _
      replace p : Box W9 w.heap.size 75 #[.slice A m c, .slice B m d, .int .i64 s] := by rw [hW]; exact (((p).far (by dsimp only; omega) _).far (by dsimp only; omega) _).far (by dsimp only; omega) _
      replace r : Box W9 (w.heap.size + 1) 75 #[.slice A6 m c6, .slice B6 m d6, .int .i64 (s)] := by rw [hW]; exact (((r).set_ 0 _).set_ 1 _).set_ 2 _
      replace q : Box W9 w1.heap.size 75 #[.slice A1 m c1, .slice (some ⟨gB, 0, none⟩) m d1, .int .i64 (SS)] := by rw [hW]; exact (((q).far (by dsimp only; omega) _).far (by dsimp only; omega) _).far (by dsimp only; omega) _
      replace o1 : OwnH W9 u1 v1 A1 m c1 (RR) := by rw [hW]; exact (((o1).setCell _ _ (by dsimp only; omega)).setCell _ _ (by dsimp only; omega)).setCell _ _ (by dsimp only; omega)
      replace q1 : OwnH W9 u2 v2 (some ⟨gB, 0, none⟩) m d1 (CC) := by rw [hW]; exact (((q1).setCell _ _ (by dsimp only; omega)).setCell _ _ (by dsimp only; omega)).setCell _ _ (by dsimp only; omega)
      replace o6 : OwnH W9 u3 v3 A6 m c6 rs := by rw [hW]; exact (((o6).setCell _ _ (by dsimp only; omega)).setCell _ _ (by dsimp only; omega)).setCell _ _ (by dsimp only; omega)
      replace q6 : OwnH W9 u4 v4 B6 m d6 cs := by rw [hW]; exact (((q6).setCell _ _ (by dsimp only; omega)).setCell _ _ (by dsimp only; omega)).setCell _ _ (by dsimp only; omega)
      clear hW
      obtain ⟨z0, z1, z2⟩ := r.c3
      refine bodyPost_ret (v := .tuple #[.agg #[.slice A6 m c6, .slice B6 m d6, .int .i64 (s)], .bool false]) (by simp [results, Try.results51, go_sem, z0, z1, z2]) rfl ?_
      rw [HT.out.1, HT.out.2.1, HT.out.2.2.1, HT.out.2.2.2]
      refine ⟨_, _, _, _, _, _, u3, v3, u4, v4, rfl, ?_, ?_, ⟨by omega, by omega, by omega, by omega, by omega⟩, bel⟩
      · exact o6
      · exact q6
    have HTO := Lib.hid (trkOk_at HIN.out (b := true) (by rw [HK.out.1, HK.out.2.1, HK.out.2.2.1]; exact hg))
    have HT := Lib.hid (trk_yes HTO.out)
    rw [hg]
    clear hg
    obtain ⟨gB5, y5, eB, hcy, -, hy5, -, -⟩ := q1.at_ kn'
    obtain rfl : gB = gB5 := by injection eB with e; injection e
    obtain rfl : y5 = y := by have h := hy5.out.symm.trans HY.out; injection h
    clear eB hy5
    have HF : Hid (trkFull rs cs s row limit = (y5.tmod limit == 0)) := trkFull_at HTO.out HI.out HY0.out
    have l0 : limit ≠ 0 := by omega
    go_wp2_with fail
    go_region_held3 (fun Y => Y.cell? ⟨w1.heap.size, 0, none⟩ = some (.slice A1 m c1) ∧ Y.cell? ⟨w1.heap.size, 1, none⟩ = some (.slice (some ⟨gB, 0, none⟩) m d1) ∧ Y.cell? ⟨w1.heap.size, 2, none⟩ = some (.int .i64 (SS)) ∧ Y.cell? ⟨gB, k, none⟩ = some (.int .i64 y5))
      (first | (with_reducible exact ⟨q_0, q_1, q_2, hcy⟩) | (with_reducible exact ⟨cell_dr q_0, cell_dr q_1, cell_dr q_2, cell_dr hcy⟩) | (with_reducible exact ⟨cell_s3d (by omega) q_0, cell_s3d (by omega) q_1, cell_s3d (by omega) q_2, cell_s3d (by omega) hcy⟩) | fail) (fail)
    all_goals
      go_wp2_with fail
      refine abs_body ?_
      intro W9 hW
      clear p_0 p_1 p_2 p_lt r_0 r_1 r_2 r_lt q_0 q_1 q_2 q_lt r_f q_f
      have szW9 : w5.heap.size ≤ W9.heap.size := by rw [hW]; simp [World.setCell]
      have szW9_ := bel.size
      replace bel : Below w.heap.size w W9 := by rw [hW]; exact (bel_d ((((bel).setCell (by dsimp only; omega) _).setCell (by dsimp only; omega) _).setCell (by dsimp only; omega) _))
      replace p : Box W9 w.heap.size 75 #[.slice A m c, .slice B m d, .int .i64 s] := by rw [hW]; exact (Box.dr ((((p).far (by dsimp only; omega) _).far (by dsimp only; omega) _).far (by dsimp only; omega) _))
      replace r : Box W9 (w.heap.size + 1) 75 #[.slice A1 m c1, .slice (some ⟨gB, 0, none⟩) m d1, .int .i64 (SS)] := by rw [hW]; exact (Box.dr ((((r).set_ 0 _).set_ 1 _).set_ 2 _))
      replace q : Box W9 w1.heap.size 75 #[.slice A1 m c1, .slice (some ⟨gB, 0, none⟩) m d1, .int .i64 (SS)] := by rw [hW]; exact (Box.dr ((((q).far (by dsimp only; omega) _).far (by dsimp only; omega) _).far (by dsimp only; omega) _))
      replace o1 : OwnH W9 u1 v1 A1 m c1 (RR) := by rw [hW]; exact (OwnH.dr ((((o1).setCell _ _ (by dsimp only; omega)).setCell _ _ (by dsimp only; omega)).setCell _ _ (by dsimp only; omega)))
      replace q1 : OwnH W9 u2 v2 (some ⟨gB, 0, none⟩) m d1 (CC) := by rw [hW]; exact (OwnH.dr ((((q1).setCell _ _ (by dsimp only; omega)).setCell _ _ (by dsimp only; omega)).setCell _ _ (by dsimp only; omega)))
      clear hW
      obtain ⟨z0, z1, z2⟩ := r.c3
      refine bodyPost_ret (v := .tuple #[.agg #[.slice A1 m c1, .slice (some ⟨gB, 0, none⟩) m d1, .int .i64 (SS)], .bool (y5.tmod limit == 0)]) (by simp [results, Try.results51, go_sem, z0, z1, z2]) rfl ?_
      rw [HT.out.1, HT.out.2.1, HT.out.2.2, HK.out.1, HK.out.2.1, HK.out.2.2.1, HF.out]
      refine ⟨_, _, _, _, _, _, u1, v1, u2, v2, rfl, ?_, ?_, ⟨by omega, by omega, by omega, by omega, by omega⟩, bel⟩
      · exact o1
      · exact q1
  have eI : trkI rs cs s row = -1 := (trk_spill (fun h => hI (.inl h)) (fun h => hI (.inr h))).2.2.2.2.2
  obtain ⟨z, hz⟩ : ∃ z : Int, z = -1 := ⟨_, rfl⟩
  have HF : Hid (trkFull rs cs s row limit = false) := trkFull_no eI
  rw [← hz] at eI
  have hneg : decide (0 ≤ z) = false := by rw [hz]; rfl
  rw [eI]
  clear eI hI hz
  obtain ⟨p_0, p_1, p_2⟩ := p.c3
  have p_lt := p.lt
  obtain ⟨r_0, r_1, r_2⟩ := r.c3
  have r_lt := r.lt
  obtain ⟨q_0, q_1, q_2⟩ := q.c3
  have q_lt := q.lt
  have r_f := r.frozen
  have q_f := q.frozen
  go_wp2_with fail
  refine (sTrackerOk_c A1 B1 m c1 m d1 (RR) (CC) (SS) _ (by exact o1.ints) (by exact q1.ints) hm hm).mono ?_
  rintro e w5 ⟨rfl, b5⟩
  clear p_0 p_1 p_2 p_lt r_0 r_1 r_2 r_lt q_0 q_1 q_2 q_lt r_f q_f
  have szw5 := b5.size
  replace bel := bel.trans (b5.mono bel.size)
  replace p := p.kept b5
  replace r := r.kept b5
  replace q := q.kept b5
  replace o1 := o1.below b5
  replace q1 := q1.below b5
  clear b5
  obtain ⟨p_0, p_1, p_2⟩ := p.c3
  have p_lt := p.lt
  obtain ⟨r_0, r_1, r_2⟩ := r.c3
  have r_lt := r.lt
  obtain ⟨q_0, q_1, q_2⟩ := q.c3
  have q_lt := q.lt
  have r_f := r.frozen
  have q_f := q.frozen
  by_cases hg : tokOk (RR) (CC) (SS) = true
  case neg =>
    have hg : tokOk (RR) (CC) (SS) = false := by simpa using hg
    have HT := Lib.hid (trk_no (trkOk_at HIN.out (b := false) (by rw [HK.out.1, HK.out.2.1, HK.out.2.2.1]; exact hg)))
    rw [hg]
    go_wp2_with fail
    refine (l16Copy_c A B m c m d rs cs s _ (hA.below bel) (hB.below bel) hn hm).mono ?_
    rintro e w6 ⟨A6, n6, c6, B6, m6, d6, u3, v3, u4, v4, rfl, o6, q6, ⟨hb1, hb2, hb3, hb4, hsep6⟩, b6⟩
    have hn6 : m = n6 := by have := o6.len; have := HLA.out; omega
    have hmm6 : m = m6 := by have := q6.len; have := HLB.out; omega
    subst hn6 hmm6
    clear p_0 p_1 p_2 p_lt r_0 r_1 r_2 r_lt q_0 q_1 q_2 q_lt r_f q_f
    have szw6 := b6.size
    replace bel := bel.trans (b6.mono bel.size)
    replace p := p.kept b6
    replace r := r.kept b6
    replace q := q.kept b6
    replace o1 := o1.below b6
    replace q1 := q1.below b6
    clear b6
    obtain ⟨r_0, r_1, r_2⟩ := r.c3
    have r_lt := r.lt
    have r_f := r.frozen
    go_wp2_with fail
    refine abs_body ?_
    intro W9 hW
    clear r_0 r_1 r_2 r_lt r_f
    have szW9 : w6.heap.size ≤ W9.heap.size := by rw [hW]; simp [World.setCell]
    have szW9_ := bel.size
    replace bel : Below w.heap.size w W9 := by rw [hW]; exact (((bel).setCell (by dsimp only; omega) _).setCell (by dsimp only; omega) _).setCell (by dsimp only; omega) _
    replace p : Box W9 w.heap.size 75 #[.slice A m c, .slice B m d, .int .i64 s] := by rw [hW]; exact (((p).far (by dsimp only; omega) _).far (by dsimp only; omega) _).far (by dsimp only; omega) _
    replace r : Box W9 (w.heap.size + 1) 75 #[.slice A6 m c6, .slice B6 m d6, .int .i64 (s)] := by rw [hW]; exact (((r).set_ 0 _).set_ 1 _).set_ 2 _
    replace q : Box W9 w1.heap.size 75 #[.slice A1 m c1, .slice B1 m d1, .int .i64 (SS)] := by rw [hW]; exact (((q).far (by dsimp only; omega) _).far (by dsimp only; omega) _).far (by dsimp only; omega) _
    replace o1 : OwnH W9 u1 v1 A1 m c1 (RR) := by rw [hW]; exact (((o1).setCell _ _ (by dsimp only; omega)).setCell _ _ (by dsimp only; omega)).setCell _ _ (by dsimp only; omega)
    replace q1 : OwnH W9 u2 v2 B1 m d1 (CC) := by rw [hW]; exact (((q1).setCell _ _ (by dsimp only; omega)).setCell _ _ (by dsimp only; omega)).setCell _ _ (by dsimp only; omega)
    replace o6 : OwnH W9 u3 v3 A6 m c6 rs := by rw [hW]; exact (((o6).setCell _ _ (by dsimp only; omega)).setCell _ _ (by dsimp only; omega)).setCell _ _ (by dsimp only; omega)
    replace q6 : OwnH W9 u4 v4 B6 m d6 cs := by rw [hW]; exact (((q6).setCell _ _ (by dsimp only; omega)).setCell _ _ (by dsimp only; omega)).setCell _ _ (by dsimp only; omega)
    clear hW
    obtain ⟨z0, z1, z2⟩ := r.c3
    refine bodyPost_ret (v := .tuple #[.agg #[.slice A6 m c6, .slice B6 m d6, .int .i64 (s)], .bool false]) (by simp [results, Try.results51, go_sem, z0, z1, z2]) rfl ?_
    rw [HT.out.1, HT.out.2.1, HT.out.2.2.1, HT.out.2.2.2]
    refine ⟨_, _, _, _, _, _, u3, v3, u4, v4, rfl, ?_, ?_, ⟨by omega, by omega, by omega, by omega, by omega⟩, bel⟩
    · exact o6
    · exact q6
  have HTO := Lib.hid (trkOk_at HIN.out (b := true) (by rw [HK.out.1, HK.out.2.1, HK.out.2.2.1]; exact hg))
  have HT := Lib.hid (trk_yes HTO.out)
  rw [hg]
  clear hg
  go_wp2_with fail
  go_region
  all_goals
    go_wp2_with fail
    refine abs_body ?_
    intro W9 hW
    clear p_0 p_1 p_2 p_lt r_0 r_1 r_2 r_lt q_0 q_1 q_2 q_lt r_f q_f
    have szW9 : w5.heap.size ≤ W9.heap.size := by rw [hW]; simp [World.setCell]
    have szW9_ := bel.size
    replace bel : Below w.heap.size w W9 := by rw [hW]; exact (bel_d ((((bel).setCell (by dsimp only; omega) _).setCell (by dsimp only; omega) _).setCell (by dsimp only; omega) _))
    replace p : Box W9 w.heap.size 75 #[.slice A m c, .slice B m d, .int .i64 s] := by rw [hW]; exact (Box.dr ((((p).far (by dsimp only; omega) _).far (by dsimp only; omega) _).far (by dsimp only; omega) _))
    replace r : Box W9 (w.heap.size + 1) 75 #[.slice A1 m c1, .slice B1 m d1, .int .i64 (SS)] := by rw [hW]; exact (Box.dr ((((r).set_ 0 _).set_ 1 _).set_ 2 _))
    replace q : Box W9 w1.heap.size 75 #[.slice A1 m c1, .slice B1 m d1, .int .i64 (SS)] := by rw [hW]; exact (Box.dr ((((q).far (by dsimp only; omega) _).far (by dsimp only; omega) _).far (by dsimp only; omega) _))
    replace o1 : OwnH W9 u1 v1 A1 m c1 (RR) := by rw [hW]; exact (OwnH.dr ((((o1).setCell _ _ (by dsimp only; omega)).setCell _ _ (by dsimp only; omega)).setCell _ _ (by dsimp only; omega)))
    replace q1 : OwnH W9 u2 v2 B1 m d1 (CC) := by rw [hW]; exact (OwnH.dr ((((q1).setCell _ _ (by dsimp only; omega)).setCell _ _ (by dsimp only; omega)).setCell _ _ (by dsimp only; omega)))
    clear hW
    obtain ⟨z0, z1, z2⟩ := r.c3
    refine bodyPost_ret (v := .tuple #[.agg #[.slice A1 m c1, .slice B1 m d1, .int .i64 (SS)], .bool false]) (by simp [results, Try.results51, go_sem, z0, z1, z2]) rfl ?_
    rw [HT.out.1, HT.out.2.1, HT.out.2.2, HK.out.1, HK.out.2.1, HK.out.2.2.1, HF.out]
    refine ⟨_, _, _, _, _, _, u1, v1, u2, v2, rfl, ?_, ?_, ⟨by omega, by omega, by omega, by omega, by omega⟩, bel⟩
    · exact o1
    · exact q1
end Go.Proofs.Ytbcbgdomjefdhaa
