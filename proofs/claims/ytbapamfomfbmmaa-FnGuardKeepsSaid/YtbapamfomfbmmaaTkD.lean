/-
  Contracts of the reference's l16Track and TrackRow.
-/
import Derived.Test.YtbapamfomfbmmaaTkC
import Derived.Test.YtbapamfomfbmmaaTrk2s
import Derived.Deep.DeepCutAuto
namespace Go.Proofs.Ytbapamfomfbmmaa
open Go.RowKit
set_option linter.unusedSimpArgs false
set_option linter.unusedVariables false

/-- A row has been counted in the tracker at u. -/
def Tracked (u : Nat) (A B : Option Addr) (n c d l1 h1 l2 h2 : Nat) (rs cs : List Int) (s row : Int) (w : World) (e : Ending) (w' : World) : Prop :=
  e = .returned (.int .i64 (trkI rs cs s row)) ∧ Box w' u 132 #[.slice A n c, .slice B n d, .int .i64 (trkS rs cs s row)] ∧ OwnH w' l1 h1 A n c (trkR rs cs s row) ∧ OwnH w' l2 h2 B n d (trkC rs cs s row) ∧
  (∀ (b0 : Nat) (w0 : World), Below b0 w0 w → b0 ≤ u → b0 ≤ l1 → b0 ≤ l2 → Below b0 w0 w') ∧ (∀ (g : Nat), g < w.heap.size → g ≠ u → (g < l1 ∨ h1 ≤ g) → (g < l2 ∨ h2 ≤ g) → w'.heap[g]? = w.heap[g]?)
theorem trk_at {rs cs : List Int} {s row : Int} (h : row ∈ rs ∨ s ∈ cs) (hl : cs.length = rs.length) : ∃ (k : Nat) (y : Int), k < rs.length ∧ trkI rs cs s row = k ∧ (trkC rs cs s row)[k]? = some y := by
  by_cases hm : row ∈ rs
  · obtain ⟨k, y, kn, -, hy, -, e2, -, e4⟩ := trk_hit (s := s) hm hl
    exact ⟨k, y + 1, kn, e4, by rw [e2]; exact List.getElem?_set_self (by omega)⟩
  · obtain ⟨k, kn, -, -, hy, -, e2, -, e4⟩ := trk_new (row := row) hm (h.resolve_left hm) hl
    exact ⟨k, s + 1, kn, e4, by rw [e2]; exact List.getElem?_set_self (by omega)⟩
theorem take_all_not {l : List Int} {x : Int} {k n : Nat} (h : x ∉ l.take k) (hl : l.length = n) (hk : n ≤ k) : x ∉ l := by rwa [List.take_of_length_le (by omega)] at h
set_option maxRecDepth 100000 in
set_option maxHeartbeats 4000000 in
theorem l16Track_c (u : Nat) (A B : Option Addr) (n c d l1 h1 l2 h2 : Nat) (rs cs : List Int) (s row : Int) (w : World) (t : Box w u 132 #[.slice A n c, .slice B n d, .int .i64 s]) (oA : OwnH w l1 h1 A n c rs) (oB : OwnH w l2 h2 B n d cs) (n16 : n ≤ 16)
    (s1 : u < l1 ∨ h1 ≤ u) (s2 : u < l2 ∨ h2 ≤ u) (s3 : h1 ≤ l2 ∨ h2 ≤ l1) (s0 : 0 ≤ s) (s9 : s ≤ 100000) (kc : ∀ (i : Nat) (y : Int), cs[i]? = some y → s ≤ y ∧ y ≤ 100000) :
    Calls Try.prog 94 #[.pointer (some ⟨u, 0, none⟩), .int .i64 row] w (Tracked u A B n c d l1 h1 l2 h2 rs cs s row w) := by
  have KC := Lib.hid kc
  have KL := Lib.hid (show cs.length = rs.length by rw [oA.len, oB.len])
  have KA := Lib.hid (show rs.length = n from oA.len)
  clear kc
  obtain ⟨t_0, t_1, t_2⟩ := t.c3
  have t_f := t.frozen
  have t_lt := t.lt
  go_enter Try.func94, Try.ntmps94
  go_wp2_with fail
  go_loopw [5] (fun i wr => ∃ (j : Nat), j ≤ n ∧ i = .int .i64 j ∧ Hid (row ∉ rs.take j) ∧ ∃ q, wr = w.drewN q) (fun i _ => n - (intOf i).toNat)
  case atStart => exact ⟨0, Nat.zero_le _, rfl, Lib.hid (by simp), 0, rfl⟩
  case round =>
    obtain ⟨j, hj, rfl, HJ, q, rfl⟩ := hrel
    by_cases hlt : j < n
    · obtain ⟨gA, x, rfl, hcA, hfA, hxA, gA1, gA2⟩ := oA.at_ hlt
      have j0 : (0 : Int) ≤ (j : Int) := by omega
      have j1 : (j : Int) < (n : Int) := by omega
      by_cases hxr : x = row
      · subst hxr
        obtain ⟨gB, y, rfl, hcB, hfB, hyB, gB1, gB2⟩ := oB.at_ hlt
        obtain ⟨k, y', kn, eI, hy, e1, e2, e3, e4⟩ := trk_hit (s := s) (List.mem_of_getElem? hxA.out) KL.out
        have hkj : k = j := by have := idxI_at HJ.out hxA.out; omega
        subst hkj
        obtain rfl : y' = y := by have := hy.symm.trans hyB.out; injection this
        have yb := KC.out k y' hy
        obtain ⟨y0, y1⟩ := yb
        have HK := Lib.hid (And.intro e1 (And.intro e2 (And.intro e3 e4)))
        clear e1 e2 e3 e4 eI hy hxA hyB kn
        have yw : IntKind.i64.wrap (y' + 1) = y' + 1 := IntWalk.i64_in _ (by omega)
        have t' := t.drewN q
        have oA' := oA.drewN q
        have oB' := oB.drewN q
        go_wp2_with fail
        go_region
        all_goals
          go_wp2_with fail
          refine abs_body ?_
          intro W9 hW
          have bx : Box W9 u 132 #[.slice (some ⟨gA, 0, none⟩) n c, .slice (some ⟨gB, 0, none⟩) n d, .int .i64 s] := by rw [hW]; first | exact Box.dr (t'.far (by dsimp only; omega) _) | exact t'.far (by dsimp only; omega) _
          have ox : OwnH W9 l1 h1 (some ⟨gA, 0, none⟩) n c rs := by rw [hW]; first | exact OwnH.dr (oA'.setCell _ _ (by dsimp only; omega)) | exact oA'.setCell _ _ (by dsimp only; omega)
          have qx : OwnH W9 l2 h2 (some ⟨gB, 0, none⟩) n d (cs.set k (y' + 1)) := by rw [hW]; first | exact OwnH.dr (oB'.stored rfl hlt _).1 | exact (oB'.stored rfl hlt _).1
          have bl : ∀ (b0 : Nat) (w0 : World), Below b0 w0 w → b0 ≤ u → b0 ≤ l1 → b0 ≤ l2 → Below b0 w0 W9 := by intro b0 w0 hb g1 g2 g3; rw [hW]; first | exact bel_d ((belowN hb q).setCell (by dsimp only; omega) _) | exact (belowN hb q).setCell (by dsimp only; omega) _
          have bh : ∀ (g : Nat), g < w.heap.size → g ≠ u → (g < l1 ∨ h1 ≤ g) → (g < l2 ∨ h2 ≤ g) → W9.heap[g]? = w.heap[g]? := by intro g _ g1 g2 g3; rw [hW]; exact Below.heap_setCell (w.drewN q) ⟨gB, k, none⟩ _ g (by dsimp only; omega)
          clear hW
          go_ret
          refine ⟨?_, ?_, ?_, ?_, bl, bh⟩
          · exact ret_int HK.out.2.2.2.symm
          · rw [HK.out.2.2.1]; exact bx
          · rw [HK.out.1]; exact ox
          · rw [HK.out.2.1]; exact qx
      · have hxf : (x == row) = false := by simpa using hxr
        have HM : Hid (row ∉ rs.take (j + 1)) := not_mem_snoc HJ.out hxA.out (by simp; exact fun e => hxr e.symm)
        clear hxr
        go_wp2
        go_roundw
        case rel => exact ⟨j + 1, by omega, by go_num, HM, _, rfl⟩
        case measure => simp [intOf]; omega
    · obtain rfl : n = j := by omega
      have hnr := Lib.hid (take_all_not HJ.out KA.out (Nat.le_refl _))
      clear hj hlt HJ
      go_wp2_with fail
      go_loopw [6] (fun i wr => ∃ (j : Nat), j ≤ n ∧ i = .int .i64 j ∧ Hid (s ∉ cs.take j) ∧ ∃ q, wr = w.drewN q) (fun i _ => n - (intOf i).toNat)
      case atStart => exact ⟨0, Nat.zero_le _, rfl, Lib.hid (by simp), q, rfl⟩
      case round =>
        obtain ⟨j, hj, rfl, HJ, q, rfl⟩ := hrel
        by_cases hlt : j < n
        · obtain ⟨gB, y, rfl, hcB, hfB, hyB, gB1, gB2⟩ := oB.at_ hlt
          have j0 : (0 : Int) ≤ (j : Int) := by omega
          have j1 : (j : Int) < (n : Int) := by omega
          by_cases hys : y = s
          · obtain ⟨gA, x, rfl, hcA, hfA, hxA, gA1, gA2⟩ := oA.at_ hlt
            obtain ⟨k, kn, eI, eI2, hy, e1, e2, e3, e4⟩ := trk_new (row := row) hnr.out (List.mem_of_getElem? (hys ▸ hyB.out)) KL.out
            have hkj : k = j := by have := idxI_at HJ.out (hys ▸ hyB.out); omega
            subst hkj
            have HK := Lib.hid (And.intro e1 (And.intro e2 (And.intro e3 e4)))
            clear e1 e2 e3 e4 eI eI2 hy hxA hyB kn
            subst hys
            have yw : IntKind.i64.wrap (y + 1) = y + 1 := IntWalk.i64_in _ (by omega)
            have t' := t.drewN q
            have oA' := oA.drewN q
            have oB' := oB.drewN q
            go_wp2_with fail
            go_quiet (fail)
            go_wp2_with fail
            refine abs_code ?_
            intro W5 hW
            have t5 : Box W5 u 132 #[.slice (some ⟨gA, 0, none⟩) n c, .slice (some ⟨gB, 0, none⟩) n d, .int .i64 y] := by rw [hW]; exact (t.drewN _).far (p := ⟨gA, k, none⟩) (by first | omega | (dsimp only; omega)) _
            have o5 : OwnH W5 l1 h1 (some ⟨gA, 0, none⟩) n c (rs.set k row) := by rw [hW]; exact ((oA'.drewN nq).stored rfl hlt _).1
            have q5 : OwnH W5 l2 h2 (some ⟨gB, 0, none⟩) n d cs := by rw [hW]; exact (oB'.drewN nq).setCell _ _ (by dsimp only; omega)
            have bl5 : ∀ (b0 : Nat) (w0 : World), Below b0 w0 w → b0 ≤ u → b0 ≤ l1 → b0 ≤ l2 → Below b0 w0 W5 := by intro b0 w0 hb g1 g2 g3; rw [hW]; exact (belowN hb (q + nq)).setCell (by dsimp only; omega) _
            have bh5 : ∀ (g : Nat), g < w.heap.size → g ≠ u → (g < l1 ∨ h1 ≤ g) → (g < l2 ∨ h2 ≤ g) → W5.heap[g]? = w.heap[g]? := by intro g _ g1 g2 g3; rw [hW]; exact Below.heap_setCell (w.drewN q) ⟨gA, k, none⟩ _ g (by dsimp only; omega)
            clear hW t' oA' oB' t_0 t_1 t_2 t_f t_lt hcB hfB
            obtain ⟨t_0, t_1, t_2⟩ := t5.c3
            have t_f := t5.frozen
            have t_lt := t5.lt
            obtain ⟨gB', y', eB, hcB, hfB, -, -, -⟩ := q5.at_ hlt
            obtain rfl : gB = gB' := by injection eB with e; injection e
            clear eB
            go_region
            all_goals
              go_wp2_with fail
              refine abs_body ?_
              intro W9 hW
              have bx : Box W9 u 132 #[.slice (some ⟨gA, 0, none⟩) n c, .slice (some ⟨gB, 0, none⟩) n d, .int .i64 y] := by rw [hW]; first | exact Box.dr (t5.far (by dsimp only; omega) _) | exact t5.far (by dsimp only; omega) _
              have ox : OwnH W9 l1 h1 (some ⟨gA, 0, none⟩) n c (rs.set k row) := by rw [hW]; first | exact OwnH.dr (o5.setCell _ _ (by dsimp only; omega)) | exact o5.setCell _ _ (by dsimp only; omega)
              have qx : OwnH W9 l2 h2 (some ⟨gB, 0, none⟩) n d (cs.set k (y + 1)) := by rw [hW]; first | exact OwnH.dr (q5.stored rfl hlt _).1 | exact (q5.stored rfl hlt _).1
              have bl : ∀ (b0 : Nat) (w0 : World), Below b0 w0 w → b0 ≤ u → b0 ≤ l1 → b0 ≤ l2 → Below b0 w0 W9 := by intro b0 w0 hb g1 g2 g3; rw [hW]; first | exact bel_d ((bl5 b0 w0 hb g1 g2 g3).setCell (by dsimp only; omega) _) | exact (bl5 b0 w0 hb g1 g2 g3).setCell (by dsimp only; omega) _
              have bh : ∀ (g : Nat), g < w.heap.size → g ≠ u → (g < l1 ∨ h1 ≤ g) → (g < l2 ∨ h2 ≤ g) → W9.heap[g]? = w.heap[g]? := by intro g g0 g1 g2 g3; rw [hW]; exact (Below.heap_setCell W5 ⟨gB, k, none⟩ _ g (by dsimp only; omega)).trans (bh5 g g0 g1 g2 g3)
              clear hW
              go_ret
              refine ⟨?_, ?_, ?_, ?_, bl, bh⟩
              · exact ret_int HK.out.2.2.2.symm
              · rw [HK.out.2.2.1]; exact bx
              · rw [HK.out.1]; exact ox
              · rw [HK.out.2.1]; exact qx
          · have hxf : (y == s) = false := by simpa using hys
            have HM : Hid (s ∉ cs.take (j + 1)) := not_mem_snoc HJ.out hyB.out (by simp; exact fun e => hys e.symm)
            clear hys
            go_wp2_with fail
            go_quiet (fail)
            go_wp2
            go_roundw
            case rel => exact ⟨j + 1, by omega, by go_num, HM, _, rfl⟩
            case measure => simp [intOf]; omega
        · obtain rfl : n = j := by omega
          have hns := Lib.hid (take_all_not HJ.out (show cs.length = n from oB.len) (Nat.le_refl _))
          obtain ⟨eI, eI2, e1, e2, e3, e4⟩ := trk_spill (row := row) hnr.out hns.out
          have HK := Lib.hid (And.intro e1 (And.intro e2 (And.intro e3 e4)))
          clear e1 e2 e3 e4 eI eI2 hj hlt HJ
          have t' := t.drewN q
          have oA' := oA.drewN q
          have oB' := oB.drewN q
          go_wp2
          refine abs_body ?_
          intro W9 hW
          have bx : Box W9 u 132 #[.slice A n c, .slice B n d, .int .i64 (s + 1)] := by rw [hW]; exact t'.set_ 2 _
          have ox : OwnH W9 l1 h1 A n c rs := by rw [hW]; exact oA'.setCell _ _ (by dsimp only; omega)
          have qx : OwnH W9 l2 h2 B n d cs := by rw [hW]; exact oB'.setCell _ _ (by dsimp only; omega)
          have bl : ∀ (b0 : Nat) (w0 : World), Below b0 w0 w → b0 ≤ u → b0 ≤ l1 → b0 ≤ l2 → Below b0 w0 W9 := by intro b0 w0 hb g1 g2 g3; rw [hW]; exact (belowN hb q).setCell (by dsimp only; omega) _
          have bh : ∀ (g : Nat), g < w.heap.size → g ≠ u → (g < l1 ∨ h1 ≤ g) → (g < l2 ∨ h2 ≤ g) → W9.heap[g]? = w.heap[g]? := by intro g _ g1 g2 g3; rw [hW]; exact Below.heap_setCell (w.drewN q) ⟨u, 2, none⟩ _ g (by dsimp only; omega)
          clear hW
          go_ret
          refine ⟨?_, ?_, ?_, ?_, bl, bh⟩
          · exact ret_int HK.out.2.2.2.symm
          · rw [HK.out.2.2.1]; exact bx
          · rw [HK.out.1]; exact ox
          · rw [HK.out.2.1]; exact qx
end Go.Proofs.Ytbapamfomfbmmaa
