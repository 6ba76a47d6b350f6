/-
  The walk of FnBlocked.
-/
import Derived.Test.YtbapamfomfbmmaaQuE
import Derived.Test.YtbapamfomfbmmaaReqB
import Derived.Deep.DeepCutAuto
namespace Go.Proofs.Ytbapamfomfbmmaa
open Go.RowKit
set_option linter.unusedSimpArgs false
set_option linter.unusedVariables false

theorem free_ne {rs : List Req} {i k : Nat} {r : Req} {y : Int} (h : r.line ∉ freeTo rs i) (hy : (freeTo rs i)[k]? = some y) : (y == r.line) = false := by
  have := List.mem_of_getElem? hy
  simp
  intro e
  exact h (e ▸ this)
theorem two_reqs {w : World} {g : Nat} {t : TypeId} {a b : Req} (h : Box w g t #[.int .i64 a.id, .int .i64 a.ten, .int .i64 a.line, .bool a.wrt, .int .i64 a.dat, .int .i64 a.att, .int .i64 b.id, .int .i64 b.ten, .int .i64 b.line, .bool b.wrt, .int .i64 b.dat, .int .i64 b.att]) : Reqs w (some ⟨g, 0, none⟩) 2 [a, b] := by
  refine ⟨rfl, fun _ => ⟨g, 0, rfl, h.lt, fun j hj => ?_⟩⟩
  rw [Nat.zero_add]
  have hj' : j < 12 := by omega
  obtain ⟨v, hv⟩ : ∃ v, (List.flatMap Req.cs [a, b])[j]? = some v := ⟨_, List.getElem?_eq_getElem (by exact hj')⟩
  rw [hv]
  refine h.cell j v ?_
  rw [← hv, ← Array.getElem?_toList]
  rfl
theorem one_req {w : World} {g : Nat} {t : TypeId} {a : Req} (h : Box w g t #[.int .i64 a.id, .int .i64 a.ten, .int .i64 a.line, .bool a.wrt, .int .i64 a.dat, .int .i64 a.att]) : Reqs w (some ⟨g, 0, none⟩) 1 [a] := by
  refine ⟨rfl, fun _ => ⟨g, 0, rfl, h.lt, fun j hj => ?_⟩⟩
  rw [Nat.zero_add]
  have hj' : j < 6 := by omega
  obtain ⟨v, hv⟩ : ∃ v, (List.flatMap Req.cs [a])[j]? = some v := ⟨_, List.getElem?_eq_getElem (by exact hj')⟩
  rw [hv]
  refine h.cell j v ?_
  rw [← hv, ← Array.getElem?_toList]
  rfl

set_option maxRecDepth 100000 in
set_option maxHeartbeats 8000000 in
theorem fnBlocked_walk (A : Option Addr) (n c : Nat) (zs : List Int) (w : World) (hA : Bytes w A n zs) (hn : n ≤ maxLen) :
    Calls Try.prog 5 #[.slice A n c] w fun e w' => e = .returned (.bool true) ∧ Below w.heap.size w w' := by
  by_cases hb : 1048576 < n
  · have hd : decide (1048576 < n) = true := by simpa using hb
    go_enter Try.func5, Try.ntmps5
    go_wp2_with (go_at_call 14; refine (big_c A n c _ hn).mono ?_; rintro e w' ⟨rfl, rfl⟩)
    go_ret
    exact ⟨rfl, Below.refl _ _⟩
  · have hd : decide (1048576 < n) = false := by simpa using hb
    have bel : Below w.heap.size w w := Below.refl _ _
    go_enter Try.func5, Try.ntmps5
    go_wp2_with (first | (go_at_call 14; refine (big_c A n c _ hn).mono ?_; rintro e w' ⟨rfl, rfl⟩) | fail)
    refine (drawQueueOk_c A n c zs _ hA hn).mono ?_
    rintro e w1 ⟨l, A1, m, c1, rs, hm, rfl, o1, b1⟩
    have hl := Lib.hid o1.len
    have h1 := o1.recs
    have hcap := o1.1.cap
    have HC := Lib.hid hcap
    clear hcap o1 hA
    go_wp2_with fail
    refine abs_code ?_
    intro W hW
    have bW : Below w1.heap.size w1 W := by rw [hW]; exact (Below.refl _ _).alloc (Nat.le_refl _) _
    have szW : W.heap.size = w1.heap.size + 1 := by rw [hW]; simp
    have eA : (some ⟨w1.heap.size, 0, none⟩ : Option Addr) = some ⟨w1.heap.size, 0, none⟩ := rfl
    have oW : OwnI W W.heap.size (some ⟨w1.heap.size, 0, none⟩) 0 0 [] := OwnI.nil _ _ _
    have hW1 := h1.below bW
    replace bel := b1.trans (bW.mono b1.size)
    clear hW b1 bW h1 eA
    go_loopw [5, 6] (fun f i wr => ∃ (k : Nat) (F : Option Addr) (j d : Nat), k ≤ m ∧ i = .int .i64 k ∧ f = .slice F j d ∧ OwnI wr W.heap.size F j d (freeTo rs k) ∧ Below W.heap.size W wr) (fun _ i _ => m - (intOf i).toNat)
    case atStart => exact ⟨0, _, 0, 0, Nat.zero_le _, rfl, rfl, oW, Below.refl _ _⟩
    case round =>
      obtain ⟨k, F, j, d, hk, rfl, rfl, ok, bk⟩ := hrel
      have hjl := Lib.hid ok.len
      have hjk : j ≤ 14 := by have := freeTo_len rs k; have := hjl.out; omega
      have szk := bk.size
      by_cases hlt : k < m
      · have hr := hW1.below bk
        obtain ⟨r, hgr⟩ : ∃ r, rs[k]? = some r := ⟨_, List.getElem?_eq_getElem (by rw [hl.out]; exact hlt)⟩
        have i0 : (0 : Int) ≤ (k : Int) := by omega
        have i1 : (k : Int) < (m : Int) := by omega
        cases hbk : blkB rs k
        · have HB := Lib.hid hbk
          have HG := Lib.hid hgr
          have HN := Lib.hid (free_new hbk hgr)
          have HF := Lib.hid (freeTo_yes hbk hgr)
          go_wp2_with fail
          refine (iBlocked_c A1 m c1 rs k _ hr (by omega) HC.out).mono ?_
          rintro e w3 ⟨rfl, b3⟩
          rw [HB.out]
          replace ok := ok.below b3
          replace bk := bk.trans (b3.mono bk.size)
          have hr3 := hr.below b3
          have sz3 := bk.size
          clear b3 hr hbk hgr
          go_wp2_with fail
          go_loopw [7] (fun i wr => ∃ q : Nat, q ≤ j ∧ i = .int .i64 q ∧ ∃ z, wr = w3.drewN z) (fun i _ => j - (intOf i).toNat)
          case atStart => exact ⟨0, Nat.zero_le _, rfl, 0, rfl⟩
          case round =>
            obtain ⟨q, hq, rfl, z, rfl⟩ := hrel
            obtain ⟨g, o, id, ten, line, wrt, dat, att, eA1, hg, h0, h1, h2, h3', h4, h5, hrr⟩ := hr3.at_ hlt
            subst eA1
            have er := HG.out.symm.trans hrr.out
            injection er with er
            subst er
            by_cases hql : q < j
            · obtain ⟨gF, oF, y, rfl, hcF, hyF⟩ := ok.ints.at_ hql
              have ne := free_ne HN.out hyF.out
              have q0 : (0 : Int) ≤ (q : Int) := by omega
              have q1 : (q : Int) < (j : Int) := by omega
              have ne' : (y == line) = false := ne
              clear ne
              go_wp2_with fail
              go_quiet (fail)
              go_wp2
              go_roundw
              case rel => exact ⟨q + 1, by omega, by go_num, _, rfl⟩
              case measure => simp [intOf]; omega
            · have ok3 : OwnI (w3.drewN z) W.heap.size F j d (freeTo rs k) := ok.drewN z
              have sz4 : W.heap.size ≤ (w3.drewN z).heap.size := sz3
              have bk4 : Below W.heap.size W (w3.drewN z) := belowN bk z
              have q2 : (w3.drewN z).cell? ⟨g, o + k * 6 + 2, none⟩ = some (.int .i64 line) := h2
              clear h0 h1 h2 h3' h4 h5 ok bk sz3 hr3
              generalize w3.drewN z = W4 at ok3 sz4 bk4 q2 ⊢
              go_wp2_with (at_builtin; refine wpList_app1 rfl (.tmp 42) (.tmp 48) 26 rfl Try.underlying26 infoInt F j d W.heap.size (freeTo rs k) rfl (ok3.alloc _) W4.heap.size line rfl (by simp) (by omega) (by simp; omega) ?_; intro A5 d5 w5 o5 g5 at5)
              go_roundw
              case rel =>
                refine ⟨k + 1, A5, j + 1, d5, by omega, by go_num, rfl, ?_, ?_⟩
                · rw [HF.out]; exact o5
                · exact below_app3 (bk4.alloc bk4.size _) g5 (fun p hp => (ok3.lt p hp).1)
              case measure => simp [intOf]; omega
        · have HB := Lib.hid hbk
          have HF := Lib.hid (freeTo_no (rs := rs) (k := k) hbk)
          go_wp2_with fail
          refine (iBlocked_c A1 m c1 rs k _ hr (by omega) HC.out).mono ?_
          rintro e w3 ⟨rfl, b3⟩
          rw [HB.out]
          go_wp2
          go_roundw
          case rel => exact ⟨k + 1, F, j, d, by omega, by go_num, rfl, by rw [HF.out]; exact ok.below b3, bk.trans (b3.mono bk.size)⟩
          case measure => simp [intOf]; omega
      · obtain rfl : m = k := by omega
        have e2 : ((m : Int) == 0) = ((j : Int) == 0) := by
          rw [Bool.eq_iff_iff, beq_iff_eq, beq_iff_eq]
          constructor
          · intro e
            have := freeTo_len rs m
            have := hjl.out
            omega
          · intro e
            refine Classical.byContradiction fun hne => ?_
            have := freeTo_some (rs := rs) (k := m) (by omega) (by rw [hl.out]; omega)
            have := hjl.out
            omega
        have e3 : (((m : Int) == 0) == ((j : Int) == 0)) = true := by rw [e2]; simp
        clear e2
        go_wp2_with fail
        refine abs_call ?_
        intro W9 hW
        have b9 : Below wr.heap.size wr W9 := by rw [hW]; exact (Below.refl _ _).alloc (Nat.le_refl _) _
        have p9 : Box W9 wr.heap.size 58 #[.int .i64 0, .int .i64 0, .int .i64 3, .bool false, .int .i64 0, .int .i64 0, .int .i64 0, .int .i64 0, .int .i64 3, .bool false, .int .i64 0, .int .i64 0] := by rw [hW]; exact Box.new _ _ _
        clear hW
        refine (iBlocked_c (some ⟨wr.heap.size, 0, none⟩) 2 2 [⟨0, 0, 3, false, 0, 0⟩, ⟨0, 0, 3, false, 0, 0⟩] 1 _ (two_reqs p9) (by omega) (by unfold maxLen; omega)).mono ?_
        rintro e w10 ⟨rfl, b10⟩
        rw [blk_ex _ _ rfl]
        go_wp2
        go_ret
        exact ⟨rfl, (bel.trans (bk.mono bel.size)).trans ((b9.trans (b10.mono b9.size)).mono (by have := bel.size; omega))⟩
end Go.Proofs.Ytbapamfomfbmmaa
