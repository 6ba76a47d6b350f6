/-
  Contracts of UrgentBanks, in the program and in the reference.
-/
import Derived.Test.YtbolpanfgbhbnaaRef3
import Derived.Test.YtbolpanfgbhbnaaRefP
import Derived.Test.YtbolpanfgbhbnaaUni
namespace Go.Proofs.Ytbolpanfgbhbnaa
open Go.RowKit
set_option linter.unusedSimpArgs false
set_option linter.unusedVariables false

theorem urgTo_zero (zs : List Int) : urgTo zs 0 = [] := rfl
set_option maxHeartbeats 1000000 in
theorem iUrgentBanks_c (A : Option Addr) (n c : Nat) (zs : List Int) (s : Int) (t : Bool) (w : World) (hA : Ints w A n zs) (hn : n ≤ 1048576) :
    Calls Try.prog 21 #[.agg #[.slice A n c, .int .i64 s, .bool t]] w (NewL (urg zs s) w) := by
  have bel : Below w.heap.size w w := Below.refl _ _
  have hl := Lib.hid hA.1
  go_enter Try.func21, Try.ntmps21
  go_wp2_with fail
  refine abs_call ?_
  intro W hW
  have szW : w.heap.size + 1 ≤ W.heap.size := by rw [hW]; simp [World.setCell]
  have szW_ := bel.size
  replace bel : Below w.heap.size w W := by rw [hW]; exact (bel).alloc (by first | omega | (simp [World.setCell] <;> omega)) _
  have p : Box W w.heap.size 27 #[.slice A n c, .int .i64 s, .bool t] := by rw [hW]; exact (Box.newAt (by simp [World.setCell]))
  clear hW
  refine (iRefreshOk_c A n c zs s t _ (hA.below bel) hn).mono ?_
  rintro e w1 ⟨rfl, b1⟩
  have szw1 := b1.size
  replace bel := bel.trans (b1.mono bel.size)
  replace p := p.kept b1
  clear b1
  by_cases hr : refOk zs s = true
  · have HU : Hid (urg zs s = urgTo zs zs.length) := by unfold Hid urg; rw [if_pos hr]
    obtain ⟨p_0, p_1, p_2⟩ := p.c3
    have p_lt := p.lt
    go_wp2
    refine abs_code ?_
    intro W3 hW
    clear p_0 p_1 p_2 p_lt
    have szW3 : w1.heap.size + 1 ≤ W3.heap.size := by rw [hW]; simp [World.setCell]
    have szW3_ := bel.size
    replace bel : Below w.heap.size w W3 := by rw [hW]; exact (bel).alloc (by first | omega | (simp [World.setCell] <;> omega)) _
    replace p : Box W3 w.heap.size 27 #[.slice A n c, .int .i64 s, .bool t] := by rw [hW]; exact p.alloc _
    clear hW
    have hA3 := hA.below bel
    go_loopw [3, 13] (fun v i wr => ∃ (k : Nat) (A1 : Option Addr) (m1 c1 : Nat), k ≤ n ∧ i = .int .i64 k ∧ v = .slice A1 m1 c1 ∧ OwnI wr W3.heap.size A1 m1 c1 (urgTo zs k) ∧ Below W3.heap.size W3 wr) (fun _ i _ => n - (intOf i).toNat)
    case atStart => exact ⟨0, _, 0, 0, Nat.zero_le _, rfl, rfl, OwnI.nil _ _ _, Below.refl _ _⟩
    case round =>
      obtain ⟨k, A1, m1, c1, hk, rfl, rfl, ok, bk⟩ := hrel
      have hm1 : m1 ≤ k := by have := ok.len; have := urgTo_len zs k; omega
      have szk := bk.size
      by_cases hlt : k < n
      · obtain ⟨g, o', x, rfl, hc1, hx⟩ := (hA3.below bk).at_ hlt
        by_cases h4 : 4 ≤ x
        · have HU1 := Lib.hid (urgTo_yes hx.out h4)
          go_wp2_with (at_builtin; refine wpList_app1 rfl (.tmp 20) (.tmp 22) 24 rfl Try.underlying24 infoInt A1 m1 c1 W3.heap.size (urgTo zs k) rfl (ok.alloc _) wr.heap.size (k : Int) rfl (by simp) (by omega) (by simp; omega) ?_; intro A2 c2 w2 o2 g2 at2)
          go_roundw
          case rel =>
            refine ⟨k + 1, A2, m1 + 1, c2, by omega, by go_num, rfl, by rw [HU1.out]; exact o2, ?_⟩
            exact below_app3 (bk.alloc bk.size _) g2 (fun j hj => (ok.lt j hj).1)
          case measure => simp [intOf]; omega
        · have HU1 := Lib.hid (urgTo_no hx.out h4)
          go_wp2
          go_roundw
          case rel => exact ⟨k + 1, A1, m1, c1, by omega, by go_num, rfl, by rw [HU1.out]; exact ok, bk⟩
          case measure => simp [intOf]; omega
      · obtain rfl : n = k := by omega
        go_wp2
        go_ret
        rw [HU.out, hl.out]
        exact ⟨_, _, _, rfl, OwnH.mk' (ok.mono (by omega)), bel.trans (bk.mono bel.size)⟩
  · have hr' : refOk zs s = false := by simpa using hr
    have HU : Hid (urg zs s = []) := by unfold Hid urg; rw [if_neg hr]
    clear hr
    obtain ⟨p_0, p_1, p_2⟩ := p.c3
    have p_lt := p.lt
    go_wp2
    go_ret
    rw [HU.out]
    exact ⟨_, _, _, rfl, OwnH.nil _ _ _ _, bel⟩

end Go.Proofs.Ytbolpanfgbhbnaa
