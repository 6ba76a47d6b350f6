/-
  Contracts of SharesOk, in the program and in the reference.
-/
import Derived.Test.YtbolpanfgbhbnaaShr
import Derived.Test.YtbolpanfgbhbnaaKit2
namespace Go.Proofs.Ytbolpanfgbhbnaa
open Go.RowKit
set_option linter.unusedSimpArgs false
set_option linter.unusedVariables false

def Shr.ok (r : Shr) : Bool := inB r.wt 1 9 && inB r.cr 0 r.wt
def shrsIn (rs : List Shr) : Bool := rs.all Shr.ok
/-- Valid shares. -/
def shrsOk (rs : List Shr) : Bool := shrsIn rs && inB rs.length 1 4
theorem shrsIn_yes {rs : List Shr} {r : Shr} {k : Nat} (hr : shrsIn (rs.take k) = true) (h : rs[k]? = some r) (e : r.ok = true) : shrsIn (rs.take (k + 1)) = true := by
  unfold shrsIn at *
  rw [take_snoc h, List.all_append, hr]
  simp [e]
theorem shrsIn_no {rs : List Shr} {r : Shr} {k : Nat} (h : rs[k]? = some r) (e : r.ok = false) : shrsIn rs = false := by
  unfold shrsIn
  rw [Bool.eq_false_iff]
  intro hc
  rw [List.all_eq_true] at hc
  have := hc r (List.mem_of_getElem? h)
  rw [e] at this
  cases this

set_option maxHeartbeats 1000000 in
theorem iSharesOk_c (A : Option Addr) (n c : Nat) (rs : List Shr) (w : World) (h : Shrs w A n rs) (hn : n ≤ 1048576) :
    Calls Try.prog 26 #[.slice A n c] w fun e w' => e = .returned (.bool (shrsOk rs)) ∧ Below w.heap.size w w' := by
  have hl := Lib.hid h.len
  have HT : Hid (shrsOk rs = (shrsIn rs && inB n 1 4)) := by unfold Hid shrsOk; rw [hl.out]
  go_enter Try.func26, Try.ntmps26
  go_wp2
  go_loopw [7] (fun i wr => ∃ k : Nat, k ≤ n ∧ i = .int .i64 k ∧ Hid (shrsIn (rs.take k) = true) ∧ Below w.heap.size w wr) (fun i _ => n - (intOf i).toNat)
  case atStart => exact ⟨0, Nat.zero_le _, rfl, by unfold Hid; rfl, Below.refl _ _⟩
  case round =>
    obtain ⟨k, hk, rfl, HR, bk⟩ := hrel
    by_cases hlt : k < n
    · obtain ⟨g, o, wt, cr, rfl, hg, h0, h1, hr⟩ := (h.below bk).at_ hlt
      have i1 : (0 : Int) ≤ (k : Int) := by omega
      have i2 : (k : Int) < (n : Int) := by omega
      by_cases hi : inB wt 1 9 = true
      · by_cases hj : inB cr 0 wt = true
        · go_wp2_with (go_at_call 75; refine (between_c _ _ _ _).mono ?_; rintro e w' ⟨rfl, rfl⟩)
          go_roundw
          case rel => exact ⟨k + 1, by omega, by go_num, shrsIn_yes HR.out hr.out (by unfold Shr.ok; simp only; rw [hi, hj]; rfl), bk.alloc bk.size _⟩
          case measure => simp [intOf]; omega
        · have hj' : inB cr 0 wt = false := by simpa using hj
          clear hj
          go_wp2_with (go_at_call 75; refine (between_c _ _ _ _).mono ?_; rintro e w' ⟨rfl, rfl⟩)
          go_ret
          exact ⟨ret_bool (by rw [HT.out, shrsIn_no hr.out (by unfold Shr.ok; simp only; rw [hj']; simp)]; rfl), bk.alloc bk.size _⟩
      · have hi' : inB wt 1 9 = false := by simpa using hi
        clear hi
        go_wp2_with (go_at_call 75; refine (between_c _ _ _ _).mono ?_; rintro e w' ⟨rfl, rfl⟩)
        go_ret
        exact ⟨ret_bool (by rw [HT.out, shrsIn_no hr.out (by unfold Shr.ok; simp only; rw [hi']; simp)]; rfl), bk.alloc bk.size _⟩
    · have HE := HR.out
      rw [List.take_of_length_le (by rw [hl.out]; omega)] at HE
      have HE2 := Lib.hid HE
      clear HE
      go_wp2_with (go_at_call 75; refine (between_c _ _ _ _).mono ?_; rintro e w' ⟨rfl, rfl⟩)
      go_ret
      exact ⟨ret_bool (by rw [HT.out, HE2.out]; rfl), bk⟩
end Go.Proofs.Ytbolpanfgbhbnaa
