/-
  The contract of QueueOk in the reference.
-/
import Derived.Test.YtbapamfomfbmmaaReqC
namespace Go.Proofs.Ytbapamfomfbmmaa
open Go.RowKit
set_option linter.unusedSimpArgs false
set_option linter.unusedVariables false

theorem atId_new {rs : List Req} {k : Nat} {r : Req} (h : rs[k]? = some r) (hn : r.id ∉ (rs.take k).map Req.id) : (atId rs r.id != (k : Int)) = false := by
  unfold atId
  rw [idxI_at (k := k) (by rw [← List.map_take]; exact hn) (by rw [List.getElem?_map, h]; rfl)]
  simp
theorem atId_old {rs : List Req} {k : Nat} {x : Int} (hn : x ∈ (rs.take k).map Req.id) : (atId rs x != (k : Int)) = true := by
  have hm : x ∈ rs.map Req.id := by
    rw [List.mem_map] at hn ⊢
    obtain ⟨r, hr, e⟩ := hn
    exact ⟨r, List.mem_of_mem_take hr, e⟩
  have hlt : (rs.map Req.id).idxOf x < k := by
    rw [List.map_take] at hn
    have h1 := List.idxOf_lt_length_of_mem hn
    have e : (rs.map Req.id) = (rs.map Req.id).take k ++ (rs.map Req.id).drop k := (List.take_append_drop _ _).symm
    rw [e, List.idxOf_append, if_pos hn]
    simp only [List.length_take] at h1
    omega
  unfold atId idxI
  rw [if_pos hm]
  simp
  omega
set_option maxRecDepth 100000 in
set_option maxHeartbeats 4000000 in
theorem sQueueOk_c (lines : Int) (A : Option Addr) (n c : Nat) (rs : List Req) (w : World) (h : Reqs w A n rs) (hn : n ≤ 1048576) (hc : n ≤ c ∧ c ≤ maxLen) :
    Calls Try.prog 90 #[.int .i64 lines, .slice A n c] w fun e w' => e = .returned (.bool (queueOk lines rs)) ∧ Below w.heap.size w w' := by
  have hl := Lib.hid h.len
  clear hc
  by_cases h12 : n ≤ 12
  case neg =>
    have HQ : Hid (queueOk lines rs = false) := by unfold Hid queueOk; rw [hl.out]; simp; omega
    go_enter Try.func90, Try.ntmps90
    go_wp2
    go_ret
    exact ⟨ret_bool HQ.out.symm, Below.refl _ _⟩
  go_enter Try.func90, Try.ntmps90
  go_wp2
  go_loopw [5] (fun i wr => ∃ k : Nat, k ≤ n ∧ i = .int .i64 k ∧ Hid (qokTo lines rs k = true) ∧ Below w.heap.size w wr) (fun i _ => n - (intOf i).toNat)
  case atStart => exact ⟨0, Nat.zero_le _, rfl, by unfold Hid; rfl, Below.refl _ _⟩
  case round =>
    obtain ⟨k, hk, rfl, HK, bk⟩ := hrel
    by_cases hlt : k < n
    · have hh := h.below bk
      obtain ⟨g, o, id, ten, line, wrt, dat, att, rfl, hg, h0, h1, h2, h3, h4, h5, hr⟩ := hh.at_ hlt
      have i1 : (0 : Int) ≤ (k : Int) := by omega
      have i2 : (k : Int) < (n : Int) := by omega
      have l0 := later_cell hg h0
      have l1 := later_cell hg h1
      have l2 := later_cell hg h2
      have l3 := later_cell hg h3
      have l4 := later_cell hg h4
      have l5 := later_cell hg h5
      clear h0 h1 h2 h3 h4 h5
      by_cases hok : reqOk lines id ten line wrt dat att = true
      · have HOK : Hid ((⟨id, ten, line, wrt, dat, att⟩ : Req).ok lines = true) := hok
        by_cases hid : id ∈ (rs.take k).map Req.id
        · have HQ : Hid (queueOk lines rs = false) := queueOk_no (by rw [hl.out]; exact hlt) (qok1_twice hr.out hid)
          have hne := atId_old hid
          clear hid
          by_cases hk0 : 0 < k
          · have hd : decide ((0 : Int) < (k : Int)) = true := by simp; omega
            have hd2 : decide (0 < k) = true := by simp; omega
            obtain ⟨g', o', id2, ten2, line2, wrt2, dat2, att2, e', hg', y0, y1, y2, y3, y4, y5, hr2⟩ := hh.at_ (show k - 1 < n by omega)
            injection e' with e'
            injection e' with e1 e2
            subst e1 e2
            have i3 : (0 : Int) ≤ (k : Int) - 1 := by omega
            have i4 : (k : Int) - 1 < (n : Int) := by omega
            have i5 : (1 : Int) ≤ (k : Int) := by omega
            have i6 : ((k : Int) - 1).toNat = k - 1 := by omega
            have i7 : IntKind.i64.wrap ((k : Int) - 1) = (k : Int) - 1 := IntWalk.i64_in _ (by omega)
            have m0 := later_cell hg' y0
            have m1 := later_cell hg' y1
            have m2 := later_cell hg' y2
            have m3 := later_cell hg' y3
            have m4 := later_cell hg' y4
            have m5 := later_cell hg' y5
            clear y0 y1 y2 y3 y4 y5
            by_cases hbe : befB att2 id2 att id = true
            · skip
              go_wp2
              refine wp_region_later (by kernel_rfl) (by kernel_rfl) ?_
              repeat (go_big_quiet_step (first | (go_at_call 139; exact later_call (sRequestOk_c lines id ten line wrt dat att _)) | (go_at_call 89; exact later_call (l19Before_c id2 ten2 line2 wrt2 dat2 att2 id ten line wrt dat att _)) | (go_at_call 140; exact later_same (l19At_c _ _ _ rs _ _ (hh.below (Later.bel _)) hn))))
              refine wpQuiet_nil ?_
              intro Z hw'
              obtain ⟨z, hw''⟩ := hw'
              have bZ := z.bel
              rw [← hw''] at bZ
              clear hw'' z
              clear l0 l1 l2 l3 l4 l5 i6 i7 m0 m1 m2 m3 m4 m5 hd hd2 hne
              go_wp2
              go_ret
              exact ⟨ret_bool HQ.out.symm, bk.trans (bZ.mono bk.size)⟩
            · have hbe' : befB att2 id2 att id = false := by simpa using hbe
              clear hbe
              go_wp2
              refine wp_region_later (by kernel_rfl) (by kernel_rfl) ?_
              repeat (go_big_quiet_step (first | (go_at_call 139; exact later_call (sRequestOk_c lines id ten line wrt dat att _)) | (go_at_call 89; exact later_call (l19Before_c id2 ten2 line2 wrt2 dat2 att2 id ten line wrt dat att _)) | (go_at_call 140; exact later_same (l19At_c _ _ _ rs _ _ (hh.below (Later.bel _)) hn))))
              refine wpQuiet_nil ?_
              intro Z hw'
              obtain ⟨z, hw''⟩ := hw'
              have bZ := z.bel
              rw [← hw''] at bZ
              clear hw'' z
              clear l0 l1 l2 l3 l4 l5 i6 i7 m0 m1 m2 m3 m4 m5 hd hd2 hne
              go_wp2
              go_ret
              exact ⟨ret_bool HQ.out.symm, bk.trans (bZ.mono bk.size)⟩
          · have hd : decide ((0 : Int) < (k : Int)) = false := by simp; omega
            have hd2 : decide (0 < k) = false := by simp; omega
            go_wp2
            refine wp_region_later (by kernel_rfl) (by kernel_rfl) ?_
            repeat (go_big_quiet_step (first | (go_at_call 139; exact later_call (sRequestOk_c lines id ten line wrt dat att _)) | (go_at_call 89; exact later_call (l19Before_c id2 ten2 line2 wrt2 dat2 att2 id ten line wrt dat att _)) | (go_at_call 140; exact later_same (l19At_c _ _ _ rs _ _ (hh.below (Later.bel _)) hn))))
            refine wpQuiet_nil ?_
            intro Z hw'
            obtain ⟨z, hw''⟩ := hw'
            have bZ := z.bel
            rw [← hw''] at bZ
            clear hw'' z
            clear l0 l1 l2 l3 l4 l5 hd hd2 hne
            go_wp2
            go_ret
            exact ⟨ret_bool HQ.out.symm, bk.trans (bZ.mono bk.size)⟩
        · have hne := atId_new hr.out hid
          simp only at hne
          by_cases hk0 : 0 < k
          · have hd : decide ((0 : Int) < (k : Int)) = true := by simp; omega
            have hd2 : decide (0 < k) = true := by simp; omega
            obtain ⟨g', o', id2, ten2, line2, wrt2, dat2, att2, e', hg', y0, y1, y2, y3, y4, y5, hr2⟩ := hh.at_ (show k - 1 < n by omega)
            injection e' with e'
            injection e' with e1 e2
            subst e1 e2
            have i3 : (0 : Int) ≤ (k : Int) - 1 := by omega
            have i4 : (k : Int) - 1 < (n : Int) := by omega
            have i5 : (1 : Int) ≤ (k : Int) := by omega
            have i6 : ((k : Int) - 1).toNat = k - 1 := by omega
            have i7 : IntKind.i64.wrap ((k : Int) - 1) = (k : Int) - 1 := IntWalk.i64_in _ (by omega)
            have m0 := later_cell hg' y0
            have m1 := later_cell hg' y1
            have m2 := later_cell hg' y2
            have m3 := later_cell hg' y3
            have m4 := later_cell hg' y4
            have m5 := later_cell hg' y5
            clear y0 y1 y2 y3 y4 y5
            by_cases hbe : befB att2 id2 att id = true
            · have HQ1 : Hid (qokTo lines rs (k + 1) = true) := by
                unfold Hid
                rw [qokTo_succ, HK.out]
                obtain ⟨j, rfl⟩ : ∃ j, k = j + 1 := ⟨k - 1, by omega⟩
                rw [qok1_next (q := ⟨id2, ten2, line2, wrt2, dat2, att2⟩) hr.out (by have := hr2.out; simpa using this) hok hbe hid]
                rfl
              clear hid
              go_wp2
              refine wp_region_later (by kernel_rfl) (by kernel_rfl) ?_
              repeat (go_big_quiet_step (first | (go_at_call 139; exact later_call (sRequestOk_c lines id ten line wrt dat att _)) | (go_at_call 89; exact later_call (l19Before_c id2 ten2 line2 wrt2 dat2 att2 id ten line wrt dat att _)) | (go_at_call 140; exact later_same (l19At_c _ _ _ rs _ _ (hh.below (Later.bel _)) hn))))
              refine wpQuiet_nil ?_
              intro Z hw'
              obtain ⟨z, hw''⟩ := hw'
              have bZ := z.bel
              rw [← hw''] at bZ
              clear hw'' z
              clear l0 l1 l2 l3 l4 l5 i6 i7 m0 m1 m2 m3 m4 m5 hd hd2 hne
              go_wp2
              go_roundw
              case rel => exact ⟨k + 1, by omega, by go_num, HQ1, bk.trans (bZ.mono bk.size)⟩
              case measure => simp [intOf]; omega
            · have hbe' : befB att2 id2 att id = false := by simpa using hbe
              clear hbe
              have HQ : Hid (queueOk lines rs = false) := by
                obtain ⟨j, rfl⟩ : ∃ j, k = j + 1 := ⟨k - 1, by omega⟩
                exact queueOk_no (by rw [hl.out]; exact hlt) (qok1_order (q := ⟨id2, ten2, line2, wrt2, dat2, att2⟩) hr.out (by have := hr2.out; simpa using this) hbe')
              clear hid
              go_wp2
              refine wp_region_later (by kernel_rfl) (by kernel_rfl) ?_
              repeat (go_big_quiet_step (first | (go_at_call 139; exact later_call (sRequestOk_c lines id ten line wrt dat att _)) | (go_at_call 89; exact later_call (l19Before_c id2 ten2 line2 wrt2 dat2 att2 id ten line wrt dat att _)) | (go_at_call 140; exact later_same (l19At_c _ _ _ rs _ _ (hh.below (Later.bel _)) hn))))
              refine wpQuiet_nil ?_
              intro Z hw'
              obtain ⟨z, hw''⟩ := hw'
              have bZ := z.bel
              rw [← hw''] at bZ
              clear hw'' z
              clear l0 l1 l2 l3 l4 l5 i6 i7 m0 m1 m2 m3 m4 m5 hd hd2 hne
              go_wp2
              go_ret
              exact ⟨ret_bool HQ.out.symm, bk.trans (bZ.mono bk.size)⟩
          · have hd : decide ((0 : Int) < (k : Int)) = false := by simp; omega
            have hd2 : decide (0 < k) = false := by simp; omega
            have HQ1 : Hid (qokTo lines rs (k + 1) = true) := by
              unfold Hid
              rw [qokTo_succ, HK.out]
              obtain rfl : k = 0 := by omega
              rw [qok1_first hr.out HOK.out]
              rfl
            clear hid
            go_wp2
            refine wp_region_later (by kernel_rfl) (by kernel_rfl) ?_
            repeat (go_big_quiet_step (first | (go_at_call 139; exact later_call (sRequestOk_c lines id ten line wrt dat att _)) | (go_at_call 89; exact later_call (l19Before_c id2 ten2 line2 wrt2 dat2 att2 id ten line wrt dat att _)) | (go_at_call 140; exact later_same (l19At_c _ _ _ rs _ _ (hh.below (Later.bel _)) hn))))
            refine wpQuiet_nil ?_
            intro Z hw'
            obtain ⟨z, hw''⟩ := hw'
            have bZ := z.bel
            rw [← hw''] at bZ
            clear hw'' z
            clear l0 l1 l2 l3 l4 l5 hd hd2 hne
            go_wp2
            go_roundw
            case rel => exact ⟨k + 1, by omega, by go_num, HQ1, bk.trans (bZ.mono bk.size)⟩
            case measure => simp [intOf]; omega
      · have hok' : reqOk lines id ten line wrt dat att = false := by simpa using hok
        have HQ : Hid (queueOk lines rs = false) := queueOk_no (by rw [hl.out]; exact hlt) (qok1_bad hr.out hok')
        clear hok
        go_wp2
        refine wp_region_later (by kernel_rfl) (by kernel_rfl) ?_
        repeat (go_big_quiet_step (first | (go_at_call 139; exact later_call (sRequestOk_c lines id ten line wrt dat att _)) | (go_at_call 89; exact later_call (l19Before_c id2 ten2 line2 wrt2 dat2 att2 id ten line wrt dat att _)) | (go_at_call 140; exact later_same (l19At_c _ _ _ rs _ _ (hh.below (Later.bel _)) hn))))
        refine wpQuiet_nil ?_
        intro Z hw'
        obtain ⟨z, hw''⟩ := hw'
        have bZ := z.bel
        rw [← hw''] at bZ
        clear hw'' z
        clear l0 l1 l2 l3 l4 l5
        go_wp2
        go_ret
        exact ⟨ret_bool HQ.out.symm, bk.trans (bZ.mono bk.size)⟩
    · obtain rfl : n = k := by omega
      have HQ : Hid (queueOk lines rs = true) := by unfold Hid queueOk; rw [hl.out, HK.out]; simp [h12]
      go_wp2
      go_ret
      exact ⟨ret_bool HQ.out.symm, bk⟩
end Go.Proofs.Ytbapamfomfbmmaa
