/-
  The contract of QueueOk in the program.
-/
import Derived.Test.YtbapamfomfbmmaaReqQ
import Derived.Test.YtbapamfomfbmmaaLater
namespace Go.Proofs.Ytbapamfomfbmmaa
open Go.RowKit
set_option linter.unusedSimpArgs false
set_option linter.unusedVariables false

theorem mem_take_map {rs : List Req} {k j : Nat} {q : Req} (hj : j < k) (hq : rs[j]? = some q) : q.id ∈ (rs.take k).map Req.id :=
  List.mem_map.2 ⟨q, List.mem_of_getElem? (show (rs.take k)[j]? = some q by rw [List.getElem?_take, if_pos hj, hq]), rfl⟩
theorem ids_snoc {rs : List Req} {j : Nat} {q : Req} {x : Int} (h : x ∉ (rs.take j).map Req.id) (hq : rs[j]? = some q) (hn : (q.id == x) = false) : x ∉ (rs.take (j + 1)).map Req.id := by
  rw [take_snoc hq, List.map_append]
  simp only [List.map_cons, List.map_nil, List.mem_append, List.mem_singleton]
  rintro (h' | h')
  · exact h h'
  · subst h'; simp at hn
set_option maxRecDepth 100000 in
set_option maxHeartbeats 4000000 in
theorem iQueueOk_c (lines : Int) (A : Option Addr) (n c : Nat) (rs : List Req) (w : World) (h : Reqs w A n rs) (hn : n ≤ 1048576) (hc : n ≤ c ∧ c ≤ maxLen) :
    Calls Try.prog 38 #[.int .i64 lines, .slice A n c] w fun e w' => e = .returned (.bool (queueOk lines rs)) ∧ Below w.heap.size w w' := by
  have hl := Lib.hid h.len
  obtain ⟨hnc, hcm⟩ := hc
  unfold maxLen at hcm
  go_enter Try.func38, Try.ntmps38
  go_wp2
  go_loopw [11] (fun i wr => ∃ k : Nat, k ≤ n ∧ i = .int .i64 k ∧ Hid (qokTo lines rs k = true) ∧ Below w.heap.size w wr) (fun i _ => n - (intOf i).toNat)
  case atStart => exact ⟨0, Nat.zero_le _, rfl, by unfold Hid; rfl, Below.refl _ _⟩
  case round =>
    obtain ⟨k, hk, rfl, HK, bk⟩ := hrel
    by_cases hlt : k < n
    · obtain ⟨g, o, id, ten, line, wrt, dat, att, rfl, hg, h0, h1, h2, h3, h4, h5, hr⟩ := (h.below bk).at_ hlt
      have b4 := bk.alloc bk.size (.cells #[.int .i64 id, .int .i64 ten, .int .i64 line, .bool wrt, .int .i64 dat, .int .i64 att] 58)
      have q4 : Box (wr.alloc (.cells #[.int .i64 id, .int .i64 ten, .int .i64 line, .bool wrt, .int .i64 dat, .int .i64 att] 58)) wr.heap.size 58 #[.int .i64 id, .int .i64 ten, .int .i64 line, .bool wrt, .int .i64 dat, .int .i64 att] := Box.new _ _ _
      go_wp2
      refine abs_code ?_
      intro W hW
      rw [← hW] at b4 q4
      have szW : wr.heap.size < W.heap.size := by rw [hW]; simp
      clear hW h0 h1 h2 h3 h4 h5
      obtain ⟨q_0, q_1, q_2, q_3, q_4, q_5⟩ := q4.c6
      have hh := h.below b4
      by_cases hok : reqOk lines id ten line wrt dat att = true
      · have HOK : Hid ((⟨id, ten, line, wrt, dat, att⟩ : Req).ok lines = true) := hok
        by_cases hk0 : 0 < k
        · have hd : decide ((0 : Int) < (k : Int)) = true := by simp; omega
          have hd2 : decide (0 < k) = true := by simp; omega
          obtain ⟨g', o', id2, ten2, line2, wrt2, dat2, att2, e', hg', y0, y1, y2, y3, y4, y5, hr2⟩ := hh.at_ (show k - 1 < n by omega)
          injection e' with e'
          injection e' with e1 e2
          subst e1 e2
          have i1 : (0 : Int) ≤ (k : Int) - 1 := by omega
          have i2 : (k : Int) - 1 < (n : Int) := by omega
          have i3 : (1 : Int) ≤ (k : Int) := by omega
          have i4 : ((k : Int) - 1).toNat = k - 1 := by omega
          have i5 : IntKind.i64.wrap ((k : Int) - 1) = (k : Int) - 1 := IntWalk.i64_in _ (by omega)
          have l0 := later_cell q4.lt q_0
          have l1 := later_cell q4.lt q_1
          have l2 := later_cell q4.lt q_2
          have l3 := later_cell q4.lt q_3
          have l4 := later_cell q4.lt q_4
          have l5 := later_cell q4.lt q_5
          have m0 := later_cell hg' y0
          have m1 := later_cell hg' y1
          have m2 := later_cell hg' y2
          have m3 := later_cell hg' y3
          have m4 := later_cell hg' y4
          have m5 := later_cell hg' y5
          by_cases hbe : befB att2 id2 att id = true
          · have HBE : Hid ((⟨id2, ten2, line2, wrt2, dat2, att2⟩ : Req).bef ⟨id, ten, line, wrt, dat, att⟩ = true) := hbe
            refine wp_region_later (by kernel_rfl) (by kernel_rfl) ?_
            repeat (go_big_quiet_step (first | (go_at_call 39; exact later_call (iRequestOk_c lines id ten line wrt dat att _)) | (go_at_call 87; exact later_call (arrivesBefore_c id2 ten2 line2 wrt2 dat2 att2 id ten line wrt dat att _))))
            refine wpQuiet_nil ?_
            intro Z hw'
            obtain ⟨z, hw''⟩ := hw'
            have bZ := z.bel
            rw [← hw''] at bZ
            clear hw'' z
            clear i4 i5 l0 l1 l2 l3 l4 l5 m0 m1 m2 m3 m4 m5 y0 y1 y2 y3 y4 y5 hd hd2
            have HN : Hid (∀ x : Prop, (id ∉ (rs.take k).map Req.id → qok1 lines rs k = true)) := fun _ h3 => by
              obtain ⟨j, rfl⟩ : ∃ j, k = j + 1 := ⟨k - 1, by omega⟩
              exact qok1_next hr.out (by have := hr2.out; simpa using this) HOK.out HBE.out h3
            have szZ := bZ.size
            have q5 := q4.kept bZ
            clear q_0 q_1 q_2 q_3 q_4 q_5
            obtain ⟨q_0, q_1, q_2, q_3, q_4, q_5⟩ := q5.c6
            have hZ := hh.below bZ
            have kc : (k : Int) ≤ (c : Int) := by omega
            have kc0 : (0 : Int) ≤ (k : Int) := by omega
            go_wp2
            go_loopw [38] (fun i wz => ∃ j : Nat, j ≤ k ∧ i = .int .i64 j ∧ Hid (id ∉ (rs.take j).map Req.id) ∧ Below Z.heap.size Z wz) (fun i _ => k - (intOf i).toNat)
            case atStart => exact ⟨0, Nat.zero_le _, rfl, by unfold Hid; simp, Below.refl _ _⟩
            case round =>
              obtain ⟨j, hj, rfl, HJ, bj⟩ := hrel
              have q6 := q5.kept bj
              clear q_0 q_1 q_2 q_3 q_4 q_5
              obtain ⟨q_0, q_1, q_2, q_3, q_4, q_5⟩ := q6.c6
              have q6l := q6.lt
              by_cases hjk : j < k
              · obtain ⟨g3, o3, id3, ten3, line3, wrt3, dat3, att3, e3, hg3, x0, x1, x2, x3, x4, x5, hr3⟩ := (hZ.below bj).at_ (show j < n by omega)
                injection e3 with e3
                injection e3 with e1 e2
                subst e1 e2
                by_cases hid : (id3 == id) = true
                · have HQ : Hid (queueOk lines rs = false) := queueOk_no (by rw [hl.out]; exact hlt) (qok1_twice hr.out (by have h1 := mem_take_map hjk hr3.out; simp only at h1; rw [show id3 = id by simpa using hid] at h1; exact h1))
                  go_wp2
                  go_ret
                  exact ⟨ret_bool HQ.out.symm, (b4.trans (bZ.mono b4.size)).trans ((bj.alloc bj.size _).mono (b4.trans (bZ.mono b4.size)).size)⟩
                · have hid' : (id3 == id) = false := by simpa using hid
                  clear hid
                  go_wp2
                  go_roundw
                  case rel => exact ⟨j + 1, by omega, by go_num, ids_snoc HJ.out hr3.out hid', bj.alloc bj.size _⟩
                  case measure => simp [intOf]; omega
              · obtain rfl : k = j := by omega
                have HQ1 : Hid (qokTo lines rs (k + 1) = true) := by unfold Hid; rw [qokTo_succ, HK.out, HN.out True HJ.out]; rfl
                go_wp2
                go_roundw
                case rel => exact ⟨k + 1, by omega, by go_num, HQ1, (b4.trans (bZ.mono b4.size)).trans (bj.mono (b4.trans (bZ.mono b4.size)).size)⟩
                case measure => simp [intOf]; omega
          · have hbe' : befB att2 id2 att id = false := by simpa using hbe
            clear hbe
            have HQ : Hid (queueOk lines rs = false) := by
              obtain ⟨j, rfl⟩ : ∃ j, k = j + 1 := ⟨k - 1, by omega⟩
              exact queueOk_no (by rw [hl.out]; exact hlt) (qok1_order (q := ⟨id2, ten2, line2, wrt2, dat2, att2⟩) hr.out (by have := hr2.out; simpa using this) hbe')
            refine wp_region_later (by kernel_rfl) (by kernel_rfl) ?_
            repeat (go_big_quiet_step (first | (go_at_call 39; exact later_call (iRequestOk_c lines id ten line wrt dat att _)) | (go_at_call 87; exact later_call (arrivesBefore_c id2 ten2 line2 wrt2 dat2 att2 id ten line wrt dat att _))))
            refine wpQuiet_nil ?_
            intro Z hw'
            obtain ⟨z, hw''⟩ := hw'
            have bZ := z.bel
            rw [← hw''] at bZ
            clear hw'' z
            clear i4 i5 l0 l1 l2 l3 l4 l5 m0 m1 m2 m3 m4 m5 y0 y1 y2 y3 y4 y5 hd hd2
            go_wp2
            go_ret
            exact ⟨ret_bool HQ.out.symm, b4.trans (bZ.mono b4.size)⟩
        · have hd : decide ((0 : Int) < (k : Int)) = false := by simp; omega
          have hd2 : decide (0 < k) = false := by simp; omega
          have l0 := later_cell q4.lt q_0
          have l1 := later_cell q4.lt q_1
          have l2 := later_cell q4.lt q_2
          have l3 := later_cell q4.lt q_3
          have l4 := later_cell q4.lt q_4
          have l5 := later_cell q4.lt q_5
          refine wp_region_later (by kernel_rfl) (by kernel_rfl) ?_
          repeat (go_big_quiet_step ((go_at_call 39; exact later_call (iRequestOk_c lines id ten line wrt dat att _))))
          refine wpQuiet_nil ?_
          intro Z hw'
          obtain ⟨z, hw''⟩ := hw'
          have bZ := z.bel
          rw [← hw''] at bZ
          clear hw'' z
          clear l0 l1 l2 l3 l4 l5 hd hd2
          have HN : Hid (∀ x : Prop, (id ∉ (rs.take k).map Req.id → qok1 lines rs k = true)) := fun _ h3 => by
            obtain rfl : k = 0 := by omega
            exact qok1_first hr.out HOK.out
          have szZ := bZ.size
          have q5 := q4.kept bZ
          clear q_0 q_1 q_2 q_3 q_4 q_5
          obtain ⟨q_0, q_1, q_2, q_3, q_4, q_5⟩ := q5.c6
          have hZ := hh.below bZ
          have kc : (k : Int) ≤ (c : Int) := by omega
          have kc0 : (0 : Int) ≤ (k : Int) := by omega
          go_wp2
          go_loopw [38] (fun i wz => ∃ j : Nat, j ≤ k ∧ i = .int .i64 j ∧ Hid (id ∉ (rs.take j).map Req.id) ∧ Below Z.heap.size Z wz) (fun i _ => k - (intOf i).toNat)
          case atStart => exact ⟨0, Nat.zero_le _, rfl, by unfold Hid; simp, Below.refl _ _⟩
          case round =>
            obtain ⟨j, hj, rfl, HJ, bj⟩ := hrel
            have q6 := q5.kept bj
            clear q_0 q_1 q_2 q_3 q_4 q_5
            obtain ⟨q_0, q_1, q_2, q_3, q_4, q_5⟩ := q6.c6
            have q6l := q6.lt
            by_cases hjk : j < k
            · exact absurd hjk (by omega)
            · obtain rfl : k = j := by omega
              have HQ1 : Hid (qokTo lines rs (k + 1) = true) := by unfold Hid; rw [qokTo_succ, HK.out, HN.out True HJ.out]; rfl
              go_wp2
              go_roundw
              case rel => exact ⟨k + 1, by omega, by go_num, HQ1, (b4.trans (bZ.mono b4.size)).trans (bj.mono (b4.trans (bZ.mono b4.size)).size)⟩
              case measure => simp [intOf]; omega
      · have hok' : reqOk lines id ten line wrt dat att = false := by simpa using hok
        have HQ : Hid (queueOk lines rs = false) := queueOk_no (by rw [hl.out]; exact hlt) (qok1_bad hr.out hok')
        clear hok
        have l0 := later_cell q4.lt q_0
        have l1 := later_cell q4.lt q_1
        have l2 := later_cell q4.lt q_2
        have l3 := later_cell q4.lt q_3
        have l4 := later_cell q4.lt q_4
        have l5 := later_cell q4.lt q_5
        refine wp_region_later (by kernel_rfl) (by kernel_rfl) ?_
        repeat (go_big_quiet_step ((go_at_call 39; exact later_call (iRequestOk_c lines id ten line wrt dat att _))))
        refine wpQuiet_nil ?_
        intro Z hw'
        obtain ⟨z, hw''⟩ := hw'
        have bZ := z.bel
        rw [← hw''] at bZ
        clear hw'' z
        clear l0 l1 l2 l3 l4 l5
        go_wp2
        go_ret
        exact ⟨ret_bool HQ.out.symm, b4.trans (bZ.mono b4.size)⟩
    · obtain rfl : n = k := by omega
      have HQ : Hid (queueOk lines rs = decide (n ≤ 12)) := by unfold Hid queueOk; rw [hl.out, HK.out]; simp
      go_wp2
      go_ret
      refine ⟨ret_bool ?_, bk⟩
      rw [HQ.out]
      simp
      omega
end Go.Proofs.Ytbapamfomfbmmaa
