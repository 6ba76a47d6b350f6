/-
  The walk of FnShares.
-/
import Derived.Test.YtbolpanfgbhbnaaDraw
import Derived.Test.YtbolpanfgbhbnaaShB
namespace Go.Proofs.Ytbolpanfgbhbnaa
open Go.RowKit
set_option linter.unusedSimpArgs false
set_option linter.unusedVariables false

theorem sum_bd {ws : List Int} (h : ∀ z ∈ ws, 1 ≤ z ∧ z ≤ 5) : (ws.length : Int) ≤ ws.sum ∧ ws.sum ≤ 5 * ws.length := by
  induction ws with
  | nil => simp
  | cons a ws ih =>
    have h1 := h a (List.mem_cons_self ..)
    have h2 := ih fun z hz => h z (List.mem_cons_of_mem _ hz)
    rw [List.sum_cons, List.length_cons]
    omega
theorem sum_snoc (ws : List Int) (y : Int) : (ws ++ [y]).sum = ws.sum + y := by simp
theorem sumOf_wt (ts : List Tri) : sumOf Tri.wt ts = (ts.map Tri.wt).sum := by
  induction ts with
  | nil => rfl
  | cons t ts ih => simp only [sumOf, List.map_cons, List.sum_cons, ih]
theorem madeZ (m : Nat) : (madeCells (Value.int .i64 0).cells (m * 1)).toList = mapI (List.replicate m 0) := by
  simp [Value.cells, toList_madeCells_one, mapI]
def tri0 (x : Int) : Tri := ⟨x, x, 0⟩
theorem fair_new {ws : List Int} (h : ∀ z ∈ ws, 1 ≤ z ∧ z ≤ 5) : Fair 0 (ws.map tri0) := by
  refine ⟨fun t ht => ?_⟩
  rw [List.mem_map] at ht
  obtain ⟨x, hx, rfl⟩ := ht
  have := h x hx
  unfold tri0
  dsimp only
  omega
theorem sumOf_new (ws : List Int) : sumOf Tri.cn (ws.map tri0) = 0 := by
  induction ws with
  | nil => rfl
  | cons a ws ih => simp only [List.map_cons, sumOf, ih]; rfl
theorem fair_ok {q : Int} {ts : List Tri} (h : Fair q ts) (h1 : 1 ≤ ts.length) (h2 : ts.length ≤ 4) : shrsOk (ts.map Tri.shr) = true := by
  refine shrsOk_mk (fun r hr => ?_) (by simpa using h1) (by simpa using h2)
  rw [List.mem_map] at hr
  obtain ⟨x, hx, rfl⟩ := hr
  have := h.each x hx
  unfold Tri.shr
  dsimp only
  omega
/-- How far the selections are: j of them, the counts all from 0 to j. -/
structure Sel (ws : List Int) (q : Int) (ts : List Tri) (j : Nat) : Prop where
  fair : Fair q ts
  wts : ts.map Tri.wt = ws
  sum : sumOf Tri.cn ts = j
  bd : ∀ z ∈ ts.map Tri.cn, 0 ≤ z ∧ z ≤ j
theorem sel_step {ws : List Int} {q : Int} {ts : List Tri} {rs' : List Shr} {k j : Nat} (h : Sel ws q ts j) (hp : Picked (ts.map Tri.shr) rs' k) :
    ∃ (q' : Int) (ts' : List Tri) (x : Int), (ts.map Tri.cn)[k]? = some x ∧ (0 ≤ x ∧ x ≤ j) ∧ Sel ws q' ts' (j + 1) ∧ rs' = ts'.map Tri.shr ∧ ts'.map Tri.cn = (ts.map Tri.cn).set k (x + 1) := by
  obtain ⟨q', ts', t, ht, hF, e1, e2, e3, e4, e5⟩ := fair_step h.fair hp
  have hx : (ts.map Tri.cn)[k]? = some t.cn := by rw [List.getElem?_map, ht]; rfl
  have hb := h.bd _ (List.mem_of_getElem? hx)
  refine ⟨q', ts', t.cn, hx, hb, ⟨hF, by rw [e3]; exact h.wts, by rw [e4, h.sum]; omega, fun z hz => ?_⟩, e1, e2⟩
  rw [e2] at hz
  rcases List.mem_or_eq_of_mem_set hz with hz | hz
  · have := h.bd z hz; omega
  · omega
theorem sel_end {ws : List Int} {q : Int} {ts : List Tri} {j i : Nat} {x y : Int} (h : Sel ws q ts j) (hj : (j : Int) = 2 * ws.sum) (hx : (ts.map Tri.cn)[i]? = some x) (hy : ws[i]? = some y) : x = 2 * y := by
  have hl := lt_of_get hx
  rw [List.length_map] at hl
  have he := fair_end h.fair (by omega) (by rw [h.sum, sumOf_wt, h.wts, hj]) ts[i] (List.getElem_mem hl)
  rw [← h.wts, List.getElem?_map, List.getElem?_eq_getElem hl] at hy
  rw [List.getElem?_map, List.getElem?_eq_getElem hl] at hx
  simp only [Option.map_some, Option.some.injEq] at hx hy
  omega
theorem fourT_at4 {w : World} {g : Nat} {ty : TypeId} (h : Box w g ty #[.bool true, .bool true, .bool true, .bool true]) : Bools w (some ⟨g, 0, none⟩) 4 fourT := by
  refine ⟨rfl, fun _ => ⟨g, 0, rfl, h.lt, fun j hj => ?_⟩⟩
  rw [Nat.zero_add]
  obtain rfl | rfl | rfl | rfl : j = 0 ∨ j = 1 ∨ j = 2 ∨ j = 3 := by omega
  · exact h.c4.1
  · exact h.c4.2.1
  · exact h.c4.2.2.1
  · exact h.c4.2.2.2

theorem place_cell {w : World} {lo hi g n c k : Nat} {p : List Int} {z : Int} (o : OwnH w lo hi (some ⟨g, 0, none⟩) n c p) (hk : k < n) (hz : p[k]? = some z) : w.cell? ⟨g, k, none⟩ = some (.int .i64 z) := by
  obtain ⟨g', x, e, hc, -, hx, -, -⟩ := o.at_ hk
  injection e with e
  injection e with e
  subst e
  have := hx.out.symm.trans hz
  injection this with this
  rw [← this]; exact hc

set_option maxRecDepth 100000 in
set_option maxHeartbeats 8000000 in
theorem fnShares_walk (A : Option Addr) (n c : Nat) (zs : List Int) (w : World) (hA : Bytes w A n zs) (hn : n ≤ maxLen) :
    Calls Try.prog 5 #[.slice A n c] w fun e w' => e = .returned (.bool true) ∧ Below w.heap.size w w' := by
  by_cases hb : 1048576 < n
  · have hd : decide (1048576 < n) = true := by simpa using hb
    go_enter Try.func5, Try.ntmps5
    go_wp2_with (go_at_call 15; refine (big_c A n c _ hn).mono ?_; rintro e w' ⟨rfl, rfl⟩)
    go_ret
    exact ⟨rfl, Below.refl _ _⟩
  · have hd : decide (1048576 < n) = false := by simpa using hb
    have bel : Below w.heap.size w w := Below.refl _ _
    go_enter Try.func5, Try.ntmps5
    go_wp2_with (first | (go_at_call 15; refine (big_c A n c _ hn).mono ?_; rintro e w' ⟨rfl, rfl⟩) | fail)
    refine (drawPlaces_c A n c zs _ hA hn).mono ?_
    rintro e w1 ⟨p, hp, A1, n1, c1, rfl, o1, b1⟩
    have szw1 := b1.size
    replace bel := bel.trans (b1.mono bel.size)
    clear b1
    have hn12 : n1 = 12 := by rw [← o1.len]; exact hp.1
    subst hn12
    obtain ⟨z0, hz0, z0a, z0b⟩ := hp.at_ (show 0 < 12 by omega)
    obtain ⟨gp, x0, eg, -, -, -, gp1, gp2⟩ := o1.at_ (show 0 < 12 by omega)
    subst eg
    have HP := Lib.hid hp
    have HZ0 := Lib.hid hz0
    clear hp hz0
    have m0 : 0 ≤ z0 % 4 ∧ z0 % 4 < 4 := ⟨Int.emod_nonneg _ (by omega), Int.emod_lt_of_pos _ (by omega)⟩
    obtain ⟨Q, hQ⟩ := Int.eq_ofNat_of_zero_le m0.1
    have hQ4 : Q < 4 := by omega
    have HQ := Lib.hid hQ
    clear hQ m0
    go_wp2_with fail
    refine abs_code ?_
    intro W hW
    have szW : w1.heap.size + 1 ≤ W.heap.size := by rw [hW]; simp [World.setCell]
    have szW_ := bel.size
    replace bel : Below w.heap.size w W := by rw [hW]; exact (bel).alloc (by first | omega | (simp [World.setCell] <;> omega)) _
    replace o1 : OwnH W w.heap.size w1.heap.size (some ⟨gp, 0, none⟩) 12 c1 p := by rw [hW]; exact o1.alloc _
    clear hW
    go_loopw [4, 5, 6] (fun v4 v5 v6 wr => ∃ (j : Nat) (A1 : Option Addr) (d1 : Nat) (ws : List Int), j ≤ Q + 1 ∧ v6 = .int .i64 j ∧ v4 = .slice A1 j d1 ∧ v5 = .int .i64 ws.sum ∧ OwnI wr W.heap.size A1 j d1 ws ∧ Hid (∀ z ∈ ws, 1 ≤ z ∧ z ≤ 5) ∧ Below w.heap.size w wr ∧ OwnH wr w.heap.size w1.heap.size (some ⟨gp, 0, none⟩) 12 c1 p ∧ W.heap.size ≤ wr.heap.size) (fun _ _ i _ => 5 - (intOf i).toNat)
    case atStart => exact ⟨0, _, 0, [], Nat.zero_le _, rfl, rfl, rfl, OwnI.nil _ _ _, Lib.hid (by simp), bel, o1, Nat.le_refl _⟩
    case round =>
      clear o1 bel
      obtain ⟨j, A1, d1, ws, hj, rfl, rfl, rfl, ok, HW, br, op, szr⟩ := hrel
      have hy0 := place_cell op (show 0 < 12 by omega) HZ0.out
      have HS := Lib.hid (sum_bd HW.out)
      have HLn := Lib.hid ok.len
      have sb1 : (0 : Int) ≤ ws.sum := by have := HS.out; have := HLn.out; omega
      have sb2 : ws.sum ≤ 20 := by have := HS.out; have := HLn.out; omega
      have hq := HQ.out
      by_cases hlt : j ≤ Q
      · obtain ⟨zj, hzj, zja, zjb⟩ := HP.out.at_ (show 1 + j < 12 by omega)
        have hyj := place_cell op (show 1 + j < 12 by omega) hzj
        have v5 : 0 ≤ zj % 5 ∧ zj % 5 < 5 := ⟨Int.emod_nonneg _ (by omega), Int.emod_lt_of_pos _ (by omega)⟩
        obtain ⟨v5a, v5b⟩ := v5
        have tj : (1 + (j : Int)).toNat = 1 + j := by omega
        have i0 : (0 : Int) ≤ 1 + (j : Int) := by omega
        have i1 : 1 + (j : Int) < 12 := by omega
        have j0 : (0 : Int) ≤ (j : Int) := by omega
        have j1 : (j : Int) < ((j + 1 : Nat) : Int) := by omega
        clear hzj
        go_wp2_with (at_builtin; refine wpList_app1 rfl (.tmp 28) (.tmp 36) 24 rfl Try.underlying24 infoInt A1 j d1 W.heap.size ws rfl (ok.alloc _) wr.heap.size (1 + zj % 5) rfl (by simp) (by omega) (by simp; omega) ?_; intro A2 d2 w2 o2 g2 at2; obtain ⟨g3, o3, x3, e3, hc3, hx3⟩ := o2.ints.at_ (show j < j + 1 by omega); (have ex3 : x3 = 1 + zj % 5 := (by have := hx3.out; rw [List.getElem?_append_right (by rw [HLn.out]; exact Nat.le_refl _), HLn.out, Nat.sub_self] at this; simpa using this.symm)); subst ex3; subst e3)
        go_roundw
        case rel =>
          have hs2 := g2.size
          simp at hs2
          have C2 : Chg W.heap.size wr.heap.size (wr.alloc (.cells #[.int .i64 (1 + zj % 5)] 3)) w2 := Chg.of_grown g2 (fun k hk => ok.lt k hk)
          refine ⟨j + 1, some ⟨g3, o3, none⟩, d2, ws ++ [1 + zj % 5], by omega, by go_num, rfl, ?_, o2, Lib.hid ?_, below_app (br.alloc br.size _) g2 (fun k hk => by have := (ok.lt k hk).1; omega) (by simp; omega), (op.alloc _).chg C2 (by omega), by omega⟩
          · rw [sum_snoc]
          · intro z hz
            rcases List.mem_append.1 hz with h | h
            · exact HW.out z h
            · simp at h; omega
        case measure => simp [intOf]; omega
      · obtain rfl : j = Q + 1 := by omega
        obtain ⟨i0, hi0, hz0', hz1, hz2⟩ := info_parts infoInt
        have oW := OwnH.mk' ok
        clear ok
        go_wp2_with fail
        refine (sharesNew_c A1 (Q + 1) d1 ws _ oW.ints (by omega) (by omega) HW.out).mono ?_
        rintro e w4 ⟨A4, n4, c4, rfl, o4, b4⟩
        have oW4 := oW.below b4
        have sz4 := b4.size
        have br4 := br.trans (b4.mono br.size)
        clear oW br op hy0
        go_wp2_with (at_make; refine wpList_make_full _ rfl (.tmp 50) (.tmp 50) 24 rfl w4.heap.size 3 i0 _ 1 Try.underlying24 hi0 hz0' hz1 .i64 .i64 (Q + 1) (Q + 1) (Q + 1) rfl rfl rfl rfl (by rw [hz2]; omega) (by unfold maxLen; omega) (by simp) ?_; intro w5 ho5 hg5)
        have b5 : Below w4.heap.size w4 w5 := grown_below hg5
        have o9 : OwnH w5 w4.heap.size w5.heap.size (some ⟨w4.heap.size, 0, none⟩) (Q + 1) (Q + 1) (List.replicate (Q + 1) 0) := by
          rw [madeZ] at ho5
          exact OwnH.mk' (.inl (by simpa using ho5))
        clear ho5 hg5
        refine abs_code ?_
        intro W6 hW
        have b56 : Below w5.heap.size w5 W6 := by rw [hW]; exact (Below.refl _ _).alloc (Nat.le_refl _) _
        have bb : Box W6 w5.heap.size 4 #[.bool true, .bool true, .bool true, .bool true] := by rw [hW]; exact Box.new _ _ _
        clear hW
        have sz5 := b5.size
        have sz56 := b56.size
        have o6 := (o4.below b5).below b56
        have o96 := o9.below b56
        have oW6 := (oW4.below b5).below b56
        have br6 : Below w.heap.size w W6 := (br4.trans (b5.mono br4.size)).trans (b56.mono (by have := br4.size; omega))
        have hrep : Hid ((ws.map tri0).map Tri.cn = List.replicate (Q + 1) 0 ∧ (ws.map tri0).map Tri.shr = ws.map dup) := by
          refine ⟨?_, by rw [List.map_map]; rfl⟩
          rw [List.map_map, ← HLn.out]
          exact List.map_const' ..
        rw [← hrep.out.1] at o96
        rw [← hrep.out.2] at o6
        clear o4 o9 oW4 br4 b5 b56
        go_loopw [7, 11] (fun v7 v11 wz => ∃ (k : Nat) (B : Option Addr) (m d lo hi : Nat) (q : Int) (ts : List Tri), (k : Int) ≤ 2 * ws.sum ∧ v11 = .int .i64 k ∧ v7 = .slice B m d ∧ OwnShr wz lo hi B m d (ts.map Tri.shr) ∧ OwnH wz w4.heap.size w5.heap.size (some ⟨w4.heap.size, 0, none⟩) (Q + 1) (Q + 1) (ts.map Tri.cn) ∧ Box wz w5.heap.size 4 #[.bool true, .bool true, .bool true, .bool true] ∧ OwnH wz W.heap.size wr.heap.size A1 (Q + 1) d1 ws ∧ Below w.heap.size w wz ∧ W6.heap.size ≤ wz.heap.size ∧ (w5.heap.size ≤ lo ∨ hi ≤ w4.heap.size) ∧ Hid (Sel ws q ts k)) (fun _ i _ => (2 * ws.sum - intOf i).toNat)
        case atStart => exact ⟨0, A4, n4, c4, wr.heap.size, w4.heap.size, 0, ws.map tri0, by omega, rfl, rfl, o6, o96, bb, oW6, br6, Nat.le_refl _, .inr (Nat.le_refl _), ⟨fair_new HW.out, by rw [List.map_map]; exact List.map_id' _, sumOf_new _, fun z hz => by rw [hrep.out.1] at hz; have := List.eq_of_mem_replicate hz; omega⟩⟩
        case round =>
          clear o6 o96 bb oW6 br6
          obtain ⟨k, B, m, d, lo, hi, q, ts, hk, rfl, rfl, o6, o96, bb, oW6, br6, sz6, hdis, HS2⟩ := hrel
          have hts : Hid (ts.length = Q + 1) := by have := congrArg List.length HS2.out.wts; rw [List.length_map, HLn.out] at this; exact this
          have hm : m = Q + 1 := by rw [← o6.len, List.length_map, hts.out]
          subst hm
          by_cases hlt2 : (k : Int) < 2 * ws.sum
          · have hOK := fair_ok HS2.out.fair (by rw [hts.out]; omega) (by rw [hts.out]; omega)
            go_wp2_with fail
            refine (pickTenant_c B (Q + 1) d (ts.map Tri.shr) _ _ _ o6.recs (fourT_at4 bb) hOK).mono ?_
            rintro e w7 ⟨A7, n7, c7, rs', kk, rfl, hP, o7, b7⟩
            obtain ⟨q', ts', x, hx, ⟨x0, xk⟩, HS3, e3, e4⟩ := sel_step HS2.out hP
            have hkk : kk < Q + 1 := by have := (picked_len hP).2; rw [List.length_map, hts.out] at this; exact this
            have sz7 := b7.size
            replace o96 := o96.below b7
            replace bb := bb.kept b7
            replace oW6 := oW6.below b7
            replace br6 := br6.trans (b7.mono br6.size)
            rw [e3] at o7
            have HX := Lib.hid e4
            have HS4 := Lib.hid HS3
            have hcx := place_cell o96 hkk hx
            obtain ⟨g9, y9, e9, -, hf9, -, h91, h92⟩ := o96.at_ hkk
            injection e9 with e9
            injection e9 with e9
            subst e9
            have k90 : (0 : Int) ≤ (kk : Int) := by omega
            have k91 : (kk : Int) < ((Q + 1 : Nat) : Int) := by omega
            have k92 : (kk : Int) < (Q : Int) + 1 := by omega
            clear hx e3 e4 HS3 hP HS2 o6 b7 hOK
            go_wp2
            go_roundw
            case rel =>
              refine ⟨k + 1, A7, n7, c7, wr.heap.size, w7.heap.size, q', ts', by omega, by go_num, rfl, o7.setCell _ _ (.inl (by dsimp only; omega)), ?_, bb.far (by dsimp only; omega) _, oW6.setCell _ _ (by dsimp only; omega), br6.setCell (by dsimp only; omega) _, by simp [World.setCell]; omega, .inl (by omega), HS4.out⟩
              rw [HX.out]
              exact (o96.stored rfl hkk (x + 1)).1
            case measure => simp [intOf]; omega
          · have hk2 : Hid ((k : Int) = 2 * ws.sum) := by unfold Hid; omega
            have HOK := Lib.hid (fair_ok HS2.out.fair (by rw [hts.out]; omega) (by rw [hts.out]; omega))
            go_wp2_with fail
            go_loopw [14] (fun i wy => ∃ (i' : Nat), i' ≤ Q + 1 ∧ i = .int .i64 i' ∧ ∃ t, wy = wr.drewN t) (fun i _ => Q + 1 - (intOf i).toNat)
            case atStart => exact ⟨0, Nat.zero_le _, rfl, 0, rfl⟩
            case round =>
              obtain ⟨i', hi', rfl, t, rfl⟩ := hrel
              by_cases hl3 : i' < Q + 1
              · obtain ⟨gx, x, ex, hcx, -, hx, -, -⟩ := o96.at_ hl3
                obtain ⟨gy, y, ey, hcy, -, hy, -, -⟩ := oW6.at_ hl3
                have hxy := sel_end HS2.out hk2.out hx.out hy.out
                have hyb := HW.out y (List.mem_of_getElem? hy.out)
                obtain ⟨y1, y5⟩ := hyb
                injection ex with ex
                injection ex with ex
                subst ex
                subst ey
                subst hxy
                have tne : ((2 * y) != (2 * y)) = false := by simp
                have hwr : IntKind.i64.wrap (2 * y) = 2 * y := IntWalk.i64_in _ (by omega)
                have i0 : (0 : Int) ≤ (i' : Int) := by omega
                have i1 : (i' : Int) < ((Q + 1 : Nat) : Int) := by omega
                have i2 : (i' : Int) < (Q : Int) + 1 := by omega
                clear hx hy
                go_wp2
                go_quiet (fail)
                go_wp2
                go_roundw
                case rel => exact ⟨i' + 1, by omega, by go_num, _, rfl⟩
                case measure => simp [intOf]; omega
              · obtain rfl : i' = Q + 1 := by omega
                go_wp2_with fail
                refine (iSharesOk_c B (Q + 1) d (ts.map Tri.shr) _ (by exact o6.recs) (by omega)).mono ?_
                rintro e w9 ⟨rfl, b9⟩
                rw [HOK.out]
                go_wp2
                go_ret
                exact ⟨rfl, br6.trans (Below.mono (belowN_left b9) br6.size)⟩
end Go.Proofs.Ytbolpanfgbhbnaa
