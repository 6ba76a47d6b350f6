/-
  Contracts of richest, PickTenant (where all wait) and SharesNew in the program.
-/
import Derived.Test.YtbolpanfgbhbnaaShM
import Derived.Test.YtbolpanfgbhbnaaLater
import Derived.Test.YtbolpanfgbhbnaaSpA
namespace Go.Proofs.Ytbolpanfgbhbnaa
open Go.RowKit
set_option linter.unusedSimpArgs false
set_option linter.unusedVariables false

theorem infoShr2 : (Try.prog.info? 119).map (fun i => (i.zero, i.size, i.bytes)) = some (some (.agg #[.int .i64 0, .int .i64 0]), 2, 16) := by kernel_rfl
def fourT : List Bool := [true, true, true, true]
theorem fourT_at {k : Nat} {v : Bool} (h : fourT[k]? = some v) : v = true := by
  have hk := lt_of_get h
  have hk4 : k < 4 := hk
  obtain rfl | rfl | rfl | rfl : k = 0 ∨ k = 1 ∨ k = 2 ∨ k = 3 := by omega
  all_goals (simp [fourT] at h; first | exact h | exact h.symm)
theorem richTo_one (rs : List Shr) : richTo rs 1 = 0 := by
  have e : richTo rs 1 = richStep rs (-1) 0 := rfl
  rw [e]; unfold richStep; rw [if_pos (.inl (by omega))]; rfl

set_option maxHeartbeats 4000000 in
theorem richest_c (A : Option Addr) (n c : Nat) (rs : List Shr) (B : Option Addr) (d : Nat) (w : World) (h : Shrs w A n rs) (hn : n ≤ 4) (hB : Bools w B 4 fourT) :
    Calls Try.prog 78 #[.slice A n c, .slice B 4 d] w fun e w' => e = .returned (.int .i64 (richTo rs n)) ∧ Below w.heap.size w w' := by
  have hl := Lib.hid h.len
  go_enter Try.func78, Try.ntmps78
  go_wp2
  go_loopw [5, 6] (fun b i wr => ∃ k : Nat, k ≤ n ∧ i = .int .i64 k ∧ b = .int .i64 (richTo rs k) ∧ Below w.heap.size w wr) (fun _ i _ => n - (intOf i).toNat)
  case atStart => exact ⟨0, Nat.zero_le _, rfl, rfl, Below.refl _ _⟩
  case round =>
    obtain ⟨k, hk, rfl, rfl, br⟩ := hrel
    by_cases hlt : k < n
    · obtain ⟨g, o, wt, cr, rfl, hg, hc0, hc1, hr⟩ := (h.below br).at_ hlt
      obtain ⟨g', o', v, rfl, hv, hvx⟩ := (hB.below br).at_ (show k < 4 by omega)
      obtain rfl : v = true := fourT_at hvx.out
      have i1 : (0 : Int) ≤ (k : Int) := by omega
      have i2 : (k : Int) < (n : Int) := by omega
      have i3 : (k : Int) < 4 := by omega
      clear hvx
      rcases Nat.eq_zero_or_pos k with h0 | h0
      · subst h0
        have HN := Lib.hid (richTo_one rs)
        have e0 : richTo rs 0 = -1 := rfl
        rw [e0]
        clear e0
        rw [Nat.add_zero] at hv
        go_wp2
        go_quiet (fail)
        go_wp2
        go_roundw
        case rel => exact ⟨1, by omega, by go_num, by rw [HN.out]; rfl, belowN br _⟩
        case measure => simp [intOf]; omega
      · obtain ⟨b, hb, eb, -⟩ := richTo_max rs k h0
        rw [eb]
        obtain ⟨g2, o2, wt2, cr2, e2, -, hd0, hd1, hr2⟩ := (h.below br).at_ (show b < n by omega)
        injection e2 with e2
        injection e2 with e3 e4
        subst e3 e4
        have HN := Lib.hid (richTo_next (y := cr2) (wt := wt) hr.out eb (.inr ⟨wt2, by rw [Int.toNat_natCast]; exact hr2.out⟩))
        clear eb
        have b1 : (0 : Int) ≤ (b : Int) := by omega
        have b2 : (b : Int) < (n : Int) := by omega
        by_cases hlt2 : cr2 < cr
        · have t : decide (cr2 < cr) = true := by simpa using hlt2
          have HN2 : Hid (richTo rs (k + 1) = k) := by unfold Hid; rw [HN.out, if_pos (.inr hlt2)]
          go_wp2
          go_quiet (fail)
          go_wp2
          go_roundw
          case rel => exact ⟨k + 1, by omega, by go_num, by rw [HN2.out], belowN br _⟩
          case measure => simp [intOf]; omega
        · have t : decide (cr2 < cr) = false := by simpa using hlt2
          have HN2 : Hid (richTo rs (k + 1) = b) := by unfold Hid; rw [HN.out, if_neg (by omega)]
          go_wp2
          go_quiet (fail)
          go_wp2
          go_roundw
          case rel => exact ⟨k + 1, by omega, by go_num, by rw [HN2.out], belowN br _⟩
          case measure => simp [intOf]; omega
    · obtain rfl : n = k := by omega
      go_wp2
      go_ret
      exact ⟨rfl, br⟩

theorem refill_same {rs : List Shr} {k : Nat} {a b : Int} (h : (refill rs)[k]? = some ⟨a, b⟩) : a = b := by
  unfold refill at h
  rw [List.getElem?_map] at h
  obtain ⟨x, _, e⟩ := Option.map_eq_some_iff.1 h
  injection e with e1 e2
  rw [← e1, ← e2]
/-- One credit of a row of shares is stored anew. -/
theorem OwnShr.storedCr {w : World} {lo hi n c : Nat} {A : Option Addr} {rs : List Shr} (h : OwnShr w lo hi A n c rs) {g : Nat} (hA : A = some ⟨g, 0, none⟩) {k : Nat} (hk : k < n) {wt cr : Int} (hr : rs[k]? = some ⟨wt, cr⟩) (x : Int) :
    OwnShr (w.setCell ⟨g, k * 2 + 1, none⟩ (.int .i64 x)) lo hi A n c (rs.set k ⟨wt, x⟩) ∧ Chg lo hi w (w.setCell ⟨g, k * 2 + 1, none⟩ (.int .i64 x)) := by
  have hl := h.len
  obtain ⟨s1, c1⟩ := OwnG.stored h hA (by omega) (k * 2 + 1) (.int .i64 x)
  have e := Shr.setAll hr ⟨wt, x⟩
  have e0 : (rs.flatMap Shr.cs).set (k * 2) (.int .i64 wt) = rs.flatMap Shr.cs := by
    have hg := flat_get Shr.cs_len hr (show 0 < 2 by omega)
    rw [Nat.add_zero] at hg
    have hlt := lt_of_get hg
    rw [List.getElem?_eq_getElem hlt] at hg
    injection hg with hg
    have hg' : (rs.flatMap Shr.cs)[k * 2] = Value.int .i64 wt := hg
    rw [← hg', List.set_getElem_self]
  rw [e0] at e
  rw [e] at s1
  exact ⟨s1, c1⟩
/-- A selection: the shares anew and the place of the one that gave a credit. -/
def NewPick (rs : List Shr) (w : World) (e : Ending) (w' : World) : Prop :=
  ∃ (A : Option Addr) (n c : Nat) (rs' : List Shr) (k : Nat), e = .returned (.tuple #[.slice A n c, .int .i64 (k : Int)]) ∧ Picked rs rs' k ∧ OwnShr w' w.heap.size w'.heap.size A n c rs' ∧ Below w.heap.size w w'
theorem picked_len {rs rs' : List Shr} {k : Nat} (h : Picked rs rs' k) : rs'.length = rs.length ∧ k < rs.length := by
  obtain ⟨base, r, hb, hr, _, rfl⟩ := h
  have hk := lt_of_get hr
  rcases hb with ⟨_, rfl⟩ | rfl
  · rw [refill_len] at hk; exact ⟨by simp [refill_len], hk⟩
  · exact ⟨by simp, hk⟩
/-- The richest of valid shares, and what it has. -/
theorem rich_at {rs : List Shr} (h : shrsOk rs = true) : ∃ (k : Nat) (wt cr : Int), richTo rs rs.length = (k : Int) ∧ rs[k]? = some ⟨wt, cr⟩ ∧ 1 ≤ wt ∧ wt ≤ 9 ∧ 0 ≤ cr ∧ cr ≤ wt ∧ (cr = 0 → ∀ x ∈ rs, x.cr = 0) := by
  obtain ⟨h1, h2, h3⟩ := shrsOk_parts h
  obtain ⟨k, hk, e, hm⟩ := richTo_max rs rs.length (by omega)
  have er : rs[k]? = some rs[k] := List.getElem?_eq_getElem hk
  have hb := h1 _ (List.getElem_mem hk)
  refine ⟨k, rs[k].wt, rs[k].cr, e, er, hb.1.1, hb.1.2, hb.2.1, hb.2.2, fun h0 x hx => ?_⟩
  obtain ⟨i, hi, rfl⟩ := List.getElem_of_mem hx
  have h4 := hm i hi
  rw [getShr (List.getElem?_eq_getElem hi), getShr er] at h4
  have h5 := (h1 _ (List.getElem_mem hi)).2.1
  omega
theorem refill_ok {rs : List Shr} (h : shrsOk rs = true) : shrsOk (refill rs) = true := by
  obtain ⟨h1, h2, h3⟩ := shrsOk_parts h
  refine shrsOk_mk (fun r hr => ?_) (by rw [refill_len]; exact h2) (by rw [refill_len]; exact h3)
  unfold refill at hr
  rw [List.mem_map] at hr
  obtain ⟨x, hx, rfl⟩ := hr
  have := h1 x hx
  dsimp only
  omega
set_option maxHeartbeats 4000000 in
theorem pickTenant_c (A : Option Addr) (n c : Nat) (rs : List Shr) (B : Option Addr) (d : Nat) (w : World) (h : Shrs w A n rs) (hB : Bools w B 4 fourT) (hok : shrsOk rs = true) :
    Calls Try.prog 25 #[.slice A n c, .slice B 4 d] w (NewPick rs w) := by
  have hl := h.len
  obtain ⟨-, hn1, hn4⟩ := shrsOk_parts hok
  rw [hl] at hn1 hn4
  obtain ⟨k, wt, cr, hk, hr, q1, q9, q0, q8, hz⟩ := rich_at hok
  rw [hl] at hk
  have hkn : k < n := by have := lt_of_get hr; omega
  have HK := Lib.hid hk
  have HL := Lib.hid hl
  have HR := Lib.hid hr
  have HOK := Lib.hid hok
  clear hk hl hr hok
  have h0 : Below w.heap.size w (w.alloc (.cells #[] 119)) := (Below.refl _ _).alloc (Nat.le_refl _) _
  have H0 := Lib.hid h0
  clear h0
  go_enter Try.func25, Try.ntmps25
  go_wp2_with (first | (at_builtin; refine wpList_appShr rfl (.tmp 9) (.tmp 10) 36 rfl Try.underlying36 infoShr2 _ 0 0 w.heap.size [] rfl (RowShr.nil _ _ _) A n c rs rfl (h.below H0.out) (by omega) (by simp) ?_; intro A1 c1 w1 o1 g1 at1; rw [Nat.zero_add] at o1 ⊢) | fail)
  have b1 : Below w.heap.size w w1 := below_app H0.out g1 (fun j hj => by rw [blk_zero] at hj; cases hj) (by simp)
  have o : OwnShr w1 w.heap.size w1.heap.size A1 n c1 rs := RowShr.own (by simpa using o1)
  clear o1 g1 at1
  refine (richest_c A1 n c1 rs B d _ o.recs hn4 (hB.below b1)).mono ?_
  rintro e w2 ⟨rfl, b2⟩
  rw [HK.out]
  have b12 := b1.trans (b2.mono b1.size)
  replace o := o.below b2
  have sz12 := b2.size
  clear b2
  have k0 : (0 : Int) ≤ (k : Int) := by omega
  have k1 : (k : Int) < (n : Int) := by omega
  go_wp2_with fail
  refine (iSharesOk_c A n c rs _ (h.below b12) (by omega)).mono ?_
  rintro e w3 ⟨rfl, b3⟩
  rw [HOK.out]
  have b13 := b12.trans (b3.mono b12.size)
  replace o := o.below b3
  have sz1 := b1.size
  have sz3 := b13.size
  have sz23 := b3.size
  clear b3
  have hB3 := hB.below b13
  obtain ⟨g, wt', cr', rfl, gl, gh, gf, hc0, hc1, hr1⟩ := o.at_ hkn
  obtain ⟨rfl, rfl⟩ : wt' = wt ∧ cr' = cr := by
    have := hr1.out.symm.trans HR.out
    injection this with this
    injection this with a b
    exact ⟨a, b⟩
  clear hr1
  by_cases hcr : (cr' == 0) = true
  · have hc00 : cr' = 0 := by simpa using hcr
    have HZ := Lib.hid (hz hc00)
    clear hc00 hz
    have hl3 := Lib.hid (refill_len rs)
    go_wp2
    go_loopw [31] (fun i wr => ∃ j : Nat, j ≤ n ∧ i = .int .i64 j ∧ OwnShr wr w.heap.size w1.heap.size (some ⟨g, 0, none⟩) n c1 (upTo (refill rs) rs j) ∧ Below w.heap.size w wr ∧ w3.heap.size ≤ wr.heap.size) (fun i _ => n - (intOf i).toNat)
    case atStart => exact ⟨0, Nat.zero_le _, rfl, by rw [upTo_zero]; exact o, b13, Nat.le_refl _⟩
    case round =>
      clear o hB3
      obtain ⟨j, hj, rfl, o, br, szr⟩ := hrel
      by_cases hlt : j < n
      · obtain ⟨g2, wt2, cr2, e2, gl2, gh2, gf2, hd0, hd1, hr2⟩ := o.at_ hlt
        injection e2 with e2
        injection e2 with e2 _
        subst e2
        have HJ : Hid (rs[j]? = some ⟨wt2, cr2⟩) := by
          have hjl : j < rs.length := by rw [HL.out]; exact hlt
          have e := upTo_get (rs := refill rs) (us := rs) (k := j) hl3.out (List.getElem?_eq_getElem hjl)
          unfold Hid
          rw [← hr2.out, e]
          exact List.getElem?_eq_getElem hjl
        have HO := Lib.hid o
        have HB := Lib.hid br
        clear o br
        have gf3 := gf2 (j * 2 + 1)
        clear gf2 gf
        go_wp2
        go_roundw
        case rel =>
          have h1 := (HO.out.storedCr rfl hlt hr2.out wt2).1
          rw [upTo_set (by rw [hl3.out]) (refill_get HJ.out)] at h1
          exact ⟨j + 1, by omega, by go_num, h1, HB.out.setCell (by dsimp only; omega) _, by simp [World.setCell]; omega⟩
        case measure => simp [intOf]; omega
      · obtain rfl : n = j := by omega
        rw [upTo_all (by rw [hl3.out, HL.out]; omega) (by rw [HL.out]; omega)] at o
        obtain ⟨k2, wt2, cr2, hk2, hr2, x1, x9, y0, y9, -⟩ := rich_at (refill_ok HOK.out)
        rw [hl3.out, HL.out] at hk2
        have hkn2 : k2 < n := by have := lt_of_get hr2; rw [hl3.out, HL.out] at this; exact this
        obtain rfl : wt2 = cr2 := refill_same hr2
        have HK2 := Lib.hid hk2
        have HR2 := Lib.hid hr2
        clear hk2 hr2 gf
        go_wp2_with fail
        refine (richest_c _ n c1 (refill rs) B d _ o.recs hn4 (hB.below br)).mono ?_
        rintro e w5 ⟨rfl, b5⟩
        rw [HK2.out]
        replace br := br.trans (b5.mono br.size)
        replace o := o.below b5
        have sz5 := b5.size
        clear b5
        obtain ⟨g3, wt3, cr3, e3, gl3, gh3, gf3, hd0, hd1, hr3⟩ := o.at_ hkn2
        injection e3 with e3
        injection e3 with e3 _
        subst e3
        obtain ⟨rfl, rfl⟩ : wt3 = wt2 ∧ cr3 = wt2 := by
          have := hr3.out.symm.trans HR2.out
          injection this with this
          injection this with a b
          exact ⟨a, b⟩
        have k20 : (0 : Int) ≤ (k2 : Int) := by omega
        have k21 : (k2 : Int) < (n : Int) := by omega
        clear hr3
        go_wp2
        refine abs_body ?_
        intro W9 hW
        obtain ⟨s1, C1⟩ := o.storedCr rfl hkn2 HR2.out (cr3 - 1)
        have o9 : OwnShr W9 w.heap.size w1.heap.size (some ⟨g, 0, none⟩) n c1 ((refill rs).set k2 ⟨cr3, cr3 - 1⟩) := by rw [hW]; exact s1
        have b9 : Below w.heap.size w W9 := by rw [hW]; exact br.setCell (by dsimp only; omega) _
        have sz9 : w5.heap.size ≤ W9.heap.size := by rw [hW]; simp [World.setCell]
        clear hW
        go_ret2
        exact ⟨_, _, _, _, k2, rfl, ⟨refill rs, ⟨cr3, cr3⟩, .inl ⟨HZ.out, rfl⟩, HR2.out, by dsimp only; omega, rfl⟩, o9.mono (by omega) (by omega), b9⟩
  · have hcr' : (cr' == 0) = false := by simpa using hcr
    clear hcr
    go_wp2
    refine abs_body ?_
    intro W9 hW
    obtain ⟨s1, C1⟩ := o.storedCr rfl hkn HR.out (cr' - 1)
    have o9 : OwnShr W9 w.heap.size w1.heap.size (some ⟨g, 0, none⟩) n c1 (rs.set k ⟨wt', cr' - 1⟩) := by rw [hW]; exact s1
    have b9 : Below w.heap.size w W9 := by rw [hW]; exact b13.setCell (by dsimp only; omega) _
    have sz9 : w3.heap.size ≤ W9.heap.size := by rw [hW]; simp [World.setCell]
    clear hW
    go_ret2
    have hpos : 0 < cr' := by
      have : cr' ≠ 0 := by simpa using hcr'
      omega
    exact ⟨_, _, _, _, k, rfl, ⟨rs, ⟨wt', cr'⟩, .inr rfl, HR.out, hpos, rfl⟩, o9.mono (by omega) (by omega), b9⟩
/-- A share whose credit is its weight. -/
def dup (x : Int) : Shr := ⟨x, x⟩
/-- New shares of the weights ws. -/
def NewShares (ws : List Int) (w : World) (e : Ending) (w' : World) : Prop :=
  ∃ (A : Option Addr) (n c : Nat), e = .returned (.tuple #[.slice A n c, .bool true]) ∧ OwnShr w' w.heap.size w'.heap.size A n c (ws.map dup) ∧ Below w.heap.size w w'
set_option maxHeartbeats 4000000 in
theorem sharesNew_c (A : Option Addr) (n c : Nat) (ws : List Int) (w : World) (h : Ints w A n ws) (h1 : 1 ≤ n) (h4 : n ≤ 4) (hw : ∀ z ∈ ws, 1 ≤ z ∧ z ≤ 5) :
    Calls Try.prog 24 #[.slice A n c] w (NewShares ws w) := by
  have HL := Lib.hid h.1
  have HO : Hid (shrsOk (ws.map dup) = true) := by
    refine shrsOk_mk (fun r hr => ?_) (by rw [List.length_map, HL.out]; exact h1) (by rw [List.length_map, HL.out]; exact h4)
    rw [List.mem_map] at hr
    obtain ⟨x, hx, rfl⟩ := hr
    have := hw x hx
    unfold dup
    dsimp only
    omega
  have HW := Lib.hid hw
  clear hw
  go_enter Try.func24, Try.ntmps24
  go_wp2
  refine abs_code ?_
  intro W hW
  have bel : Below w.heap.size w W := by rw [hW]; exact (Below.refl _ _).alloc (Nat.le_refl _) _
  clear hW
  have szW := bel.size
  go_loopw [4, 10] (fun v i wr => ∃ (j : Nat) (A1 : Option Addr) (c1 : Nat), j ≤ n ∧ i = .int .i64 j ∧ v = .slice A1 j c1 ∧ RowShr wr W.heap.size A1 j c1 ((ws.take j).map dup) ∧ Below w.heap.size w wr ∧ W.heap.size ≤ wr.heap.size) (fun _ i _ => n - (intOf i).toNat)
  case atStart => exact ⟨0, _, 0, Nat.zero_le _, rfl, rfl, RowShr.nil _ _ _, bel, Nat.le_refl _⟩
  case round =>
    clear bel
    obtain ⟨j, A1, c1, hj, rfl, rfl, ok, br, szr⟩ := hrel
    by_cases hlt : j < n
    · obtain ⟨g, o, y, rfl, hc, hy⟩ := (h.below br).at_ hlt
      have HT : Hid ((ws.take (j + 1)).map dup = (ws.take j).map dup ++ [dup y]) := by unfold Hid; rw [take_snoc hy.out, List.map_append]; rfl
      go_wp2_with (at_builtin; refine wpList_appShr1 rfl (.tmp 14) (.tmp 18) 36 rfl Try.underlying36 infoShr2 A1 j c1 W.heap.size ((ws.take j).map dup) rfl (ok.alloc _) wr.heap.size (dup y) rfl (Box.new _ _ _) (by omega) (by simp; omega) ?_; intro A2 c2 w2 o2 g2 at2)
      go_roundw
      case rel =>
        have := g2.size
        refine ⟨j + 1, A2, c2, by omega, by go_num, rfl, by rw [HT.out]; exact o2, ?_, by simp at this; omega⟩
        exact below_app (br.alloc br.size _) g2 (fun k hk => by have := (ok.lt k hk).1; omega) (by simp; omega)
      case measure => simp [intOf]; omega
    · obtain rfl : n = j := by omega
      rw [List.take_of_length_le (by rw [HL.out]; omega)] at ok
      go_wp2_with fail
      refine (iSharesOk_c A1 n c1 (ws.map dup) _ ok.recs (by omega)).mono ?_
      rintro e w3 ⟨rfl, b3⟩
      rw [HO.out]
      have o3 := ok.own.below b3
      have sz3 := b3.size
      go_wp2
      go_ret2
      exact ⟨_, _, _, rfl, o3.mono (by omega) (by omega), br.trans (b3.mono br.size)⟩
end Go.Proofs.Ytbolpanfgbhbnaa
