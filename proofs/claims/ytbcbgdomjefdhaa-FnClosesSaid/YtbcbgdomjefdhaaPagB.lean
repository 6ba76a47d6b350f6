/-
  Contracts of OpenBanks and CloseBank, in the program and in the reference.
-/
import Derived.Test.YtbcbgdomjefdhaaPagA
namespace Go.Proofs.Ytbcbgdomjefdhaa
open Go.RowKit
set_option linter.unusedSimpArgs false
set_option linter.unusedVariables false

/-- The open banks among the first k. -/
def opensTo (ks : List Bnk) (k : Nat) : List Int := ((List.range k).filter fun i => (ks.getD i Bnk.zero).opn).map fun (i : Nat) => (i : Int)
def opens (ks : List Bnk) : List Int := opensTo ks ks.length
theorem opensTo_yes {ks : List Bnk} {k : Nat} {r : Bnk} (hr : ks[k]? = some r) (h : r.opn = true) : opensTo ks (k + 1) = opensTo ks k ++ [(k : Int)] := by
  unfold opensTo; rw [List.range_succ, List.filter_append, List.map_append]; simp only [List.filter_cons, List.filter_nil, getBnk hr, h, if_true, List.map_cons, List.map_nil]
theorem opensTo_no {ks : List Bnk} {k : Nat} {r : Bnk} (hr : ks[k]? = some r) (h : r.opn = false) : opensTo ks (k + 1) = opensTo ks k := by
  unfold opensTo; rw [List.range_succ, List.filter_append, List.map_append]; simp only [List.filter_cons, List.filter_nil, getBnk hr, h, Bool.false_eq_true, if_false, List.map_nil, List.append_nil]
theorem opensTo_len (ks : List Bnk) (k : Nat) : (opensTo ks k).length ≤ k := by
  unfold opensTo; rw [List.length_map]; have := List.length_filter_le (fun i => (ks.getD i Bnk.zero).opn) (List.range k); simpa using this
theorem opens_mem {ks : List Bnk} {x : Int} : x ∈ opens ks ↔ ∃ k : Nat, x = (k : Int) ∧ k < ks.length ∧ (ks.getD k Bnk.zero).opn = true := by
  unfold opens opensTo
  rw [List.mem_map]
  constructor
  · rintro ⟨k, hk, rfl⟩
    rw [List.mem_filter, List.mem_range] at hk
    exact ⟨k, rfl, hk.1, hk.2⟩
  · rintro ⟨k, rfl, h1, h2⟩
    exact ⟨k, by rw [List.mem_filter, List.mem_range]; exact ⟨h1, h2⟩, rfl⟩
theorem opens_lt (ks : List Bnk) : (opens ks).Pairwise (· < ·) := by
  unfold opens opensTo
  rw [List.pairwise_map]
  exact (List.pairwise_lt_range.filter _).imp (by intro a b h; omega)
theorem mem_take_of_lt {l : List Int} (hp : l.Pairwise (· < ·)) {m : Nat} {b x : Int} (hb : l[m]? = some b) (hx : x ∈ l) (hlt : x < b) : x ∈ l.take m := by
  obtain ⟨i, hi, rfl⟩ := List.getElem_of_mem hx
  have hm := lt_of_get hb
  rw [List.getElem?_eq_getElem hm] at hb
  injection hb with hb
  by_cases him : i < m
  · exact List.mem_of_getElem? (show (l.take m)[i]? = some l[i] by rw [List.getElem?_take, if_pos him, List.getElem?_eq_getElem hi])
  · exfalso
    rcases Nat.lt_or_eq_of_le (Nat.le_of_not_lt him) with h | h
    · have := List.pairwise_iff_getElem.1 hp m i hm hi h
      omega
    · subst h; omega
/-- Somebody waits for the row of a bank. -/
def wantB (ks : List Bnk) (ws : List Adr) (k : Nat) : Bool := ws.any fun a => (a.bank == (k : Int)) && (a.row == (ks.getD k Bnk.zero).row)
/-- A bank is not to be closed. -/
def keepB (ks : List Bnk) (ws : List Adr) (k : Nat) : Bool := !(ks.getD k Bnk.zero).opn || wantB ks ws k
/-- The bank to be closed, or -1. -/
def closeB (ks : List Bnk) (page : Int) (ws : List Adr) : Int := if page = 1 then (match (List.range ks.length).find? fun k => !keepB ks ws k with | some k => (k : Int) | none => -1) else -1
theorem close_at {ks : List Bnk} {ws : List Adr} {k : Nat} (hk : k < ks.length) (h : ∀ j, j < k → keepB ks ws j = true) (hn : keepB ks ws k = false) : closeB ks 1 ws = k := by
  unfold closeB
  rw [if_pos rfl]
  have : (List.range ks.length).find? (fun k => !keepB ks ws k) = some k := by
    rw [List.find?_range_eq_some]
    refine ⟨by simp [hn], List.mem_range.2 hk, fun j hj => ?_⟩
    simp [h j hj]
  rw [this]
theorem close_none {ks : List Bnk} {ws : List Adr} (h : ∀ j, j < ks.length → keepB ks ws j = true) : closeB ks 1 ws = -1 := by
  unfold closeB
  rw [if_pos rfl]
  have : (List.range ks.length).find? (fun k => !keepB ks ws k) = none := by
    rw [List.find?_eq_none]
    intro k hk
    simp [h k (List.mem_range.1 hk)]
  rw [this]
theorem close_off {ks : List Bnk} {ws : List Adr} {page : Int} (h : page ≠ 1) : closeB ks page ws = -1 := by unfold closeB; rw [if_neg h]
theorem want_snoc {ks : List Bnk} {ws : List Adr} {k j : Nat} {r : Bnk} {a : Adr} (hr : ks[k]? = some r) (ha : ws[j]? = some a) : wantB ks (ws.take (j + 1)) k = (wantB ks (ws.take j) k || ((a.bank == (k : Int)) && (a.row == r.row))) := by
  unfold wantB; rw [take_snoc ha, List.any_append, getBnk hr]; simp

set_option maxHeartbeats 1000000 in
theorem iOpenBanks_c (A : Option Addr) (n c : Nat) (ks : List Bnk) (pw : Int) (w : World) (hA : Bnks w A n ks) (hn : n ≤ 1048576) :
    Calls Try.prog 81 #[.agg #[.slice A n c, .int .i64 pw]] w (NewL (opens ks) w) := by
  have bel : Below w.heap.size w w := Below.refl _ _
  have hl := Lib.hid hA.len
  go_enter Try.func81, Try.ntmps81
  go_wp2
  refine abs_code ?_
  intro W3 hW
  have szW3 : w.heap.size + 1 + 1 ≤ W3.heap.size := by rw [hW]; simp [World.setCell]
  have szW3_ := bel.size
  replace bel : Below w.heap.size w W3 := by rw [hW]; exact ((bel).alloc (by first | omega | (simp [World.setCell] <;> omega)) _).alloc (by first | omega | (simp [World.setCell] <;> omega)) _
  have p : Box W3 w.heap.size 43 #[.slice A n c, .int .i64 pw] := by rw [hW]; exact ((Box.newAt (by simp [World.setCell]))).alloc _
  clear hW
  have hA3 := hA.below bel
  go_loopw [3, 10] (fun v i wr => ∃ (k : Nat) (A1 : Option Addr) (m1 c1 : Nat), k ≤ n ∧ i = .int .i64 k ∧ v = .slice A1 m1 c1 ∧ OwnI wr W3.heap.size A1 m1 c1 (opensTo ks k) ∧ Below W3.heap.size W3 wr) (fun _ i _ => n - (intOf i).toNat)
  case atStart => exact ⟨0, _, 0, 0, Nat.zero_le _, rfl, rfl, OwnI.nil _ _ _, Below.refl _ _⟩
  case round =>
    obtain ⟨k, A1, m1, c1, hk, rfl, rfl, ok, bk⟩ := hrel
    have hm1 : m1 ≤ k := by have := ok.len; have := opensTo_len ks k; omega
    have szk := bk.size
    by_cases hlt : k < n
    · obtain ⟨g, o', opn, row, rfl, hg, h0, h1, hr⟩ := (hA3.below bk).at_ hlt
      cases opn
      · have HU1 := Lib.hid (opensTo_no hr.out rfl)
        go_wp2
        go_roundw
        case rel => exact ⟨k + 1, A1, m1, c1, by omega, by go_num, rfl, by rw [HU1.out]; exact ok.alloc _, bk.alloc bk.size _⟩
        case measure => simp [intOf]; omega
      · have HU1 := Lib.hid (opensTo_yes hr.out rfl)
        go_wp2_with (at_builtin; refine wpList_app1 rfl (.tmp 17) (.tmp 19) 27 rfl Try.underlying27 infoInt A1 m1 c1 W3.heap.size (opensTo ks k) rfl ((ok.alloc _).alloc _) (wr.heap.size + 1) (k : Int) rfl (by simp) (by omega) (by simp; omega) ?_; intro A2 c2 w2 o2 g2 at2)
        go_roundw
        case rel =>
          refine ⟨k + 1, A2, m1 + 1, c2, by omega, by go_num, rfl, by rw [HU1.out]; exact o2, ?_⟩
          exact below_app3 ((bk.alloc bk.size _).alloc (by simp; omega) _) g2 (fun j hj => (ok.lt j hj).1)
        case measure => simp [intOf]; omega
    · obtain rfl : n = k := by omega
      go_wp2
      go_ret
      unfold opens
      rw [hl.out]
      exact ⟨_, _, _, rfl, OwnH.mk' (ok.mono (by omega)), bel.trans (bk.mono bel.size)⟩


theorem keep_all {ks : List Bnk} {ws : List Adr} (h : ∀ x ∈ opens ks, ∀ k : Nat, x = (k : Int) → wantB ks ws k = true) : ∀ j, j < ks.length → keepB ks ws j = true := by
  intro j hj
  unfold keepB
  by_cases ho : (ks.getD j Bnk.zero).opn = true
  · rw [h (j : Int) (opens_mem.2 ⟨j, rfl, hj, ho⟩) j rfl]; simp
  · simp at ho
    simp [ho]
theorem keep_below {ks : List Bnk} {ws : List Adr} {m k : Nat} (hk : (opens ks)[m]? = some (k : Int)) (h : ∀ x ∈ (opens ks).take m, ∀ k : Nat, x = (k : Int) → wantB ks ws k = true) (hkl : k < ks.length) : ∀ j, j < k → keepB ks ws j = true := by
  intro j hj
  unfold keepB
  by_cases ho : (ks.getD j Bnk.zero).opn = true
  · rw [h (j : Int) (mem_take_of_lt (opens_lt ks) hk (opens_mem.2 ⟨j, rfl, by omega, ho⟩) (by omega)) j rfl]; simp
  · simp at ho
    simp [ho]
set_option maxHeartbeats 2000000 in
theorem iCloseBank_c (A : Option Addr) (n c : Nat) (ks : List Bnk) (pw : Int) (page : Int) (B : Option Addr) (m d : Nat) (ws : List Adr) (w : World) (hA : Bnks w A n ks) (hn : n ≤ 1048576) (hB : Adrs w B m ws) (hm : m ≤ 1048576) :
    Calls Try.prog 29 #[.agg #[.slice A n c, .int .i64 pw], .int .i64 page, .slice B m d] w fun e w' => e = .returned (.int .i64 (closeB ks page ws)) ∧ Below w.heap.size w w' := by
  have bel : Below w.heap.size w w := Below.refl _ _
  have hl := Lib.hid hA.len
  have hlB := Lib.hid hB.len
  by_cases hp : (page != 1) = true
  · have HC : Hid (closeB ks page ws = -1) := close_off (by simpa using hp)
    go_enter Try.func29, Try.ntmps29
    go_wp2
    go_ret
    exact ⟨ret_int HC.out.symm, bel.alloc (Nat.le_refl _) _⟩
  · obtain rfl : page = 1 := by simpa using hp
    have hp' : ((1 : Int) != 1) = false := by simp
    clear hp
    go_enter Try.func29, Try.ntmps29
    go_wp2_with fail
    refine abs_call ?_
    intro W hW
    have szW : w.heap.size + 1 ≤ W.heap.size := by rw [hW]; simp [World.setCell]
    have szW_ := bel.size
    replace bel : Below w.heap.size w W := by rw [hW]; exact (bel).alloc (by first | omega | (simp [World.setCell] <;> omega)) _
    have p : Box W w.heap.size 43 #[.slice A n c, .int .i64 pw] := by rw [hW]; exact (Box.newAt (by simp [World.setCell]))
    clear hW
    refine (iOpenBanks_c A n c ks pw _ (hA.below bel) hn).mono ?_
    rintro e w1 ⟨A1, n1, c1, rfl, o1, b1⟩
    have szw1 := b1.size
    replace bel := bel.trans (b1.mono bel.size)
    replace p := p.kept b1
    clear b1
    have hl1 := Lib.hid o1.len
    have n1n : n1 ≤ n := by have := hl1.out; have := opensTo_len ks ks.length; have := hl.out; unfold opens at *; omega
    have i1 := o1.ints
    have hA3 := hA.below bel
    have hB3 := hB.below bel
    go_wp2
    go_loopw [17] (fun i wr => ∃ k : Nat, k ≤ n1 ∧ i = .int .i64 k ∧ Hid (∀ x ∈ (opens ks).take k, ∀ k : Nat, x = (k : Int) → wantB ks ws k = true) ∧ Below w1.heap.size w1 wr) (fun i _ => n1 - (intOf i).toNat)
    case atStart => exact ⟨0, Nat.zero_le _, rfl, by intro x hx; simp at hx, Below.refl _ _⟩
    case round =>
      obtain ⟨k, hk, rfl, HK, bk⟩ := hrel
      by_cases hlt : k < n1
      · obtain ⟨g, o, x, rfl, hc1, hx⟩ := (i1.below bk).at_ hlt
        obtain ⟨b, rfl, hbl, hbo⟩ := opens_mem.1 (List.mem_of_getElem? hx.out)
        have HBL := Lib.hid hbl
        have HBO := Lib.hid hbo
        have bn : b < n := by have := hl.out; omega
        clear hbl hbo
        obtain ⟨g2, o2, opn, row, hA0, hg2, h0, h1, hr⟩ := (hA3.below bk).at_ bn
        subst hA0
        have b1' : (0 : Int) ≤ (b : Int) := by omega
        have b2' : (b : Int) < (n : Int) := by omega
        clear h0 h1
        go_wp2
        go_loopw [9, 23] (fun v i wz => ∃ (j : Nat) (nb : Bool), j ≤ m ∧ i = .int .i64 j ∧ v = .bool nb ∧ Hid (nb = wantB ks (ws.take j) b) ∧ Below w1.heap.size w1 wz) (fun _ i _ => m - (intOf i).toNat)
        case atStart => exact ⟨0, _, Nat.zero_le _, rfl, rfl, rfl, bk⟩
        case round =>
          obtain ⟨j, nb, hj, rfl, rfl, HN, bj⟩ := hrel
          by_cases hjt : j < m
          · obtain ⟨g', o', ab, ar, ac, rfl, hg', a0, a1, a2, ha⟩ := (hB3.below bj).at_ hjt
            obtain ⟨g3, o3, opn', row', e3, hg3, h0, h1, hr'⟩ := (hA3.below bj).at_ bn
            injection e3 with e3
            injection e3 with e31 e32
            subst e31 e32
            have er := hr.out.symm.trans hr'.out
            injection er with er
            injection er with er1 er2
            subst er1 er2
            have pj := p.kept bj
            obtain ⟨p_0, p_1⟩ := pj.c2
            have pjl := pj.lt
            have j1 : (0 : Int) ≤ (j : Int) := by omega
            have j2 : (j : Int) < (m : Int) := by omega
            have HS := Lib.hid (want_snoc (ks := ks) hr.out ha.out)
            cases nb
            · by_cases e1 : (ab == (b : Int)) = true
              · by_cases e2 : (ar == row) = true
                · go_wp2
                  go_quiet (fail)
                  go_wp2
                  go_roundw
                  case rel => exact ⟨j + 1, true, by omega, by go_num, rfl, by unfold Hid; rw [HS.out]; rw [e1, e2]; simp, belowN (bj.alloc bj.size _) _⟩
                  case measure => simp [intOf]; omega
                · have e2' : (ar == row) = false := by simpa using e2
                  clear e2
                  go_wp2
                  go_quiet (fail)
                  go_wp2
                  go_roundw
                  case rel => exact ⟨j + 1, false, by omega, by go_num, rfl, by unfold Hid; rw [HS.out, ← HN.out]; rw [e2']; simp, belowN (bj.alloc bj.size _) _⟩
                  case measure => simp [intOf]; omega
              · have e1' : (ab == (b : Int)) = false := by simpa using e1
                clear e1
                go_wp2
                go_quiet (fail)
                go_wp2
                go_roundw
                case rel => exact ⟨j + 1, false, by omega, by go_num, rfl, by unfold Hid; rw [HS.out, ← HN.out]; rw [e1']; simp, belowN (bj.alloc bj.size _) _⟩
                case measure => simp [intOf]; omega
            · go_wp2
              go_quiet (fail)
              go_wp2
              go_roundw
              case rel => exact ⟨j + 1, true, by omega, by go_num, rfl, by unfold Hid; rw [HS.out, ← HN.out]; simp, belowN (bj.alloc bj.size _) _⟩
              case measure => simp [intOf]; omega
          · have HW : Hid (nb = wantB ks ws b) := by
              unfold Hid
              rw [HN.out, List.take_of_length_le (by rw [hlB.out]; omega)]
            cases nb
            · have HC : Hid (closeB ks 1 ws = b) := close_at HBL.out (keep_below hx.out HK.out HBL.out) (by unfold keepB; rw [HBO.out, ← HW.out]; rfl)
              go_wp2
              go_ret
              exact ⟨ret_int HC.out.symm, bel.trans (bj.mono bel.size)⟩
            · have HK2 : Hid (∀ x ∈ (opens ks).take (k + 1), ∀ k : Nat, x = (k : Int) → wantB ks ws k = true) := by
                intro x hxm y hy
                rw [take_snoc hx.out, List.mem_append] at hxm
                rcases hxm with h | h
                · exact HK.out x h y hy
                · simp at h
                  obtain rfl : b = y := by omega
                  exact HW.out.symm
              go_wp2
              go_roundw
              case rel => exact ⟨k + 1, by omega, by go_num, HK2, bj⟩
              case measure => simp [intOf]; omega
      · obtain rfl : n1 = k := by omega
        have HC : Hid (closeB ks 1 ws = -1) := close_none (keep_all (by have := HK.out; rwa [List.take_of_length_le (by rw [hl1.out]; omega)] at this))
        go_wp2
        go_ret
        exact ⟨ret_int HC.out.symm, bel.trans (bk.mono bel.size)⟩
end Go.Proofs.Ytbcbgdomjefdhaa
