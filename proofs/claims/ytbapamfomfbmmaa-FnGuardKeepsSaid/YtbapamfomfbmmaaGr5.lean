/-
  The contract of the closure of the program's guarded run.
-/
import Derived.Test.YtbapamfomfbmmaaGr4
namespace Go.Proofs.Ytbapamfomfbmmaa
open Go.RowKit
set_option linter.unusedSimpArgs false
set_option linter.unusedVariables false

theorem at_conv {A : Option Addr} {c n : Nat} {r : Option Nat} (h : blk A c = r ∨ blk A c = some n) : blk A c = r ∨ ∀ k, blk A c = some k → n ≤ k := by
  rcases h with h | h
  · exact .inl h
  · exact .inr fun k hk => by rw [h] at hk; injection hk with hk; omega
theorem AR.mid {base : World} {lo po pt pl pr pq K : Nat} {limit rows : Int} {O : Option Addr} {L d : Nat} {A : Option Addr} {c : Nat} {B : Option Addr} {e : Nat} {Q : Option Addr} {m f : Nat} {rs cs : List Int} {s : Int} {out q : List Int} {w w' : World} {r : Option Nat}
    (P : PtOk base lo po pt pl pr pq) (h : AR base lo po pt pl pr pq K limit rows O L d A c B e Q m f rs cs s out q w) (g : w.grownBy w' r) (hr : ∀ k, r = some k → lo ≤ k) :
    Box w' po 26 #[.slice O L d] ∧ Box w' pt 132 #[.slice A K c, .slice B K e, .int .i64 s] ∧ Box w' pl 3 #[.int .i64 limit] ∧ Box w' pr 3 #[.int .i64 rows] ∧ Box w' pq 26 #[.slice Q m f] := by
  have P1 := P.o; have P2 := P.t; have P3 := P.l; have P4 := P.r; have P5 := P.q
  have nO : ∀ k, k < lo → some k ≠ r := fun k hk e' => by have := hr k e'.symm; omega
  exact ⟨h.bo.grown g (nO _ P1.2), h.bt.grown g (nO _ P2.2), h.bl.grown g (nO _ P3.2), h.br.grown g (nO _ P4.2), h.bq.grown g (nO _ P5.2)⟩
set_option maxRecDepth 100000 in
set_option maxHeartbeats 8000000 in
theorem iAct_c (base : World) (lo po pt pl pr pq K : Nat) (limit rows : Int) (O : Option Addr) (L d : Nat) (A : Option Addr) (c : Nat) (B : Option Addr) (e : Nat) (Q : Option Addr) (m f : Nat) (rs cs : List Int) (s : Int) (out q : List Int) (x : Int) (w : World)
    (P : PtOk base lo po pt pl pr pq) (h : AR base lo po pt pl pr pq K limit rows O L d A c B e Q m f rs cs s out q w) (hE : Est rs cs s out K) (k1 : 1 ≤ K) (k2 : K ≤ 16) (hL : L ≤ 1000) (hm : m ≤ 10000)
    (x0 : 0 ≤ x) (x1 : x < rows) (r16 : rows ≤ 16) (l0 : 3 ≤ limit) (l1 : limit ≤ 1000) :
    Calls Try.prog 98 #[.int .i64 x, .pointer (some ⟨po, 0, none⟩), .pointer (some ⟨pt, 0, none⟩), .pointer (some ⟨pl, 0, none⟩), .pointer (some ⟨pr, 0, none⟩), .pointer (some ⟨pq, 0, none⟩)] w fun e w' =>
      e = .returned (.tuple #[]) ∧ ∃ O' d' A' c' B' e' Q' m' f', m' ≤ m + 2 ∧ AR base lo po pt pl pr pq K limit rows O' (L + 1) d' A' c' B' e' Q' m' f' (trkR rs cs s x) (trkC rs cs s x) (trkS rs cs s x) (out ++ [x]) (gNext rows limit ⟨rs, cs, s, out⟩ x q) w' := by
  have HF := Lib.hid (hE.full (limit := limit) k1 k2 (by have := h.o.len; omega) x0 (by omega) (by omega) l1)
  have bo_f := h.bo.frozen
  have bo_0 := h.bo.c1
  have hH := h
  clear h
  go_enter Try.func98, Try.ntmps98
  have ba : Below w.heap.size w (w.alloc (.cells #[.int .i64 x] 3)) := (Below.refl _ _).alloc (Nat.le_refl _) _
  have H1 := hH.below ba
  clear ba
  go_wp2_with (first | (at_builtin; refine wpList_app1 rfl (.tmp 11) (.tmp 13) 26 rfl Try.underlying26 infoInt O L d lo out rfl H1.o w.heap.size x rfl (by simp) (by omega) H1.sz ?_; intro O2 d2 w2 o2 g2 at2; have H2 := H1.pushO P (show 0 < K from k1) g2 o2 (at_conv at2); obtain ⟨bo2, bt2, bl2', -, -⟩ := H1.mid P g2 (fun k hk => (H1.o.lt k hk).1); have bo2_f := bo2.frozen; have bo2_0 := bo2.c1; obtain ⟨bt2_0, bt2_1, bt2_2⟩ := bt2.c3; have bl2 := bl2'.c1; have ne1 : pt ≠ po := P.n1.1.symm; have ne2 : pl ≠ po := P.n1.2.1.symm; clear bo_0 bo_f) | fail)
  refine abs_call ?_
  intro W3 hW
  rw [← hW] at H2
  clear hW bo2_0 bo2_f bt2_0 bt2_1 bt2_2 bl2 bl2' bo2 bt2 ne1 ne2 H1 hH g2 at2 o2
  refine (iTrackRow_c A B K c K e rs cs s x limit _ H2.a H2.b (by omega) (by omega)).mono ?_
  rintro e4 w4 ⟨A4, n4, c4, B4, m4, d4, l1', h1', l2', h2', rfl, oA, oB, ⟨a1, a2, a3, a4, -⟩, b4⟩
  rw [HF.out.1] at oA
  rw [HF.out.2.1] at oB
  rw [HF.out.2.2.1, HF.out.2.2.2]
  have hS := hE.step (row := x) x0 (by omega)
  have hn4 : n4 = K := by have := oA.len; have := hS.rlen; omega
  have hm4 : m4 = K := by have := oB.len; have := hS.clen; omega
  subst hn4
  subst hm4
  obtain ⟨RR, hRR⟩ : ∃ R, R = trkR rs cs s x := ⟨_, rfl⟩
  obtain ⟨CC, hCC⟩ : ∃ C, C = trkC rs cs s x := ⟨_, rfl⟩
  obtain ⟨SS, hSS⟩ : ∃ S, S = trkS rs cs s x := ⟨_, rfl⟩
  rw [← hRR] at oA
  rw [← hCC] at oB
  rw [← hSS]
  have HT := Lib.hid (And.intro hRR (And.intro hCC hSS))
  clear hRR hCC hSS
  have H4 := H2.below b4
  have bt4_f := H4.bt.frozen
  have bt4_l := H4.bt.lt
  have P2 := P.t
  obtain ⟨z0, z1, z2⟩ := H4.bt.c3
  have szw4 := H4.sz
  have nw4 : pt ≠ w4.heap.size := by omega
  have nw5 : w4.heap.size ≠ pt := by omega
  cases hh : gHit limit ⟨rs, cs, s, out⟩ x
  · have HN := Lib.hid (gNext_no (rows := rows) (q := q) hh)
    go_wp2_with fail
    refine abs_body ?_
    intro W9 hW
    have H9 := H2.setT (s' := SS) (t := 132) (v := #[.slice A4 m4 c4, .slice B4 m4 d4, .int .i64 SS]) P (by omega) b4 oA oB a1 a3
    rw [← hW] at H9
    clear hW
    refine bodyPost_ret (v := .tuple #[]) (by simp [results, Try.results98, go_sem]) rfl ?_
    rw [HN.out, ← HT.out.1, ← HT.out.2.1, ← HT.out.2.2]
    exact ⟨rfl, O2, d2, A4, c4, B4, d4, Q, m, f, by omega, H9⟩
  · have HN := Lib.hid (gNext_yes (rows := rows) (q := q) hh)
    have br4 := H4.br.c1
    have br4_l := H4.br.lt
    have nr1 : pr ≠ pt := P.n2.2.1.symm
    have nr3 : pt ≠ pr := P.n2.2.1
    have nr4 : w4.heap.size ≠ pr := by have := P.r; omega
    have nr2 : pr ≠ w4.heap.size := by have := P.r; omega
    go_wp2_with fail
    refine abs_call ?_
    intro W5 hW
    have H5 := H2.setT (s' := SS) (t := 132) (v := #[.slice A4 m4 c4, .slice B4 m4 d4, .int .i64 SS]) P (by omega) b4 oA oB a1 a3
    rw [← hW] at H5
    clear hW bt4_f bt4_l z0 z1 z2 nw4 nw5 br4 br4_l nr1 nr2 nr3 nr4 H4 H2 oA oB
    have hnl := nears_len rows x
    refine (iNeighbors_c rows x _).mono ?_
    rintro e6 w6 ⟨A6, n6, c6, rfl, o6, b6⟩
    obtain ⟨near, hnear⟩ : ∃ l, l = nears rows x := ⟨_, rfl⟩
    rw [← hnear] at o6 hnl
    have HNR := Lib.hid hnear
    have hl6 : n6 ≤ 2 := by have := o6.len; omega
    have HL := Lib.hid o6.len
    have H6 := H5.below b6
    have hsz := b6.size
    have Hlo := H5.sz
    have hQ5 := H5.q.lt
    clear hnear hnl H5 b6 hh HF
    go_wp2_with fail
    go_loopw [29] (fun i wr => ∃ (j : Nat) (Q' : Option Addr) (m' f' : Nat), j ≤ n6 ∧ i = .int .i64 j ∧ m' ≤ m + j ∧ OwnI wr W5.heap.size A6 n6 c6 near ∧ (∀ k, blk A6 c6 = some k → k < w6.heap.size ∧ blk Q' f' ≠ some k) ∧ w6.heap.size ≤ wr.heap.size ∧ AR base lo po pt pl pr pq m4 limit rows O2 (L + 1) d2 A4 c4 B4 d4 Q' m' f' RR CC SS (out ++ [x]) (gNear q (near.take j)) wr) (fun i _ => n6 - (intOf i).toNat)
    case atStart =>
      refine ⟨0, Q, m, f, Nat.zero_le _, rfl, by omega, o6, fun k hk => ⟨(o6.lt k hk).2, fun e => by have := hQ5 k e; have := (o6.lt k hk).1; omega⟩, Nat.le_refl _, by rw [List.take_zero]; exact H6⟩
    case round =>
      clear H6 o6
      obtain ⟨j, Q', m', f', hj, rfl, hm', o6, hQ6, sz6, H⟩ := hrel
      by_cases hlt : j < n6
      · obtain ⟨gA, oA, y, rfl, hcy, hy⟩ := o6.ints.at_ hlt
        have HG := Lib.hid (gNear_take (q := q) hy.out)
        have bq_0 := H.bq.c1
        have bq_f := H.bq.frozen
        have bq_l := H.bq.lt
        by_cases hmem : y ∈ gNear q (near.take j)
        · have hd : decide (y ∈ gNear q (near.take j)) = true := by simpa using hmem
          have HG2 : Hid (gNear q (near.take (j + 1)) = gNear q (near.take j)) := by unfold Hid; rw [HG.out, if_pos hmem]
          clear hmem HG
          go_wp2_with fail
          refine (contains_c Q' m' f' _ y _ H.q.ints (by omega)).mono ?_
          rintro e7 w7 ⟨rfl, rfl⟩
          rw [hd]
          go_wp2
          go_roundw
          case rel => exact ⟨j + 1, Q', m', f', by omega, by go_num, by omega, o6, hQ6, sz6, by rw [HG2.out]; exact H⟩
          case measure => simp [intOf]; omega
        · have hd : decide (y ∈ gNear q (near.take j)) = false := by simpa using hmem
          have HG2 : Hid (gNear q (near.take (j + 1)) = gNear q (near.take j) ++ [y]) := by unfold Hid; rw [HG.out, if_neg hmem]
          clear hmem HG
          go_wp2_with fail
          refine (contains_c Q' m' f' _ y _ H.q.ints (by omega)).mono ?_
          rintro e7 w7 ⟨rfl, rfl⟩
          rw [hd]
          have ba : Below wr.heap.size wr (wr.alloc (.cells #[.int .i64 y] 3)) := (Below.refl _ _).alloc (Nat.le_refl _) _
          have H8 := H.below ba
          have o8 := o6.below ba
          clear ba
          go_wp2_with (first | (at_builtin; refine wpList_appOff rfl (.tmp 37) (.tmp 39) 26 rfl Try.underlying26 infoInt Q' m' f' lo _ rfl H8.q wr.heap.size y rfl (by simp) (by omega) H8.sz ?_; intro Q9 f9 w9 o9 g9 at9; have H9 := H8.pushQ P (show 0 < m4 from k1) g9 o9 at9; obtain ⟨-, -, -, -, bq9⟩ := H8.mid P g9 (fun k hk => (H8.q.lt k hk).1); have bq9_f := bq9.frozen; have bq9_0 := bq9.c1; clear bq_0 bq_f bq_l) | fail)
          have o10 := (o8.kept g9 (fun k hk e => (hQ6 k hk).2 e.symm)).setCell ⟨pq, 0, none⟩ (.slice Q9 (m' + 1) f9) (fun k hk => by have := (o6.lt k hk).1; have := P.q; dsimp only; omega)
          have s9 := g9.size
          simp at s9
          go_roundw
          case rel =>
            refine ⟨j + 1, Q9, m' + 1, f9, by omega, by go_num, by omega, o10, fun k hk => ⟨(hQ6 k hk).1, fun e => ?_⟩, by simp [World.setCell]; omega, by rw [HG2.out]; exact H9⟩
            rcases at9 with at9 | at9
            · rw [at9] at e; exact (hQ6 k hk).2 e
            · have := at9 k e; have := (hQ6 k hk).1; simp at *; omega
          case measure => simp [intOf]; omega
      · obtain rfl : n6 = j := by omega
        rw [List.take_of_length_le (by rw [HL.out]; omega)] at H
        go_wp2
        go_end0
        rw [HN.out, ← HT.out.1, ← HT.out.2.1, ← HT.out.2.2, ← HNR.out]
        exact ⟨rfl, O2, d2, A4, c4, B4, d4, Q', m', f', by omega, H⟩
end Go.Proofs.Ytbapamfomfbmmaa
