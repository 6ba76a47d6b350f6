/-
  Contracts of bankRows and SpareOk in the program.
-/
import Derived.Test.YtbapamfomfbmmaaSpA
namespace Go.Proofs.Ytbapamfomfbmmaa
open Go.RowKit
set_option linter.unusedSimpArgs false
set_option linter.unusedVariables false

theorem goodI_at {n b k : Nat} {gr z : Int} {zs : List Int} (hk : k < n) (hz : zs[b * n + k]? = some z) : goodI n gr zs (b * n + k) = ((z == (k : Int)) || (inB z n (gr - 1) && decide (cnt (bankRow zs n b) z ≤ 1))) := by
  unfold goodI
  rw [getD_of hz, (row_div hk).1, (row_div hk).2]
theorem goodI_next {n k : Nat} {gr : Int} {zs : List Int} (h : ∀ i, i < k → goodI n gr zs i = true) (hk : goodI n gr zs k = true) : ∀ i, i < k + 1 → goodI n gr zs i = true := by
  intro i hi
  by_cases e : i = k
  · subst e; exact hk
  · exact h i (by omega)
/-- A slice of integers, and where it lies, in new memory or old. -/
def SliceL (zs : List Int) (w : World) (e : Ending) (w' : World) : Prop := ∃ B m d, e = .returned (.slice B m d) ∧ Ints w' B m zs ∧ Below w.heap.size w w'
theorem Ints.cut {w : World} {g o m : Nat} {zs : List Int} (h : Ints w (some ⟨g, o, none⟩) m zs) {lo n : Nat} (hl : lo + n ≤ m) : Ints w (some ⟨g, o + lo, none⟩) n ((zs.drop lo).take n) := by
  refine ⟨by have := h.1; simp; omega, fun hn => ?_⟩
  obtain ⟨g', o', e, hg, hc⟩ := h.2 (by omega)
  injection e with e
  injection e with e1 e2
  subst e1 e2
  refine ⟨g, o + lo, rfl, hg, fun i hi => ?_⟩
  have := hc (lo + i) (by omega)
  rw [show o + lo + i = o + (lo + i) by omega, this]
  congr 2
  simp [List.getD_eq_getElem?_getD, List.getElem?_take, hi]

set_option maxHeartbeats 2000000 in
theorem iBankRows_c (gg gb gc s : Int) (A : Option Addr) (m c : Nat) (zs : List Int) (nb n b : Nat) (w : World) (hA : Ints w A m zs) (hc : m ≤ c ∧ c ≤ maxLen) (hl : zs.length = nb * n) (hb : b < nb) (h8 : nb ≤ 8) (hn : n ≤ 16) (hn2 : 2 ≤ n) (s0 : 0 ≤ s) (s2 : s ≤ 2) :
    Calls Try.prog 74 #[.agg #[.int .i64 gg, .int .i64 gb, .int .i64 ((n : Int) + s), .int .i64 gc], .agg #[.int .i64 s, .slice A m c], .int .i64 (b : Int)] w (SliceL (bankRow zs n b) w) := by
  obtain ⟨hc, hc2⟩ := hc
  have hm : m = nb * n := by rw [← hl]; exact hA.1.symm
  have h1 := row_lt (n := n) (r := 0) hb (by omega)
  have h2 := Nat.mul_le_mul_right n (show b + 1 ≤ nb by omega)
  rw [Nat.add_mul, Nat.one_mul] at h2
  have hnn := le_mul8 h8 hn
  obtain ⟨g, o, hg⟩ : ∃ g o, A = some ⟨g, o, none⟩ := by
    obtain ⟨g, o, e, _⟩ := hA.2 (by omega)
    exact ⟨g, o, e⟩
  subst hg
  have bel : ∀ o1 o2, Below w.heap.size w ((w.alloc o1).alloc o2) := fun o1 o2 => ((Below.refl _ _).alloc (Nat.le_refl _) _).alloc (by simp) _
  have BEL := Lib.hid bel
  have HI := Lib.hid (show Ints w (some ⟨g, o + b * n, none⟩) n (bankRow zs n b) from hA.cut (lo := b * n) (n := n) (by omega))
  obtain ⟨L, hL⟩ : ∃ L, b * n = L := ⟨_, rfl⟩
  obtain ⟨H, hH⟩ : ∃ H, L + n = H := ⟨_, rfl⟩
  have hp : (b : Int) * (n : Int) = (L : Int) := by rw [← hL]; simp
  have hp2 : ((b : Int) + 1) * (n : Int) = (H : Int) := by rw [Int.add_mul, hp, ← hH]; simp
  have k1 : L ≤ H := by omega
  have k2 : H ≤ c := by omega
  have k3 : ¬ c = L := by omega
  have k6 : (L : Int) ≤ (H : Int) := by omega
  have k7 : (H : Int) ≤ (c : Int) := by omega
  rw [hL] at HI
  have k8 : H ≤ 128 := by omega
  have HH : Hid (H - L = n) := by unfold Hid; omega
  clear hL hH
  have hlen := Lib.hid hm
  clear hm hl h1 h2 bel hA
  go_enter Try.func74, Try.ntmps74
  go_wp2
  go_ret
  refine ⟨_, H - L, _, rfl, (by rw [HH.out]; exact HI.out.below (BEL.out _ _)), BEL.out _ _⟩

set_option maxHeartbeats 8000000 in
theorem iSpareOk_c (gg gb gr gc s : Int) (A : Option Addr) (m c : Nat) (zs : List Int) (w : World) (hA : Ints w A m zs) (hn : m ≤ 1048576) (hc : m ≤ c ∧ c ≤ maxLen) :
    Calls Try.prog 17 #[.agg #[.int .i64 gg, .int .i64 gb, .int .i64 gr, .int .i64 gc], .agg #[.int .i64 s, .slice A m c]] w fun e w' => e = .returned (.bool (spareOk gg gb gr gc s zs)) ∧ Below w.heap.size w w' := by
  have bel : Below w.heap.size w w := Below.refl _ _
  have HL := Lib.hid hA.1
  go_enter Try.func17, Try.ntmps17
  go_wp2_with fail
  refine abs_call ?_
  intro W hW
  have szW : w.heap.size + 1 + 1 ≤ W.heap.size := by rw [hW]; simp [World.setCell]
  have szW_ := bel.size
  replace bel : Below w.heap.size w W := by rw [hW]; exact ((bel).alloc (by first | omega | (simp [World.setCell] <;> omega)) _).alloc (by first | omega | (simp [World.setCell] <;> omega)) _
  have p : Box W w.heap.size 25 #[.int .i64 gg, .int .i64 gb, .int .i64 gr, .int .i64 gc] := by rw [hW]; exact ((Box.newAt (by simp [World.setCell]))).alloc _
  have q : Box W (w.heap.size + 1) 28 #[.int .i64 s, .slice A m c] := by rw [hW]; exact (Box.newAt (by simp [World.setCell]))
  clear hW
  refine (iSpareNew_c gg gb gr gc s _).mono ?_
  rintro e w1 ⟨A1, n1, c1, rfl, o1, b1⟩
  have szw1 := b1.size
  replace bel := bel.trans (b1.mono bel.size)
  replace p := p.kept b1
  replace q := q.kept b1
  clear b1
  by_cases hk : spOk gg gb gr gc s = true
  case neg =>
    have hk' : spOk gg gb gr gc s = false := by simpa using hk
    clear hk
    have HQ := Lib.hid (spareOk_no1 (zs := zs) hk')
    obtain ⟨p_0, p_1, p_2, p_3⟩ := p.c4
    have p_lt := p.lt
    obtain ⟨q_0, q_1⟩ := q.c2
    have q_lt := q.lt
    go_wp2
    go_ret
    rw [HQ.out]
    exact ⟨rfl, (bel.alloc bel.size _)⟩
  obtain ⟨nb, n, e1, e2, e3, e4, n1', n2, n3, n4, ⟨s0, s2⟩, -⟩ := spOk_nums hk
  have HK := Lib.hid hk
  have HB := Lib.hid e1
  have HE3 := Lib.hid e3
  have HE4 := Lib.hid e4
  have hlen1 : n1 = nb * n := by rw [← o1.len, (sp_yes hk).1, e3, e4, freshTo_len]
  have hnn := le_mul8 n2 n4
  obtain rfl : gr = (n : Int) + s := by omega
  clear e1 e2 e3 e4 o1
  subst hlen1
  by_cases hm : m = nb * n
  case neg =>
    have HQ : Hid (spareOk gg gb ((n : Int) + s) gc s zs = false) := spareOk_no2 (by rw [HE3.out, HE4.out, HL.out]; exact hm)
    have t1 : ((m : Int) != ((nb * n : Nat) : Int)) = true := by simpa using (fun e => hm (by exact_mod_cast e) : ¬ ((m : Int) = ((nb * n : Nat) : Int)))
    obtain ⟨p_0, p_1, p_2, p_3⟩ := p.c4
    have p_lt := p.lt
    obtain ⟨q_0, q_1⟩ := q.c2
    have q_lt := q.lt
    rw [hk]
    go_wp2
    go_ret
    rw [HQ.out]
    exact ⟨rfl, (bel.alloc bel.size _)⟩
  subst hm
  have t1 : (((nb * n : Nat) : Int) != ((nb * n : Nat) : Int)) = false := by simp
  obtain ⟨p_0, p_1, p_2, p_3⟩ := p.c4
  have p_lt := p.lt
  obtain ⟨q_0, q_1⟩ := q.c2
  have q_lt := q.lt
  rw [hk]
  clear hk
  go_wp2_with fail
  clear t1
  refine abs_code ?_
  intro W3 hW
  clear p_0 p_1 p_2 p_3 p_lt q_0 q_1 q_lt
  have szW3 : w1.heap.size + 1 ≤ W3.heap.size := by rw [hW]; simp [World.setCell]
  have szW3_ := bel.size
  replace bel : Below w.heap.size w W3 := by rw [hW]; exact (bel).alloc (by first | omega | (simp [World.setCell] <;> omega)) _
  replace p : Box W3 w.heap.size 25 #[.int .i64 gg, .int .i64 gb, .int .i64 ((n : Int) + s), .int .i64 gc] := by rw [hW]; exact p.alloc _
  replace q : Box W3 (w.heap.size + 1) 28 #[.int .i64 s, .slice A (nb * n) c] := by rw [hW]; exact q.alloc _
  clear hW
  go_loopw [8] (fun i wr => ∃ b : Nat, b ≤ nb ∧ i = .int .i64 b ∧ Below w.heap.size w wr ∧ W3.heap.size ≤ wr.heap.size ∧ Box wr w.heap.size 25 #[.int .i64 gg, .int .i64 gb, .int .i64 ((n : Int) + s), .int .i64 gc] ∧ Box wr (w.heap.size + 1) 28 #[.int .i64 s, .slice A (nb * n) c] ∧ Hid (∀ i, i < b * n → goodI n ((n : Int) + s) zs i = true)) (fun i _ => nb - (intOf i).toNat)
  case atStart => exact ⟨0, Nat.zero_le _, rfl, bel, Nat.le_refl _, p, q, (by intro i hi; omega)⟩
  case round =>
    obtain ⟨b, hb, rfl, br, szr, p', q', HG⟩ := hrel
    clear p q bel
    obtain ⟨p'_0, p'_1, p'_2, p'_3⟩ := p'.c4
    have p'_lt := p'.lt
    obtain ⟨q'_0, q'_1⟩ := q'.c2
    have q'_lt := q'.lt
    go_wp2_with fail
    refine (iBankCount_c gg gb ((n : Int) + s) gc _).mono ?_
    rintro e w5 ⟨rfl, b5⟩
    rw [HB.out]
    clear p'_0 p'_1 p'_2 p'_3 p'_lt q'_0 q'_1 q'_lt
    have szw5 := b5.size
    replace br := br.trans (b5.mono br.size)
    replace p' := p'.kept b5
    replace q' := q'.kept b5
    clear b5
    by_cases hlt : b < nb
    · skip
      obtain ⟨p'_0, p'_1, p'_2, p'_3⟩ := p'.c4
      have p'_lt := p'.lt
      obtain ⟨q'_0, q'_1⟩ := q'.c2
      have q'_lt := q'.lt
      go_wp2_with fail
      refine (iBankRows_c gg gb gc s A (nb * n) c zs nb n b _ (hA.below br) hc HL.out hlt n2 n4 n3 s0 s2).mono ?_
      rintro e w6 ⟨B, d, d2, rfl, hB, b6⟩
      have hd : n = d := by rw [← hB.1, bankRow_len HL.out hlt]
      subst hd
      clear p'_0 p'_1 p'_2 p'_3 p'_lt q'_0 q'_1 q'_lt
      have szw6 := b6.size
      replace br := br.trans (b6.mono br.size)
      replace p' := p'.kept b6
      replace q' := q'.kept b6
      clear b6
      obtain ⟨p'_0, p'_1, p'_2, p'_3⟩ := p'.c4
      have p'_lt := p'.lt
      obtain ⟨q'_0, q'_1⟩ := q'.c2
      have q'_lt := q'.lt
      go_wp2
      go_loop [47] (fun i => ∃ k : Nat, k ≤ n ∧ i = .int .i64 k ∧ Hid (∀ i, i < b * n + k → goodI n ((n : Int) + s) zs i = true)) (fun i => n - (intOf i).toNat)
      case atStart => exact ⟨0, Nat.zero_le _, rfl, HG⟩
      case round =>
        obtain ⟨k, hk, rfl, HG'⟩ := hrel
        by_cases hlt2 : k < n
        · obtain ⟨g, o, z, rfl, hc1, hz⟩ := hB.at_ hlt2
          have hz2 : Hid (zs[b * n + k]? = some z) := by have := hz.out; rw [bankRow_get hlt2] at this; exact this
          have HA := Lib.hid (goodI_at (gr := (n : Int) + s) hlt2 hz2.out)
          have hlen : b * n + k < nb * n := row_lt hlt hlt2
          have cb := cnt_le (bankRow zs n b) z
          by_cases hz1 : (z != (k : Int)) = true
          · have he : (z == (k : Int)) = false := by simpa using hz1
            rw [he, Bool.false_or] at HA
            clear he
            by_cases hi : inB z n ((n : Int) + s - 1) = true
            · by_cases hcn : cnt (bankRow zs n b) z ≤ 1
              · have HT : Hid (goodI n ((n : Int) + s) zs (b * n + k) = true) := by unfold Hid; rw [HA.out, hi]; simpa using hcn
                go_wp2_with (first | (go_at_call 75; refine (between_c _ _ _ _).mono ?_; rintro e w' ⟨rfl, rfl⟩) | (go_at_call 76; refine (iCountRow_c _ n _ (bankRow zs n b) z _ hB (by omega)).mono ?_; rintro e w' ⟨rfl, rfl⟩))
                go_round
                case rel => exact ⟨k + 1, by omega, by go_num, goodI_next HG'.out HT.out⟩
                case measure => simp [intOf]; omega
              · have HT : Hid (spareOk gg gb ((n : Int) + s) gc s zs = false) := by
                  refine spareOk_noI (i := b * n + k) (by rw [HL.out]; exact hlen) (by rw [HE4.out]; omega) ?_
                  rw [HE4.out, HA.out, hi]
                  simpa using hcn
                go_wp2_with (first | (go_at_call 75; refine (between_c _ _ _ _).mono ?_; rintro e w' ⟨rfl, rfl⟩) | (go_at_call 76; refine (iCountRow_c _ n _ (bankRow zs n b) z _ hB (by omega)).mono ?_; rintro e w' ⟨rfl, rfl⟩))
                go_ret
                rw [HT.out]
                exact ⟨rfl, br⟩
            · have hi' : inB z n ((n : Int) + s - 1) = false := by simpa using hi
              clear hi
              have HT : Hid (spareOk gg gb ((n : Int) + s) gc s zs = false) := by
                refine spareOk_noI (i := b * n + k) (by rw [HL.out]; exact hlen) (by rw [HE4.out]; omega) ?_
                rw [HE4.out, HA.out, hi']; rfl
              go_wp2_with (first | (go_at_call 75; refine (between_c _ _ _ _).mono ?_; rintro e w' ⟨rfl, rfl⟩) | fail)
              go_ret
              rw [HT.out]
              exact ⟨rfl, br⟩
          · have hz1' : (z != (k : Int)) = false := by simpa using hz1
            have HT : Hid (goodI n ((n : Int) + s) zs (b * n + k) = true) := by
              unfold Hid; rw [HA.out]
              have : (z == (k : Int)) = true := by simpa using hz1'
              rw [this]; rfl
            clear hz1
            go_wp2_with fail
            go_round
            case rel => exact ⟨k + 1, by omega, by go_num, goodI_next HG'.out HT.out⟩
            case measure => simp [intOf]; omega
        · obtain rfl : n = k := by omega
          go_wp2
          go_roundw
          case rel => exact ⟨b + 1, by omega, by go_num, br, by omega, p', q', (by have := HG'.out; rw [Nat.add_mul, Nat.one_mul]; exact this)⟩
          case measure => simp [intOf]; omega
    · skip
      obtain rfl : nb = b := by omega
      have HT : Hid (spareOk gg gb ((n : Int) + s) gc s zs = true) := spareOk_yesI HK.out (by rw [HE3.out, HE4.out, HL.out]) (by rw [HE4.out]; omega) (by rw [HE4.out, HL.out]; exact HG.out)
      go_wp2
      go_ret
      rw [HT.out]
      exact ⟨rfl, br⟩
end Go.Proofs.Ytbapamfomfbmmaa
