/-
  Contract of the program's GuardedRun.
-/
import Derived.Test.YtbapamfomfbmmaaGr5
namespace Go.Proofs.Ytbapamfomfbmmaa
open Go.RowKit
set_option linter.unusedSimpArgs false
set_option linter.unusedVariables false

def lenBox (w : World) (g : Nat) : Nat := match w.cell? ⟨g, 0, none⟩ with
  | some (.slice _ n _) => n
  | _ => 0
theorem lenBox_of {w : World} {g : Nat} {O : Option Addr} {L d : Nat} {t : TypeId} (h : Box w g t #[.slice O L d]) : lenBox w g = L := by
  unfold lenBox
  rw [h.c1]
/-- How the queue's work goes on. -/
def GoOn (rows limit : Int) (L : Nat) (st : GSt) (q rest : List Int) (fin : Option GSt) : Prop :=
  (L ≤ 1000 ∧ (gIn rows limit (1000 - L) st q).bind (gOut rows limit rest) = fin) ∨ (L = 1001 ∧ fin = none)
theorem GoOn.step {rows limit x : Int} {L : Nat} {st : GSt} {q rest : List Int} {fin : Option GSt} (hL : L ≤ 1000) (h : (gIn rows limit (1000 - L) st (x :: q)).bind (gOut rows limit rest) = fin) :
    GoOn rows limit (L + 1) (gStep st x) (gNext rows limit st x q) rest fin := by
  by_cases h0 : L = 1000
  · subst h0
    exact .inr ⟨rfl, gfin_zero h⟩
  · left
    refine ⟨by omega, ?_⟩
    rw [show 1000 - L = (1000 - (L + 1)) + 1 by omega] at h
    exact gfin_cons h
theorem far_own {w : World} {l1 h1 n c po pt pq : Nat} {A : Option Addr} {zs : List Int} {bo bq : Option Nat} (h : OwnH w l1 h1 A n c zs) (hn : 0 < n) (e1 : h1 ≤ po) (e2 : h1 ≤ pt) (e3 : h1 ≤ pq) (e4 : bo = none) (e5 : bq = none) : Far po pt pq bo bq A := by
  intro g o e
  have hc : c ≠ 0 := by have := h.1.cap; omega
  obtain ⟨gg, e', h3, h4⟩ := OwnV.form h.1 hc
  have h5 := h.2 gg (by rw [e']; exact blk_at hc)
  rw [e'] at e
  injection e with e
  injection e with e _
  subst e
  refine ⟨by omega, by omega, by omega, ?_, ?_⟩
  · rw [e4]; simp
  · rw [e5]; simp
set_option maxRecDepth 100000 in
set_option maxHeartbeats 16000000 in
theorem iGuardedRun_c (rows k limit : Int) (A : Option Addr) (n c : Nat) (zs : List Int) (w : World) (h : Ints w A n zs) (hn : n ≤ 1048576) :
    Calls Try.prog 42 #[.int .i64 rows, .int .i64 k, .int .i64 limit, .slice A n c] w (NewLB (gList rows k limit zs) (gOk rows k limit zs) w) := by
  have bel : Below w.heap.size w w := Below.refl _ _
  have HZ := Lib.hid h.1
  have hmf : ∀ (fn : Fn) (first cap : Array Value) (w : World), (Instr.makeFunc fn first cap).run Try.prog w = .ok (.func fn first cap) w := fun _ _ _ _ => rfl
  go_enter Try.func42, Try.ntmps42
  go_wp2_with fail
  refine abs_call ?_
  intro W hW
  have szW : w.heap.size + 1 + 1 ≤ W.heap.size := by rw [hW]; simp [World.setCell]
  have szW_ := bel.size
  replace bel : Below w.heap.size w W := by rw [hW]; exact ((bel).alloc (by first | omega | (simp [World.setCell] <;> omega)) _).alloc (by first | omega | (simp [World.setCell] <;> omega)) _
  have r : Box W w.heap.size 3 #[.int .i64 rows] := by rw [hW]; exact ((Box.newAt (by simp [World.setCell]))).alloc _
  have l : Box W (w.heap.size + 1) 3 #[.int .i64 limit] := by rw [hW]; exact (Box.newAt (by simp [World.setCell]))
  clear hW
  refine (iTrackerNew_c k _).mono ?_
  rintro e w1 ⟨A1, n1, c1, B1, m1, d1, u1, v1, u2, v2, rfl, o1, q1, ⟨ha1, ha2, ha3, ha4, hsep⟩, b1⟩
  have szw1 := b1.size
  replace bel := bel.trans (b1.mono bel.size)
  replace r := r.kept b1
  replace l := l.kept b1
  clear b1
  have r_0 := r.c1
  have r_lt := r.lt
  have l_0 := l.c1
  have l_lt := l.lt
  go_wp2_with fail
  refine abs_call ?_
  intro W2 hW
  clear r_0 r_lt l_0 l_lt
  have szW2 : w1.heap.size + 1 ≤ W2.heap.size := by rw [hW]; simp [World.setCell]
  have szW2_ := bel.size
  replace bel : Below w.heap.size w W2 := by rw [hW]; exact (bel).alloc (by first | omega | (simp [World.setCell] <;> omega)) _
  replace r : Box W2 w.heap.size 3 #[.int .i64 rows] := by rw [hW]; exact r.alloc _
  replace l : Box W2 (w.heap.size + 1) 3 #[.int .i64 limit] := by rw [hW]; exact l.alloc _
  have t : Box W2 w1.heap.size 132 #[.slice A1 n1 c1, .slice B1 m1 d1, .int .i64 0] := by rw [hW]; exact (Box.newAt (by simp [World.setCell]))
  replace o1 : OwnH W2 u1 v1 A1 n1 c1 (tnR k) := by rw [hW]; exact o1.alloc _
  replace q1 : OwnH W2 u2 v2 B1 m1 d1 (tnC k) := by rw [hW]; exact q1.alloc _
  clear hW
  have r_0 := r.c1
  have r_lt := r.lt
  have l_0 := l.c1
  have l_lt := l.lt
  refine (iPatternOk_c A n c zs rows _ (h.below bel) hn).mono ?_
  rintro e w' ⟨rfl, rfl⟩
  by_cases hp : patOk rows zs = true
  case neg =>
    have hp' : patOk rows zs = false := by simpa using hp
    have HR := Lib.hid (gRun_no (rows := rows) (k := k) (limit := limit) (pat := zs) (fun hh => hp hh.2.1))
    rw [hp']
    clear hp
    go_wp2
    go_ret2
    rw [HR.out.1, HR.out.2]
    exact ⟨_, 0, 0, rfl, OwnH.nil _ _ _ _, bel⟩
  rw [hp]
  by_cases hk : inB k 1 16 = true
  case neg =>
    have hk' : inB k 1 16 = false := by simpa using hk
    have HR := Lib.hid (gRun_no (rows := rows) (k := k) (limit := limit) (pat := zs) (fun hh => hk hh.1))
    rw [hk']
    clear hk
    go_wp2
    go_ret2
    rw [HR.out.1, HR.out.2]
    exact ⟨_, 0, 0, rfl, OwnH.nil _ _ _ _, bel⟩
  have hk1 := inB_t hk
  rw [hk]
  go_wp2_with fail
  refine (between_c limit 3 1000 _).mono ?_
  rintro e w' ⟨rfl, rfl⟩
  by_cases hl : inB limit 3 1000 = true
  case neg =>
    have hl' : inB limit 3 1000 = false := by simpa using hl
    have HR := Lib.hid (gRun_no (rows := rows) (k := k) (limit := limit) (pat := zs) (fun hh => hl hh.2.2))
    rw [hl']
    clear hl
    go_wp2
    go_ret2
    rw [HR.out.1, HR.out.2]
    exact ⟨_, 0, 0, rfl, OwnH.nil _ _ _ _, bel⟩
  have hl1 := inB_t hl
  rw [hl]
  obtain ⟨fin, hfin⟩ : ∃ f, f = gOut rows limit zs (gZero k.toNat) := ⟨_, rfl⟩
  have HF : Hid (gRun rows k limit zs = fin) := by unfold Hid gRun; rw [if_pos ⟨hk, hp, hl⟩]; exact hfin.symm
  have HP := Lib.hid (patOk_in hp)
  obtain ⟨K, hK⟩ : ∃ K, K = k.toNat := ⟨_, rfl⟩
  have hK16 : 1 ≤ K ∧ K ≤ 16 := by omega
  have er : tnR k = List.replicate K (-1) := by unfold tnR; rw [if_pos hk, hK]
  have ec : tnC k = List.replicate K 0 := by unfold tnC; rw [if_pos hk, hK]
  rw [er] at o1
  rw [ec] at q1
  have hn1 : n1 = K := by have := o1.len; simpa using this.symm
  have hm1 : m1 = K := by have := q1.len; simpa using this.symm
  subst hn1
  subst hm1
  have HE0 : Hid (Est (gZero m1).rs (gZero m1).cs (gZero m1).s (gZero m1).out m1) := Est.new m1
  rw [← hK] at hfin
  have HFin : Hid (gOut rows limit (zs.drop 0) (gZero m1) = fin) := by unfold Hid; rw [List.drop_zero]; exact hfin.symm
  clear hfin er ec hk hp hl hK
  obtain ⟨hK1, hK16⟩ := hK16
  obtain ⟨r2, r16, -, -⟩ := HP.out
  go_wp2_with fail
  refine abs_code ?_
  intro W3 hW
  clear r_0 r_lt l_0 l_lt
  have szW3 : W2.heap.size + 1 + 1 + 1 + 1 ≤ W3.heap.size := by rw [hW]; simp [World.setCell]
  have szW3_ := bel.size
  replace bel : Below w.heap.size w W3 := by rw [hW]; exact ((((bel).alloc (by first | omega | (simp [World.setCell] <;> omega)) _).alloc (by first | omega | (simp [World.setCell] <;> omega)) _).alloc (by first | omega | (simp [World.setCell] <;> omega)) _).alloc (by first | omega | (simp [World.setCell] <;> omega)) _
  replace r : Box W3 w.heap.size 3 #[.int .i64 rows] := by rw [hW]; exact (((r.alloc _).alloc _).alloc _).alloc _
  replace l : Box W3 (w.heap.size + 1) 3 #[.int .i64 limit] := by rw [hW]; exact (((l.alloc _).alloc _).alloc _).alloc _
  replace t : Box W3 w1.heap.size 132 #[.slice A1 (m1) c1, .slice B1 m1 d1, .int .i64 0] := by rw [hW]; exact (((t.alloc _).alloc _).alloc _).alloc _
  have po : Box W3 (W2.heap.size + 1 + 1) 26 #[.slice (some ⟨W2.heap.size, 0, none⟩) 0 0] := by rw [hW]; exact ((Box.newAt (by simp [World.setCell]))).alloc _
  have pq : Box W3 (W2.heap.size + 1 + 1 + 1) 26 #[.slice (some ⟨W2.heap.size + 1, 0, none⟩) 0 0] := by rw [hW]; exact (Box.newAt (by simp [World.setCell]))
  replace o1 : OwnH W3 u1 v1 A1 m1 c1 (List.replicate m1 (-1)) := by rw [hW]; exact (((o1.alloc _).alloc _).alloc _).alloc _
  replace q1 : OwnH W3 u2 v2 B1 m1 d1 (List.replicate m1 0) := by rw [hW]; exact (((q1.alloc _).alloc _).alloc _).alloc _
  clear hW
  have szA := r.lt; have szB := l.lt; have szC := t.lt; have szD := po.lt; have szE := pq.lt
  have hP : PtOk w W3.heap.size (W2.heap.size + 1 + 1) w1.heap.size (w.heap.size + 1) w.heap.size (W2.heap.size + 1 + 1 + 1) := ⟨by omega, by omega, by omega, by omega, by omega, by omega, by omega, by omega, by omega⟩
  have S0 : AR w W3.heap.size (W2.heap.size + 1 + 1) w1.heap.size (w.heap.size + 1) w.heap.size (W2.heap.size + 1 + 1 + 1) m1 limit rows (some ⟨W2.heap.size, 0, none⟩) 0 0 A1 c1 B1 d1 (some ⟨W2.heap.size + 1, 0, none⟩) 0 0 (gZero m1).rs (gZero m1).cs (gZero m1).s (gZero m1).out [] W3 :=
    ⟨po, t, l, r, pq, OwnI.nil _ _ _, o1.ints, q1.ints, OffI.nil _ _ _, (fun k hk => by rw [blk_zero] at hk; cases hk), far_own o1 (by omega) (by omega) (by omega) (by omega) (blk_zero _) (blk_zero _), far_own q1 (by omega) (by omega) (by omega) (by omega) (blk_zero _) (blk_zero _), bel, Nat.le_refl _⟩
  have szF : w.heap.size ≤ W3.heap.size := bel.size
  clear po pq t l r o1 q1 bel szA szB szC szD szE szW szW_ szW2 szW2_ szW3 szW3_
  go_loopw [41] (fun i wr => ∃ (j : Nat) (st : GSt) (O : Option Addr) (L d : Nat) (A : Option Addr) (c : Nat) (B : Option Addr) (e : Nat) (Q : Option Addr) (f : Nat), j ≤ n ∧ i = .int .i64 j ∧ L ≤ 1000 ∧ Hid (gOut rows limit (zs.drop j) st = fin) ∧ Hid (Est st.rs st.cs st.s st.out m1) ∧ AR w W3.heap.size (W2.heap.size + 1 + 1) w1.heap.size (w.heap.size + 1) w.heap.size (W2.heap.size + 1 + 1 + 1) m1 limit rows O L d A c B e Q 0 f st.rs st.cs st.s st.out [] wr) (fun i _ => n - (intOf i).toNat)
  case atStart => exact ⟨0, gZero m1, _, 0, 0, A1, c1, B1, d1, _, 0, Nat.zero_le _, rfl, by omega, HFin, HE0, S0⟩
  case round =>
    clear S0 HFin HE0
    obtain ⟨j, st, O, L, d, A, c, B, e, Q, f, hj, rfl, hL, HG, HE, H⟩ := hrel
    by_cases hlt : j < n
    · obtain ⟨g, o, x, rfl, hcx, hx⟩ := (h.below H.bel).at_ hlt
      have HX := Lib.hid (HP.out.2.2.2 x (List.mem_of_getElem? hx.out))
      have HS := Lib.hid (gfin_start HG.out hx.out)
      have hLL := H.o.len
      rw [hLL] at HS
      have j0 : (0 : Int) ≤ (j : Int) := by omega
      have j1 : (j : Int) < (n : Int) := by omega
      obtain ⟨x0, x1⟩ := HX.out
      clear HG hx
      go_wp2_with fail
      refine (iAct_c w W3.heap.size (W2.heap.size + 1 + 1) w1.heap.size (w.heap.size + 1) w.heap.size (W2.heap.size + 1 + 1 + 1) m1 limit rows O L d A c B e Q 0 f st.rs st.cs st.s st.out [] x _ hP H HE.out hK1 hK16 hL (by omega) x0 x1 r16 hl1.1 hl1.2).mono ?_
      rintro e5 w5 ⟨rfl, O5, d5, A5, c5, B5, e5', Q5, m5, f5, hm5, H5⟩
      have HGo := Lib.hid (GoOn.step hL HS.out)
      have HE5 : Hid (Est (gStep st x).rs (gStep st x).cs (gStep st x).s (gStep st x).out m1) := HE.out.step (row := x) x0 (by omega)
      have hqi := Lib.hid (gNext_in (rows := rows) (limit := limit) (row := x) (st := st) (q := []) (by intro y hy; simp at hy))
      clear HS HE H hcx hLL
      go_wp2_with fail
      go_loopw [17] (fun v wr => ∃ (st : GSt) (q : List Int) (O : Option Addr) (L d : Nat) (A : Option Addr) (c : Nat) (B : Option Addr) (e : Nat) (Q : Option Addr) (m f : Nat), L ≤ 1001 ∧ m ≤ 2 * L ∧ Hid (GoOn rows limit L st q (zs.drop (j + 1)) fin) ∧ Hid (∀ x ∈ q, 0 ≤ x ∧ x < rows) ∧ Hid (Est st.rs st.cs st.s st.out m1) ∧ AR w W3.heap.size (W2.heap.size + 1 + 1) w1.heap.size (w.heap.size + 1) w.heap.size (W2.heap.size + 1 + 1 + 1) m1 limit rows O L d A c B e Q m f st.rs st.cs st.s st.out q wr) (fun _ wr => 1002 - lenBox wr (W2.heap.size + 1 + 1))
      case atStart => exact ⟨gStep st x, _, O5, L + 1, d5, A5, c5, B5, e5', Q5, m5, f5, by omega, by omega, HGo, hqi, HE5, H5⟩
      case round =>
        clear H5 HE5 hqi HGo HX x0 x1
        obtain ⟨st, q, O, L, d, A, c, B, e, Q, m, f, hL, hm, HG, HQ, HE, H⟩ := hrel
        have bq_0 := H.bq.c1
        have bq_f := H.bq.frozen
        have bo_0 := H.bo.c1
        have hLq := H.q.1
        have hmf2 := H.q.2.1
        by_cases hL1 : L = 1001
        · have HN : Hid (fin = none) := by
            rcases HG.out with hg | hg
            · omega
            · exact hg.2
          have HR := Lib.hid (gRun_none (HF.out.trans HN.out))
          have t1 : decide ((L : Int) ≤ 1000) = false := by simp; omega
          have t2 : decide ((1000 : Int) < (L : Int)) = true := by simp; omega
          by_cases hm0 : m = 0
          · have t0 : decide ((0 : Int) < (m : Int)) = false := by simp; omega
            go_wp2
            go_ret2
            rw [HR.out.1, HR.out.2]
            exact ⟨_, 0, 0, rfl, OwnH.nil _ _ _ _, H.bel⟩
          · have t0 : decide ((0 : Int) < (m : Int)) = true := by simp; omega
            go_wp2
            go_ret2
            rw [HR.out.1, HR.out.2]
            exact ⟨_, 0, 0, rfl, OwnH.nil _ _ _ _, H.bel⟩
        · have hL2 : L ≤ 1000 := by omega
          have HG2 : Hid ((gIn rows limit (1000 - L) st q).bind (gOut rows limit (zs.drop (j + 1))) = fin) := by
            rcases HG.out with hg | hg
            · exact hg.2
            · omega
          have t1 : decide ((L : Int) ≤ 1000) = true := by simp; omega
          have t2 : decide ((1000 : Int) < (L : Int)) = false := by simp; omega
          cases q with
          | nil =>
            obtain rfl : m = 0 := by simpa using hLq.symm
            have HG3 := Lib.hid (gfin_nil HG2.out)
            go_wp2
            go_roundw
            case rel => exact ⟨j + 1, st, O, L, d, A, c, B, e, Q, f, by omega, by go_num, by omega, HG3, HE, H⟩
            case measure => simp [intOf]; omega
          | cons x q =>
            have hm0 : 0 < m := by simp at hLq; omega
            have t0 : decide ((0 : Int) < (m : Int)) = true := by simp; omega
            have m1' : (1 : Int) ≤ (m : Int) := by omega
            have f1' : (1 : Int) ≤ (f : Int) := by omega
            obtain ⟨gQ, oQ, x', eQ, hcx, hx'⟩ := H.q.ints.at_ hm0
            obtain rfl : x = x' := by have := hx'.out; simpa using this
            subst eQ
            have hcx0 : wr.cell? ⟨gQ, oQ, none⟩ = some (.int .i64 x) := by simpa using hcx
            obtain ⟨x0, x1⟩ := HQ.out x (by simp)
            have H2 := H.cutQ hP (show 0 < m1 from hK1)
            clear hcx hx'
            go_wp2_with fail
            all_goals
              refine abs_call ?_
              intro W5 hW
              obtain ⟨Q2, f2, H5⟩ : ∃ (Q2 : Option Addr) (f2 : Nat), AR w W3.heap.size (W2.heap.size + 1 + 1) w1.heap.size (w.heap.size + 1) w.heap.size (W2.heap.size + 1 + 1 + 1) m1 limit rows O L d A c B e Q2 (m - 1) f2 st.rs st.cs st.s st.out q W5 := by
                rw [hW]
                by_cases hf1 : f = 1
                · subst hf1
                  first
                  | exact ⟨_, _, H2⟩
                  | (exfalso; omega)
                  | (exfalso; simp_all)
                · have ec : cutAt (some ⟨gQ, oQ, none⟩) f 1 1 = some ⟨gQ, oQ + 1, none⟩ := by unfold cutAt; rw [if_neg hf1, Option.map_some, addr_add]
                  rw [ec] at H2
                  first
                  | exact ⟨_, _, H2⟩
                  | (exfalso; omega)
                  | (exfalso; simp_all)
              have hLB := lenBox_of H.bo
              clear hW H2 H bq_0 bq_f bo_0 hcx0
              refine (iAct_c w W3.heap.size (W2.heap.size + 1 + 1) w1.heap.size (w.heap.size + 1) w.heap.size (W2.heap.size + 1 + 1 + 1) m1 limit rows O L d A c B e Q2 (m - 1) f2 st.rs st.cs st.s st.out q x _ hP H5 HE.out hK1 hK16 hL2 (by omega) x0 x1 r16 hl1.1 hl1.2).mono ?_
              rintro e6 w6 ⟨rfl, O6, d6, A6, c6, B6, e6', Q6, m6, f6, hm6, H6⟩
              have HE6 : Hid (Est (gStep st x).rs (gStep st x).cs (gStep st x).s (gStep st x).out m1) := HE.out.step (row := x) x0 (by omega)
              go_wp2
              go_roundw
              case rel => exact ⟨gStep st x, _, O6, L + 1, d6, A6, c6, B6, e6', Q6, m6, f6, by omega, by omega, Lib.hid (GoOn.step hL2 HG2.out), Lib.hid (gNext_in (fun z hz => HQ.out z (List.mem_cons_of_mem _ hz))), HE6, H6⟩
              case measure => rw [hLB, lenBox_of H6.bo]; omega
    · obtain rfl : n = j := by omega
      have HN := Lib.hid (gRun_some (HF.out.trans (gfin_end HG.out (by rw [HZ.out]; omega))))
      have bo_0 := H.bo.c1
      go_wp2
      go_ret2
      rw [HN.out.1, HN.out.2]
      exact ⟨O, L, d, rfl, OwnH.mk' (H.o.mono szF), H.bel⟩
end Go.Proofs.Ytbapamfomfbmmaa
