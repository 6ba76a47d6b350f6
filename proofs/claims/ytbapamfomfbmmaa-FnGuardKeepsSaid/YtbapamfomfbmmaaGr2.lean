/-
  Contract of the reference's GuardedRun: the walk.
-/
import Derived.Test.YtbapamfomfbmmaaGr1
import Derived.Test.YtbapamfomfbmmaaFlat
namespace Go.Proofs.Ytbapamfomfbmmaa
open Go.RowKit
set_option linter.unusedSimpArgs false
set_option linter.unusedVariables false

theorem OwnI.lit1 (w : World) (lo : Nat) (h : lo ≤ w.heap.size) (x : Int) : OwnI (w.alloc (.cells #[.int .i64 x] 3)) lo (some ⟨w.heap.size, 0, none⟩) 1 1 [x] :=
  .inl ⟨rfl, .inr ⟨w.heap.size, 1, #[.int .i64 x], rfl, h, heap_alloc_new w _, Nat.le_refl _, by unfold maxLen; omega, rfl, rfl⟩⟩
theorem Ints.drop1 {w : World} {A B : Option Addr} {m : Nat} {x : Int} {zs : List Int} (h : Ints w A m (x :: zs)) (hB : 0 < m - 1 → ∀ g o, A = some ⟨g, o, none⟩ → B = some ⟨g, o + 1, none⟩) : Ints w B (m - 1) zs := by
  have hl := h.1
  simp only [List.length_cons] at hl
  refine ⟨by omega, fun hm => ?_⟩
  obtain ⟨g, o, e, hg, hc⟩ := h.2 (by omega)
  refine ⟨g, o + 1, hB hm g o e, hg, fun i hi => ?_⟩
  have := hc (i + 1) (by omega)
  rw [show o + 1 + i = o + (i + 1) by omega, this]
  simp
theorem cut_one {Q : Option Addr} {m e : Nat} (he : m ≤ e) : 0 < m - 1 → ∀ g o, Q = some ⟨g, o, none⟩ → cutAt Q e 1 1 = some ⟨g, o + 1, none⟩ := by
  rintro hm g o rfl
  have := cutAt_some (n := m) (c := e) (k := 1) (size := 1) (by omega) he (some ⟨g, o, none⟩) g o rfl
  simpa using this
/-- What a guarded run holds in memory: the tracker, the list of activations. -/
structure SR (w : World) (u : Nat) (A B : Option Addr) (K c d l1 h1 l2 h2 lo : Nat) (O : Option Addr) (L e : Nat) (st : GSt) (wr : World) : Prop where
  est : Est st.rs st.cs st.s st.out K
  t : Box wr u 132 #[.slice A K c, .slice B K d, .int .i64 st.s]
  a : OwnH wr l1 h1 A K c st.rs
  b : OwnH wr l2 h2 B K d st.cs
  o : OwnI wr lo O L e st.out
  bel : Below w.heap.size w wr
  sz : lo ≤ wr.heap.size
section
variable {w : World} {u : Nat} {A B : Option Addr} {K c d l1 h1 l2 h2 lo : Nat} {O : Option Addr} {L e : Nat} {st : GSt} {wr w' : World}
theorem SR.len (h : SR w u A B K c d l1 h1 l2 h2 lo O L e st wr) : st.out.length = L := h.o.len
theorem SR.below (h : SR w u A B K c d l1 h1 l2 h2 lo O L e st wr) (b : Below wr.heap.size wr w') : SR w u A B K c d l1 h1 l2 h2 lo O L e st w' :=
  ⟨h.est, h.t.kept b, h.a.below b, h.b.below b, h.o.below b, h.bel.trans (b.mono h.bel.size), Nat.le_trans h.sz b.size⟩
theorem SR.grown {r : Option Nat} (h : SR w u A B K c d l1 h1 l2 h2 lo O L e st wr) (g : wr.grownBy w' r) (hr : ∀ k, r = some k → lo ≤ k ∧ blk O e ≠ some k) (hu : u < lo) (hh1 : h1 ≤ lo) (hh2 : h2 ≤ lo) (hw : w.heap.size ≤ lo) : SR w u A B K c d l1 h1 l2 h2 lo O L e st w' := by
  have C : Chg lo (wr.heap.size + (match r with | some k => k + 1 | none => 0)) wr w' := Chg.of_grown g (fun k hk => ⟨(hr k hk).1, by subst hk; simp only; omega⟩)
  exact ⟨h.est, h.t.chg C (.inl hu), h.a.chg C (.inl hh1), h.b.chg C (.inl hh2), h.o.kept g (fun k hk e => (hr k e.symm).2 hk), C.below h.bel hw, Nat.le_trans h.sz g.size⟩
/-- One more activation, ahead of the tracker's step. -/
theorem SR.app {O' : Option Addr} {L' e' : Nat} {xs : List Int} (h : SR w u A B K c d l1 h1 l2 h2 lo O L e st wr) (g : wr.grownBy w' (blk O e)) (o : OwnI w' lo O' L' e' xs) (hu : u < lo) (hh1 : h1 ≤ lo) (hh2 : h2 ≤ lo) (hw : w.heap.size ≤ lo) :
    Box w' u 132 #[.slice A K c, .slice B K d, .int .i64 st.s] ∧ OwnH w' l1 h1 A K c st.rs ∧ OwnH w' l2 h2 B K d st.cs ∧ Below w.heap.size w w' ∧ lo ≤ w'.heap.size := by
  have C : Chg lo wr.heap.size wr w' := Chg.of_grown g (fun k hk => h.o.lt k hk)
  exact ⟨h.t.chg C (.inl hu), h.a.chg C (.inl hh1), h.b.chg C (.inl hh2), C.below h.bel hw, Nat.le_trans h.sz g.size⟩
end
theorem own_keep {w w' : World} {lo n c : Nat} {A : Option Addr} {zs : List Int} (h : OwnI w lo A n c zs) (hk : ∀ g, g < w.heap.size → lo ≤ g → w'.heap[g]? = w.heap[g]?) : OwnI w' lo A n c zs :=
  OwnV.keep h fun g hg => hk g (h.lt g hg).2 (h.lt g hg).1
theorem gfin_cons {rows limit x : Int} {f : Nat} {st : GSt} {q rest : List Int} {fin : Option GSt} (h : (gIn rows limit (f + 1) st (x :: q)).bind (gOut rows limit rest) = fin) : (gIn rows limit f (gStep st x) (gNext rows limit st x q)).bind (gOut rows limit rest) = fin := by rw [← gIn_cons]; exact h
theorem gfin_nil {rows limit : Int} {f : Nat} {st : GSt} {rest : List Int} {fin : Option GSt} (h : (gIn rows limit f st []).bind (gOut rows limit rest) = fin) : gOut rows limit rest st = fin := by rw [gIn_nil] at h; exact h
theorem gfin_zero {rows limit x : Int} {st : GSt} {q rest : List Int} {fin : Option GSt} (h : (gIn rows limit 0 st (x :: q)).bind (gOut rows limit rest) = fin) : fin = none := by rw [gIn_zero] at h; exact h.symm
theorem gfin_start {rows limit x : Int} {st : GSt} {zs : List Int} {j : Nat} {fin : Option GSt} (h : gOut rows limit (zs.drop j) st = fin) (hx : zs[j]? = some x) : (gIn rows limit (1000 - st.out.length) st [x]).bind (gOut rows limit (zs.drop (j + 1))) = fin := by
  obtain ⟨hlt, rfl⟩ := List.getElem?_eq_some_iff.1 hx
  rw [List.drop_eq_getElem_cons hlt, gOut_bind] at h
  exact h
theorem gfin_end {rows limit : Int} {st : GSt} {zs : List Int} {j : Nat} {fin : Option GSt} (h : gOut rows limit (zs.drop j) st = fin) (hj : zs.length ≤ j) : fin = some st := by
  rw [List.drop_eq_nil_of_le hj] at h
  exact h.symm
set_option maxRecDepth 100000 in
set_option maxHeartbeats 16000000 in
theorem sGuardedRun_c (rows k limit : Int) (A : Option Addr) (n c : Nat) (zs : List Int) (w : World) (h : Ints w A n zs) (hn : n ≤ 1048576) :
    Calls Try.prog 40 #[.int .i64 rows, .int .i64 k, .int .i64 limit, .slice A n c] w (NewLB (gList rows k limit zs) (gOk rows k limit zs) w) := by
  have bel : Below w.heap.size w w := Below.refl _ _
  have HZ := Lib.hid h.1
  go_enter Try.func40, Try.ntmps40
  go_wp2_with fail
  refine (sTrackerNew_c k _).mono ?_
  rintro e w1 ⟨A1, n1, c1, B1, m1, d1, u1, v1, u2, v2, rfl, o1, q1, ⟨ha1, ha2, ha3, ha4, hsep⟩, b1⟩
  have szw1 := b1.size
  replace bel := bel.trans (b1.mono bel.size)
  clear b1
  by_cases hk : inB k 1 16 = true
  case neg =>
    have hk' : inB k 1 16 = false := by simpa using hk
    have HR := Lib.hid (gRun_no (rows := rows) (k := k) (limit := limit) (pat := zs) (fun hh => hk hh.1))
    rw [hk']
    clear hk
    go_wp2_with fail
    refine abs_body ?_
    intro W9 hW
    have b9 : Below w.heap.size w W9 := by rw [hW]; exact (bel.alloc bel.size _).alloc (by have := bel.size; simp; omega) _
    clear hW
    go_ret2
    rw [HR.out.1, HR.out.2]
    exact ⟨_, 0, 0, rfl, OwnH.nil _ _ _ _, b9⟩
  have hk1 := inB_t hk
  rw [hk]
  go_wp2_with fail
  refine abs_call ?_
  intro W hW
  have szW : w1.heap.size + 1 ≤ W.heap.size := by rw [hW]; simp [World.setCell]
  have szW_ := bel.size
  replace bel : Below w.heap.size w W := by rw [hW]; exact (bel).alloc (by first | omega | (simp [World.setCell] <;> omega)) _
  have t : Box W w1.heap.size 132 #[.slice A1 n1 c1, .slice B1 m1 d1, .int .i64 0] := by rw [hW]; exact (Box.newAt (by simp [World.setCell]))
  replace o1 : OwnH W u1 v1 A1 n1 c1 (tnR k) := by rw [hW]; exact o1.alloc _
  replace q1 : OwnH W u2 v2 B1 m1 d1 (tnC k) := by rw [hW]; exact q1.alloc _
  clear hW
  refine (sPatternOk_c A n c zs rows _ (h.below bel) hn).mono ?_
  rintro e w' ⟨rfl, rfl⟩
  by_cases hp : patOk rows zs = true
  case neg =>
    have hp' : patOk rows zs = false := by simpa using hp
    have HR := Lib.hid (gRun_no (rows := rows) (k := k) (limit := limit) (pat := zs) (fun hh => hp hh.2.1))
    rw [hp']
    clear hp
    go_wp2_with fail
    refine abs_body ?_
    intro W9 hW
    have b9 : Below w.heap.size w W9 := by rw [hW]; exact bel.alloc bel.size _
    clear hW
    go_ret2
    rw [HR.out.1, HR.out.2]
    exact ⟨_, 0, 0, rfl, OwnH.nil _ _ _ _, b9⟩
  rw [hp]
  go_wp2_with fail
  refine (in_c limit 3 1000 _).mono ?_
  rintro e w' ⟨rfl, rfl⟩
  by_cases hl : inB limit 3 1000 = true
  case neg =>
    have hl' : inB limit 3 1000 = false := by simpa using hl
    have HR := Lib.hid (gRun_no (rows := rows) (k := k) (limit := limit) (pat := zs) (fun hh => hl hh.2.2))
    rw [hl']
    clear hl
    go_wp2_with fail
    refine abs_body ?_
    intro W9 hW
    have b9 : Below w.heap.size w W9 := by rw [hW]; exact bel.alloc bel.size _
    clear hW
    go_ret2
    rw [HR.out.1, HR.out.2]
    exact ⟨_, 0, 0, rfl, OwnH.nil _ _ _ _, b9⟩
  have hl1 := inB_t hl
  rw [hl]
  obtain ⟨fin, hfin⟩ : ∃ f, f = gOut rows limit zs (gZero k.toNat) := ⟨_, rfl⟩
  have HF : Hid (gRun rows k limit zs = fin) := by unfold Hid gRun; rw [if_pos ⟨hk, hp, hl⟩]; exact hfin.symm
  have HP := Lib.hid (patOk_in hp)
  obtain ⟨K, hK⟩ : ∃ K, K = k.toNat := ⟨_, rfl⟩
  have hK16 : 1 ≤ K ∧ K ≤ 16 := by omega
  have er : tnR k = List.replicate K (-1) := by unfold tnR; rw [if_pos hk, hK]
  have ec : tnC k = List.replicate K 0 := by unfold tnC; rw [if_pos hk, hK]
  rw [er] at o1
  rw [ec] at q1
  have hn1 : n1 = K := by have := o1.len; simpa using this.symm
  have hm1 : m1 = K := by have := q1.len; simpa using this.symm
  subst hn1
  subst hm1
  have HE0 : Hid (Est (gZero m1).rs (gZero m1).cs (gZero m1).s (gZero m1).out m1) := Est.new m1
  rw [← hK] at hfin
  have HFin : Hid (gOut rows limit (zs.drop 0) (gZero m1) = fin) := by unfold Hid; rw [List.drop_zero]; exact hfin.symm
  clear hfin er ec hk hp hl hK
  obtain ⟨hK1, hK16⟩ := hK16
  obtain ⟨r2, r16, -, -⟩ := HP.out
  go_wp2_with fail
  refine abs_code ?_
  intro W3 hW
  have szW3 : W.heap.size + 1 ≤ W3.heap.size := by rw [hW]; simp [World.setCell]
  have szW3_ := bel.size
  replace bel : Below w.heap.size w W3 := by rw [hW]; exact (bel).alloc (by first | omega | (simp [World.setCell] <;> omega)) _
  replace t : Box W3 w1.heap.size 132 #[.slice A1 (m1) c1, .slice B1 m1 d1, .int .i64 0] := by rw [hW]; exact t.alloc _
  replace o1 : OwnH W3 u1 v1 A1 m1 c1 (List.replicate m1 (-1)) := by rw [hW]; exact o1.alloc _
  replace q1 : OwnH W3 u2 v2 B1 m1 d1 (List.replicate m1 0) := by rw [hW]; exact q1.alloc _
  clear hW
  have szw1 : w1.heap.size < W3.heap.size := t.lt
  have szw : w.heap.size ≤ W3.heap.size := bel.size
  have S0 : SR w w1.heap.size A1 B1 m1 c1 d1 u1 v1 u2 v2 W3.heap.size (some ⟨W.heap.size, 0, none⟩) 0 0 (gZero m1) W3 := ⟨HE0.out, t, o1, q1, OwnI.nil _ _ _, bel, Nat.le_refl _⟩
  clear HE0 t o1 q1
  go_loopw [12, 13] (fun v i wr => ∃ (j : Nat) (st : GSt) (O : Option Addr) (L d : Nat), j ≤ n ∧ i = .int .i64 j ∧ v = .slice O L d ∧ L ≤ 1000 ∧ Hid (gOut rows limit (zs.drop j) st = fin) ∧ SR w w1.heap.size A1 B1 m1 c1 d1 u1 v1 u2 v2 W3.heap.size O L d st wr) (fun _ i _ => n - (intOf i).toNat)
  case atStart => exact ⟨0, gZero m1, _, 0, 0, Nat.zero_le _, rfl, rfl, by omega, HFin, S0⟩
  case round =>
    clear S0 HFin
    obtain ⟨j, st, O, L, d, hj, rfl, rfl, hL, HG, S⟩ := hrel
    by_cases hlt : j < n
    · obtain ⟨g, o, x, rfl, hcx, hx⟩ := (h.below S.bel).at_ hlt
      have HX := Lib.hid (HP.out.2.2.2 x (List.mem_of_getElem? hx.out))
      have HS := Lib.hid (gfin_start HG.out hx.out)
      have hLL := S.len
      rw [hLL] at HS
      have j0 : (0 : Int) ≤ (j : Int) := by omega
      have j1 : (j : Int) < (n : Int) := by omega
      clear HG hx
      go_wp2_with fail
      refine abs_code ?_
      intro W5 hW
      have b5 : Below wr.heap.size wr W5 := by rw [hW]; exact (Below.refl _ _).alloc (Nat.le_refl _) _
      have szr := S.sz
      have Q5 : OwnI W5 W3.heap.size (some ⟨wr.heap.size, 0, none⟩) 1 1 [x] := by rw [hW]; exact OwnI.lit1 wr _ szr x
      have hne : ∀ k, blk O d = some k → blk (some ⟨wr.heap.size, 0, none⟩) 1 ≠ some k := by
        intro k hk e
        rw [blk_at (by omega)] at e
        injection e with e
        have := S.o.lt k hk
        omega
      have S5 := S.below b5
      clear hW b5 S hcx
      go_loopw [12, 14] (fun v qv wr => ∃ (f : Nat) (st : GSt) (q : List Int) (Q : Option Addr) (m e : Nat) (O : Option Addr) (L d : Nat), v = .slice O L d ∧ qv = .slice Q m e ∧ f + L = 1000 ∧ m ≤ 2 * L + 1 ∧ Hid ((gIn rows limit f st q).bind (gOut rows limit (zs.drop (j + 1))) = fin) ∧ Hid (∀ x ∈ q, 0 ≤ x ∧ x < rows) ∧ SR w w1.heap.size A1 B1 m1 c1 d1 u1 v1 u2 v2 W3.heap.size O L d st wr ∧ OwnI wr W3.heap.size Q m e q ∧ (∀ k, blk O d = some k → blk Q e ≠ some k)) (fun v _ _ => 1000 - lenV v)
      case atStart => exact ⟨1000 - L, st, [x], _, 1, 1, O, L, d, rfl, rfl, by omega, by omega, HS, Lib.hid (by intro y hy; simp at hy; subst hy; exact HX.out), S5, Q5, hne⟩
      case round =>
        clear S5 Q5 hne HS HX hLL hL
        obtain ⟨f, st, q, Q, m, e, O, L, d, rfl, rfl, hfL, hm, HG, HQ, S, oQ, hne⟩ := hrel
        have HLq := Lib.hid oQ.len
        cases q with
        | nil =>
          obtain rfl : m = 0 := by have := HLq.out; simpa using this.symm
          have HG2 := Lib.hid (gfin_nil HG.out)
          go_wp2
          go_roundw
          case rel => exact ⟨j + 1, st, O, L, d, by omega, by go_num, rfl, by omega, HG2, S⟩
          case measure => simp [intOf]; omega
        | cons x q =>
          have hm0 : 0 < m := by have := HLq.out; simp at this; omega
          have hme := oQ.cap
          obtain ⟨gQ, oQ0, x', eQ, hcx, hx'⟩ := oQ.ints.at_ hm0
          obtain rfl : x = x' := by have := hx'.out; simpa using this
          subst eQ
          have hcx0 : wr.cell? ⟨gQ, oQ0, none⟩ = some (.int .i64 x) := by simpa using hcx
          have HX := Lib.hid (HQ.out x (by simp))
          obtain ⟨x0, x1⟩ := HX.out
          have t0 : decide ((0 : Int) < (m : Int)) = true := by simpa using hm0
          have m1' : (1 : Int) ≤ (m : Int) := by omega
          have e1' : (1 : Int) ≤ (e : Int) := by omega
          have szr := S.sz
          have iQ := oQ.ints
          have hlen63 : m ≤ 2001 := by omega
          clear hcx hx'
          have S6a := S.below (((Below.refl _ _).alloc (Nat.le_refl _) (.cells #[] 3)) : Below wr.heap.size wr (wr.alloc (.cells #[] 3)))
          have iQ6 := iQ.below (((Below.refl _ _).alloc (Nat.le_refl _) (.cells #[] 3)) : Below wr.heap.size wr (wr.alloc (.cells #[] 3)))
          by_cases hf : f = 0
          · subst hf
            have hL0 : L = 1000 := by omega
            subst hL0
            have HN := Lib.hid (gRun_none (HF.out.trans (gfin_zero HG.out)))
            go_wp2_with (at_builtin; refine wpList_appI rfl (.tmp 54) (.tmp 56) 26 rfl Try.underlying26 infoInt _ 0 0 W3.heap.size [] rfl (OwnI.nil _ _ _) (cutAt (some ⟨gQ, oQ0, none⟩) e 1 1) (m - 1) (e - 1) q rfl (iQ6.drop1 (cut_one hme.1)) (by omega) S6a.sz ?_; intro Q7 e7 w7 o7 g7 at7; rw [Nat.zero_add] at o7 ⊢; have S7 := S6a.grown g7 (fun k hk => by rw [blk_zero] at hk; cases hk) szw1 (by omega) (by omega) szw)
            all_goals
              refine abs_body ?_
              intro W9 hW
              have b9 : Below w.heap.size w W9 := by rw [hW]; exact S7.bel.alloc S7.bel.size _
              clear hW
              go_ret2
              rw [HN.out.1, HN.out.2]
              exact ⟨_, 0, 0, rfl, OwnH.nil _ _ _ _, b9⟩
          · obtain ⟨f', rfl⟩ : ∃ f', f = f' + 1 := ⟨f - 1, by omega⟩
            have hL1 : L < 1000 := by omega
            have tL : decide ((1000 : Int) ≤ (L : Int)) = false := by simp; omega
            have HG2 := Lib.hid (gfin_cons HG.out)
            clear HG hf
            go_wp2_with (first | (at_builtin; refine wpList_appI rfl (.tmp 54) (.tmp 56) 26 rfl Try.underlying26 infoInt _ 0 0 W3.heap.size [] rfl (OwnI.nil _ _ _) (cutAt (some ⟨gQ, oQ0, none⟩) e 1 1) (m - 1) (e - 1) q rfl (iQ6.drop1 (cut_one hme.1)) (by omega) S6a.sz ?_; intro Q7 e7 w7 o7 g7 at7; rw [Nat.zero_add] at o7 ⊢; have S7 := S6a.grown g7 (fun k hk => by rw [blk_zero] at hk; cases hk) szw1 (by omega) (by omega) szw; have s7 := g7.size; clear hcx0) | (at_builtin; refine wpList_app1 rfl (.tmp 62) (.tmp 64) 26 rfl Try.underlying26 infoInt O L d W3.heap.size st.out rfl (S7.o.alloc _) w7.heap.size x rfl (by simp) (by omega) (by have := S7.sz; simp; omega) ?_; intro O8 d8 w8 o8 g8 at8; have ba : Below w7.heap.size w7 (w7.alloc (.cells #[.int .i64 x] 3)) := (Below.refl _ _).alloc (Nat.le_refl _) _; have S8 := S7.below ba; have T8 := S8.app g8 o8 szw1 (by omega) (by omega) szw) | fail)
            all_goals
              have o7' : OwnI w7 W3.heap.size Q7 (m - 1) e7 q := by simpa using o7
              have s8 := g8.size
              simp at s7 s8
              have hQ7 : ∀ k, blk Q7 e7 = some k → wr.heap.size ≤ k ∧ k < w7.heap.size := by
                intro k hk
                have h1 := o7'.lt k hk
                rcases at7 with at7 | at7
                · rw [at7, blk_zero] at hk; cases hk
                · rw [at7] at hk; injection hk with hk; simp at hk; omega
              have hOd : ∀ k, blk O d = some k → k < wr.heap.size := fun k hk => (S.o.lt k hk).2
              have hne8 : ∀ k, blk O8 d8 = some k → blk Q7 e7 ≠ some k := by
                intro k hk e
                have h7 := hQ7 k e
                rcases at8 with at8 | at8
                · rw [at8] at hk
                  have := hOd k hk
                  omega
                · rw [at8] at hk; injection hk with hk; simp at hk; omega
              have o8q : OwnI w8 W3.heap.size Q7 (m - 1) e7 q := (o7'.alloc _).kept g8 (fun k hk e => by have := hOd k e.symm; have := hQ7 k hk; omega)
              obtain ⟨t8, a8, b8, bel8, sz8⟩ := T8
              have HEn := Lib.hid (S.est.nums (by have := S.len; omega))
              have est8 : Est (gStep st x).rs (gStep st x).cs (gStep st x).s (gStep st x).out m1 := S.est.step (row := x) x0 (by omega)
              have HES := Lib.hid est8
              have HLC := Lib.hid (show st.cs.length = st.rs.length by rw [S.est.clen, S.est.rlen])
              have HRL := Lib.hid S.est.rlen
              clear S7 S8 S6a S iQ6 iQ oQ g7 g8 at7 at8 hOd o7 o7' est8 hne HLq
              refine (l16Track_c w1.heap.size A1 B1 m1 c1 d1 u1 v1 u2 v2 st.rs st.cs st.s x _ t8 a8 b8 hK16 (.inr ha2) (.inr ha4) hsep HEn.out.1 (by have := HEn.out.2.1; omega) (fun i y hy => by have := HEn.out.2.2 i y hy; omega)).mono ?_
              rintro e w9 ⟨rfl, t9, a9, b9, bl9, bh9⟩
              have s9 : w8.heap.size ≤ w9.heap.size := (bl9 0 w8 (Below.refl _ _) (Nat.zero_le _) (Nat.zero_le _) (Nat.zero_le _)).size
              have hbh : ∀ g, g < w8.heap.size → W3.heap.size ≤ g → w9.heap[g]? = w8.heap[g]? := fun g h1 h2 => bh9 g h1 (by omega) (.inr (by omega)) (.inr (by omega))
              have o9 := own_keep o8 hbh
              have q9 := own_keep o8q hbh
              have bel9 := bl9 _ _ bel8 (by omega) (by omega) (by omega)
              have S9 : SR w w1.heap.size A1 B1 m1 c1 d1 u1 v1 u2 v2 W3.heap.size O8 (L + 1) d8 (gStep st x) w9 := ⟨HES.out, t9, a9, b9, o9, bel9, by omega⟩
              clear hbh bl9 bh9 o8 o8q t8 a8 b8 bel8 o9 bel9
              by_cases hI : x ∈ st.rs ∨ st.s ∈ st.cs
              · obtain ⟨k', y, kn, eI, hy⟩ := trk_at hI HLC.out
                have kn' : k' < m1 := by have := HRL.out; omega
                rw [eI]
                have HH := Lib.hid (gHit_k (limit := limit) eI hy)
                have HY := Lib.hid hy
                clear eI hy kn hI
                obtain ⟨gB, y', eB, hcy, -, hy', -, -⟩ := b9.at_ kn'
                subst eB
                obtain rfl : y' = y := by have := hy'.out.symm.trans HY.out; injection this
                clear hy'
                obtain ⟨t9_0, t9_1, t9_2⟩ := t9.c3
                have k0 : (0 : Int) ≤ (k' : Int) := by omega
                have k1 : (k' : Int) < (m1 : Int) := by omega
                have l0 : limit ≠ 0 := by omega
                cases hh : (y'.tmod limit == 0)
                · have HNx := Lib.hid (gNext_no (rows := rows) (q := q) (HH.out.trans hh))
                  go_wp2
                  go_roundw
                  case rel => exact ⟨f', gStep st x, _, Q7, m - 1, e7, O8, L + 1, d8, rfl, rfl, by omega, by omega, HG2, Lib.hid (gNext_in (fun z hz => HQ.out z (List.mem_cons_of_mem _ hz))), S9, by rw [HNx.out]; exact q9, hne8⟩
                  case measure => simp [lenV]; omega
                · have HNx := Lib.hid (gNext_yes (rows := rows) (q := q) (HH.out.trans hh))
                  go_wp2_with fail
                  refine (l16Near_c W3.heap.size Q7 (m - 1) e7 q rows x _ q9 (by omega) (by omega)).mono ?_
                  rintro e w10 ⟨Q10, m10, e10, rfl, o10, g10, hb10, hm10⟩
                  have S10 := S9.grown g10 (fun k hk => ⟨(q9.lt k hk).1, fun e => hne8 k e hk⟩) szw1 (by omega) (by omega) szw
                  have hO8 := S9.o.lt
                  go_wp2
                  go_roundw
                  case rel =>
                    refine ⟨f', gStep st x, _, Q10, m10, e10, O8, L + 1, d8, rfl, rfl, by omega, by omega, HG2, Lib.hid (gNext_in (fun z hz => HQ.out z (List.mem_cons_of_mem _ hz))), S10, by rw [HNx.out]; exact o10, ?_⟩
                    intro k hk e
                    rcases hb10 with hb10 | hb10
                    · rw [hb10] at e; exact hne8 k hk e
                    · have := hb10 k e; have := hO8 k hk; omega
                  case measure => simp [lenV]; omega
              · have eI : trkI st.rs st.cs st.s x = -1 := (trk_spill (fun h => hI (.inl h)) (fun h => hI (.inr h))).2.2.2.2.2
                have HNx := Lib.hid (gNext_no (rows := rows) (q := q) (gHit_no (limit := limit) eI))
                obtain ⟨z, hz⟩ : ∃ z : Int, z = -1 := ⟨_, rfl⟩
                rw [← hz] at eI
                have hneg : decide (0 ≤ z) = false := by rw [hz]; rfl
                rw [eI]
                clear eI hI hz
                go_wp2
                go_roundw
                case rel => exact ⟨f', gStep st x, _, Q7, m - 1, e7, O8, L + 1, d8, rfl, rfl, by omega, by omega, HG2, Lib.hid (gNext_in (fun z hz => HQ.out z (List.mem_cons_of_mem _ hz))), S9, by rw [HNx.out]; exact q9, hne8⟩
                case measure => simp [lenV]; omega
    · obtain rfl : n = j := by omega
      have HN := Lib.hid (gRun_some (HF.out.trans (gfin_end HG.out (by rw [HZ.out]; omega))))
      go_wp2
      go_ret2
      rw [HN.out.1, HN.out.2]
      exact ⟨O, L, d, rfl, OwnH.mk' (S.o.mono szw), S.bel⟩
end Go.Proofs.Ytbapamfomfbmmaa
