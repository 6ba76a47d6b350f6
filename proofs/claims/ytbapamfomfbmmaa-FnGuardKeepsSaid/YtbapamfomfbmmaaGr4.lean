/-
  What the program's guarded run holds in memory; the contract of its closure.
-/
import Derived.Test.YtbapamfomfbmmaaGr3
namespace Go.Proofs.Ytbapamfomfbmmaa
open Go.RowKit
set_option linter.unusedSimpArgs false
set_option linter.unusedVariables false

/-- The variables of the run: all apart, in the call's own memory, older than lo. -/
structure PtOk (base : World) (lo po pt pl pr pq : Nat) : Prop where
  base_lo : base.heap.size ≤ lo
  o : base.heap.size ≤ po ∧ po < lo
  t : base.heap.size ≤ pt ∧ pt < lo
  l : base.heap.size ≤ pl ∧ pl < lo
  r : base.heap.size ≤ pr ∧ pr < lo
  q : base.heap.size ≤ pq ∧ pq < lo
  n1 : po ≠ pt ∧ po ≠ pl ∧ po ≠ pr ∧ po ≠ pq
  n2 : pt ≠ pl ∧ pt ≠ pr ∧ pt ≠ pq
  n3 : pl ≠ pr ∧ pl ≠ pq ∧ pr ≠ pq
/-- A slice that is only read lies apart from what changes. -/
def Far (po pt pq : Nat) (bo bq : Option Nat) (A : Option Addr) : Prop := ∀ g o, A = some ⟨g, o, none⟩ → g ≠ po ∧ g ≠ pt ∧ g ≠ pq ∧ bo ≠ some g ∧ bq ≠ some g
structure AR (base : World) (lo po pt pl pr pq K : Nat) (limit rows : Int) (O : Option Addr) (L d : Nat) (A : Option Addr) (c : Nat) (B : Option Addr) (e : Nat) (Q : Option Addr) (m f : Nat) (rs cs : List Int) (s : Int) (out q : List Int) (w : World) : Prop where
  bo : Box w po 26 #[.slice O L d]
  bt : Box w pt 132 #[.slice A K c, .slice B K e, .int .i64 s]
  bl : Box w pl 3 #[.int .i64 limit]
  br : Box w pr 3 #[.int .i64 rows]
  bq : Box w pq 26 #[.slice Q m f]
  o : OwnI w lo O L d out
  a : Ints w A K rs
  b : Ints w B K cs
  q : OffI w lo Q m f q
  ne : ∀ k, blk O d = some k → blk Q f ≠ some k
  na : Far po pt pq (blk O d) (blk Q f) A
  nb : Far po pt pq (blk O d) (blk Q f) B
  bel : Below base.heap.size base w
  sz : lo ≤ w.heap.size
section
variable {base : World} {lo po pt pl pr pq K : Nat} {limit rows : Int} {O : Option Addr} {L d : Nat} {A : Option Addr} {c : Nat} {B : Option Addr} {e : Nat} {Q : Option Addr} {m f : Nat} {rs cs : List Int} {s : Int} {out q : List Int} {w w' : World}
theorem AR.below (h : AR base lo po pt pl pr pq K limit rows O L d A c B e Q m f rs cs s out q w) (b : Below w.heap.size w w') : AR base lo po pt pl pr pq K limit rows O L d A c B e Q m f rs cs s out q w' :=
  ⟨h.bo.kept b, h.bt.kept b, h.bl.kept b, h.br.kept b, h.bq.kept b, h.o.below b, h.a.below b, h.b.below b, h.q.below b, h.ne, h.na, h.nb, h.bel.trans (b.mono h.bel.size), Nat.le_trans h.sz b.size⟩
theorem ints_grown {w w' : World} {A : Option Addr} {n : Nat} {zs : List Int} {row : Option Nat} (h : Ints w A n zs) (hg : w.grownBy w' row) (hne : ∀ g o, A = some ⟨g, o, none⟩ → row ≠ some g) : Ints w' A n zs :=
  h.grown hg (fun g o e h2 => hne g o e h2.symm)
theorem Ints.lt {w : World} {A : Option Addr} {n : Nat} {zs : List Int} (h : Ints w A n zs) (hn : 0 < n) : ∀ g o, A = some ⟨g, o, none⟩ → g < w.heap.size := by
  intro g o e
  obtain ⟨g', o', e', hg, -⟩ := h.2 hn
  rw [e] at e'
  injection e' with e'
  injection e' with e1 _
  omega
/-- The new list of activations is stored. -/
theorem AR.pushO {O' : Option Addr} {L' d' : Nat} {out' : List Int} (P : PtOk base lo po pt pl pr pq) (h : AR base lo po pt pl pr pq K limit rows O L d A c B e Q m f rs cs s out q w) (hK : 0 < K)
    (g : w.grownBy w' (blk O d)) (o : OwnI w' lo O' L' d' out') (hat : blk O' d' = blk O d ∨ ∀ k, blk O' d' = some k → w.heap.size ≤ k) :
    AR base lo po pt pl pr pq K limit rows O' L' d' A c B e Q m f rs cs s out' q (w'.setCell ⟨po, 0, none⟩ (.slice O' L' d')) := by
  have hlo := h.o.lt
  have hq := h.q.lt
  have sz := h.sz
  have g1 : ∀ k, blk O d = some k → lo ≤ k := fun k hk => (hlo k hk).1
  have P1 := P.o; have P2 := P.t; have P3 := P.l; have P4 := P.r; have P5 := P.q; have P6 := P.n1; have P7 := P.base_lo
  have nO : ∀ k, k < lo → some k ≠ blk O d := fun k hk e' => by have := g1 k e'.symm; omega
  have far : ∀ {X : Option Addr} {zs : List Int}, Ints w X K zs → Far po pt pq (blk O d) (blk Q f) X → Far po pt pq (blk O' d') (blk Q f) X := by
    intro X zs hX hF g' o' e'
    obtain ⟨f1, f2, f3, f4, f5⟩ := hF g' o' e'
    refine ⟨f1, f2, f3, fun e2 => ?_, f5⟩
    rcases hat with hat | hat
    · rw [hat] at e2; exact f4 e2
    · have := hat g' e2
      have := hX.lt hK g' o' e'
      omega
  refine ⟨?_, ?_, ?_, ?_, ?_, ?_, ?_, ?_, ?_, ?_, far h.a h.na, far h.b h.nb, ?_, ?_⟩
  · exact (h.bo.grown g (nO _ P1.2)).set_ 0 _
  · exact (h.bt.grown g (nO _ P2.2)).far (by dsimp only; omega) _
  · exact (h.bl.grown g (nO _ P3.2)).far (by dsimp only; omega) _
  · exact (h.br.grown g (nO _ P4.2)).far (by dsimp only; omega) _
  · exact (h.bq.grown g (nO _ P5.2)).far (by dsimp only; omega) _
  · exact o.setCell _ _ (fun k hk => by have := o.lt k hk; dsimp only; omega)
  · exact (ints_grown h.a g (fun g' o' e' => (h.na g' o' e').2.2.2.1)).setCell _ _ (fun g' o' e' _ => (h.na g' o' e').1)
  · exact (ints_grown h.b g (fun g' o' e' => (h.nb g' o' e').2.2.2.1)).setCell _ _ (fun g' o' e' _ => (h.nb g' o' e').1)
  · exact (h.q.kept g (fun k hk e' => h.ne k e'.symm hk)).setCell _ _ (fun k hk => by have := hq k hk; dsimp only; omega)
  · intro k hk e'
    rcases hat with hat | hat
    · rw [hat] at hk; exact h.ne k hk e'
    · have := hat k hk; have := hq k e'; omega
  · have C : Chg lo w.heap.size w w' := Chg.of_grown g (fun k hk => hlo k hk)
    exact (C.below h.bel P7).setCell (by dsimp only; omega) _
  · have := g.size; simp [World.setCell]; omega
/-- The new queue is stored. -/
theorem AR.pushQ {Q' : Option Addr} {m' f' : Nat} {q' : List Int} (P : PtOk base lo po pt pl pr pq) (h : AR base lo po pt pl pr pq K limit rows O L d A c B e Q m f rs cs s out q w) (hK : 0 < K)
    (g : w.grownBy w' (blk Q f)) (o : OffI w' lo Q' m' f' q') (hat : blk Q' f' = blk Q f ∨ ∀ k, blk Q' f' = some k → w.heap.size ≤ k) :
    AR base lo po pt pl pr pq K limit rows O L d A c B e Q' m' f' rs cs s out q' (w'.setCell ⟨pq, 0, none⟩ (.slice Q' m' f')) := by
  have hlo := h.o.lt
  have hq := h.q.lt
  have sz := h.sz
  have g1 : ∀ k, blk Q f = some k → lo ≤ k := fun k hk => (hq k hk).1
  have P1 := P.o; have P2 := P.t; have P3 := P.l; have P4 := P.r; have P5 := P.q; have P6 := P.n1; have P8 := P.n2; have P9 := P.n3; have P7 := P.base_lo
  have nO : ∀ k, k < lo → some k ≠ blk Q f := fun k hk e' => by have := g1 k e'.symm; omega
  have far : ∀ {X : Option Addr} {zs : List Int}, Ints w X K zs → Far po pt pq (blk O d) (blk Q f) X → Far po pt pq (blk O d) (blk Q' f') X := by
    intro X zs hX hF g' o' e'
    obtain ⟨f1, f2, f3, f4, f5⟩ := hF g' o' e'
    refine ⟨f1, f2, f3, f4, fun e2 => ?_⟩
    rcases hat with hat | hat
    · rw [hat] at e2; exact f5 e2
    · have := hat g' e2
      have := hX.lt hK g' o' e'
      omega
  refine ⟨?_, ?_, ?_, ?_, ?_, ?_, ?_, ?_, ?_, ?_, far h.a h.na, far h.b h.nb, ?_, ?_⟩
  · exact (h.bo.grown g (nO _ P1.2)).far (by dsimp only; omega) _
  · exact (h.bt.grown g (nO _ P2.2)).far (by dsimp only; omega) _
  · exact (h.bl.grown g (nO _ P3.2)).far (by dsimp only; omega) _
  · exact (h.br.grown g (nO _ P4.2)).far (by dsimp only; omega) _
  · exact (h.bq.grown g (nO _ P5.2)).set_ 0 _
  · exact (h.o.kept g (fun k hk e' => h.ne k hk e'.symm)).setCell _ _ (fun k hk => by have := hlo k hk; dsimp only; omega)
  · exact (ints_grown h.a g (fun g' o' e' => (h.na g' o' e').2.2.2.2)).setCell _ _ (fun g' o' e' _ => (h.na g' o' e').2.2.1)
  · exact (ints_grown h.b g (fun g' o' e' => (h.nb g' o' e').2.2.2.2)).setCell _ _ (fun g' o' e' _ => (h.nb g' o' e').2.2.1)
  · exact o.setCell _ _ (fun k hk => by have := o.lt k hk; dsimp only; omega)
  · intro k hk e'
    rcases hat with hat | hat
    · rw [hat] at e'; exact h.ne k hk e'
    · have := hat k e'; have := hlo k hk; omega
  · have C : Chg lo w.heap.size w w' := Chg.of_grown g (fun k hk => hq k hk)
    exact (C.below h.bel P7).setCell (by dsimp only; omega) _
  · have := g.size; simp [World.setCell]; omega
/-- The queue without its head is stored. -/
theorem AR.cutQ {x : Int} (P : PtOk base lo po pt pl pr pq) (h : AR base lo po pt pl pr pq K limit rows O L d A c B e Q m f rs cs s out (x :: q) w) (hK : 0 < K) :
    AR base lo po pt pl pr pq K limit rows O L d A c B e (cutAt Q f 1 1) (m - 1) (f - 1) rs cs s out q (w.setCell ⟨pq, 0, none⟩ (.slice (cutAt Q f 1 1) (m - 1) (f - 1))) := by
  have hlo := h.o.lt
  have hq := h.q.lt
  have P1 := P.o; have P2 := P.t; have P3 := P.l; have P4 := P.r; have P5 := P.q; have P6 := P.n1; have P8 := P.n2; have P9 := P.n3; have P7 := P.base_lo
  have sz := h.sz
  refine ⟨?_, ?_, ?_, ?_, ?_, ?_, ?_, ?_, ?_, ?_, ?_, ?_, ?_, ?_⟩
  · exact h.bo.far (by dsimp only; omega) _
  · exact h.bt.far (by dsimp only; omega) _
  · exact h.bl.far (by dsimp only; omega) _
  · exact h.br.far (by dsimp only; omega) _
  · exact h.bq.set_ 0 _
  · exact h.o.setCell _ _ (fun k hk => by have := hlo k hk; dsimp only; omega)
  · exact h.a.setCell _ _ (fun g' o' e' _ => (h.na g' o' e').2.2.1)
  · exact h.b.setCell _ _ (fun g' o' e' _ => (h.nb g' o' e').2.2.1)
  · exact h.q.cut.setCell _ _ (fun k hk => by have := hq k (cut_blk hk); dsimp only; omega)
  · intro k hk e'; exact h.ne k hk (cut_blk e')
  · intro g' o' e'
    obtain ⟨f1, f2, f3, f4, f5⟩ := h.na g' o' e'
    exact ⟨f1, f2, f3, f4, fun e2 => f5 (cut_blk e2)⟩
  · intro g' o' e'
    obtain ⟨f1, f2, f3, f4, f5⟩ := h.nb g' o' e'
    exact ⟨f1, f2, f3, f4, fun e2 => f5 (cut_blk e2)⟩
  · exact h.bel.setCell (by dsimp only; omega) _
  · simpa [World.setCell] using sz
/-- The next tracker is stored. -/
theorem AR.setT {A' : Option Addr} {c' : Nat} {B' : Option Addr} {e' l1 h1 l2 h2 : Nat} {rs' cs' : List Int} {s' : Int} {t : TypeId} {v : Array Value} (P : PtOk base lo po pt pl pr pq) (h : AR base lo po pt pl pr pq K limit rows O L d A c B e Q m f rs cs s out q w) (hK : 0 < K)
    (b : Below w.heap.size w w') (oA : OwnH w' l1 h1 A' K c' rs') (oB : OwnH w' l2 h2 B' K e' cs') (a1 : w.heap.size ≤ l1) (a2 : w.heap.size ≤ l2) :
    AR base lo po pt pl pr pq K limit rows O L d A' c' B' e' Q m f rs' cs' s' out q ((((w'.setCell ⟨pt, 0, none⟩ (.slice A' K c')).setCell ⟨pt, 1, none⟩ (.slice B' K e')).setCell ⟨pt, 2, none⟩ (.int .i64 s')).alloc (.cells v t)) := by
  have hlo := h.o.lt
  have hq := h.q.lt
  have P1 := P.o; have P2 := P.t; have P3 := P.l; have P4 := P.r; have P5 := P.q; have P6 := P.n1; have P8 := P.n2; have P9 := P.n3; have P7 := P.base_lo
  have sz := h.sz
  have H := h.below b
  refine AR.below (w := ((w'.setCell ⟨pt, 0, none⟩ (.slice A' K c')).setCell ⟨pt, 1, none⟩ (.slice B' K e')).setCell ⟨pt, 2, none⟩ (.int .i64 s')) ?_ ((Below.refl _ _).alloc (Nat.le_refl _) _)
  have far : ∀ {X : Option Addr} {zs : List Int} {lx hx cx : Nat}, OwnH w' lx hx X K cx zs → w.heap.size ≤ lx → Far po pt pq (blk O d) (blk Q f) X := by
    intro X zs lx hx cx oX hl g' o' e2
    have hc : cx ≠ 0 := by have := oX.1.cap; omega
    obtain ⟨gg, e3, h3, h4⟩ := OwnV.form oX.1 hc
    rw [e3] at e2
    injection e2 with e2
    injection e2 with e2 _
    subst e2
    refine ⟨by omega, by omega, by omega, fun e4 => ?_, fun e4 => ?_⟩
    · have := hlo gg e4; omega
    · have := hq gg e4; omega
  have Xa : Ints w' A' K rs' := oA.ints
  have Xb : Ints w' B' K cs' := oB.ints
  have fA := far oA a1
  have fB := far oB a2
  refine ⟨?_, ?_, ?_, ?_, ?_, ?_, ?_, ?_, ?_, h.ne, fA, fB, ?_, ?_⟩
  · exact ((H.bo.far (by dsimp only; omega) _).far (by dsimp only; omega) _).far (by dsimp only; omega) _
  · exact box_s3 H.bt
  · exact ((H.bl.far (by dsimp only; omega) _).far (by dsimp only; omega) _).far (by dsimp only; omega) _
  · exact ((H.br.far (by dsimp only; omega) _).far (by dsimp only; omega) _).far (by dsimp only; omega) _
  · exact ((H.bq.far (by dsimp only; omega) _).far (by dsimp only; omega) _).far (by dsimp only; omega) _
  · exact own_s3 H.o P2.2
  · exact ((Xa.setCell _ _ (fun g' o' e2 _ => (fA g' o' e2).2.1)).setCell _ _ (fun g' o' e2 _ => (fA g' o' e2).2.1)).setCell _ _ (fun g' o' e2 _ => (fA g' o' e2).2.1)
  · exact ((Xb.setCell _ _ (fun g' o' e2 _ => (fB g' o' e2).2.1)).setCell _ _ (fun g' o' e2 _ => (fB g' o' e2).2.1)).setCell _ _ (fun g' o' e2 _ => (fB g' o' e2).2.1)
  · have hh := H.q.lt
    exact ((H.q.setCell _ _ (fun k hk => by have := hh k hk; dsimp only; omega)).setCell _ _ (fun k hk => by have := hh k hk; dsimp only; omega)).setCell _ _ (fun k hk => by have := hh k hk; dsimp only; omega)
  · exact ((H.bel.setCell (by dsimp only; omega) _).setCell (by dsimp only; omega) _).setCell (by dsimp only; omega) _
  · have := H.sz; simpa [World.setCell] using this
end
set_option maxHeartbeats 1000000 in
theorem contains_c (A : Option Addr) (n c : Nat) (zs : List Int) (x : Int) (w : World) (h : Ints w A n zs) (hn : n ≤ 1048576) :
    Calls Try.prog 101 #[.slice A n c, .int .i64 x] w fun e w' => e = .returned (.bool (decide (x ∈ zs))) ∧ w = w' := by
  have hd : Hid (decide (0 ≤ idxI zs x) = decide (x ∈ zs)) := by
    unfold Hid
    by_cases hm : x ∈ zs
    · obtain ⟨k, -, -, -, e⟩ := mem_idx hm
      rw [e]; simp [hm]
    · rw [idxI_none hm]; simp [hm]
  go_enter Try.func101, Try.ntmps101
  go_wp2_with fail
  refine (index_c A n c zs x _ h hn).mono ?_
  rintro e w' ⟨rfl, rfl⟩
  go_wp2
  go_ret
  exact ⟨ret_bool hd.out, rfl⟩
theorem Est.full {rs cs zs : List Int} {s row limit : Int} {k : Nat} (h : Est rs cs s zs k) (h1 : 1 ≤ k) (h2 : k ≤ 16) (hz : zs.length < 100000) (r0 : 0 ≤ row) (r1 : row ≤ 15) (l0 : 2 ≤ limit) (l1 : limit ≤ 1000) :
    trkR' rs cs s row limit = trkR rs cs s row ∧ trkC' rs cs s row limit = trkC rs cs s row ∧ trkS' rs cs s row limit = trkS rs cs s row ∧ trkFull rs cs s row limit = gHit limit ⟨rs, cs, s, zs⟩ row := by
  have ht := h.took h1 h2 hz r0 r1 l0 l1
  obtain ⟨e1, e2, e3⟩ := trk_yes ht
  refine ⟨e1, e2, e3, ?_⟩
  unfold trkFull gHit
  rw [ht]
  rfl
end Go.Proofs.Ytbapamfomfbmmaa
