/-
  RankNew of the reference; the plain law of closed banks.
-/
import Derived.Test.YtbapamfomfbmmaaPagB
import Derived.Test.YtbapamfomfbmmaaGeoD
import Derived.Test.YtbapamfomfbmmaaGeo
import Derived.Test.YtbapamfomfbmmaaPlc
import Derived.Deep.DeepCutAuto
namespace Go.Proofs.Ytbapamfomfbmmaa
open Go.RowKit
set_option linter.unusedSimpArgs false
set_option linter.unusedVariables false

/-- The banks of a new rank, one of them open. -/
def oneOpen (nb b : Nat) (R : Int) : List Bnk := (List.replicate nb (⟨false, 0⟩ : Bnk)).set b ⟨true, R⟩
theorem oneOpen_len (nb b : Nat) (R : Int) : (oneOpen nb b R).length = nb := by simp [oneOpen]
theorem oneOpen_at {nb b : Nat} (R : Int) (hb : b < nb) : (oneOpen nb b R)[b]? = some ⟨true, R⟩ := by unfold oneOpen; exact List.getElem?_set_self (by simpa using hb)
theorem oneOpen_ne {nb b k : Nat} (R : Int) (hk : k < nb) (hne : k ≠ b) : (oneOpen nb b R)[k]? = some ⟨false, 0⟩ := by
  unfold oneOpen
  rw [List.getElem?_set_ne (by omega)]
  simp [hk]
theorem oneOpen_row {nb b : Nat} {R : Int} (hb : b < nb) : rowOf (oneOpen nb b R) b = R := by
  have h1 := oneOpen_at R hb
  have h2 : isOpen (oneOpen nb b R) b = true := open_at h1 (inB_mk (by omega) (by rw [oneOpen_len]; omega))
  exact rowOf_at h1 h2
theorem oneOpen_hit {nb b : Nat} {R Q : Int} (hb : b < nb) (hQ : 0 ≤ Q) : hitB (oneOpen nb b R) b Q = (R == Q) := by
  unfold hitB
  rw [oneOpen_row hb]
  have : (Q != -1) = true := by simp; omega
  rw [this, Bool.true_and]
theorem oneOpen_keep {nb b k : Nat} {R : Int} {ws : List Adr} (hk : k < nb) (hne : k ≠ b) : keepB (oneOpen nb b R) ws k = true := by
  unfold keepB
  rw [getBnk (oneOpen_ne R hk hne)]
  rfl
theorem oneOpen_want {nb b : Nat} {R Q : Int} (hb : b < nb) : keepB (oneOpen nb b R) [⟨b, Q, 0⟩] b = (Q == R) := by
  unfold keepB wantB
  rw [getBnk (oneOpen_at R hb)]
  simp
/-- All that the law of closed banks asks. -/
structure Closes (nb b : Nat) (R Q : Int) : Prop where
  one : closeB (oneOpen nb b R) 1 [⟨b, Q, 0⟩] = if Q = R then -1 else (b : Int)
  none : closeB (oneOpen nb b R) 1 [] = b
  off : closeB (oneOpen nb b R) 0 [] = -1
  hitQ : hitB (oneOpen nb b R) b Q = (R == Q)
  hitR : hitB (oneOpen nb b R) b R = true
theorem closes {nb b : Nat} {R Q : Int} (hb : b < nb) (hR : 0 ≤ R) (hQ : 0 ≤ Q) : Closes nb b R Q := by
  refine ⟨?_, ?_, close_off (by omega), oneOpen_hit hb hQ, by rw [oneOpen_hit hb hR]; simp⟩
  · split
    · rename_i h
      subst h
      refine close_none fun j hj => ?_
      rw [oneOpen_len] at hj
      by_cases hjb : j = b
      · subst hjb; rw [oneOpen_want hb]; simp
      · exact oneOpen_keep hj hjb
    · rename_i h
      exact close_at (by rw [oneOpen_len]; exact hb) (fun j hj => oneOpen_keep (by omega) (by omega)) (by rw [oneOpen_want hb]; simpa using h)
  · refine close_at (by rw [oneOpen_len]; exact hb) (fun j hj => oneOpen_keep (by omega) (by omega)) ?_
    unfold keepB wantB
    rw [getBnk (oneOpen_at R hb)]
    simp

theorem bel_dd {B : Nat} {w X : World} (h : Below B w X) : Below B w X.drew := belowN h 1
theorem OwnH.drr {w : World} {lo hi n c : Nat} {A : Option Addr} {zs : List Int} (h : OwnH w lo hi A n c zs) : OwnH w.drew lo hi A n c zs := h
theorem OwnBnk.drr {w : World} {lo hi n c : Nat} {A : Option Addr} {rs : List Bnk} (h : OwnBnk w lo hi A n c rs) : OwnBnk w.drew lo hi A n c rs := h
theorem below_nxt {W X Y : World} (h : Below W.heap.size W X) (b : Below X.heap.size X Y) : Below W.heap.size W Y := h.trans (b.mono h.size)
theorem infoBk : (Try.prog.info? 46).map (fun i => (i.zero, i.size, i.bytes)) = some (some (.agg #[.bool false, .int .i64 0]), 2, 16) := by kernel_rfl
theorem madeBk (m : Nat) : (madeCells (Value.agg #[.bool false, .int .i64 0]).cells (m * 2)).toList = (List.replicate m (⟨false, 0⟩ : Bnk)).flatMap Bnk.cs :=
  made_flat (by omega) Bnk.cs_len ⟨false, 0⟩ _ rfl m
theorem adrs_one {w : World} {g : Nat} {t : TypeId} {x y z : Int} (h : Box w g t #[.int .i64 x, .int .i64 y, .int .i64 z]) : Adrs w (some ⟨g, 0, none⟩) 1 [⟨x, y, z⟩] := by
  refine ⟨rfl, fun _ => ⟨g, 0, rfl, h.lt, fun j hj => ?_⟩⟩
  rw [Nat.zero_add]
  obtain ⟨c0, c1, c2⟩ := h.c3
  obtain rfl | rfl | rfl : j = 0 ∨ j = 1 ∨ j = 2 := by omega
  · exact c0
  · exact c1
  · exact c2
theorem Adrs.none (w : World) (B : Option Addr) : Adrs w B 0 [] := ⟨rfl, fun h => absurd h (by omega)⟩
set_option maxHeartbeats 2000000 in
theorem sRankNew_c (gg gb gr gc : Int) (nb : Nat) (w : World) (h : bankCnt gg gb gr gc = (nb : Int)) (hnb : nb ≤ 16) :
    Calls Try.prog 26 #[.agg #[.int .i64 gg, .int .i64 gb, .int .i64 gr, .int .i64 gc]] w (NewRk (List.replicate nb ⟨false, 0⟩) 0 w) := by
  have bel : Below w.heap.size w w := Below.refl _ _
  obtain ⟨i0, hi0, hz0, hz1, hz2⟩ := info_parts infoBk
  go_enter Try.func26, Try.ntmps26
  go_wp2_with fail
  refine abs_call ?_
  intro W hW
  have szW : w.heap.size + 1 + 1 ≤ W.heap.size := by rw [hW]; simp [World.setCell]
  have szW_ := bel.size
  replace bel : Below w.heap.size w W := by rw [hW]; exact ((bel).alloc (by first | omega | (simp [World.setCell] <;> omega)) _).alloc (by first | omega | (simp [World.setCell] <;> omega)) _
  have p : Box W w.heap.size 25 #[.int .i64 gg, .int .i64 gb, .int .i64 gr, .int .i64 gc] := by rw [hW]; exact ((Box.newAt (by simp [World.setCell]))).alloc _
  have r : Box W (w.heap.size + 1) 43 #[.slice none 0 0, .int .i64 0] := by rw [hW]; exact (Box.newAt (by simp [World.setCell]))
  clear hW
  refine (sBankCount_c gg gb gr gc _).mono ?_
  rintro e w1 ⟨rfl, b1⟩
  rw [h]
  have szw1 := b1.size
  replace bel := bel.trans (b1.mono bel.size)
  replace p := p.kept b1
  replace r := r.kept b1
  clear b1
  obtain ⟨r_0, r_1⟩ := r.c2
  have r_lt := r.lt
  have r_f := r.frozen
  go_wp2_with (at_make; refine wpList_make_full _ rfl (.tmp 4) (.tmp 4) 41 rfl w1.heap.size 46 i0 _ 2 Try.underlying41 hi0 hz0 hz1 .i64 .i64 nb nb nb rfl rfl rfl rfl (by rw [hz2]; omega) (by unfold maxLen; omega) (Nat.le_refl _) ?_; intro w2 ho2 hg2; have b2 := grown_below hg2; have r2 := r.kept b2; obtain ⟨r2_0, r2_1⟩ := r2.c2; have r2f := r2.frozen; have r2l := r2.lt)
  refine abs_body ?_
  intro W9 hW
  have o2 : OwnBnk w2 w1.heap.size w2.heap.size (some ⟨w1.heap.size, 0, none⟩) nb nb (List.replicate nb ⟨false, 0⟩) := by
    rw [madeBk] at ho2
    exact OwnG.mk' (.inl ho2)
  have bel2 := bel.trans (b2.mono bel.size)
  have sz2 := b2.size
  have r9 : Box W9 (w.heap.size + 1) 43 #[.slice (some ⟨w1.heap.size, 0, none⟩) nb nb, .int .i64 0] := by rw [hW]; exact box_s2 r2
  have o9 : OwnBnk W9 w1.heap.size w2.heap.size (some ⟨w1.heap.size, 0, none⟩) nb nb (List.replicate nb ⟨false, 0⟩) := by rw [hW]; exact (o2.setCell _ _ (by dsimp only; omega)).setCell _ _ (by dsimp only; omega)
  have b9 : Below w.heap.size w W9 := by rw [hW]; exact (bel2.setCell (by dsimp only; omega) _).setCell (by dsimp only; omega) _
  have s9 : W9.heap.size = w2.heap.size := by rw [hW]; simp [World.setCell]
  clear hW
  obtain ⟨z0, z1⟩ := r9.c2
  refine bodyPost_ret (v := .agg #[.slice (some ⟨w1.heap.size, 0, none⟩) nb nb, .int .i64 0]) (by simp [results, Try.results26, go_sem, z0, z1]) rfl ?_
  exact ⟨_, _, _, rfl, o9.mono (by omega) (by omega), b9⟩
end Go.Proofs.Ytbapamfomfbmmaa
