/-
  Contracts of copyQueue, QueueDrop and Blocked, in the program and in the reference.
-/
import Derived.Test.YtbapamfomfbmmaaReqA
import Derived.IntWalk
namespace Go.Proofs.Ytbapamfomfbmmaa
open Go.RowKit
set_option linter.unusedSimpArgs false
set_option linter.unusedVariables false

/-- A new slice of requests and a bool. -/
def NewReqB (rs : List Req) (ok : Bool) (w : World) (e : Ending) (w' : World) : Prop :=
  ∃ A n c, e = .returned (.tuple #[.slice A n c, .bool ok]) ∧ OwnReq w' w.heap.size w'.heap.size A n c rs ∧ Below w.heap.size w w'
/-- The queue without its first request with the id x. -/
def dropQ (rs : List Req) (x : Int) : List Req := if x ∈ rs.map Req.id then rs.take ((rs.map Req.id).idxOf x) ++ rs.drop ((rs.map Req.id).idxOf x + 1) else rs
def dropOk (rs : List Req) (x : Int) : Bool := decide (x ∈ rs.map Req.id)
theorem drop_none {rs : List Req} {x : Int} (h : x ∉ rs.map Req.id) : dropQ rs x = rs ∧ dropOk rs x = false := by unfold dropQ dropOk; rw [if_neg h]; simp [h]
theorem drop_at {rs : List Req} {x : Int} {k : Nat} (h : x ∉ (rs.map Req.id).take k) (hk : (rs.map Req.id)[k]? = some x) : dropQ rs x = rs.take k ++ rs.drop (k + 1) ∧ dropOk rs x = true := by
  have hi := idxI_at h hk
  have hm := List.mem_of_getElem? hk
  unfold idxI at hi
  rw [if_pos hm] at hi
  have : (rs.map Req.id).idxOf x = k := by omega
  unfold dropQ dropOk
  rw [if_pos hm, this]
  simp only [decide_eq_true_eq]
  exact ⟨trivial, hm⟩
theorem dropQ_len (rs : List Req) (x : Int) : (dropQ rs x).length ≤ rs.length := by
  unfold dropQ; split <;> simp; omega
/-- A request is blocked: one before it has its line. -/
def blkB (rs : List Req) (i : Int) : Bool := inB i 0 ((rs.length : Int) - 1) && (rs.take i.toNat).any fun r => r.line == (rs.getD i.toNat ⟨0, 0, 0, false, 0, 0⟩).line
theorem blk_out {rs : List Req} {i : Int} (h : inB i 0 ((rs.length : Int) - 1) = false) : blkB rs i = false := by unfold blkB; rw [h]; rfl
theorem blk_none {rs : List Req} {k : Nat} {r : Req} (hr : rs[k]? = some r) (h : ((rs.take k).any fun q => q.line == r.line) = false) : blkB rs k = false := by
  unfold blkB; rw [Int.toNat_natCast, List.getD_eq_getElem?_getD, hr]; simp only [Option.getD_some]; rw [h]; simp
theorem blk_some' {rs : List Req} {k j : Nat} {r q : Req} (hr : rs[k]? = some r) (hj : j < k) (hq : rs[j]? = some q) (h : (q.line == r.line) = true) : blkB rs k = true := by
  have hk := lt_of_get hr
  unfold blkB
  rw [inB_mk (by omega) (by omega), Int.toNat_natCast, List.getD_eq_getElem?_getD, hr]
  simp only [Option.getD_some, Bool.true_and, List.any_eq_true]
  refine ⟨q, ?_, h⟩
  exact List.mem_of_getElem? (show (rs.take k)[j]? = some q by rw [List.getElem?_take, if_pos hj, hq])
theorem any_snoc {rs : List Req} {j : Nat} {q : Req} {l : Int} (h : ((rs.take j).any fun q => q.line == l) = false) (hq : rs[j]? = some q) (hn : (q.line == l) = false) : ((rs.take (j + 1)).any fun q => q.line == l) = false := by
  rw [take_snoc hq, List.any_append, h]; simp [hn]

set_option maxRecDepth 100000 in
set_option maxHeartbeats 400000 in
theorem copyQueue_c (A : Option Addr) (n c : Nat) (rs : List Req) (w : World) (h : Reqs w A n rs) (hn : n ≤ 1048576) :
    Calls Try.prog 88 #[.slice A n c] w (NewReq rs w) := by
  have h0 : Below w.heap.size w (w.alloc (.cells #[] 58)) := (Below.refl _ _).alloc (Nat.le_refl _) _
  have H0 := Lib.hid h0
  clear h0
  go_enter Try.func88, Try.ntmps88
  go_wp2_with (at_builtin; refine wpList_appReq rfl (.tmp 3) (.tmp 4) 53 rfl Try.underlying53 infoReq _ 0 0 w.heap.size [] rfl (RowReq.nil _ _ _) A n c rs rfl (h.below H0.out) (by omega) (by simp) ?_; intro A1 c1 w1 o1 g1 at1; rw [Nat.zero_add] at o1 ⊢)
  go_ret
  exact ⟨_, _, _, rfl, RowReq.own (by simpa using o1), below_app3 H0.out g1 (fun k hk => by rw [blk_zero] at hk; cases hk)⟩

set_option maxRecDepth 100000 in
set_option maxHeartbeats 2000000 in
theorem iQueueDrop_c (A : Option Addr) (n c : Nat) (rs : List Req) (x : Int) (w : World) (h : Reqs w A n rs) (hn : n ≤ 1048576) (hc : n ≤ c ∧ c ≤ maxLen) :
    Calls Try.prog 37 #[.slice A n c, .int .i64 x] w (NewReqB (dropQ rs x) (dropOk rs x) w) := by
  have hl := Lib.hid h.len
  obtain ⟨hnc, hcm⟩ := hc
  unfold maxLen at hcm
  go_enter Try.func37, Try.ntmps37
  go_wp2
  go_loopw [10] (fun i wr => ∃ k : Nat, k ≤ n ∧ i = .int .i64 k ∧ Hid (x ∉ (rs.map Req.id).take k) ∧ Below w.heap.size w wr) (fun i _ => n - (intOf i).toNat)
  case atStart => exact ⟨0, Nat.zero_le _, rfl, by unfold Hid; simp, Below.refl _ _⟩
  case round =>
    obtain ⟨k, hk, rfl, HK, bk⟩ := hrel
    by_cases hlt : k < n
    · obtain ⟨g, o, id, ten, line, wrt, dat, att, rfl, hg, h0, h1, h2, h3, h4, h5, hr⟩ := (h.below bk).at_ hlt
      have hy : Hid ((rs.map Req.id)[k]? = some id) := by unfold Hid; rw [List.getElem?_map, hr.out]; rfl
      by_cases hxy : (id == x) = true
      · obtain rfl : id = x := by simpa using hxy
        obtain ⟨HQ, HO⟩ := drop_at HK.out hy.out
        replace HQ := Lib.hid HQ
        replace HO := Lib.hid HO
        have b4 := bk.alloc bk.size (.cells #[.int .i64 id, .int .i64 ten, .int .i64 line, .bool wrt, .int .i64 dat, .int .i64 att] 58)
        have i1 : (0 : Int) ≤ (k : Int) := by omega
        have i2 : (k : Int) ≤ (c : Int) := by omega
        have i3 : (0 : Int) ≤ (k : Int) + 1 := by omega
        have i4 : (k : Int) + 1 ≤ (n : Int) := by omega
        go_wp2
        refine abs_code ?_
        intro W hW
        rw [← hW] at b4
        clear hW h0 h1 h2 h3 h4 h5
        have hh := h.below b4
        have i5 : ((k : Int) + 1).toNat = k + 1 := by omega
        have i6 : IntKind.i64.wrap ((k : Int) + 1) = (k : Int) + 1 := IntWalk.i64_in _ (by omega)
        have SZ := Lib.hid b4.size
        by_cases hck : c = k + 1
        · subst hck
          have i7 : (k : Int) ≤ (k : Int) + 1 := by omega
          have src0 := hh.drop (k := k + 1) (by omega) (B := some ⟨g, o, none⟩) (fun hlt => by omega)
          rw [show n - (k + 1) = 0 by omega] at src0
          have src := Lib.hid src0
          clear src0
          go_region_held3 (fun _ => True) (exact trivial) (first | (go_at_call 88; refine (copyQueue_c _ k _ (rs.take k) _ (by exact hh.take (by omega)) (by omega)).mono ?_; rintro e w2 ⟨A1, n1, c1, rfl, o1, b1'⟩; have b1 : Below W.heap.size W w2 := ⟨b1'.os, b1'.tape, b1'.output, b1'.size, b1'.block⟩; have src2 := src.out.below b1; have hn1 : n1 ≤ k := (by have := o1.len; simp at this; omega); have o1r : RowReq w2 w.heap.size A1 n1 c1 (rs.take k) := OwnV.mono o1.1 (by exact SZ.out); have sz2 : w.heap.size ≤ w2.heap.size := Nat.le_trans SZ.out b1.size) | (refine step_appReq (by rfl) (.tmp 22) (.tmp 26) 53 (by rfl) Try.underlying53 infoReq A1 n1 c1 w.heap.size (rs.take k) (by rfl) o1r (some ⟨g, o, none⟩) 0 _ (rs.drop (k + 1)) (by rfl) (by exact src2) (by omega) (by exact sz2) ?_; intro A2 c2 w3 o2 g2 at2) | fail)
          clear i5 i6
          go_wp2
          go_ret2
          rw [HQ.out, HO.out]
          exact ⟨_, _, _, rfl, o2.own, below_app3 (b4.trans (b1.mono b4.size)) g2 (fun j hj => (o1r.lt j hj).1)⟩
        · have src := Lib.hid (hh.drop (k := k + 1) (by omega) (B := some ⟨g, o + (k + 1) * 6, none⟩) (fun hlt g' o' e => by injection e with e; injection e with e1 e2; rw [e1, e2]))
          go_region_held3 (fun _ => True) (exact trivial) (first | (go_at_call 88; refine (copyQueue_c _ k _ (rs.take k) _ (by exact hh.take (by omega)) (by omega)).mono ?_; rintro e w2 ⟨A1, n1, c1, rfl, o1, b1'⟩; have b1 : Below W.heap.size W w2 := ⟨b1'.os, b1'.tape, b1'.output, b1'.size, b1'.block⟩; have src2 := src.out.below b1; have hn1 : n1 ≤ k := (by have := o1.len; simp at this; omega); have o1r : RowReq w2 w.heap.size A1 n1 c1 (rs.take k) := OwnV.mono o1.1 (by exact SZ.out); have sz2 : w.heap.size ≤ w2.heap.size := Nat.le_trans SZ.out b1.size) | (refine step_appReq (by rfl) (.tmp 22) (.tmp 26) 53 (by rfl) Try.underlying53 infoReq A1 n1 c1 w.heap.size (rs.take k) (by rfl) o1r (some ⟨g, o + (k + 1) * 6, none⟩) (n - (k + 1)) _ (rs.drop (k + 1)) (by rfl) (by exact src2) (by omega) (by exact sz2) ?_; intro A2 c2 w3 o2 g2 at2) | fail)
          clear i5 i6
          go_wp2
          go_ret2
          rw [HQ.out, HO.out]
          exact ⟨_, _, _, rfl, o2.own, below_app3 (b4.trans (b1.mono b4.size)) g2 (fun j hj => (o1r.lt j hj).1)⟩
      · have hxy' : (id == x) = false := by simpa using hxy
        have hxz : (x == id) = false := by rw [← hxy']; exact Bool.eq_iff_iff.2 (by rw [beq_iff_eq, beq_iff_eq]; exact ⟨Eq.symm, Eq.symm⟩)
        have HM := Lib.hid (not_mem_snoc HK.out hy.out hxz)
        clear hxy hxz
        go_wp2
        go_roundw
        case rel => exact ⟨k + 1, by omega, by go_num, HM.out, bk.alloc bk.size _⟩
        case measure => simp [intOf]; omega
    · have HM : Hid (dropQ rs x = rs ∧ dropOk rs x = false) := by
        have := HK.out
        rw [List.take_of_length_le (by rw [List.length_map, hl.out]; omega)] at this
        exact drop_none this
      go_wp2_with fail
      refine (copyQueue_c A n c rs _ (h.below bk) hn).mono ?_
      rintro e w2 ⟨A1, n1, c1, rfl, o1, b1⟩
      go_wp2
      go_ret2
      rw [HM.out.1, HM.out.2]
      exact ⟨_, _, _, rfl, o1.mono bk.size (Nat.le_refl _), bk.trans (b1.mono bk.size)⟩

set_option maxRecDepth 100000 in
set_option maxHeartbeats 1000000 in
theorem iBlocked_c (A : Option Addr) (n c : Nat) (rs : List Req) (i : Int) (w : World) (h : Reqs w A n rs) (hn : n ≤ 1048576) (hc : n ≤ c ∧ c ≤ maxLen) :
    Calls Try.prog 31 #[.slice A n c, .int .i64 i] w fun e w' => e = .returned (.bool (blkB rs i)) ∧ Below w.heap.size w w' := by
  have hl := Lib.hid h.len
  obtain ⟨hnc, hcm⟩ := hc
  unfold maxLen at hcm
  have bel : Below w.heap.size w w := Below.refl _ _
  by_cases hi : inB i 0 ((n : Int) - 1) = true
  · obtain ⟨q1, q2⟩ := inB_t hi
    obtain ⟨k, rfl⟩ := Int.eq_ofNat_of_zero_le q1
    have hkn : k < n := by omega
    have kc : (k : Int) ≤ (c : Int) := by omega
    obtain ⟨r, hr⟩ : ∃ r, Hid (rs[k]? = some r) := ⟨rs[k]'(by rw [hl.out]; exact hkn), by unfold Hid; exact List.getElem?_eq_getElem _⟩
    go_enter Try.func31, Try.ntmps31
    go_wp2_with (go_at_call 75; refine (between_c _ _ _ _).mono ?_; rintro e w' ⟨rfl, rfl⟩)
    go_loopw [17] (fun q wr => ∃ j : Nat, j ≤ k ∧ q = .int .i64 j ∧ Hid (((rs.take j).any fun q => q.line == r.line) = false) ∧ Below w.heap.size w wr) (fun q _ => k - (intOf q).toNat)
    case atStart => exact ⟨0, Nat.zero_le _, rfl, by unfold Hid; simp, bel⟩
    case round =>
      obtain ⟨j, hj, rfl, HJ, bk⟩ := hrel
      by_cases hlt : j < k
      · obtain ⟨g, o, id, ten, line, wrt, dat, att, rfl, hg, h0, h1, h2, h3, h4, h5, hq⟩ := (h.below bk).at_ (show j < n by omega)
        obtain ⟨g', o', id', ten', line', wrt', dat', att', e', hg', y0, y1, y2, y3, y4, y5, hq'⟩ := (h.below bk).at_ hkn
        injection e' with e'
        injection e' with e1 e2
        subst e1 e2
        obtain rfl : r = ⟨id', ten', line', wrt', dat', att'⟩ := by have := hr.out.symm.trans hq'.out; injection this
        have i1 : (0 : Int) ≤ (j : Int) := by omega
        have i2 : (j : Int) < (n : Int) := by omega
        have i3 : (k : Int) < (n : Int) := by omega
        have i4 : (0 : Int) ≤ (k : Int) := by omega
        have i5 : (j : Int) < (k : Int) := by omega
        by_cases hx : (line == line') = true
        · have HB := Lib.hid (blk_some' hr.out hlt hq.out hx)
          go_wp2
          go_quiet (fail)
          go_wp2
          go_ret
          exact ⟨ret_bool HB.out.symm, belowN (bk.alloc bk.size _) _⟩
        · have hx' : (line == line') = false := by simpa using hx
          clear hx
          go_wp2
          go_quiet (fail)
          go_wp2
          go_roundw
          case rel => exact ⟨j + 1, by omega, by go_num, any_snoc HJ.out hq.out hx', belowN (bk.alloc bk.size _) _⟩
          case measure => simp [intOf]; omega
      · obtain rfl : k = j := by omega
        have HB := Lib.hid (blk_none hr.out HJ.out)
        go_wp2
        go_ret
        exact ⟨ret_bool HB.out.symm, bk⟩
  · have hi' : inB i 0 ((n : Int) - 1) = false := by simpa using hi
    have HB : Hid (blkB rs i = false) := blk_out (by rw [hl.out]; exact hi')
    clear hi
    go_enter Try.func31, Try.ntmps31
    go_wp2_with (go_at_call 75; refine (between_c _ _ _ _).mono ?_; rintro e w' ⟨rfl, rfl⟩)
    go_ret
    exact ⟨ret_bool HB.out.symm, bel⟩


end Go.Proofs.Ytbapamfomfbmmaa
