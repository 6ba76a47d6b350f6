/-
  Contracts of IsWord, RequestOk, CountQueue and the order of requests, in the program and in the reference.
-/
import Derived.Test.YtbapamfomfbmmaaReq
namespace Go.Proofs.Ytbapamfomfbmmaa
open Go.RowKit
set_option linter.unusedSimpArgs false
set_option linter.unusedVariables false

/-- A valid request. -/
def reqOk (lines id ten line : Int) (wrt : Bool) (dat att : Int) : Bool :=
  inB id 1 100000 && (inB ten 0 3 && (decide (0 ≤ line) && (decide (line < lines) && (inB dat 0 4294967295 && ((wrt || (dat == 0)) && inB att 0 1000000)))))
def Req.ok (lines : Int) (r : Req) : Bool := reqOk lines r.id r.ten r.line r.wrt r.dat r.att
/-- A request stands before another one. -/
def befB (at1 id1 at2 id2 : Int) : Bool := decide (at1 < at2) || ((at1 == at2) && decide (id1 < id2))
def Req.bef (a b : Req) : Bool := befB a.att a.id b.att b.id
/-- How many of the requests write (or read). -/
def cntW (rs : List Req) (b : Bool) : Int := (rs.countP fun r => r.wrt == b : Nat)
theorem cntW_le (rs : List Req) (b : Bool) : 0 ≤ cntW rs b ∧ cntW rs b ≤ rs.length := by
  unfold cntW; exact ⟨by omega, by have := List.countP_le_length (p := fun r : Req => r.wrt == b) (l := rs); omega⟩
theorem cntW_snoc {rs : List Req} {k : Nat} {r : Req} (b : Bool) (h : rs[k]? = some r) : cntW (rs.take (k + 1)) b = cntW (rs.take k) b + if (r.wrt == b) = true then 1 else 0 := by
  unfold cntW
  rw [take_snoc h, List.countP_append, List.countP_singleton]
  split <;> simp
/-- The first place of a request with the id x. -/
def atId (rs : List Req) (x : Int) : Int := idxI (rs.map Req.id) x

set_option maxRecDepth 100000 in
set_option maxHeartbeats 400000 in
theorem iIsWord_c (x : Int) (w : World) : Calls Try.prog 91 #[.int .i64 x] w fun e w' => e = .returned (.bool (inB x 0 4294967295)) ∧ w = w' := by
  go_enter Try.func91, Try.ntmps91
  go_wp2_with (go_at_call 75; refine (between_c _ _ _ _).mono ?_; rintro e w' ⟨rfl, rfl⟩)
  go_ret
  exact ⟨rfl, rfl⟩
set_option maxRecDepth 100000 in
set_option maxHeartbeats 2000000 in
theorem iRequestOk_c (lines : Int) (id ten line : Int) (wrt : Bool) (dat att : Int) (w : World) :
    Calls Try.prog 39 #[.int .i64 lines, .agg #[.int .i64 id, .int .i64 ten, .int .i64 line, .bool wrt, .int .i64 dat, .int .i64 att]] w fun e w' => e = .returned (.bool (reqOk lines id ten line wrt dat att)) ∧ Below w.heap.size w w' := by
  have bel : ∀ ob, Below w.heap.size w (w.alloc ob) := fun ob => (Below.refl _ _).alloc (Nat.le_refl _) _
  have BEL := Lib.hid bel
  clear bel
  by_cases h1 : (inB id 1 100000) = true
  case neg =>
    have h1' : (inB id 1 100000) = false := by simpa using h1
    clear h1
    have HQ : Hid (reqOk lines id ten line wrt dat att = false) := by unfold Hid reqOk; simp only [h1', Bool.false_and, Bool.and_false, Bool.true_and]
    go_enter Try.func39, Try.ntmps39
    go_wp2_with (first | (go_at_call 75; refine (between_c _ _ _ _).mono ?_; rintro e w' ⟨rfl, rfl⟩) | (go_at_call 91; refine (iIsWord_c _ _).mono ?_; rintro e w' ⟨rfl, rfl⟩))
    go_ret
    exact ⟨ret_bool (by rw [HQ.out]), BEL.out _⟩
  by_cases h2 : (inB ten 0 3) = true
  case neg =>
    have h2' : (inB ten 0 3) = false := by simpa using h2
    clear h2
    have HQ : Hid (reqOk lines id ten line wrt dat att = false) := by unfold Hid reqOk; simp only [h1, h2', Bool.false_and, Bool.and_false, Bool.true_and]
    go_enter Try.func39, Try.ntmps39
    go_wp2_with (first | (go_at_call 75; refine (between_c _ _ _ _).mono ?_; rintro e w' ⟨rfl, rfl⟩) | (go_at_call 91; refine (iIsWord_c _ _).mono ?_; rintro e w' ⟨rfl, rfl⟩))
    go_ret
    exact ⟨ret_bool (by rw [HQ.out]), BEL.out _⟩
  by_cases h3 : (decide (0 ≤ line)) = true
  case neg =>
    have h3' : (decide (0 ≤ line)) = false := by simpa using h3
    clear h3
    have HQ : Hid (reqOk lines id ten line wrt dat att = false) := by unfold Hid reqOk; simp only [h1, h2, h3', Bool.false_and, Bool.and_false, Bool.true_and]
    go_enter Try.func39, Try.ntmps39
    go_wp2_with (first | (go_at_call 75; refine (between_c _ _ _ _).mono ?_; rintro e w' ⟨rfl, rfl⟩) | (go_at_call 91; refine (iIsWord_c _ _).mono ?_; rintro e w' ⟨rfl, rfl⟩))
    go_ret
    exact ⟨ret_bool (by rw [HQ.out]), BEL.out _⟩
  by_cases h4 : (decide (line < lines)) = true
  case neg =>
    have h4' : (decide (line < lines)) = false := by simpa using h4
    clear h4
    have HQ : Hid (reqOk lines id ten line wrt dat att = false) := by unfold Hid reqOk; simp only [h1, h2, h3, h4', Bool.false_and, Bool.and_false, Bool.true_and]
    go_enter Try.func39, Try.ntmps39
    go_wp2_with (first | (go_at_call 75; refine (between_c _ _ _ _).mono ?_; rintro e w' ⟨rfl, rfl⟩) | (go_at_call 91; refine (iIsWord_c _ _).mono ?_; rintro e w' ⟨rfl, rfl⟩))
    go_ret
    exact ⟨ret_bool (by rw [HQ.out]), BEL.out _⟩
  by_cases h5 : (inB dat 0 4294967295) = true
  case neg =>
    have h5' : (inB dat 0 4294967295) = false := by simpa using h5
    clear h5
    have HQ : Hid (reqOk lines id ten line wrt dat att = false) := by unfold Hid reqOk; simp only [h1, h2, h3, h4, h5', Bool.false_and, Bool.and_false, Bool.true_and]
    go_enter Try.func39, Try.ntmps39
    go_wp2_with (first | (go_at_call 75; refine (between_c _ _ _ _).mono ?_; rintro e w' ⟨rfl, rfl⟩) | (go_at_call 91; refine (iIsWord_c _ _).mono ?_; rintro e w' ⟨rfl, rfl⟩))
    go_ret
    exact ⟨ret_bool (by rw [HQ.out]), BEL.out _⟩
  have l0 : 0 ≤ line := by simpa using h3
  have l1 : line < lines := by simpa using h4
  cases wrt
  case true =>
    have HQ : Hid (reqOk lines id ten line true dat att = inB att 0 1000000) := by unfold Hid reqOk; simp only [h1, h2, h3, h4, h5, Bool.true_and, Bool.true_or]
    go_enter Try.func39, Try.ntmps39
    go_wp2_with (first | (go_at_call 75; refine (between_c _ _ _ _).mono ?_; rintro e w' ⟨rfl, rfl⟩) | (go_at_call 91; refine (iIsWord_c _ _).mono ?_; rintro e w' ⟨rfl, rfl⟩))
    go_ret
    exact ⟨ret_bool (by rw [HQ.out]), BEL.out _⟩
  case false =>
    by_cases h6 : (dat == 0) = true
    · have HQ : Hid (reqOk lines id ten line false dat att = inB att 0 1000000) := by unfold Hid reqOk; simp only [h1, h2, h3, h4, h5, h6, Bool.true_and, Bool.false_or]
      go_enter Try.func39, Try.ntmps39
      go_wp2_with (first | (go_at_call 75; refine (between_c _ _ _ _).mono ?_; rintro e w' ⟨rfl, rfl⟩) | (go_at_call 91; refine (iIsWord_c _ _).mono ?_; rintro e w' ⟨rfl, rfl⟩))
      go_ret
      exact ⟨ret_bool (by rw [HQ.out]), BEL.out _⟩
    · have h6' : (dat == 0) = false := by simpa using h6
      clear h6
      have HQ : Hid (reqOk lines id ten line false dat att = false) := by unfold Hid reqOk; simp only [h1, h2, h3, h4, h5, h6', Bool.true_and, Bool.false_or, Bool.false_and]
      go_enter Try.func39, Try.ntmps39
      go_wp2_with (first | (go_at_call 75; refine (between_c _ _ _ _).mono ?_; rintro e w' ⟨rfl, rfl⟩) | (go_at_call 91; refine (iIsWord_c _ _).mono ?_; rintro e w' ⟨rfl, rfl⟩))
      go_ret
      exact ⟨ret_bool (by rw [HQ.out]), BEL.out _⟩
set_option maxRecDepth 100000 in
set_option maxHeartbeats 1000000 in
theorem arrivesBefore_c (id ten line : Int) (wrt : Bool) (dat att : Int) (id2 ten2 line2 : Int) (wrt2 : Bool) (dat2 att2 : Int) (w : World) :
    Calls Try.prog 87 #[.agg #[.int .i64 id, .int .i64 ten, .int .i64 line, .bool wrt, .int .i64 dat, .int .i64 att], .agg #[.int .i64 id2, .int .i64 ten2, .int .i64 line2, .bool wrt2, .int .i64 dat2, .int .i64 att2]] w fun e w' => e = .returned (.bool (befB att id att2 id2)) ∧ Below w.heap.size w w' := by
  have BEL : Hid (∀ o1 o2, Below w.heap.size w ((w.alloc o1).alloc o2)) := fun o1 o2 => ((Below.refl _ _).alloc (Nat.le_refl _) _).alloc (by simp) _
  by_cases h1 : att < att2
  · have HQ : Hid (befB att id att2 id2 = true) := by unfold Hid befB; simp [h1]
    go_enter Try.func87, Try.ntmps87
    go_wp2
    go_ret
    exact ⟨ret_bool (by rw [HQ.out]), BEL.out _ _⟩
  · by_cases h2 : (att == att2) = true
    · have HQ : Hid (befB att id att2 id2 = decide (id < id2)) := by unfold Hid befB; rw [h2]; simp [h1]
      go_enter Try.func87, Try.ntmps87
      go_wp2
      go_ret
      exact ⟨ret_bool (by rw [HQ.out]), BEL.out _ _⟩
    · have h2' : (att == att2) = false := by simpa using h2
      have HQ : Hid (befB att id att2 id2 = false) := by unfold Hid befB; rw [h2']; simp [h1]
      clear h2
      go_enter Try.func87, Try.ntmps87
      go_wp2
      go_ret
      exact ⟨ret_bool (by rw [HQ.out]), BEL.out _ _⟩
set_option maxRecDepth 100000 in
set_option maxHeartbeats 1000000 in
theorem iCountQueue_c (A : Option Addr) (n c : Nat) (rs : List Req) (b : Bool) (w : World) (h : Reqs w A n rs) (hn : n ≤ 1048576) :
    Calls Try.prog 36 #[.slice A n c, .bool b] w fun e w' => e = .returned (.int .i64 (cntW rs b)) ∧ Below w.heap.size w w' := by
  have hl := Lib.hid h.len
  go_enter Try.func36, Try.ntmps36
  go_wp2
  go_loopw [5, 10] (fun q i wr => ∃ k : Nat, k ≤ n ∧ i = .int .i64 k ∧ q = .int .i64 (cntW (rs.take k) b) ∧ Below w.heap.size w wr) (fun _ i _ => n - (intOf i).toNat)
  case atStart => exact ⟨0, Nat.zero_le _, rfl, rfl, Below.refl _ _⟩
  case round =>
    obtain ⟨k, hk, rfl, rfl, bk⟩ := hrel
    have hb := cntW_le (rs.take k) b
    have hlk : (rs.take k).length ≤ k := List.length_take_le _ _
    by_cases hlt : k < n
    · obtain ⟨g, o, id, ten, line, wrt, dat, att, rfl, hg, h0, h1, h2, h3, h4, h5, hr⟩ := (h.below bk).at_ hlt
      have HS := Lib.hid (cntW_snoc b hr.out)
      by_cases he : (wrt == b) = true
      · go_wp2
        go_roundw
        case rel => exact ⟨k + 1, by omega, by go_num, by rw [HS.out, if_pos he], bk.alloc bk.size _⟩
        case measure => simp [intOf]; omega
      · have he' : (wrt == b) = false := by simpa using he
        clear he
        go_wp2
        go_roundw
        case rel => exact ⟨k + 1, by omega, by go_num, by rw [HS.out, if_neg (by rw [he']; simp)]; go_num, bk.alloc bk.size _⟩
        case measure => simp [intOf]; omega
    · go_wp2
      go_ret
      exact ⟨ret_int (by rw [List.take_of_length_le (by rw [hl.out]; omega)]), bk⟩
set_option maxRecDepth 100000 in
set_option maxHeartbeats 400000 in
theorem sIsWord_c (x : Int) (w : World) : Calls Try.prog 170 #[.int .i64 x] w fun e w' => e = .returned (.bool (inB x 0 4294967295)) ∧ w = w' := by
  go_enter Try.func170, Try.ntmps170
  go_wp2_with (go_at_call 70; refine (in_c _ _ _ _).mono ?_; rintro e w' ⟨rfl, rfl⟩)
  go_ret
  exact ⟨rfl, rfl⟩
set_option maxRecDepth 100000 in
set_option maxHeartbeats 2000000 in
theorem sRequestOk_c (lines : Int) (id ten line : Int) (wrt : Bool) (dat att : Int) (w : World) :
    Calls Try.prog 139 #[.int .i64 lines, .agg #[.int .i64 id, .int .i64 ten, .int .i64 line, .bool wrt, .int .i64 dat, .int .i64 att]] w fun e w' => e = .returned (.bool (reqOk lines id ten line wrt dat att)) ∧ Below w.heap.size w w' := by
  have bel : ∀ ob, Below w.heap.size w (w.alloc ob) := fun ob => (Below.refl _ _).alloc (Nat.le_refl _) _
  have BEL := Lib.hid bel
  clear bel
  by_cases h1 : (inB id 1 100000) = true
  case neg =>
    have h1' : (inB id 1 100000) = false := by simpa using h1
    clear h1
    have HQ : Hid (reqOk lines id ten line wrt dat att = false) := by unfold Hid reqOk; simp only [h1', Bool.false_and, Bool.and_false, Bool.true_and]
    go_enter Try.func139, Try.ntmps139
    go_wp2_with (first | (go_at_call 70; refine (in_c _ _ _ _).mono ?_; rintro e w' ⟨rfl, rfl⟩) | (go_at_call 170; refine (sIsWord_c _ _).mono ?_; rintro e w' ⟨rfl, rfl⟩))
    go_ret
    exact ⟨ret_bool (by rw [HQ.out]), BEL.out _⟩
  by_cases h2 : (inB ten 0 3) = true
  case neg =>
    have h2' : (inB ten 0 3) = false := by simpa using h2
    clear h2
    have HQ : Hid (reqOk lines id ten line wrt dat att = false) := by unfold Hid reqOk; simp only [h1, h2', Bool.false_and, Bool.and_false, Bool.true_and]
    go_enter Try.func139, Try.ntmps139
    go_wp2_with (first | (go_at_call 70; refine (in_c _ _ _ _).mono ?_; rintro e w' ⟨rfl, rfl⟩) | (go_at_call 170; refine (sIsWord_c _ _).mono ?_; rintro e w' ⟨rfl, rfl⟩))
    go_ret
    exact ⟨ret_bool (by rw [HQ.out]), BEL.out _⟩
  by_cases h3 : (decide (0 ≤ line)) = true
  case neg =>
    have h3' : (decide (0 ≤ line)) = false := by simpa using h3
    clear h3
    have HQ : Hid (reqOk lines id ten line wrt dat att = false) := by unfold Hid reqOk; simp only [h1, h2, h3', Bool.false_and, Bool.and_false, Bool.true_and]
    go_enter Try.func139, Try.ntmps139
    go_wp2_with (first | (go_at_call 70; refine (in_c _ _ _ _).mono ?_; rintro e w' ⟨rfl, rfl⟩) | (go_at_call 170; refine (sIsWord_c _ _).mono ?_; rintro e w' ⟨rfl, rfl⟩))
    go_ret
    exact ⟨ret_bool (by rw [HQ.out]), BEL.out _⟩
  by_cases h4 : (decide (line < lines)) = true
  case neg =>
    have h4' : (decide (line < lines)) = false := by simpa using h4
    clear h4
    have HQ : Hid (reqOk lines id ten line wrt dat att = false) := by unfold Hid reqOk; simp only [h1, h2, h3, h4', Bool.false_and, Bool.and_false, Bool.true_and]
    go_enter Try.func139, Try.ntmps139
    go_wp2_with (first | (go_at_call 70; refine (in_c _ _ _ _).mono ?_; rintro e w' ⟨rfl, rfl⟩) | (go_at_call 170; refine (sIsWord_c _ _).mono ?_; rintro e w' ⟨rfl, rfl⟩))
    go_ret
    exact ⟨ret_bool (by rw [HQ.out]), BEL.out _⟩
  by_cases h5 : (inB dat 0 4294967295) = true
  case neg =>
    have h5' : (inB dat 0 4294967295) = false := by simpa using h5
    clear h5
    have HQ : Hid (reqOk lines id ten line wrt dat att = false) := by unfold Hid reqOk; simp only [h1, h2, h3, h4, h5', Bool.false_and, Bool.and_false, Bool.true_and]
    go_enter Try.func139, Try.ntmps139
    go_wp2_with (first | (go_at_call 70; refine (in_c _ _ _ _).mono ?_; rintro e w' ⟨rfl, rfl⟩) | (go_at_call 170; refine (sIsWord_c _ _).mono ?_; rintro e w' ⟨rfl, rfl⟩))
    go_ret
    exact ⟨ret_bool (by rw [HQ.out]), BEL.out _⟩
  have l0 : 0 ≤ line := by simpa using h3
  have l1 : line < lines := by simpa using h4
  cases wrt
  case true =>
    have HQ : Hid (reqOk lines id ten line true dat att = inB att 0 1000000) := by unfold Hid reqOk; simp only [h1, h2, h3, h4, h5, Bool.true_and, Bool.true_or]
    go_enter Try.func139, Try.ntmps139
    go_wp2_with (first | (go_at_call 70; refine (in_c _ _ _ _).mono ?_; rintro e w' ⟨rfl, rfl⟩) | (go_at_call 170; refine (sIsWord_c _ _).mono ?_; rintro e w' ⟨rfl, rfl⟩))
    go_ret
    exact ⟨ret_bool (by rw [HQ.out]), BEL.out _⟩
  case false =>
    by_cases h6 : (dat == 0) = true
    · have HQ : Hid (reqOk lines id ten line false dat att = inB att 0 1000000) := by unfold Hid reqOk; simp only [h1, h2, h3, h4, h5, h6, Bool.true_and, Bool.false_or]
      go_enter Try.func139, Try.ntmps139
      go_wp2_with (first | (go_at_call 70; refine (in_c _ _ _ _).mono ?_; rintro e w' ⟨rfl, rfl⟩) | (go_at_call 170; refine (sIsWord_c _ _).mono ?_; rintro e w' ⟨rfl, rfl⟩))
      go_ret
      exact ⟨ret_bool (by rw [HQ.out]), BEL.out _⟩
    · have h6' : (dat == 0) = false := by simpa using h6
      clear h6
      have HQ : Hid (reqOk lines id ten line false dat att = false) := by unfold Hid reqOk; simp only [h1, h2, h3, h4, h5, h6', Bool.true_and, Bool.false_or, Bool.false_and]
      go_enter Try.func139, Try.ntmps139
      go_wp2_with (first | (go_at_call 70; refine (in_c _ _ _ _).mono ?_; rintro e w' ⟨rfl, rfl⟩) | (go_at_call 170; refine (sIsWord_c _ _).mono ?_; rintro e w' ⟨rfl, rfl⟩))
      go_ret
      exact ⟨ret_bool (by rw [HQ.out]), BEL.out _⟩
set_option maxRecDepth 100000 in
set_option maxHeartbeats 1000000 in
theorem l19Before_c (id ten line : Int) (wrt : Bool) (dat att : Int) (id2 ten2 line2 : Int) (wrt2 : Bool) (dat2 att2 : Int) (w : World) :
    Calls Try.prog 89 #[.agg #[.int .i64 id, .int .i64 ten, .int .i64 line, .bool wrt, .int .i64 dat, .int .i64 att], .agg #[.int .i64 id2, .int .i64 ten2, .int .i64 line2, .bool wrt2, .int .i64 dat2, .int .i64 att2]] w fun e w' => e = .returned (.bool (befB att id att2 id2)) ∧ Below w.heap.size w w' := by
  have BEL : Hid (∀ o1 o2, Below w.heap.size w ((w.alloc o1).alloc o2)) := fun o1 o2 => ((Below.refl _ _).alloc (Nat.le_refl _) _).alloc (by simp) _
  by_cases h1 : att < att2
  · have HQ : Hid (befB att id att2 id2 = true) := by unfold Hid befB; simp [h1]
    go_enter Try.func89, Try.ntmps89
    go_wp2
    go_ret
    exact ⟨ret_bool (by rw [HQ.out]), BEL.out _ _⟩
  · by_cases h2 : (att == att2) = true
    · have HQ : Hid (befB att id att2 id2 = decide (id < id2)) := by unfold Hid befB; rw [h2]; simp [h1]
      go_enter Try.func89, Try.ntmps89
      go_wp2
      go_ret
      exact ⟨ret_bool (by rw [HQ.out]), BEL.out _ _⟩
    · have h2' : (att == att2) = false := by simpa using h2
      have HQ : Hid (befB att id att2 id2 = false) := by unfold Hid befB; rw [h2']; simp [h1]
      clear h2
      go_enter Try.func89, Try.ntmps89
      go_wp2
      go_ret
      exact ⟨ret_bool (by rw [HQ.out]), BEL.out _ _⟩
set_option maxRecDepth 100000 in
set_option maxHeartbeats 1000000 in
theorem l19At_c (A : Option Addr) (n c : Nat) (rs : List Req) (x : Int) (w : World) (h : Reqs w A n rs) (hn : n ≤ 1048576) :
    Calls Try.prog 140 #[.slice A n c, .int .i64 x] w fun e w' => e = .returned (.int .i64 (atId rs x)) ∧ w = w' := by
  have hl := Lib.hid h.len
  unfold atId
  go_enter Try.func140, Try.ntmps140
  go_wp2
  go_loop [5] (fun i => ∃ k : Nat, k ≤ n ∧ i = .int .i64 k ∧ Hid (x ∉ (rs.map Req.id).take k)) (fun i => n - (intOf i).toNat)
  case atStart => exact ⟨0, Nat.zero_le _, rfl, by unfold Hid; simp⟩
  case round =>
    obtain ⟨k, hk, rfl, HK⟩ := hrel
    by_cases hlt : k < n
    · obtain ⟨g, o, id, ten, line, wrt, dat, att, rfl, hg, h0, h1, h2, h3, h4, h5, hr⟩ := h.at_ hlt
      have hy : Hid ((rs.map Req.id)[k]? = some id) := by unfold Hid; rw [List.getElem?_map, hr.out]; rfl
      by_cases hxy : (id == x) = true
      · obtain rfl : id = x := by simpa using hxy
        have HI := Lib.hid (idxI_at HK.out hy.out)
        go_wp2
        go_ret
        exact ⟨ret_int HI.out.symm, rfl⟩
      · have hxy' : (id == x) = false := by simpa using hxy
        have hxz : (x == id) = false := by rw [← hxy']; exact Bool.eq_iff_iff.2 (by rw [beq_iff_eq, beq_iff_eq]; exact ⟨Eq.symm, Eq.symm⟩)
        have HM := Lib.hid (not_mem_snoc HK.out hy.out hxz)
        clear hxy hxz
        go_wp2
        go_round
        case rel => exact ⟨k + 1, by omega, by go_num, HM.out⟩
        case measure => simp [intOf]; omega
    · have HM : Hid (idxI (rs.map Req.id) x = -1) := by
        have := HK.out
        rw [List.take_of_length_le (by rw [List.length_map, hl.out]; omega)] at this
        exact idxI_none this
      go_wp2
      go_ret
      exact ⟨ret_int HM.out.symm, rfl⟩
end Go.Proofs.Ytbapamfomfbmmaa
