/-
  The contracts on trackers as the walks of the laws take them.
-/
import Derived.Test.YtbcbgdomjefdhaaTkE
import Derived.Test.YtbcbgdomjefdhaaTkC
namespace Go.Proofs.Ytbcbgdomjefdhaa
open Go.RowKit
set_option linter.unusedSimpArgs false
set_option linter.unusedVariables false

/-- A new tracker and a bool, its two rows in new memory and apart. -/
def NewTB (rs cs : List Int) (s : Int) (ok : Bool) (w : World) (e : Ending) (w' : World) : Prop :=
  ∃ A n c B m d, e = .returned (.tuple #[.agg #[.slice A n c, .slice B m d, .int .i64 s], .bool ok]) ∧ OwnT w' w.heap.size w'.heap.size A n c rs B m d cs ∧ Below w.heap.size w w'
theorem NewTkB.tb {rs cs : List Int} {s : Int} {ok : Bool} {w w' : World} {e : Ending} (h : NewTkB rs cs s ok w e w') : NewTB rs cs s ok w e w' := by
  obtain ⟨A, n, c, B, m, d, l1, h1, l2, h2, he, oA, oB, ⟨a1, a2, a3, a4, a5⟩, b⟩ := h
  refine ⟨A, n, c, B, m, d, he, ⟨oA.mono a1 a2, oB.mono a3 a4, fun k hk hk' => ?_⟩, b⟩
  have p1 := (oA.1.lt k hk).1
  have p2 := oA.2 k hk
  have p3 := (oB.1.lt k hk').1
  have p4 := oB.2 k hk'
  omega
theorem tnR_len (k : Int) : (tnR k).length ≤ 16 ∧ (tnC k).length ≤ 16 := by
  unfold tnR tnC
  split
  · rename_i h
    have := inB_t h
    simp; omega
  · simp
theorem OwnT.adrew {w : World} {lo hi n c m d : Nat} {A B : Option Addr} {rs cs : List Int} (h : OwnT w lo hi A n c rs B m d cs) : OwnT w.drew lo hi A n c rs B m d cs := h
theorem toTracker_h (A : Option Addr) (n c : Nat) (B : Option Addr) (m d : Nat) (rs cs : List Int) (s : Int) (w : World) (hA : Ints w A n rs) (hB : Ints w B m cs) (hn : n + m ≤ 1048576) :
    Calls Try.prog 52 #[.agg #[.slice A n c, .slice B m d, .int .i64 s]] w (NewT rs cs s w) := toTracker_c A B n c m d rs cs s w hA hB hn
theorem eqTracker_h (A : Option Addr) (n c : Nat) (B : Option Addr) (m d : Nat) (A' : Option Addr) (n' c' : Nat) (B' : Option Addr) (m' d' : Nat) (rs cs : List Int) (s : Int) (w : World) (hA : Ints w A n rs) (hB : Ints w B m cs) (hA' : Ints w A' n' rs) (hB' : Ints w B' m' cs) (hn : n ≤ 1048576) (hm : m ≤ 1048576) :
    Calls Try.prog 47 #[.agg #[.slice A n c, .slice B m d, .int .i64 s], .agg #[.slice A' n' c', .slice B' m' d', .int .i64 s]] w fun e w' => e = .returned (.bool true) ∧ Below w.heap.size w w' := eqTracker_c A B A' B' n c m d n' c' m' d' rs cs s w hA hB hA' hB' hn hm
theorem markTracker_h (A : Option Addr) (n c : Nat) (B : Option Addr) (m d : Nat) (lo hi : Nat) (rs cs : List Int) (s : Int) (k : Int) (w : World) (h : OwnT w lo hi A n c rs B m d cs) (hn : n ≤ 1048576) (hm : m ≤ 1048576) (hk0 : 0 ≤ k) (hk : k ≤ 100000000) :
    Calls Try.prog 48 #[.agg #[.slice A n c, .slice B m d, .int .i64 s], .int .i64 k] w fun e w' => e = .returned (.int .i64 (k + n + m)) ∧ OwnT w' lo hi A n c (marks k n) B m d (marks (k + n) m) ∧ Chg lo hi w w' := markTracker_c A B n c m d lo hi rs cs s k w h hn hm hk0 hk
theorem heldTracker_h (A : Option Addr) (n c : Nat) (B : Option Addr) (m d : Nat) (s : Int) (k : Int) (w : World) (hA : Ints w A n (marks k n)) (hB : Ints w B m (marks (k + n) m)) (hn : n ≤ 1048576) (hm : m ≤ 1048576) (hk0 : 0 ≤ k) (hk : k ≤ 100000000) :
    Calls Try.prog 49 #[.agg #[.slice A n c, .slice B m d, .int .i64 s], .int .i64 k] w fun e w' => e = .returned (.int .i64 (k + n + m)) ∧ Below w.heap.size w w' := heldTracker_c A B n c m d s k w hA hB hn hm hk0 hk
theorem iTrackerNew_t (k : Int) (w : World) :
    Calls Try.prog 46 #[.int .i64 k] w (NewTB (tnR k) (tnC k) 0 (inB k 1 16) w) := (iTrackerNew_c k w).mono fun _ _ h => h.tb
theorem sTrackerNew_t (k : Int) (w : World) :
    Calls Try.prog 45 #[.int .i64 k] w (NewTB (tnR k) (tnC k) 0 (inB k 1 16) w) := (sTrackerNew_c k w).mono fun _ _ h => h.tb
end Go.Proofs.Ytbcbgdomjefdhaa
