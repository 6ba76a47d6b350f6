/-
  The contracts of TrackRow as the walk of its law takes them.
-/
import Derived.Test.YtbcbgdomjefdhaaTkW
import Derived.Test.YtbcbgdomjefdhaaTkD
namespace Go.Proofs.Ytbcbgdomjefdhaa
open Go.RowKit
set_option linter.unusedSimpArgs false
set_option linter.unusedVariables false

theorem trk_len (rs cs : List Int) (s row limit : Int) : (trkR' rs cs s row limit).length = rs.length ∧ (trkC' rs cs s row limit).length = cs.length := by
  unfold trkR' trkC'
  split
  · constructor
    · unfold trkR; split
      · rfl
      · split
        · simp
        · rfl
    · unfold trkC; split
      · simp
      · split
        · simp
        · rfl
  · exact ⟨rfl, rfl⟩
theorem iTrackRow_t (A : Option Addr) (n c : Nat) (B : Option Addr) (m d : Nat) (rs cs : List Int) (s row limit : Int) (w : World) (hA : Ints w A n rs) (hB : Ints w B m cs) (hn : n ≤ 1048576) (hm : m ≤ 1048576) :
    Calls Try.prog 53 #[.agg #[.slice A n c, .slice B m d, .int .i64 s], .int .i64 row, .int .i64 limit] w (NewTB (trkR' rs cs s row limit) (trkC' rs cs s row limit) (trkS' rs cs s row limit) (trkFull rs cs s row limit) w) := (iTrackRow_c A B n c m d rs cs s row limit w hA hB hn hm).mono fun _ _ h => h.tb
theorem sTrackRow_t (A : Option Addr) (n c : Nat) (B : Option Addr) (m d : Nat) (rs cs : List Int) (s row limit : Int) (w : World) (hA : Ints w A n rs) (hB : Ints w B m cs) (hn : n ≤ 1048576) (hm : m ≤ 1048576) :
    Calls Try.prog 51 #[.agg #[.slice A n c, .slice B m d, .int .i64 s], .int .i64 row, .int .i64 limit] w (NewTB (trkR' rs cs s row limit) (trkC' rs cs s row limit) (trkS' rs cs s row limit) (trkFull rs cs s row limit) w) := (sTrackRow_c A B n c m d rs cs s row limit w hA hB hn hm).mono fun _ _ h => h.tb
theorem szTracker_n (A : Option Addr) (n c : Nat) (B : Option Addr) (m d : Nat) (rs cs : List Int) (s : Int) (k : Int) (w : World) (hk : k = 1048576) (hk' : 0 ≤ k) (h1 : n ≤ maxLen) (h2 : m ≤ maxLen) (hn : k < (n : Int) + (m : Int)) :
    Calls Try.prog 50 #[.agg #[.slice A n c, .slice B m d, .int .i64 s], .int .i64 k] w fun e w' => e = .returned (.int .i64 (-1)) ∧ Below w.heap.size w w' := by
  subst hk
  exact szTracker_no A B n c m d s w h1 h2 (by omega)
theorem szTracker_y (A : Option Addr) (n c : Nat) (B : Option Addr) (m d : Nat) (rs cs : List Int) (s : Int) (k : Int) (w : World) (hk : k = 1048576) (hn : (n : Int) + (m : Int) ≤ k) :
    Calls Try.prog 50 #[.agg #[.slice A n c, .slice B m d, .int .i64 s], .int .i64 k] w fun e w' => e = .returned (.int .i64 (k - n - m)) ∧ Below w.heap.size w w' := by
  subst hk
  exact szTracker_yes A B n c m d s w (by omega)
end Go.Proofs.Ytbcbgdomjefdhaa
