/-
  No cell of these rows narrows 'for every input' (looked for: loops, veiled, ifaces, maps, wideKeys, modest, calm, conditions, laid).
  DERIVED. THE GIVEN ROWS OF THIS SEAT. 12 by the template 'for every input the law returns true; each argument reads behind the call as it read before'; 0 by the template 'total and deterministic' (their statements: YtlfgeoccbbplmaaTotals.lean).
  GIVEN WITH THE SEED: the statements are not yours to turn. If you find one false, say at which input.
  Laid BY PROGRAM, IN A SANDBOX (cutbox-rows.mjs): the forced cells as the released guide's own fill.sh prints them over the translation e1d0c54e199ec805… (all of the seat's roots in one cut). By AI agents, Wed Nov 11 2026. No macro, syntax, notation, axiom, sorry.
-/
import Derived.Test.YtlfgeoccbbplmaaChecked
import GoSem.Claim
import GoSem.ClaimJoined
import GoSem.ClaimMapViews
import Derived.JoinedTies
import Derived.KernelRfl
namespace Go.Proofs.Ytlfgeoccbbplmaa
/- THE CELL 'sum', in the pinned program and in every row, IS THE sha256 OF THE DUMP (.gsa) THAT YtlfgeoccbbplmaaProg.lean LOADS. Nothing in Lean hashes anything: it is a label: what it is worth is what the hold of that sum in a sandbox is worth. -/
noncomputable def Try.pinned : Pinned := { name := "ytlfgeoccbbplmaa", sum := "e1d0c54e199ec805687f80f575fca42570c25d41391753a13a27f386d600e5ff", checked := Try.checked }
namespace Rows
def none {H : Type} : Left H := { results := [], args := [] }

/-- 'laws.FnExactGuardBound': WHATEVER THE INPUT: true; the input reads as it did. -/
def fnExactGuardBoundSpec : ChangeSpec := { name := "fnExactGuardBound", fn := fun _ => fun
  | [d] => { results := [.lit (.bool true)], args := [d] }
  | _ => none }
def fnExactGuardBoundRow : OpenClaim := { program := "ytlfgeoccbbplmaa", sum := "e1d0c54e199ec805687f80f575fca42570c25d41391753a13a27f386d600e5ff", func := "loop.example/g00977/laws.FnExactGuardBound", spec := "fnExactGuardBound", apart := false }
def FnExactGuardBoundSaid : Prop := fnExactGuardBoundRow.holds Try.pinned (OpenSpec.ofChange fnExactGuardBoundSpec)

/-- ITS FALSE NEIGHBOUR: 'it returns false'. Refute it at one input. -/
def fnExactGuardBoundWrong : ChangeSpec := { name := "fnExactGuardBound", fn := fun _ => fun
  | [d] => { results := [.lit (.bool false)], args := [d] }
  | _ => none }
def FnExactGuardBoundWrongFalsely : Prop := fnExactGuardBoundRow.holds Try.pinned (OpenSpec.ofChange fnExactGuardBoundWrong)

/-- 'laws.FnExactCountRow': WHATEVER THE INPUT: true; the input reads as it did. -/
def fnExactCountRowSpec : ChangeSpec := { name := "fnExactCountRow", fn := fun _ => fun
  | [d1, d2] => { results := [.lit (.bool true)], args := [d1, d2] }
  | _ => none }
def fnExactCountRowRow : OpenClaim := { program := "ytlfgeoccbbplmaa", sum := "e1d0c54e199ec805687f80f575fca42570c25d41391753a13a27f386d600e5ff", func := "loop.example/g00977/laws.FnExactCountRow", spec := "fnExactCountRow", apart := false }
def FnExactCountRowSaid : Prop := fnExactCountRowRow.holds Try.pinned (OpenSpec.ofChange fnExactCountRowSpec)

/-- ITS FALSE NEIGHBOUR: 'it returns false'. Refute it at one input. -/
def fnExactCountRowWrong : ChangeSpec := { name := "fnExactCountRow", fn := fun _ => fun
  | [d1, d2] => { results := [.lit (.bool false)], args := [d1, d2] }
  | _ => none }
def FnExactCountRowWrongFalsely : Prop := fnExactCountRowRow.holds Try.pinned (OpenSpec.ofChange fnExactCountRowWrong)

/-- 'laws.FnExactPatternOk': WHATEVER THE INPUT: true; the input reads as it did. -/
def fnExactPatternOkSpec : ChangeSpec := { name := "fnExactPatternOk", fn := fun _ => fun
  | [d1, d2] => { results := [.lit (.bool true)], args := [d1, d2] }
  | _ => none }
def fnExactPatternOkRow : OpenClaim := { program := "ytlfgeoccbbplmaa", sum := "e1d0c54e199ec805687f80f575fca42570c25d41391753a13a27f386d600e5ff", func := "loop.example/g00977/laws.FnExactPatternOk", spec := "fnExactPatternOk", apart := false }
def FnExactPatternOkSaid : Prop := fnExactPatternOkRow.holds Try.pinned (OpenSpec.ofChange fnExactPatternOkSpec)

/-- ITS FALSE NEIGHBOUR: 'it returns false'. Refute it at one input. -/
def fnExactPatternOkWrong : ChangeSpec := { name := "fnExactPatternOk", fn := fun _ => fun
  | [d1, d2] => { results := [.lit (.bool false)], args := [d1, d2] }
  | _ => none }
def FnExactPatternOkWrongFalsely : Prop := fnExactPatternOkRow.holds Try.pinned (OpenSpec.ofChange fnExactPatternOkWrong)

/-- 'laws.FnExactNeighbors': WHATEVER THE INPUT: true; the input reads as it did. -/
def fnExactNeighborsSpec : ChangeSpec := { name := "fnExactNeighbors", fn := fun _ => fun
  | [d1, d2] => { results := [.lit (.bool true)], args := [d1, d2] }
  | _ => none }
def fnExactNeighborsRow : OpenClaim := { program := "ytlfgeoccbbplmaa", sum := "e1d0c54e199ec805687f80f575fca42570c25d41391753a13a27f386d600e5ff", func := "loop.example/g00977/laws.FnExactNeighbors", spec := "fnExactNeighbors", apart := false }
def FnExactNeighborsSaid : Prop := fnExactNeighborsRow.holds Try.pinned (OpenSpec.ofChange fnExactNeighborsSpec)

/-- ITS FALSE NEIGHBOUR: 'it returns false'. Refute it at one input. -/
def fnExactNeighborsWrong : ChangeSpec := { name := "fnExactNeighbors", fn := fun _ => fun
  | [d1, d2] => { results := [.lit (.bool false)], args := [d1, d2] }
  | _ => none }
def FnExactNeighborsWrongFalsely : Prop := fnExactNeighborsRow.holds Try.pinned (OpenSpec.ofChange fnExactNeighborsWrong)

/-- 'laws.FnExactExposure': WHATEVER THE INPUT: true; the input reads as it did. -/
def fnExactExposureSpec : ChangeSpec := { name := "fnExactExposure", fn := fun _ => fun
  | [d1, d2, d3] => { results := [.lit (.bool true)], args := [d1, d2, d3] }
  | _ => none }
def fnExactExposureRow : OpenClaim := { program := "ytlfgeoccbbplmaa", sum := "e1d0c54e199ec805687f80f575fca42570c25d41391753a13a27f386d600e5ff", func := "loop.example/g00977/laws.FnExactExposure", spec := "fnExactExposure", apart := false }
def FnExactExposureSaid : Prop := fnExactExposureRow.holds Try.pinned (OpenSpec.ofChange fnExactExposureSpec)

/-- ITS FALSE NEIGHBOUR: 'it returns false'. Refute it at one input. -/
def fnExactExposureWrong : ChangeSpec := { name := "fnExactExposure", fn := fun _ => fun
  | [d1, d2, d3] => { results := [.lit (.bool false)], args := [d1, d2, d3] }
  | _ => none }
def FnExactExposureWrongFalsely : Prop := fnExactExposureRow.holds Try.pinned (OpenSpec.ofChange fnExactExposureWrong)

/-- 'laws.FnExactWorstExposure': WHATEVER THE INPUT: true; the input reads as it did. -/
def fnExactWorstExposureSpec : ChangeSpec := { name := "fnExactWorstExposure", fn := fun _ => fun
  | [d1, d2] => { results := [.lit (.bool true)], args := [d1, d2] }
  | _ => none }
def fnExactWorstExposureRow : OpenClaim := { program := "ytlfgeoccbbplmaa", sum := "e1d0c54e199ec805687f80f575fca42570c25d41391753a13a27f386d600e5ff", func := "loop.example/g00977/laws.FnExactWorstExposure", spec := "fnExactWorstExposure", apart := false }
def FnExactWorstExposureSaid : Prop := fnExactWorstExposureRow.holds Try.pinned (OpenSpec.ofChange fnExactWorstExposureSpec)

/-- ITS FALSE NEIGHBOUR: 'it returns false'. Refute it at one input. -/
def fnExactWorstExposureWrong : ChangeSpec := { name := "fnExactWorstExposure", fn := fun _ => fun
  | [d1, d2] => { results := [.lit (.bool false)], args := [d1, d2] }
  | _ => none }
def FnExactWorstExposureWrongFalsely : Prop := fnExactWorstExposureRow.holds Try.pinned (OpenSpec.ofChange fnExactWorstExposureWrong)

/-- 'laws.FnExactTrackCount': WHATEVER THE INPUT: true; the input reads as it did. -/
def fnExactTrackCountSpec : ChangeSpec := { name := "fnExactTrackCount", fn := fun _ => fun
  | [d1, d2] => { results := [.lit (.bool true)], args := [d1, d2] }
  | _ => none }
def fnExactTrackCountRow : OpenClaim := { program := "ytlfgeoccbbplmaa", sum := "e1d0c54e199ec805687f80f575fca42570c25d41391753a13a27f386d600e5ff", func := "loop.example/g00977/laws.FnExactTrackCount", spec := "fnExactTrackCount", apart := false }
def FnExactTrackCountSaid : Prop := fnExactTrackCountRow.holds Try.pinned (OpenSpec.ofChange fnExactTrackCountSpec)

/-- ITS FALSE NEIGHBOUR: 'it returns false'. Refute it at one input. -/
def fnExactTrackCountWrong : ChangeSpec := { name := "fnExactTrackCount", fn := fun _ => fun
  | [d1, d2] => { results := [.lit (.bool false)], args := [d1, d2] }
  | _ => none }
def FnExactTrackCountWrongFalsely : Prop := fnExactTrackCountRow.holds Try.pinned (OpenSpec.ofChange fnExactTrackCountWrong)

/-- 'laws.FnExactTrackerOk': WHATEVER THE INPUT: true; the input reads as it did. -/
def fnExactTrackerOkSpec : ChangeSpec := { name := "fnExactTrackerOk", fn := fun _ => fun
  | [d] => { results := [.lit (.bool true)], args := [d] }
  | _ => none }
def fnExactTrackerOkRow : OpenClaim := { program := "ytlfgeoccbbplmaa", sum := "e1d0c54e199ec805687f80f575fca42570c25d41391753a13a27f386d600e5ff", func := "loop.example/g00977/laws.FnExactTrackerOk", spec := "fnExactTrackerOk", apart := false }
def FnExactTrackerOkSaid : Prop := fnExactTrackerOkRow.holds Try.pinned (OpenSpec.ofChange fnExactTrackerOkSpec)

/-- ITS FALSE NEIGHBOUR: 'it returns false'. Refute it at one input. -/
def fnExactTrackerOkWrong : ChangeSpec := { name := "fnExactTrackerOk", fn := fun _ => fun
  | [d] => { results := [.lit (.bool false)], args := [d] }
  | _ => none }
def FnExactTrackerOkWrongFalsely : Prop := fnExactTrackerOkRow.holds Try.pinned (OpenSpec.ofChange fnExactTrackerOkWrong)

/-- 'laws.FnExactTrackerNew': WHATEVER THE INPUT: true; the input reads as it did. -/
def fnExactTrackerNewSpec : ChangeSpec := { name := "fnExactTrackerNew", fn := fun _ => fun
  | [d] => { results := [.lit (.bool true)], args := [d] }
  | _ => none }
def fnExactTrackerNewRow : OpenClaim := { program := "ytlfgeoccbbplmaa", sum := "e1d0c54e199ec805687f80f575fca42570c25d41391753a13a27f386d600e5ff", func := "loop.example/g00977/laws.FnExactTrackerNew", spec := "fnExactTrackerNew", apart := false }
def FnExactTrackerNewSaid : Prop := fnExactTrackerNewRow.holds Try.pinned (OpenSpec.ofChange fnExactTrackerNewSpec)

/-- ITS FALSE NEIGHBOUR: 'it returns false'. Refute it at one input. -/
def fnExactTrackerNewWrong : ChangeSpec := { name := "fnExactTrackerNew", fn := fun _ => fun
  | [d] => { results := [.lit (.bool false)], args := [d] }
  | _ => none }
def FnExactTrackerNewWrongFalsely : Prop := fnExactTrackerNewRow.holds Try.pinned (OpenSpec.ofChange fnExactTrackerNewWrong)

/-- 'laws.FnExactTrackRow': WHATEVER THE INPUT: true; the input reads as it did. -/
def fnExactTrackRowSpec : ChangeSpec := { name := "fnExactTrackRow", fn := fun _ => fun
  | [d1, d2, d3] => { results := [.lit (.bool true)], args := [d1, d2, d3] }
  | _ => none }
def fnExactTrackRowRow : OpenClaim := { program := "ytlfgeoccbbplmaa", sum := "e1d0c54e199ec805687f80f575fca42570c25d41391753a13a27f386d600e5ff", func := "loop.example/g00977/laws.FnExactTrackRow", spec := "fnExactTrackRow", apart := false }
def FnExactTrackRowSaid : Prop := fnExactTrackRowRow.holds Try.pinned (OpenSpec.ofChange fnExactTrackRowSpec)

/-- ITS FALSE NEIGHBOUR: 'it returns false'. Refute it at one input. -/
def fnExactTrackRowWrong : ChangeSpec := { name := "fnExactTrackRow", fn := fun _ => fun
  | [d1, d2, d3] => { results := [.lit (.bool false)], args := [d1, d2, d3] }
  | _ => none }
def FnExactTrackRowWrongFalsely : Prop := fnExactTrackRowRow.holds Try.pinned (OpenSpec.ofChange fnExactTrackRowWrong)

/-- 'laws.FnExactGuardedRun': WHATEVER THE INPUT: true; the input reads as it did. -/
def fnExactGuardedRunSpec : ChangeSpec := { name := "fnExactGuardedRun", fn := fun _ => fun
  | [d1, d2, d3, d4] => { results := [.lit (.bool true)], args := [d1, d2, d3, d4] }
  | _ => none }
def fnExactGuardedRunRow : OpenClaim := { program := "ytlfgeoccbbplmaa", sum := "e1d0c54e199ec805687f80f575fca42570c25d41391753a13a27f386d600e5ff", func := "loop.example/g00977/laws.FnExactGuardedRun", spec := "fnExactGuardedRun", unfollowed := true, recurses := true, apart := false }
def FnExactGuardedRunSaid : Prop := fnExactGuardedRunRow.holds Try.pinned (OpenSpec.ofChange fnExactGuardedRunSpec)

/-- ITS FALSE NEIGHBOUR: 'it returns false'. Refute it at one input. -/
def fnExactGuardedRunWrong : ChangeSpec := { name := "fnExactGuardedRun", fn := fun _ => fun
  | [d1, d2, d3, d4] => { results := [.lit (.bool false)], args := [d1, d2, d3, d4] }
  | _ => none }
def FnExactGuardedRunWrongFalsely : Prop := fnExactGuardedRunRow.holds Try.pinned (OpenSpec.ofChange fnExactGuardedRunWrong)

/-- 'laws.FnExposures': WHATEVER THE INPUT: true; the input reads as it did. -/
def fnExposuresSpec : ChangeSpec := { name := "fnExposures", fn := fun _ => fun
  | [d] => { results := [.lit (.bool true)], args := [d] }
  | _ => none }
def fnExposuresRow : OpenClaim := { program := "ytlfgeoccbbplmaa", sum := "e1d0c54e199ec805687f80f575fca42570c25d41391753a13a27f386d600e5ff", func := "loop.example/g00977/laws.FnExposures", spec := "fnExposures", apart := false }
def FnExposuresSaid : Prop := fnExposuresRow.holds Try.pinned (OpenSpec.ofChange fnExposuresSpec)

/-- ITS FALSE NEIGHBOUR: 'it returns false'. Refute it at one input. -/
def fnExposuresWrong : ChangeSpec := { name := "fnExposures", fn := fun _ => fun
  | [d] => { results := [.lit (.bool false)], args := [d] }
  | _ => none }
def FnExposuresWrongFalsely : Prop := fnExposuresRow.holds Try.pinned (OpenSpec.ofChange fnExposuresWrong)

/- THE SECOND FORM. 'bulk': how many values and letters a reading holds, each counted each time it is reached (what is shared counts as often as it is met; a slice's spare places count too). A statement '..UptoSaid' is the law's where the arguments, and the package variables that the reading takes, are together of bulk at most 1048576: NARROWER than '..Said'. Prove '..Said' where nothing that the law and all that it calls make is longer than what came in: it says more and counts as full. Else prove '..UptoSaid'. A law counts once. -/
mutual
def uptoBulk {H : Type} : DataW H → Nat
  | .lit (.string bytes) => bytes.length + 1
  | .lit _ => 1
  | .nil => 1
  | .ptr d => uptoBulk d + 1
  | .slice elems spare => uptoBulkAll elems + uptoBulkAll spare + 1
  | .agg parts => uptoBulkAll parts + 1
  | .iface _ d => uptoBulk d + 1
  | .map entries => uptoBulkEntries entries + 1
  | .held _ => 1
def uptoBulkAll {H : Type} : List (DataW H) → Nat
  | [] => 0
  | d :: r => uptoBulk d + uptoBulkAll r
def uptoBulkEntries {H : Type} : List (Lit × DataW H) → Nat
  | [] => 0
  | x :: r => uptoBulkEntry x + uptoBulkEntries r
def uptoBulkEntry {H : Type} : Lit × DataW H → Nat
  | (.string bytes, d) => bytes.length + uptoBulk d + 1
  | (_, d) => uptoBulk d + 1
 end
def uptoSmall : (H : Type) → List (DataW H) → Bool := fun _ ds => decide (uptoBulkAll ds ≤ 1048576)
def OpenSpec.upto (s : _root_.Go.ChangeSpec) : _root_.Go.OpenSpec := { _root_.Go.OpenSpec.ofChange s with cond := some uptoSmall }

/-- 'laws.FnExactGuardBound', WHERE WHAT IT READS IS OF BULK AT MOST 1048576: true; the input reads as it did. -/
def fnExactGuardBoundUptoRow : OpenClaim := { program := "ytlfgeoccbbplmaa", sum := "e1d0c54e199ec805687f80f575fca42570c25d41391753a13a27f386d600e5ff", func := "loop.example/g00977/laws.FnExactGuardBound", spec := "fnExactGuardBound", apart := false, narrowed := true }
def FnExactGuardBoundUptoSaid : Prop := fnExactGuardBoundUptoRow.holds Try.pinned (OpenSpec.upto fnExactGuardBoundSpec)

/-- 'laws.FnExactCountRow', WHERE WHAT IT READS IS OF BULK AT MOST 1048576: true; the input reads as it did. -/
def fnExactCountRowUptoRow : OpenClaim := { program := "ytlfgeoccbbplmaa", sum := "e1d0c54e199ec805687f80f575fca42570c25d41391753a13a27f386d600e5ff", func := "loop.example/g00977/laws.FnExactCountRow", spec := "fnExactCountRow", apart := false, narrowed := true }
def FnExactCountRowUptoSaid : Prop := fnExactCountRowUptoRow.holds Try.pinned (OpenSpec.upto fnExactCountRowSpec)

/-- 'laws.FnExactPatternOk', WHERE WHAT IT READS IS OF BULK AT MOST 1048576: true; the input reads as it did. -/
def fnExactPatternOkUptoRow : OpenClaim := { program := "ytlfgeoccbbplmaa", sum := "e1d0c54e199ec805687f80f575fca42570c25d41391753a13a27f386d600e5ff", func := "loop.example/g00977/laws.FnExactPatternOk", spec := "fnExactPatternOk", apart := false, narrowed := true }
def FnExactPatternOkUptoSaid : Prop := fnExactPatternOkUptoRow.holds Try.pinned (OpenSpec.upto fnExactPatternOkSpec)

/-- 'laws.FnExactNeighbors', WHERE WHAT IT READS IS OF BULK AT MOST 1048576: true; the input reads as it did. -/
def fnExactNeighborsUptoRow : OpenClaim := { program := "ytlfgeoccbbplmaa", sum := "e1d0c54e199ec805687f80f575fca42570c25d41391753a13a27f386d600e5ff", func := "loop.example/g00977/laws.FnExactNeighbors", spec := "fnExactNeighbors", apart := false, narrowed := true }
def FnExactNeighborsUptoSaid : Prop := fnExactNeighborsUptoRow.holds Try.pinned (OpenSpec.upto fnExactNeighborsSpec)

/-- 'laws.FnExactExposure', WHERE WHAT IT READS IS OF BULK AT MOST 1048576: true; the input reads as it did. -/
def fnExactExposureUptoRow : OpenClaim := { program := "ytlfgeoccbbplmaa", sum := "e1d0c54e199ec805687f80f575fca42570c25d41391753a13a27f386d600e5ff", func := "loop.example/g00977/laws.FnExactExposure", spec := "fnExactExposure", apart := false, narrowed := true }
def FnExactExposureUptoSaid : Prop := fnExactExposureUptoRow.holds Try.pinned (OpenSpec.upto fnExactExposureSpec)

/-- 'laws.FnExactWorstExposure', WHERE WHAT IT READS IS OF BULK AT MOST 1048576: true; the input reads as it did. -/
def fnExactWorstExposureUptoRow : OpenClaim := { program := "ytlfgeoccbbplmaa", sum := "e1d0c54e199ec805687f80f575fca42570c25d41391753a13a27f386d600e5ff", func := "loop.example/g00977/laws.FnExactWorstExposure", spec := "fnExactWorstExposure", apart := false, narrowed := true }
def FnExactWorstExposureUptoSaid : Prop := fnExactWorstExposureUptoRow.holds Try.pinned (OpenSpec.upto fnExactWorstExposureSpec)

/-- 'laws.FnExactTrackCount', WHERE WHAT IT READS IS OF BULK AT MOST 1048576: true; the input reads as it did. -/
def fnExactTrackCountUptoRow : OpenClaim := { program := "ytlfgeoccbbplmaa", sum := "e1d0c54e199ec805687f80f575fca42570c25d41391753a13a27f386d600e5ff", func := "loop.example/g00977/laws.FnExactTrackCount", spec := "fnExactTrackCount", apart := false, narrowed := true }
def FnExactTrackCountUptoSaid : Prop := fnExactTrackCountUptoRow.holds Try.pinned (OpenSpec.upto fnExactTrackCountSpec)

/-- 'laws.FnExactTrackerOk', WHERE WHAT IT READS IS OF BULK AT MOST 1048576: true; the input reads as it did. -/
def fnExactTrackerOkUptoRow : OpenClaim := { program := "ytlfgeoccbbplmaa", sum := "e1d0c54e199ec805687f80f575fca42570c25d41391753a13a27f386d600e5ff", func := "loop.example/g00977/laws.FnExactTrackerOk", spec := "fnExactTrackerOk", apart := false, narrowed := true }
def FnExactTrackerOkUptoSaid : Prop := fnExactTrackerOkUptoRow.holds Try.pinned (OpenSpec.upto fnExactTrackerOkSpec)

/-- 'laws.FnExactTrackerNew', WHERE WHAT IT READS IS OF BULK AT MOST 1048576: true; the input reads as it did. -/
def fnExactTrackerNewUptoRow : OpenClaim := { program := "ytlfgeoccbbplmaa", sum := "e1d0c54e199ec805687f80f575fca42570c25d41391753a13a27f386d600e5ff", func := "loop.example/g00977/laws.FnExactTrackerNew", spec := "fnExactTrackerNew", apart := false, narrowed := true }
def FnExactTrackerNewUptoSaid : Prop := fnExactTrackerNewUptoRow.holds Try.pinned (OpenSpec.upto fnExactTrackerNewSpec)

/-- 'laws.FnExactTrackRow', WHERE WHAT IT READS IS OF BULK AT MOST 1048576: true; the input reads as it did. -/
def fnExactTrackRowUptoRow : OpenClaim := { program := "ytlfgeoccbbplmaa", sum := "e1d0c54e199ec805687f80f575fca42570c25d41391753a13a27f386d600e5ff", func := "loop.example/g00977/laws.FnExactTrackRow", spec := "fnExactTrackRow", apart := false, narrowed := true }
def FnExactTrackRowUptoSaid : Prop := fnExactTrackRowUptoRow.holds Try.pinned (OpenSpec.upto fnExactTrackRowSpec)

/-- 'laws.FnExactGuardedRun', WHERE WHAT IT READS IS OF BULK AT MOST 1048576: true; the input reads as it did. -/
def fnExactGuardedRunUptoRow : OpenClaim := { program := "ytlfgeoccbbplmaa", sum := "e1d0c54e199ec805687f80f575fca42570c25d41391753a13a27f386d600e5ff", func := "loop.example/g00977/laws.FnExactGuardedRun", spec := "fnExactGuardedRun", unfollowed := true, recurses := true, apart := false, narrowed := true }
def FnExactGuardedRunUptoSaid : Prop := fnExactGuardedRunUptoRow.holds Try.pinned (OpenSpec.upto fnExactGuardedRunSpec)

/-- 'laws.FnExposures', WHERE WHAT IT READS IS OF BULK AT MOST 1048576: true; the input reads as it did. -/
def fnExposuresUptoRow : OpenClaim := { program := "ytlfgeoccbbplmaa", sum := "e1d0c54e199ec805687f80f575fca42570c25d41391753a13a27f386d600e5ff", func := "loop.example/g00977/laws.FnExposures", spec := "fnExposures", apart := false, narrowed := true }
def FnExposuresUptoSaid : Prop := fnExposuresUptoRow.holds Try.pinned (OpenSpec.upto fnExposuresSpec)

end Rows
end Go.Proofs.Ytlfgeoccbbplmaa
