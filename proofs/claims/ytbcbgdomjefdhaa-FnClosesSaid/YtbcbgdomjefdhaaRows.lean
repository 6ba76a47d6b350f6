/-
  No cell of these rows narrows 'for every input' (looked for: loops, veiled, ifaces, maps, wideKeys, modest, calm, conditions, laid).
  DERIVED. THE GIVEN ROWS OF THIS SEAT. 12 by the template 'for every input the law returns true; each argument reads behind the call as it read before'; 0 by the template 'total and deterministic' (their statements: YtbcbgdomjefdhaaTotals.lean).
  GIVEN WITH THE SEED: the statements are not yours to turn. If you find one false, say at which input.
  Laid BY PROGRAM, IN A SANDBOX (cutbox-rows.mjs): the forced cells as the released guide's own fill.sh prints them over the translation 981df959024163f1… (all of the seat's roots in one cut). By AI agents, Wed Nov 11 2026. No macro, syntax, notation, axiom, sorry.
-/
import Derived.Test.YtbcbgdomjefdhaaChecked
import GoSem.Claim
import GoSem.ClaimJoined
import GoSem.ClaimMapViews
import Derived.JoinedTies
import Derived.KernelRfl
namespace Go.Proofs.Ytbcbgdomjefdhaa
/- THE CELL 'sum', in the pinned program and in every row, IS THE sha256 OF THE DUMP (.gsa) THAT YtbcbgdomjefdhaaProg.lean LOADS. Nothing in Lean hashes anything: it is a label: what it is worth is what the hold of that sum in a sandbox is worth. -/
noncomputable def Try.pinned : Pinned := { name := "ytbcbgdomjefdhaa", sum := "981df959024163f19025d3e5a2b70ca6a7dac847073707cb1cb5eb3a7eb9bdfa", checked := Try.checked }
namespace Rows
def none {H : Type} : Left H := { results := [], args := [] }

/-- 'laws.FnRetired': WHATEVER THE INPUT: true; the input reads as it did. -/
def fnRetiredSpec : ChangeSpec := { name := "fnRetired", fn := fun _ => fun
  | [d] => { results := [.lit (.bool true)], args := [d] }
  | _ => none }
def fnRetiredRow : OpenClaim := { program := "ytbcbgdomjefdhaa", sum := "981df959024163f19025d3e5a2b70ca6a7dac847073707cb1cb5eb3a7eb9bdfa", func := "loop.example/g00977/laws.FnRetired", spec := "fnRetired", apart := false }
def FnRetiredSaid : Prop := fnRetiredRow.holds Try.pinned (OpenSpec.ofChange fnRetiredSpec)

/-- ITS FALSE NEIGHBOUR: 'it returns false'. Refute it at one input. -/
def fnRetiredWrong : ChangeSpec := { name := "fnRetired", fn := fun _ => fun
  | [d] => { results := [.lit (.bool false)], args := [d] }
  | _ => none }
def FnRetiredWrongFalsely : Prop := fnRetiredRow.holds Try.pinned (OpenSpec.ofChange fnRetiredWrong)

/-- 'laws.FnSpares': WHATEVER THE INPUT: true; the input reads as it did. -/
def fnSparesSpec : ChangeSpec := { name := "fnSpares", fn := fun _ => fun
  | [d] => { results := [.lit (.bool true)], args := [d] }
  | _ => none }
def fnSparesRow : OpenClaim := { program := "ytbcbgdomjefdhaa", sum := "981df959024163f19025d3e5a2b70ca6a7dac847073707cb1cb5eb3a7eb9bdfa", func := "loop.example/g00977/laws.FnSpares", spec := "fnSpares", apart := false }
def FnSparesSaid : Prop := fnSparesRow.holds Try.pinned (OpenSpec.ofChange fnSparesSpec)

/-- ITS FALSE NEIGHBOUR: 'it returns false'. Refute it at one input. -/
def fnSparesWrong : ChangeSpec := { name := "fnSpares", fn := fun _ => fun
  | [d] => { results := [.lit (.bool false)], args := [d] }
  | _ => none }
def FnSparesWrongFalsely : Prop := fnSparesRow.holds Try.pinned (OpenSpec.ofChange fnSparesWrong)

/-- 'laws.FnCloses': WHATEVER THE INPUT: true; the input reads as it did. -/
def fnClosesSpec : ChangeSpec := { name := "fnCloses", fn := fun _ => fun
  | [d] => { results := [.lit (.bool true)], args := [d] }
  | _ => none }
def fnClosesRow : OpenClaim := { program := "ytbcbgdomjefdhaa", sum := "981df959024163f19025d3e5a2b70ca6a7dac847073707cb1cb5eb3a7eb9bdfa", func := "loop.example/g00977/laws.FnCloses", spec := "fnCloses", apart := false }
def FnClosesSaid : Prop := fnClosesRow.holds Try.pinned (OpenSpec.ofChange fnClosesSpec)

/-- ITS FALSE NEIGHBOUR: 'it returns false'. Refute it at one input. -/
def fnClosesWrong : ChangeSpec := { name := "fnCloses", fn := fun _ => fun
  | [d] => { results := [.lit (.bool false)], args := [d] }
  | _ => none }
def FnClosesWrongFalsely : Prop := fnClosesRow.holds Try.pinned (OpenSpec.ofChange fnClosesWrong)

/-- 'laws.FnNeeds': WHATEVER THE INPUT: true; the input reads as it did. -/
def fnNeedsSpec : ChangeSpec := { name := "fnNeeds", fn := fun _ => fun
  | [d] => { results := [.lit (.bool true)], args := [d] }
  | _ => none }
def fnNeedsRow : OpenClaim := { program := "ytbcbgdomjefdhaa", sum := "981df959024163f19025d3e5a2b70ca6a7dac847073707cb1cb5eb3a7eb9bdfa", func := "loop.example/g00977/laws.FnNeeds", spec := "fnNeeds", apart := false }
def FnNeedsSaid : Prop := fnNeedsRow.holds Try.pinned (OpenSpec.ofChange fnNeedsSpec)

/-- ITS FALSE NEIGHBOUR: 'it returns false'. Refute it at one input. -/
def fnNeedsWrong : ChangeSpec := { name := "fnNeeds", fn := fun _ => fun
  | [d] => { results := [.lit (.bool false)], args := [d] }
  | _ => none }
def FnNeedsWrongFalsely : Prop := fnNeedsRow.holds Try.pinned (OpenSpec.ofChange fnNeedsWrong)

/-- 'laws.FnBlocked': WHATEVER THE INPUT: true; the input reads as it did. -/
def fnBlockedSpec : ChangeSpec := { name := "fnBlocked", fn := fun _ => fun
  | [d] => { results := [.lit (.bool true)], args := [d] }
  | _ => none }
def fnBlockedRow : OpenClaim := { program := "ytbcbgdomjefdhaa", sum := "981df959024163f19025d3e5a2b70ca6a7dac847073707cb1cb5eb3a7eb9bdfa", func := "loop.example/g00977/laws.FnBlocked", spec := "fnBlocked", apart := false }
def FnBlockedSaid : Prop := fnBlockedRow.holds Try.pinned (OpenSpec.ofChange fnBlockedSpec)

/-- ITS FALSE NEIGHBOUR: 'it returns false'. Refute it at one input. -/
def fnBlockedWrong : ChangeSpec := { name := "fnBlocked", fn := fun _ => fun
  | [d] => { results := [.lit (.bool false)], args := [d] }
  | _ => none }
def FnBlockedWrongFalsely : Prop := fnBlockedRow.holds Try.pinned (OpenSpec.ofChange fnBlockedWrong)

/-- 'laws.FnQueued': WHATEVER THE INPUT: true; the input reads as it did. -/
def fnQueuedSpec : ChangeSpec := { name := "fnQueued", fn := fun _ => fun
  | [d] => { results := [.lit (.bool true)], args := [d] }
  | _ => none }
def fnQueuedRow : OpenClaim := { program := "ytbcbgdomjefdhaa", sum := "981df959024163f19025d3e5a2b70ca6a7dac847073707cb1cb5eb3a7eb9bdfa", func := "loop.example/g00977/laws.FnQueued", spec := "fnQueued", apart := false }
def FnQueuedSaid : Prop := fnQueuedRow.holds Try.pinned (OpenSpec.ofChange fnQueuedSpec)

/-- ITS FALSE NEIGHBOUR: 'it returns false'. Refute it at one input. -/
def fnQueuedWrong : ChangeSpec := { name := "fnQueued", fn := fun _ => fun
  | [d] => { results := [.lit (.bool false)], args := [d] }
  | _ => none }
def FnQueuedWrongFalsely : Prop := fnQueuedRow.holds Try.pinned (OpenSpec.ofChange fnQueuedWrong)

/-- 'laws.FnExactTrackerNew': WHATEVER THE INPUT: true; the input reads as it did. -/
def fnExactTrackerNewSpec : ChangeSpec := { name := "fnExactTrackerNew", fn := fun _ => fun
  | [d] => { results := [.lit (.bool true)], args := [d] }
  | _ => none }
def fnExactTrackerNewRow : OpenClaim := { program := "ytbcbgdomjefdhaa", sum := "981df959024163f19025d3e5a2b70ca6a7dac847073707cb1cb5eb3a7eb9bdfa", func := "loop.example/g00977/laws.FnExactTrackerNew", spec := "fnExactTrackerNew", apart := false }
def FnExactTrackerNewSaid : Prop := fnExactTrackerNewRow.holds Try.pinned (OpenSpec.ofChange fnExactTrackerNewSpec)

/-- ITS FALSE NEIGHBOUR: 'it returns false'. Refute it at one input. -/
def fnExactTrackerNewWrong : ChangeSpec := { name := "fnExactTrackerNew", fn := fun _ => fun
  | [d] => { results := [.lit (.bool false)], args := [d] }
  | _ => none }
def FnExactTrackerNewWrongFalsely : Prop := fnExactTrackerNewRow.holds Try.pinned (OpenSpec.ofChange fnExactTrackerNewWrong)

/-- 'laws.FnExactTrackRow': WHATEVER THE INPUT: true; the input reads as it did. -/
def fnExactTrackRowSpec : ChangeSpec := { name := "fnExactTrackRow", fn := fun _ => fun
  | [d1, d2, d3] => { results := [.lit (.bool true)], args := [d1, d2, d3] }
  | _ => none }
def fnExactTrackRowRow : OpenClaim := { program := "ytbcbgdomjefdhaa", sum := "981df959024163f19025d3e5a2b70ca6a7dac847073707cb1cb5eb3a7eb9bdfa", func := "loop.example/g00977/laws.FnExactTrackRow", spec := "fnExactTrackRow", apart := false }
def FnExactTrackRowSaid : Prop := fnExactTrackRowRow.holds Try.pinned (OpenSpec.ofChange fnExactTrackRowSpec)

/-- ITS FALSE NEIGHBOUR: 'it returns false'. Refute it at one input. -/
def fnExactTrackRowWrong : ChangeSpec := { name := "fnExactTrackRow", fn := fun _ => fun
  | [d1, d2, d3] => { results := [.lit (.bool false)], args := [d1, d2, d3] }
  | _ => none }
def FnExactTrackRowWrongFalsely : Prop := fnExactTrackRowRow.holds Try.pinned (OpenSpec.ofChange fnExactTrackRowWrong)

/-- 'laws.FnExactGuardedRun': WHATEVER THE INPUT: true; the input reads as it did. -/
def fnExactGuardedRunSpec : ChangeSpec := { name := "fnExactGuardedRun", fn := fun _ => fun
  | [d1, d2, d3, d4] => { results := [.lit (.bool true)], args := [d1, d2, d3, d4] }
  | _ => none }
def fnExactGuardedRunRow : OpenClaim := { program := "ytbcbgdomjefdhaa", sum := "981df959024163f19025d3e5a2b70ca6a7dac847073707cb1cb5eb3a7eb9bdfa", func := "loop.example/g00977/laws.FnExactGuardedRun", spec := "fnExactGuardedRun", unfollowed := true, recurses := true, apart := false }
def FnExactGuardedRunSaid : Prop := fnExactGuardedRunRow.holds Try.pinned (OpenSpec.ofChange fnExactGuardedRunSpec)

/-- ITS FALSE NEIGHBOUR: 'it returns false'. Refute it at one input. -/
def fnExactGuardedRunWrong : ChangeSpec := { name := "fnExactGuardedRun", fn := fun _ => fun
  | [d1, d2, d3, d4] => { results := [.lit (.bool false)], args := [d1, d2, d3, d4] }
  | _ => none }
def FnExactGuardedRunWrongFalsely : Prop := fnExactGuardedRunRow.holds Try.pinned (OpenSpec.ofChange fnExactGuardedRunWrong)

/-- 'laws.FnExposures': WHATEVER THE INPUT: true; the input reads as it did. -/
def fnExposuresSpec : ChangeSpec := { name := "fnExposures", fn := fun _ => fun
  | [d] => { results := [.lit (.bool true)], args := [d] }
  | _ => none }
def fnExposuresRow : OpenClaim := { program := "ytbcbgdomjefdhaa", sum := "981df959024163f19025d3e5a2b70ca6a7dac847073707cb1cb5eb3a7eb9bdfa", func := "loop.example/g00977/laws.FnExposures", spec := "fnExposures", apart := false }
def FnExposuresSaid : Prop := fnExposuresRow.holds Try.pinned (OpenSpec.ofChange fnExposuresSpec)

/-- ITS FALSE NEIGHBOUR: 'it returns false'. Refute it at one input. -/
def fnExposuresWrong : ChangeSpec := { name := "fnExposures", fn := fun _ => fun
  | [d] => { results := [.lit (.bool false)], args := [d] }
  | _ => none }
def FnExposuresWrongFalsely : Prop := fnExposuresRow.holds Try.pinned (OpenSpec.ofChange fnExposuresWrong)

/-- 'laws.FnRefreshed': WHATEVER THE INPUT: true; the input reads as it did. -/
def fnRefreshedSpec : ChangeSpec := { name := "fnRefreshed", fn := fun _ => fun
  | [d] => { results := [.lit (.bool true)], args := [d] }
  | _ => none }
def fnRefreshedRow : OpenClaim := { program := "ytbcbgdomjefdhaa", sum := "981df959024163f19025d3e5a2b70ca6a7dac847073707cb1cb5eb3a7eb9bdfa", func := "loop.example/g00977/laws.FnRefreshed", spec := "fnRefreshed", apart := false }
def FnRefreshedSaid : Prop := fnRefreshedRow.holds Try.pinned (OpenSpec.ofChange fnRefreshedSpec)

/-- ITS FALSE NEIGHBOUR: 'it returns false'. Refute it at one input. -/
def fnRefreshedWrong : ChangeSpec := { name := "fnRefreshed", fn := fun _ => fun
  | [d] => { results := [.lit (.bool false)], args := [d] }
  | _ => none }
def FnRefreshedWrongFalsely : Prop := fnRefreshedRow.holds Try.pinned (OpenSpec.ofChange fnRefreshedWrong)

/-- 'laws.FnEstimates': WHATEVER THE INPUT: true; the input reads as it did. -/
def fnEstimatesSpec : ChangeSpec := { name := "fnEstimates", fn := fun _ => fun
  | [d] => { results := [.lit (.bool true)], args := [d] }
  | _ => none }
def fnEstimatesRow : OpenClaim := { program := "ytbcbgdomjefdhaa", sum := "981df959024163f19025d3e5a2b70ca6a7dac847073707cb1cb5eb3a7eb9bdfa", func := "loop.example/g00977/laws.FnEstimates", spec := "fnEstimates", apart := false }
def FnEstimatesSaid : Prop := fnEstimatesRow.holds Try.pinned (OpenSpec.ofChange fnEstimatesSpec)

/-- ITS FALSE NEIGHBOUR: 'it returns false'. Refute it at one input. -/
def fnEstimatesWrong : ChangeSpec := { name := "fnEstimates", fn := fun _ => fun
  | [d] => { results := [.lit (.bool false)], args := [d] }
  | _ => none }
def FnEstimatesWrongFalsely : Prop := fnEstimatesRow.holds Try.pinned (OpenSpec.ofChange fnEstimatesWrong)

/- THE SECOND FORM. 'bulk': how many values and letters a reading holds, each counted each time it is reached (what is shared counts as often as it is met; a slice's spare places count too). A statement '..UptoSaid' is the law's where the arguments, and the package variables that the reading takes, are together of bulk at most 1048576: NARROWER than '..Said'. Prove '..Said' where nothing that the law and all that it calls make is longer than what came in: it says more and counts as full. Else prove '..UptoSaid'. A law counts once. -/
mutual
def uptoBulk {H : Type} : DataW H → Nat
  | .lit (.string bytes) => bytes.length + 1
  | .lit _ => 1
  | .nil => 1
  | .ptr d => uptoBulk d + 1
  | .slice elems spare => uptoBulkAll elems + uptoBulkAll spare + 1
  | .agg parts => uptoBulkAll parts + 1
  | .iface _ d => uptoBulk d + 1
  | .map entries => uptoBulkEntries entries + 1
  | .held _ => 1
def uptoBulkAll {H : Type} : List (DataW H) → Nat
  | [] => 0
  | d :: r => uptoBulk d + uptoBulkAll r
def uptoBulkEntries {H : Type} : List (Lit × DataW H) → Nat
  | [] => 0
  | x :: r => uptoBulkEntry x + uptoBulkEntries r
def uptoBulkEntry {H : Type} : Lit × DataW H → Nat
  | (.string bytes, d) => bytes.length + uptoBulk d + 1
  | (_, d) => uptoBulk d + 1
 end
def uptoSmall : (H : Type) → List (DataW H) → Bool := fun _ ds => decide (uptoBulkAll ds ≤ 1048576)
def OpenSpec.upto (s : _root_.Go.ChangeSpec) : _root_.Go.OpenSpec := { _root_.Go.OpenSpec.ofChange s with cond := some uptoSmall }

/-- 'laws.FnRetired', WHERE WHAT IT READS IS OF BULK AT MOST 1048576: true; the input reads as it did. -/
def fnRetiredUptoRow : OpenClaim := { program := "ytbcbgdomjefdhaa", sum := "981df959024163f19025d3e5a2b70ca6a7dac847073707cb1cb5eb3a7eb9bdfa", func := "loop.example/g00977/laws.FnRetired", spec := "fnRetired", apart := false, narrowed := true }
def FnRetiredUptoSaid : Prop := fnRetiredUptoRow.holds Try.pinned (OpenSpec.upto fnRetiredSpec)

/-- 'laws.FnSpares', WHERE WHAT IT READS IS OF BULK AT MOST 1048576: true; the input reads as it did. -/
def fnSparesUptoRow : OpenClaim := { program := "ytbcbgdomjefdhaa", sum := "981df959024163f19025d3e5a2b70ca6a7dac847073707cb1cb5eb3a7eb9bdfa", func := "loop.example/g00977/laws.FnSpares", spec := "fnSpares", apart := false, narrowed := true }
def FnSparesUptoSaid : Prop := fnSparesUptoRow.holds Try.pinned (OpenSpec.upto fnSparesSpec)

/-- 'laws.FnCloses', WHERE WHAT IT READS IS OF BULK AT MOST 1048576: true; the input reads as it did. -/
def fnClosesUptoRow : OpenClaim := { program := "ytbcbgdomjefdhaa", sum := "981df959024163f19025d3e5a2b70ca6a7dac847073707cb1cb5eb3a7eb9bdfa", func := "loop.example/g00977/laws.FnCloses", spec := "fnCloses", apart := false, narrowed := true }
def FnClosesUptoSaid : Prop := fnClosesUptoRow.holds Try.pinned (OpenSpec.upto fnClosesSpec)

/-- 'laws.FnNeeds', WHERE WHAT IT READS IS OF BULK AT MOST 1048576: true; the input reads as it did. -/
def fnNeedsUptoRow : OpenClaim := { program := "ytbcbgdomjefdhaa", sum := "981df959024163f19025d3e5a2b70ca6a7dac847073707cb1cb5eb3a7eb9bdfa", func := "loop.example/g00977/laws.FnNeeds", spec := "fnNeeds", apart := false, narrowed := true }
def FnNeedsUptoSaid : Prop := fnNeedsUptoRow.holds Try.pinned (OpenSpec.upto fnNeedsSpec)

/-- 'laws.FnBlocked', WHERE WHAT IT READS IS OF BULK AT MOST 1048576: true; the input reads as it did. -/
def fnBlockedUptoRow : OpenClaim := { program := "ytbcbgdomjefdhaa", sum := "981df959024163f19025d3e5a2b70ca6a7dac847073707cb1cb5eb3a7eb9bdfa", func := "loop.example/g00977/laws.FnBlocked", spec := "fnBlocked", apart := false, narrowed := true }
def FnBlockedUptoSaid : Prop := fnBlockedUptoRow.holds Try.pinned (OpenSpec.upto fnBlockedSpec)

/-- 'laws.FnQueued', WHERE WHAT IT READS IS OF BULK AT MOST 1048576: true; the input reads as it did. -/
def fnQueuedUptoRow : OpenClaim := { program := "ytbcbgdomjefdhaa", sum := "981df959024163f19025d3e5a2b70ca6a7dac847073707cb1cb5eb3a7eb9bdfa", func := "loop.example/g00977/laws.FnQueued", spec := "fnQueued", apart := false, narrowed := true }
def FnQueuedUptoSaid : Prop := fnQueuedUptoRow.holds Try.pinned (OpenSpec.upto fnQueuedSpec)

/-- 'laws.FnExactTrackerNew', WHERE WHAT IT READS IS OF BULK AT MOST 1048576: true; the input reads as it did. -/
def fnExactTrackerNewUptoRow : OpenClaim := { program := "ytbcbgdomjefdhaa", sum := "981df959024163f19025d3e5a2b70ca6a7dac847073707cb1cb5eb3a7eb9bdfa", func := "loop.example/g00977/laws.FnExactTrackerNew", spec := "fnExactTrackerNew", apart := false, narrowed := true }
def FnExactTrackerNewUptoSaid : Prop := fnExactTrackerNewUptoRow.holds Try.pinned (OpenSpec.upto fnExactTrackerNewSpec)

/-- 'laws.FnExactTrackRow', WHERE WHAT IT READS IS OF BULK AT MOST 1048576: true; the input reads as it did. -/
def fnExactTrackRowUptoRow : OpenClaim := { program := "ytbcbgdomjefdhaa", sum := "981df959024163f19025d3e5a2b70ca6a7dac847073707cb1cb5eb3a7eb9bdfa", func := "loop.example/g00977/laws.FnExactTrackRow", spec := "fnExactTrackRow", apart := false, narrowed := true }
def FnExactTrackRowUptoSaid : Prop := fnExactTrackRowUptoRow.holds Try.pinned (OpenSpec.upto fnExactTrackRowSpec)

/-- 'laws.FnExactGuardedRun', WHERE WHAT IT READS IS OF BULK AT MOST 1048576: true; the input reads as it did. -/
def fnExactGuardedRunUptoRow : OpenClaim := { program := "ytbcbgdomjefdhaa", sum := "981df959024163f19025d3e5a2b70ca6a7dac847073707cb1cb5eb3a7eb9bdfa", func := "loop.example/g00977/laws.FnExactGuardedRun", spec := "fnExactGuardedRun", unfollowed := true, recurses := true, apart := false, narrowed := true }
def FnExactGuardedRunUptoSaid : Prop := fnExactGuardedRunUptoRow.holds Try.pinned (OpenSpec.upto fnExactGuardedRunSpec)

/-- 'laws.FnExposures', WHERE WHAT IT READS IS OF BULK AT MOST 1048576: true; the input reads as it did. -/
def fnExposuresUptoRow : OpenClaim := { program := "ytbcbgdomjefdhaa", sum := "981df959024163f19025d3e5a2b70ca6a7dac847073707cb1cb5eb3a7eb9bdfa", func := "loop.example/g00977/laws.FnExposures", spec := "fnExposures", apart := false, narrowed := true }
def FnExposuresUptoSaid : Prop := fnExposuresUptoRow.holds Try.pinned (OpenSpec.upto fnExposuresSpec)

/-- 'laws.FnRefreshed', WHERE WHAT IT READS IS OF BULK AT MOST 1048576: true; the input reads as it did. -/
def fnRefreshedUptoRow : OpenClaim := { program := "ytbcbgdomjefdhaa", sum := "981df959024163f19025d3e5a2b70ca6a7dac847073707cb1cb5eb3a7eb9bdfa", func := "loop.example/g00977/laws.FnRefreshed", spec := "fnRefreshed", apart := false, narrowed := true }
def FnRefreshedUptoSaid : Prop := fnRefreshedUptoRow.holds Try.pinned (OpenSpec.upto fnRefreshedSpec)

/-- 'laws.FnEstimates', WHERE WHAT IT READS IS OF BULK AT MOST 1048576: true; the input reads as it did. -/
def fnEstimatesUptoRow : OpenClaim := { program := "ytbcbgdomjefdhaa", sum := "981df959024163f19025d3e5a2b70ca6a7dac847073707cb1cb5eb3a7eb9bdfa", func := "loop.example/g00977/laws.FnEstimates", spec := "fnEstimates", apart := false, narrowed := true }
def FnEstimatesUptoSaid : Prop := fnEstimatesUptoRow.holds Try.pinned (OpenSpec.upto fnEstimatesSpec)

end Rows
end Go.Proofs.Ytbcbgdomjefdhaa
