/-
  No cell of these rows narrows 'for every input' (looked for: loops, veiled, ifaces, maps, wideKeys, modest, calm, conditions, laid).
  DERIVED. THE GIVEN ROWS OF THIS SEAT. 12 by the template 'for every input the law returns true; each argument reads behind the call as it read before'; 0 by the template 'total and deterministic' (their statements: YtbolpanfgbhbnaaTotals.lean).
  GIVEN WITH THE SEED: the statements are not yours to turn. If you find one false, say at which input.
  Laid BY PROGRAM, IN A SANDBOX (cutbox-rows.mjs): the forced cells as the released guide's own fill.sh prints them over the translation 25da8af724eb3bb8… (all of the seat's roots in one cut). By AI agents, Wed Nov 11 2026. No macro, syntax, notation, axiom, sorry.
-/
import Derived.Test.YtbolpanfgbhbnaaChecked
import GoSem.Claim
import GoSem.ClaimJoined
import GoSem.ClaimMapViews
import Derived.JoinedTies
import Derived.KernelRfl
namespace Go.Proofs.Ytbolpanfgbhbnaa
/- THE CELL 'sum', in the pinned program and in every row, IS THE sha256 OF THE DUMP (.gsa) THAT YtbolpanfgbhbnaaProg.lean LOADS. Nothing in Lean hashes anything: it is a label: what it is worth is what the hold of that sum in a sandbox is worth. -/
noncomputable def Try.pinned : Pinned := { name := "ytbolpanfgbhbnaa", sum := "25da8af724eb3bb82fdc8c7e6516a6e219b5bbf506ba9d9726ebd976162212b8", checked := Try.checked }
namespace Rows
def none {H : Type} : Left H := { results := [], args := [] }

/-- 'laws.FnDebts': WHATEVER THE INPUT: true; the input reads as it did. -/
def fnDebtsSpec : ChangeSpec := { name := "fnDebts", fn := fun _ => fun
  | [d] => { results := [.lit (.bool true)], args := [d] }
  | _ => none }
def fnDebtsRow : OpenClaim := { program := "ytbolpanfgbhbnaa", sum := "25da8af724eb3bb82fdc8c7e6516a6e219b5bbf506ba9d9726ebd976162212b8", func := "loop.example/g00977/laws.FnDebts", spec := "fnDebts", apart := false }
def FnDebtsSaid : Prop := fnDebtsRow.holds Try.pinned (OpenSpec.ofChange fnDebtsSpec)

/-- ITS FALSE NEIGHBOUR: 'it returns false'. Refute it at one input. -/
def fnDebtsWrong : ChangeSpec := { name := "fnDebts", fn := fun _ => fun
  | [d] => { results := [.lit (.bool false)], args := [d] }
  | _ => none }
def FnDebtsWrongFalsely : Prop := fnDebtsRow.holds Try.pinned (OpenSpec.ofChange fnDebtsWrong)

/-- 'laws.FnPostponed': WHATEVER THE INPUT: true; the input reads as it did. -/
def fnPostponedSpec : ChangeSpec := { name := "fnPostponed", fn := fun _ => fun
  | [d] => { results := [.lit (.bool true)], args := [d] }
  | _ => none }
def fnPostponedRow : OpenClaim := { program := "ytbolpanfgbhbnaa", sum := "25da8af724eb3bb82fdc8c7e6516a6e219b5bbf506ba9d9726ebd976162212b8", func := "loop.example/g00977/laws.FnPostponed", spec := "fnPostponed", apart := false }
def FnPostponedSaid : Prop := fnPostponedRow.holds Try.pinned (OpenSpec.ofChange fnPostponedSpec)

/-- ITS FALSE NEIGHBOUR: 'it returns false'. Refute it at one input. -/
def fnPostponedWrong : ChangeSpec := { name := "fnPostponed", fn := fun _ => fun
  | [d] => { results := [.lit (.bool false)], args := [d] }
  | _ => none }
def FnPostponedWrongFalsely : Prop := fnPostponedRow.holds Try.pinned (OpenSpec.ofChange fnPostponedWrong)

/-- 'laws.FnShares': WHATEVER THE INPUT: true; the input reads as it did. -/
def fnSharesSpec : ChangeSpec := { name := "fnShares", fn := fun _ => fun
  | [d] => { results := [.lit (.bool true)], args := [d] }
  | _ => none }
def fnSharesRow : OpenClaim := { program := "ytbolpanfgbhbnaa", sum := "25da8af724eb3bb82fdc8c7e6516a6e219b5bbf506ba9d9726ebd976162212b8", func := "loop.example/g00977/laws.FnShares", spec := "fnShares", apart := false }
def FnSharesSaid : Prop := fnSharesRow.holds Try.pinned (OpenSpec.ofChange fnSharesSpec)

/-- ITS FALSE NEIGHBOUR: 'it returns false'. Refute it at one input. -/
def fnSharesWrong : ChangeSpec := { name := "fnShares", fn := fun _ => fun
  | [d] => { results := [.lit (.bool false)], args := [d] }
  | _ => none }
def FnSharesWrongFalsely : Prop := fnSharesRow.holds Try.pinned (OpenSpec.ofChange fnSharesWrong)

/-- 'laws.FnExactNeedOf': WHATEVER THE INPUT: true; the input reads as it did. -/
def fnExactNeedOfSpec : ChangeSpec := { name := "fnExactNeedOf", fn := fun _ => fun
  | [d1, d2, d3] => { results := [.lit (.bool true)], args := [d1, d2, d3] }
  | _ => none }
def fnExactNeedOfRow : OpenClaim := { program := "ytbolpanfgbhbnaa", sum := "25da8af724eb3bb82fdc8c7e6516a6e219b5bbf506ba9d9726ebd976162212b8", func := "loop.example/g00977/laws.FnExactNeedOf", spec := "fnExactNeedOf", apart := false }
def FnExactNeedOfSaid : Prop := fnExactNeedOfRow.holds Try.pinned (OpenSpec.ofChange fnExactNeedOfSpec)

/-- ITS FALSE NEIGHBOUR: 'it returns false'. Refute it at one input. -/
def fnExactNeedOfWrong : ChangeSpec := { name := "fnExactNeedOf", fn := fun _ => fun
  | [d1, d2, d3] => { results := [.lit (.bool false)], args := [d1, d2, d3] }
  | _ => none }
def FnExactNeedOfWrongFalsely : Prop := fnExactNeedOfRow.holds Try.pinned (OpenSpec.ofChange fnExactNeedOfWrong)

/-- 'laws.FnCloses': WHATEVER THE INPUT: true; the input reads as it did. -/
def fnClosesSpec : ChangeSpec := { name := "fnCloses", fn := fun _ => fun
  | [d] => { results := [.lit (.bool true)], args := [d] }
  | _ => none }
def fnClosesRow : OpenClaim := { program := "ytbolpanfgbhbnaa", sum := "25da8af724eb3bb82fdc8c7e6516a6e219b5bbf506ba9d9726ebd976162212b8", func := "loop.example/g00977/laws.FnCloses", spec := "fnCloses", apart := false }
def FnClosesSaid : Prop := fnClosesRow.holds Try.pinned (OpenSpec.ofChange fnClosesSpec)

/-- ITS FALSE NEIGHBOUR: 'it returns false'. Refute it at one input. -/
def fnClosesWrong : ChangeSpec := { name := "fnCloses", fn := fun _ => fun
  | [d] => { results := [.lit (.bool false)], args := [d] }
  | _ => none }
def FnClosesWrongFalsely : Prop := fnClosesRow.holds Try.pinned (OpenSpec.ofChange fnClosesWrong)

/-- 'laws.FnNeeds': WHATEVER THE INPUT: true; the input reads as it did. -/
def fnNeedsSpec : ChangeSpec := { name := "fnNeeds", fn := fun _ => fun
  | [d] => { results := [.lit (.bool true)], args := [d] }
  | _ => none }
def fnNeedsRow : OpenClaim := { program := "ytbolpanfgbhbnaa", sum := "25da8af724eb3bb82fdc8c7e6516a6e219b5bbf506ba9d9726ebd976162212b8", func := "loop.example/g00977/laws.FnNeeds", spec := "fnNeeds", apart := false }
def FnNeedsSaid : Prop := fnNeedsRow.holds Try.pinned (OpenSpec.ofChange fnNeedsSpec)

/-- ITS FALSE NEIGHBOUR: 'it returns false'. Refute it at one input. -/
def fnNeedsWrong : ChangeSpec := { name := "fnNeeds", fn := fun _ => fun
  | [d] => { results := [.lit (.bool false)], args := [d] }
  | _ => none }
def FnNeedsWrongFalsely : Prop := fnNeedsRow.holds Try.pinned (OpenSpec.ofChange fnNeedsWrong)

/-- 'laws.FnBlocked': WHATEVER THE INPUT: true; the input reads as it did. -/
def fnBlockedSpec : ChangeSpec := { name := "fnBlocked", fn := fun _ => fun
  | [d] => { results := [.lit (.bool true)], args := [d] }
  | _ => none }
def fnBlockedRow : OpenClaim := { program := "ytbolpanfgbhbnaa", sum := "25da8af724eb3bb82fdc8c7e6516a6e219b5bbf506ba9d9726ebd976162212b8", func := "loop.example/g00977/laws.FnBlocked", spec := "fnBlocked", apart := false }
def FnBlockedSaid : Prop := fnBlockedRow.holds Try.pinned (OpenSpec.ofChange fnBlockedSpec)

/-- ITS FALSE NEIGHBOUR: 'it returns false'. Refute it at one input. -/
def fnBlockedWrong : ChangeSpec := { name := "fnBlocked", fn := fun _ => fun
  | [d] => { results := [.lit (.bool false)], args := [d] }
  | _ => none }
def FnBlockedWrongFalsely : Prop := fnBlockedRow.holds Try.pinned (OpenSpec.ofChange fnBlockedWrong)

/-- 'laws.FnQueued': WHATEVER THE INPUT: true; the input reads as it did. -/
def fnQueuedSpec : ChangeSpec := { name := "fnQueued", fn := fun _ => fun
  | [d] => { results := [.lit (.bool true)], args := [d] }
  | _ => none }
def fnQueuedRow : OpenClaim := { program := "ytbolpanfgbhbnaa", sum := "25da8af724eb3bb82fdc8c7e6516a6e219b5bbf506ba9d9726ebd976162212b8", func := "loop.example/g00977/laws.FnQueued", spec := "fnQueued", apart := false }
def FnQueuedSaid : Prop := fnQueuedRow.holds Try.pinned (OpenSpec.ofChange fnQueuedSpec)

/-- ITS FALSE NEIGHBOUR: 'it returns false'. Refute it at one input. -/
def fnQueuedWrong : ChangeSpec := { name := "fnQueued", fn := fun _ => fun
  | [d] => { results := [.lit (.bool false)], args := [d] }
  | _ => none }
def FnQueuedWrongFalsely : Prop := fnQueuedRow.holds Try.pinned (OpenSpec.ofChange fnQueuedWrong)

/-- 'laws.FnExactTrackerNew': WHATEVER THE INPUT: true; the input reads as it did. -/
def fnExactTrackerNewSpec : ChangeSpec := { name := "fnExactTrackerNew", fn := fun _ => fun
  | [d] => { results := [.lit (.bool true)], args := [d] }
  | _ => none }
def fnExactTrackerNewRow : OpenClaim := { program := "ytbolpanfgbhbnaa", sum := "25da8af724eb3bb82fdc8c7e6516a6e219b5bbf506ba9d9726ebd976162212b8", func := "loop.example/g00977/laws.FnExactTrackerNew", spec := "fnExactTrackerNew", apart := false }
def FnExactTrackerNewSaid : Prop := fnExactTrackerNewRow.holds Try.pinned (OpenSpec.ofChange fnExactTrackerNewSpec)

/-- ITS FALSE NEIGHBOUR: 'it returns false'. Refute it at one input. -/
def fnExactTrackerNewWrong : ChangeSpec := { name := "fnExactTrackerNew", fn := fun _ => fun
  | [d] => { results := [.lit (.bool false)], args := [d] }
  | _ => none }
def FnExactTrackerNewWrongFalsely : Prop := fnExactTrackerNewRow.holds Try.pinned (OpenSpec.ofChange fnExactTrackerNewWrong)

/-- 'laws.FnExactTrackRow': WHATEVER THE INPUT: true; the input reads as it did. -/
def fnExactTrackRowSpec : ChangeSpec := { name := "fnExactTrackRow", fn := fun _ => fun
  | [d1, d2, d3] => { results := [.lit (.bool true)], args := [d1, d2, d3] }
  | _ => none }
def fnExactTrackRowRow : OpenClaim := { program := "ytbolpanfgbhbnaa", sum := "25da8af724eb3bb82fdc8c7e6516a6e219b5bbf506ba9d9726ebd976162212b8", func := "loop.example/g00977/laws.FnExactTrackRow", spec := "fnExactTrackRow", apart := false }
def FnExactTrackRowSaid : Prop := fnExactTrackRowRow.holds Try.pinned (OpenSpec.ofChange fnExactTrackRowSpec)

/-- ITS FALSE NEIGHBOUR: 'it returns false'. Refute it at one input. -/
def fnExactTrackRowWrong : ChangeSpec := { name := "fnExactTrackRow", fn := fun _ => fun
  | [d1, d2, d3] => { results := [.lit (.bool false)], args := [d1, d2, d3] }
  | _ => none }
def FnExactTrackRowWrongFalsely : Prop := fnExactTrackRowRow.holds Try.pinned (OpenSpec.ofChange fnExactTrackRowWrong)

/-- 'laws.FnExactGuardedRun': WHATEVER THE INPUT: true; the input reads as it did. -/
def fnExactGuardedRunSpec : ChangeSpec := { name := "fnExactGuardedRun", fn := fun _ => fun
  | [d1, d2, d3, d4] => { results := [.lit (.bool true)], args := [d1, d2, d3, d4] }
  | _ => none }
def fnExactGuardedRunRow : OpenClaim := { program := "ytbolpanfgbhbnaa", sum := "25da8af724eb3bb82fdc8c7e6516a6e219b5bbf506ba9d9726ebd976162212b8", func := "loop.example/g00977/laws.FnExactGuardedRun", spec := "fnExactGuardedRun", unfollowed := true, recurses := true, apart := false }
def FnExactGuardedRunSaid : Prop := fnExactGuardedRunRow.holds Try.pinned (OpenSpec.ofChange fnExactGuardedRunSpec)

/-- ITS FALSE NEIGHBOUR: 'it returns false'. Refute it at one input. -/
def fnExactGuardedRunWrong : ChangeSpec := { name := "fnExactGuardedRun", fn := fun _ => fun
  | [d1, d2, d3, d4] => { results := [.lit (.bool false)], args := [d1, d2, d3, d4] }
  | _ => none }
def FnExactGuardedRunWrongFalsely : Prop := fnExactGuardedRunRow.holds Try.pinned (OpenSpec.ofChange fnExactGuardedRunWrong)

/-- 'laws.FnExposures': WHATEVER THE INPUT: true; the input reads as it did. -/
def fnExposuresSpec : ChangeSpec := { name := "fnExposures", fn := fun _ => fun
  | [d] => { results := [.lit (.bool true)], args := [d] }
  | _ => none }
def fnExposuresRow : OpenClaim := { program := "ytbolpanfgbhbnaa", sum := "25da8af724eb3bb82fdc8c7e6516a6e219b5bbf506ba9d9726ebd976162212b8", func := "loop.example/g00977/laws.FnExposures", spec := "fnExposures", apart := false }
def FnExposuresSaid : Prop := fnExposuresRow.holds Try.pinned (OpenSpec.ofChange fnExposuresSpec)

/-- ITS FALSE NEIGHBOUR: 'it returns false'. Refute it at one input. -/
def fnExposuresWrong : ChangeSpec := { name := "fnExposures", fn := fun _ => fun
  | [d] => { results := [.lit (.bool false)], args := [d] }
  | _ => none }
def FnExposuresWrongFalsely : Prop := fnExposuresRow.holds Try.pinned (OpenSpec.ofChange fnExposuresWrong)

/- THE SECOND FORM. 'bulk': how many values and letters a reading holds, each counted each time it is reached (what is shared counts as often as it is met; a slice's spare places count too). A statement '..UptoSaid' is the law's where the arguments, and the package variables that the reading takes, are together of bulk at most 1048576: NARROWER than '..Said'. Prove '..Said' where nothing that the law and all that it calls make is longer than what came in: it says more and counts as full. Else prove '..UptoSaid'. A law counts once. -/
mutual
def uptoBulk {H : Type} : DataW H → Nat
  | .lit (.string bytes) => bytes.length + 1
  | .lit _ => 1
  | .nil => 1
  | .ptr d => uptoBulk d + 1
  | .slice elems spare => uptoBulkAll elems + uptoBulkAll spare + 1
  | .agg parts => uptoBulkAll parts + 1
  | .iface _ d => uptoBulk d + 1
  | .map entries => uptoBulkEntries entries + 1
  | .held _ => 1
def uptoBulkAll {H : Type} : List (DataW H) → Nat
  | [] => 0
  | d :: r => uptoBulk d + uptoBulkAll r
def uptoBulkEntries {H : Type} : List (Lit × DataW H) → Nat
  | [] => 0
  | x :: r => uptoBulkEntry x + uptoBulkEntries r
def uptoBulkEntry {H : Type} : Lit × DataW H → Nat
  | (.string bytes, d) => bytes.length + uptoBulk d + 1
  | (_, d) => uptoBulk d + 1
 end
def uptoSmall : (H : Type) → List (DataW H) → Bool := fun _ ds => decide (uptoBulkAll ds ≤ 1048576)
def OpenSpec.upto (s : _root_.Go.ChangeSpec) : _root_.Go.OpenSpec := { _root_.Go.OpenSpec.ofChange s with cond := some uptoSmall }

/-- 'laws.FnDebts', WHERE WHAT IT READS IS OF BULK AT MOST 1048576: true; the input reads as it did. -/
def fnDebtsUptoRow : OpenClaim := { program := "ytbolpanfgbhbnaa", sum := "25da8af724eb3bb82fdc8c7e6516a6e219b5bbf506ba9d9726ebd976162212b8", func := "loop.example/g00977/laws.FnDebts", spec := "fnDebts", apart := false, narrowed := true }
def FnDebtsUptoSaid : Prop := fnDebtsUptoRow.holds Try.pinned (OpenSpec.upto fnDebtsSpec)

/-- 'laws.FnPostponed', WHERE WHAT IT READS IS OF BULK AT MOST 1048576: true; the input reads as it did. -/
def fnPostponedUptoRow : OpenClaim := { program := "ytbolpanfgbhbnaa", sum := "25da8af724eb3bb82fdc8c7e6516a6e219b5bbf506ba9d9726ebd976162212b8", func := "loop.example/g00977/laws.FnPostponed", spec := "fnPostponed", apart := false, narrowed := true }
def FnPostponedUptoSaid : Prop := fnPostponedUptoRow.holds Try.pinned (OpenSpec.upto fnPostponedSpec)

/-- 'laws.FnShares', WHERE WHAT IT READS IS OF BULK AT MOST 1048576: true; the input reads as it did. -/
def fnSharesUptoRow : OpenClaim := { program := "ytbolpanfgbhbnaa", sum := "25da8af724eb3bb82fdc8c7e6516a6e219b5bbf506ba9d9726ebd976162212b8", func := "loop.example/g00977/laws.FnShares", spec := "fnShares", apart := false, narrowed := true }
def FnSharesUptoSaid : Prop := fnSharesUptoRow.holds Try.pinned (OpenSpec.upto fnSharesSpec)

/-- 'laws.FnExactNeedOf', WHERE WHAT IT READS IS OF BULK AT MOST 1048576: true; the input reads as it did. -/
def fnExactNeedOfUptoRow : OpenClaim := { program := "ytbolpanfgbhbnaa", sum := "25da8af724eb3bb82fdc8c7e6516a6e219b5bbf506ba9d9726ebd976162212b8", func := "loop.example/g00977/laws.FnExactNeedOf", spec := "fnExactNeedOf", apart := false, narrowed := true }
def FnExactNeedOfUptoSaid : Prop := fnExactNeedOfUptoRow.holds Try.pinned (OpenSpec.upto fnExactNeedOfSpec)

/-- 'laws.FnCloses', WHERE WHAT IT READS IS OF BULK AT MOST 1048576: true; the input reads as it did. -/
def fnClosesUptoRow : OpenClaim := { program := "ytbolpanfgbhbnaa", sum := "25da8af724eb3bb82fdc8c7e6516a6e219b5bbf506ba9d9726ebd976162212b8", func := "loop.example/g00977/laws.FnCloses", spec := "fnCloses", apart := false, narrowed := true }
def FnClosesUptoSaid : Prop := fnClosesUptoRow.holds Try.pinned (OpenSpec.upto fnClosesSpec)

/-- 'laws.FnNeeds', WHERE WHAT IT READS IS OF BULK AT MOST 1048576: true; the input reads as it did. -/
def fnNeedsUptoRow : OpenClaim := { program := "ytbolpanfgbhbnaa", sum := "25da8af724eb3bb82fdc8c7e6516a6e219b5bbf506ba9d9726ebd976162212b8", func := "loop.example/g00977/laws.FnNeeds", spec := "fnNeeds", apart := false, narrowed := true }
def FnNeedsUptoSaid : Prop := fnNeedsUptoRow.holds Try.pinned (OpenSpec.upto fnNeedsSpec)

/-- 'laws.FnBlocked', WHERE WHAT IT READS IS OF BULK AT MOST 1048576: true; the input reads as it did. -/
def fnBlockedUptoRow : OpenClaim := { program := "ytbolpanfgbhbnaa", sum := "25da8af724eb3bb82fdc8c7e6516a6e219b5bbf506ba9d9726ebd976162212b8", func := "loop.example/g00977/laws.FnBlocked", spec := "fnBlocked", apart := false, narrowed := true }
def FnBlockedUptoSaid : Prop := fnBlockedUptoRow.holds Try.pinned (OpenSpec.upto fnBlockedSpec)

/-- 'laws.FnQueued', WHERE WHAT IT READS IS OF BULK AT MOST 1048576: true; the input reads as it did. -/
def fnQueuedUptoRow : OpenClaim := { program := "ytbolpanfgbhbnaa", sum := "25da8af724eb3bb82fdc8c7e6516a6e219b5bbf506ba9d9726ebd976162212b8", func := "loop.example/g00977/laws.FnQueued", spec := "fnQueued", apart := false, narrowed := true }
def FnQueuedUptoSaid : Prop := fnQueuedUptoRow.holds Try.pinned (OpenSpec.upto fnQueuedSpec)

/-- 'laws.FnExactTrackerNew', WHERE WHAT IT READS IS OF BULK AT MOST 1048576: true; the input reads as it did. -/
def fnExactTrackerNewUptoRow : OpenClaim := { program := "ytbolpanfgbhbnaa", sum := "25da8af724eb3bb82fdc8c7e6516a6e219b5bbf506ba9d9726ebd976162212b8", func := "loop.example/g00977/laws.FnExactTrackerNew", spec := "fnExactTrackerNew", apart := false, narrowed := true }
def FnExactTrackerNewUptoSaid : Prop := fnExactTrackerNewUptoRow.holds Try.pinned (OpenSpec.upto fnExactTrackerNewSpec)

/-- 'laws.FnExactTrackRow', WHERE WHAT IT READS IS OF BULK AT MOST 1048576: true; the input reads as it did. -/
def fnExactTrackRowUptoRow : OpenClaim := { program := "ytbolpanfgbhbnaa", sum := "25da8af724eb3bb82fdc8c7e6516a6e219b5bbf506ba9d9726ebd976162212b8", func := "loop.example/g00977/laws.FnExactTrackRow", spec := "fnExactTrackRow", apart := false, narrowed := true }
def FnExactTrackRowUptoSaid : Prop := fnExactTrackRowUptoRow.holds Try.pinned (OpenSpec.upto fnExactTrackRowSpec)

/-- 'laws.FnExactGuardedRun', WHERE WHAT IT READS IS OF BULK AT MOST 1048576: true; the input reads as it did. -/
def fnExactGuardedRunUptoRow : OpenClaim := { program := "ytbolpanfgbhbnaa", sum := "25da8af724eb3bb82fdc8c7e6516a6e219b5bbf506ba9d9726ebd976162212b8", func := "loop.example/g00977/laws.FnExactGuardedRun", spec := "fnExactGuardedRun", unfollowed := true, recurses := true, apart := false, narrowed := true }
def FnExactGuardedRunUptoSaid : Prop := fnExactGuardedRunUptoRow.holds Try.pinned (OpenSpec.upto fnExactGuardedRunSpec)

/-- 'laws.FnExposures', WHERE WHAT IT READS IS OF BULK AT MOST 1048576: true; the input reads as it did. -/
def fnExposuresUptoRow : OpenClaim := { program := "ytbolpanfgbhbnaa", sum := "25da8af724eb3bb82fdc8c7e6516a6e219b5bbf506ba9d9726ebd976162212b8", func := "loop.example/g00977/laws.FnExposures", spec := "fnExposures", apart := false, narrowed := true }
def FnExposuresUptoSaid : Prop := fnExposuresUptoRow.holds Try.pinned (OpenSpec.upto fnExposuresSpec)

end Rows
end Go.Proofs.Ytbolpanfgbhbnaa
