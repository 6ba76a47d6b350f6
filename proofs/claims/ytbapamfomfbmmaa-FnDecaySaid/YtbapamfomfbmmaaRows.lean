/-
  No cell of these rows narrows 'for every input' (looked for: loops, veiled, ifaces, maps, wideKeys, modest, calm, conditions, laid).
  DERIVED. THE GIVEN ROWS OF THIS SEAT. 11 by the template 'for every input the law returns true; each argument reads behind the call as it read before'; 0 by the template 'total and deterministic' (their statements: YtbapamfomfbmmaaTotals.lean).
  GIVEN WITH THE SEED: the statements are not yours to turn. If you find one false, say at which input.
  Laid BY PROGRAM, IN A SANDBOX (cutbox-rows.mjs): the forced cells as the released guide's own fill.sh prints them over the translation 783bccabc00ac50f… (all of the seat's roots in one cut). By AI agents, Wed Nov 11 2026. No macro, syntax, notation, axiom, sorry.
-/
import Derived.Test.YtbapamfomfbmmaaChecked
import GoSem.Claim
import GoSem.ClaimJoined
import GoSem.ClaimMapViews
import Derived.JoinedTies
import Derived.KernelRfl
namespace Go.Proofs.Ytbapamfomfbmmaa
/- THE CELL 'sum', in the pinned program and in every row, IS THE sha256 OF THE DUMP (.gsa) THAT YtbapamfomfbmmaaProg.lean LOADS. Nothing in Lean hashes anything: it is a label: what it is worth is what the hold of that sum in a sandbox is worth. -/
noncomputable def Try.pinned : Pinned := { name := "ytbapamfomfbmmaa", sum := "783bccabc00ac50fb01d6e91482acb58eeab6e49125b905a6bc0e8abd4878dc3", checked := Try.checked }
namespace Rows
def none {H : Type} : Left H := { results := [], args := [] }

/-- 'laws.FnSpares': WHATEVER THE INPUT: true; the input reads as it did. -/
def fnSparesSpec : ChangeSpec := { name := "fnSpares", fn := fun _ => fun
  | [d] => { results := [.lit (.bool true)], args := [d] }
  | _ => none }
def fnSparesRow : OpenClaim := { program := "ytbapamfomfbmmaa", sum := "783bccabc00ac50fb01d6e91482acb58eeab6e49125b905a6bc0e8abd4878dc3", func := "loop.example/g00977/laws.FnSpares", spec := "fnSpares", apart := false }
def FnSparesSaid : Prop := fnSparesRow.holds Try.pinned (OpenSpec.ofChange fnSparesSpec)

/-- ITS FALSE NEIGHBOUR: 'it returns false'. Refute it at one input. -/
def fnSparesWrong : ChangeSpec := { name := "fnSpares", fn := fun _ => fun
  | [d] => { results := [.lit (.bool false)], args := [d] }
  | _ => none }
def FnSparesWrongFalsely : Prop := fnSparesRow.holds Try.pinned (OpenSpec.ofChange fnSparesWrong)

/-- 'laws.FnNeeds': WHATEVER THE INPUT: true; the input reads as it did. -/
def fnNeedsSpec : ChangeSpec := { name := "fnNeeds", fn := fun _ => fun
  | [d] => { results := [.lit (.bool true)], args := [d] }
  | _ => none }
def fnNeedsRow : OpenClaim := { program := "ytbapamfomfbmmaa", sum := "783bccabc00ac50fb01d6e91482acb58eeab6e49125b905a6bc0e8abd4878dc3", func := "loop.example/g00977/laws.FnNeeds", spec := "fnNeeds", apart := false }
def FnNeedsSaid : Prop := fnNeedsRow.holds Try.pinned (OpenSpec.ofChange fnNeedsSpec)

/-- ITS FALSE NEIGHBOUR: 'it returns false'. Refute it at one input. -/
def fnNeedsWrong : ChangeSpec := { name := "fnNeeds", fn := fun _ => fun
  | [d] => { results := [.lit (.bool false)], args := [d] }
  | _ => none }
def FnNeedsWrongFalsely : Prop := fnNeedsRow.holds Try.pinned (OpenSpec.ofChange fnNeedsWrong)

/-- 'laws.FnBlocked': WHATEVER THE INPUT: true; the input reads as it did. -/
def fnBlockedSpec : ChangeSpec := { name := "fnBlocked", fn := fun _ => fun
  | [d] => { results := [.lit (.bool true)], args := [d] }
  | _ => none }
def fnBlockedRow : OpenClaim := { program := "ytbapamfomfbmmaa", sum := "783bccabc00ac50fb01d6e91482acb58eeab6e49125b905a6bc0e8abd4878dc3", func := "loop.example/g00977/laws.FnBlocked", spec := "fnBlocked", apart := false }
def FnBlockedSaid : Prop := fnBlockedRow.holds Try.pinned (OpenSpec.ofChange fnBlockedSpec)

/-- ITS FALSE NEIGHBOUR: 'it returns false'. Refute it at one input. -/
def fnBlockedWrong : ChangeSpec := { name := "fnBlocked", fn := fun _ => fun
  | [d] => { results := [.lit (.bool false)], args := [d] }
  | _ => none }
def FnBlockedWrongFalsely : Prop := fnBlockedRow.holds Try.pinned (OpenSpec.ofChange fnBlockedWrong)

/-- 'laws.FnQueued': WHATEVER THE INPUT: true; the input reads as it did. -/
def fnQueuedSpec : ChangeSpec := { name := "fnQueued", fn := fun _ => fun
  | [d] => { results := [.lit (.bool true)], args := [d] }
  | _ => none }
def fnQueuedRow : OpenClaim := { program := "ytbapamfomfbmmaa", sum := "783bccabc00ac50fb01d6e91482acb58eeab6e49125b905a6bc0e8abd4878dc3", func := "loop.example/g00977/laws.FnQueued", spec := "fnQueued", apart := false }
def FnQueuedSaid : Prop := fnQueuedRow.holds Try.pinned (OpenSpec.ofChange fnQueuedSpec)

/-- ITS FALSE NEIGHBOUR: 'it returns false'. Refute it at one input. -/
def fnQueuedWrong : ChangeSpec := { name := "fnQueued", fn := fun _ => fun
  | [d] => { results := [.lit (.bool false)], args := [d] }
  | _ => none }
def FnQueuedWrongFalsely : Prop := fnQueuedRow.holds Try.pinned (OpenSpec.ofChange fnQueuedWrong)

/-- 'laws.FnExactGuardedRun': WHATEVER THE INPUT: true; the input reads as it did. -/
def fnExactGuardedRunSpec : ChangeSpec := { name := "fnExactGuardedRun", fn := fun _ => fun
  | [d1, d2, d3, d4] => { results := [.lit (.bool true)], args := [d1, d2, d3, d4] }
  | _ => none }
def fnExactGuardedRunRow : OpenClaim := { program := "ytbapamfomfbmmaa", sum := "783bccabc00ac50fb01d6e91482acb58eeab6e49125b905a6bc0e8abd4878dc3", func := "loop.example/g00977/laws.FnExactGuardedRun", spec := "fnExactGuardedRun", unfollowed := true, recurses := true, apart := false }
def FnExactGuardedRunSaid : Prop := fnExactGuardedRunRow.holds Try.pinned (OpenSpec.ofChange fnExactGuardedRunSpec)

/-- ITS FALSE NEIGHBOUR: 'it returns false'. Refute it at one input. -/
def fnExactGuardedRunWrong : ChangeSpec := { name := "fnExactGuardedRun", fn := fun _ => fun
  | [d1, d2, d3, d4] => { results := [.lit (.bool false)], args := [d1, d2, d3, d4] }
  | _ => none }
def FnExactGuardedRunWrongFalsely : Prop := fnExactGuardedRunRow.holds Try.pinned (OpenSpec.ofChange fnExactGuardedRunWrong)

/-- 'laws.FnGuarded': WHATEVER THE INPUT: true; the input reads as it did. -/
def fnGuardedSpec : ChangeSpec := { name := "fnGuarded", fn := fun _ => fun
  | [d] => { results := [.lit (.bool true)], args := [d] }
  | _ => none }
def fnGuardedRow : OpenClaim := { program := "ytbapamfomfbmmaa", sum := "783bccabc00ac50fb01d6e91482acb58eeab6e49125b905a6bc0e8abd4878dc3", func := "loop.example/g00977/laws.FnGuarded", spec := "fnGuarded", unfollowed := true, recurses := true, apart := false }
def FnGuardedSaid : Prop := fnGuardedRow.holds Try.pinned (OpenSpec.ofChange fnGuardedSpec)

/-- ITS FALSE NEIGHBOUR: 'it returns false'. Refute it at one input. -/
def fnGuardedWrong : ChangeSpec := { name := "fnGuarded", fn := fun _ => fun
  | [d] => { results := [.lit (.bool false)], args := [d] }
  | _ => none }
def FnGuardedWrongFalsely : Prop := fnGuardedRow.holds Try.pinned (OpenSpec.ofChange fnGuardedWrong)

/-- 'laws.FnGuardKeeps': WHATEVER THE INPUT: true; the input reads as it did. -/
def fnGuardKeepsSpec : ChangeSpec := { name := "fnGuardKeeps", fn := fun _ => fun
  | [d] => { results := [.lit (.bool true)], args := [d] }
  | _ => none }
def fnGuardKeepsRow : OpenClaim := { program := "ytbapamfomfbmmaa", sum := "783bccabc00ac50fb01d6e91482acb58eeab6e49125b905a6bc0e8abd4878dc3", func := "loop.example/g00977/laws.FnGuardKeeps", spec := "fnGuardKeeps", unfollowed := true, recurses := true, apart := false }
def FnGuardKeepsSaid : Prop := fnGuardKeepsRow.holds Try.pinned (OpenSpec.ofChange fnGuardKeepsSpec)

/-- ITS FALSE NEIGHBOUR: 'it returns false'. Refute it at one input. -/
def fnGuardKeepsWrong : ChangeSpec := { name := "fnGuardKeeps", fn := fun _ => fun
  | [d] => { results := [.lit (.bool false)], args := [d] }
  | _ => none }
def FnGuardKeepsWrongFalsely : Prop := fnGuardKeepsRow.holds Try.pinned (OpenSpec.ofChange fnGuardKeepsWrong)

/-- 'laws.FnExactSenseRow': WHATEVER THE INPUT: true; the input reads as it did. -/
def fnExactSenseRowSpec : ChangeSpec := { name := "fnExactSenseRow", fn := fun _ => fun
  | [d1, d2, d3, d4, d5] => { results := [.lit (.bool true)], args := [d1, d2, d3, d4, d5] }
  | _ => none }
def fnExactSenseRowRow : OpenClaim := { program := "ytbapamfomfbmmaa", sum := "783bccabc00ac50fb01d6e91482acb58eeab6e49125b905a6bc0e8abd4878dc3", func := "loop.example/g00977/laws.FnExactSenseRow", spec := "fnExactSenseRow", apart := false }
def FnExactSenseRowSaid : Prop := fnExactSenseRowRow.holds Try.pinned (OpenSpec.ofChange fnExactSenseRowSpec)

/-- ITS FALSE NEIGHBOUR: 'it returns false'. Refute it at one input. -/
def fnExactSenseRowWrong : ChangeSpec := { name := "fnExactSenseRow", fn := fun _ => fun
  | [d1, d2, d3, d4, d5] => { results := [.lit (.bool false)], args := [d1, d2, d3, d4, d5] }
  | _ => none }
def FnExactSenseRowWrongFalsely : Prop := fnExactSenseRowRow.holds Try.pinned (OpenSpec.ofChange fnExactSenseRowWrong)

/-- 'laws.FnExactSenseBank': WHATEVER THE INPUT: true; the input reads as it did. -/
def fnExactSenseBankSpec : ChangeSpec := { name := "fnExactSenseBank", fn := fun _ => fun
  | [d1, d2, d3, d4] => { results := [.lit (.bool true)], args := [d1, d2, d3, d4] }
  | _ => none }
def fnExactSenseBankRow : OpenClaim := { program := "ytbapamfomfbmmaa", sum := "783bccabc00ac50fb01d6e91482acb58eeab6e49125b905a6bc0e8abd4878dc3", func := "loop.example/g00977/laws.FnExactSenseBank", spec := "fnExactSenseBank", apart := false }
def FnExactSenseBankSaid : Prop := fnExactSenseBankRow.holds Try.pinned (OpenSpec.ofChange fnExactSenseBankSpec)

/-- ITS FALSE NEIGHBOUR: 'it returns false'. Refute it at one input. -/
def fnExactSenseBankWrong : ChangeSpec := { name := "fnExactSenseBank", fn := fun _ => fun
  | [d1, d2, d3, d4] => { results := [.lit (.bool false)], args := [d1, d2, d3, d4] }
  | _ => none }
def FnExactSenseBankWrongFalsely : Prop := fnExactSenseBankRow.holds Try.pinned (OpenSpec.ofChange fnExactSenseBankWrong)

/-- 'laws.FnSensed': WHATEVER THE INPUT: true; the input reads as it did. -/
def fnSensedSpec : ChangeSpec := { name := "fnSensed", fn := fun _ => fun
  | [d] => { results := [.lit (.bool true)], args := [d] }
  | _ => none }
def fnSensedRow : OpenClaim := { program := "ytbapamfomfbmmaa", sum := "783bccabc00ac50fb01d6e91482acb58eeab6e49125b905a6bc0e8abd4878dc3", func := "loop.example/g00977/laws.FnSensed", spec := "fnSensed", apart := false }
def FnSensedSaid : Prop := fnSensedRow.holds Try.pinned (OpenSpec.ofChange fnSensedSpec)

/-- ITS FALSE NEIGHBOUR: 'it returns false'. Refute it at one input. -/
def fnSensedWrong : ChangeSpec := { name := "fnSensed", fn := fun _ => fun
  | [d] => { results := [.lit (.bool false)], args := [d] }
  | _ => none }
def FnSensedWrongFalsely : Prop := fnSensedRow.holds Try.pinned (OpenSpec.ofChange fnSensedWrong)

/-- 'laws.FnDecay': WHATEVER THE INPUT: true; the input reads as it did. -/
def fnDecaySpec : ChangeSpec := { name := "fnDecay", fn := fun _ => fun
  | [d] => { results := [.lit (.bool true)], args := [d] }
  | _ => none }
def fnDecayRow : OpenClaim := { program := "ytbapamfomfbmmaa", sum := "783bccabc00ac50fb01d6e91482acb58eeab6e49125b905a6bc0e8abd4878dc3", func := "loop.example/g00977/laws.FnDecay", spec := "fnDecay", apart := false }
def FnDecaySaid : Prop := fnDecayRow.holds Try.pinned (OpenSpec.ofChange fnDecaySpec)

/-- ITS FALSE NEIGHBOUR: 'it returns false'. Refute it at one input. -/
def fnDecayWrong : ChangeSpec := { name := "fnDecay", fn := fun _ => fun
  | [d] => { results := [.lit (.bool false)], args := [d] }
  | _ => none }
def FnDecayWrongFalsely : Prop := fnDecayRow.holds Try.pinned (OpenSpec.ofChange fnDecayWrong)

/- THE SECOND FORM. 'bulk': how many values and letters a reading holds, each counted each time it is reached (what is shared counts as often as it is met; a slice's spare places count too). A statement '..UptoSaid' is the law's where the arguments, and the package variables that the reading takes, are together of bulk at most 1048576: NARROWER than '..Said'. Prove '..Said' where nothing that the law and all that it calls make is longer than what came in: it says more and counts as full. Else prove '..UptoSaid'. A law counts once. -/
mutual
def uptoBulk {H : Type} : DataW H → Nat
  | .lit (.string bytes) => bytes.length + 1
  | .lit _ => 1
  | .nil => 1
  | .ptr d => uptoBulk d + 1
  | .slice elems spare => uptoBulkAll elems + uptoBulkAll spare + 1
  | .agg parts => uptoBulkAll parts + 1
  | .iface _ d => uptoBulk d + 1
  | .map entries => uptoBulkEntries entries + 1
  | .held _ => 1
def uptoBulkAll {H : Type} : List (DataW H) → Nat
  | [] => 0
  | d :: r => uptoBulk d + uptoBulkAll r
def uptoBulkEntries {H : Type} : List (Lit × DataW H) → Nat
  | [] => 0
  | x :: r => uptoBulkEntry x + uptoBulkEntries r
def uptoBulkEntry {H : Type} : Lit × DataW H → Nat
  | (.string bytes, d) => bytes.length + uptoBulk d + 1
  | (_, d) => uptoBulk d + 1
 end
def uptoSmall : (H : Type) → List (DataW H) → Bool := fun _ ds => decide (uptoBulkAll ds ≤ 1048576)
def OpenSpec.upto (s : _root_.Go.ChangeSpec) : _root_.Go.OpenSpec := { _root_.Go.OpenSpec.ofChange s with cond := some uptoSmall }

/-- 'laws.FnSpares', WHERE WHAT IT READS IS OF BULK AT MOST 1048576: true; the input reads as it did. -/
def fnSparesUptoRow : OpenClaim := { program := "ytbapamfomfbmmaa", sum := "783bccabc00ac50fb01d6e91482acb58eeab6e49125b905a6bc0e8abd4878dc3", func := "loop.example/g00977/laws.FnSpares", spec := "fnSpares", apart := false, narrowed := true }
def FnSparesUptoSaid : Prop := fnSparesUptoRow.holds Try.pinned (OpenSpec.upto fnSparesSpec)

/-- 'laws.FnNeeds', WHERE WHAT IT READS IS OF BULK AT MOST 1048576: true; the input reads as it did. -/
def fnNeedsUptoRow : OpenClaim := { program := "ytbapamfomfbmmaa", sum := "783bccabc00ac50fb01d6e91482acb58eeab6e49125b905a6bc0e8abd4878dc3", func := "loop.example/g00977/laws.FnNeeds", spec := "fnNeeds", apart := false, narrowed := true }
def FnNeedsUptoSaid : Prop := fnNeedsUptoRow.holds Try.pinned (OpenSpec.upto fnNeedsSpec)

/-- 'laws.FnBlocked', WHERE WHAT IT READS IS OF BULK AT MOST 1048576: true; the input reads as it did. -/
def fnBlockedUptoRow : OpenClaim := { program := "ytbapamfomfbmmaa", sum := "783bccabc00ac50fb01d6e91482acb58eeab6e49125b905a6bc0e8abd4878dc3", func := "loop.example/g00977/laws.FnBlocked", spec := "fnBlocked", apart := false, narrowed := true }
def FnBlockedUptoSaid : Prop := fnBlockedUptoRow.holds Try.pinned (OpenSpec.upto fnBlockedSpec)

/-- 'laws.FnQueued', WHERE WHAT IT READS IS OF BULK AT MOST 1048576: true; the input reads as it did. -/
def fnQueuedUptoRow : OpenClaim := { program := "ytbapamfomfbmmaa", sum := "783bccabc00ac50fb01d6e91482acb58eeab6e49125b905a6bc0e8abd4878dc3", func := "loop.example/g00977/laws.FnQueued", spec := "fnQueued", apart := false, narrowed := true }
def FnQueuedUptoSaid : Prop := fnQueuedUptoRow.holds Try.pinned (OpenSpec.upto fnQueuedSpec)

/-- 'laws.FnExactGuardedRun', WHERE WHAT IT READS IS OF BULK AT MOST 1048576: true; the input reads as it did. -/
def fnExactGuardedRunUptoRow : OpenClaim := { program := "ytbapamfomfbmmaa", sum := "783bccabc00ac50fb01d6e91482acb58eeab6e49125b905a6bc0e8abd4878dc3", func := "loop.example/g00977/laws.FnExactGuardedRun", spec := "fnExactGuardedRun", unfollowed := true, recurses := true, apart := false, narrowed := true }
def FnExactGuardedRunUptoSaid : Prop := fnExactGuardedRunUptoRow.holds Try.pinned (OpenSpec.upto fnExactGuardedRunSpec)

/-- 'laws.FnGuarded', WHERE WHAT IT READS IS OF BULK AT MOST 1048576: true; the input reads as it did. -/
def fnGuardedUptoRow : OpenClaim := { program := "ytbapamfomfbmmaa", sum := "783bccabc00ac50fb01d6e91482acb58eeab6e49125b905a6bc0e8abd4878dc3", func := "loop.example/g00977/laws.FnGuarded", spec := "fnGuarded", unfollowed := true, recurses := true, apart := false, narrowed := true }
def FnGuardedUptoSaid : Prop := fnGuardedUptoRow.holds Try.pinned (OpenSpec.upto fnGuardedSpec)

/-- 'laws.FnGuardKeeps', WHERE WHAT IT READS IS OF BULK AT MOST 1048576: true; the input reads as it did. -/
def fnGuardKeepsUptoRow : OpenClaim := { program := "ytbapamfomfbmmaa", sum := "783bccabc00ac50fb01d6e91482acb58eeab6e49125b905a6bc0e8abd4878dc3", func := "loop.example/g00977/laws.FnGuardKeeps", spec := "fnGuardKeeps", unfollowed := true, recurses := true, apart := false, narrowed := true }
def FnGuardKeepsUptoSaid : Prop := fnGuardKeepsUptoRow.holds Try.pinned (OpenSpec.upto fnGuardKeepsSpec)

/-- 'laws.FnExactSenseRow', WHERE WHAT IT READS IS OF BULK AT MOST 1048576: true; the input reads as it did. -/
def fnExactSenseRowUptoRow : OpenClaim := { program := "ytbapamfomfbmmaa", sum := "783bccabc00ac50fb01d6e91482acb58eeab6e49125b905a6bc0e8abd4878dc3", func := "loop.example/g00977/laws.FnExactSenseRow", spec := "fnExactSenseRow", apart := false, narrowed := true }
def FnExactSenseRowUptoSaid : Prop := fnExactSenseRowUptoRow.holds Try.pinned (OpenSpec.upto fnExactSenseRowSpec)

/-- 'laws.FnExactSenseBank', WHERE WHAT IT READS IS OF BULK AT MOST 1048576: true; the input reads as it did. -/
def fnExactSenseBankUptoRow : OpenClaim := { program := "ytbapamfomfbmmaa", sum := "783bccabc00ac50fb01d6e91482acb58eeab6e49125b905a6bc0e8abd4878dc3", func := "loop.example/g00977/laws.FnExactSenseBank", spec := "fnExactSenseBank", apart := false, narrowed := true }
def FnExactSenseBankUptoSaid : Prop := fnExactSenseBankUptoRow.holds Try.pinned (OpenSpec.upto fnExactSenseBankSpec)

/-- 'laws.FnSensed', WHERE WHAT IT READS IS OF BULK AT MOST 1048576: true; the input reads as it did. -/
def fnSensedUptoRow : OpenClaim := { program := "ytbapamfomfbmmaa", sum := "783bccabc00ac50fb01d6e91482acb58eeab6e49125b905a6bc0e8abd4878dc3", func := "loop.example/g00977/laws.FnSensed", spec := "fnSensed", apart := false, narrowed := true }
def FnSensedUptoSaid : Prop := fnSensedUptoRow.holds Try.pinned (OpenSpec.upto fnSensedSpec)

/-- 'laws.FnDecay', WHERE WHAT IT READS IS OF BULK AT MOST 1048576: true; the input reads as it did. -/
def fnDecayUptoRow : OpenClaim := { program := "ytbapamfomfbmmaa", sum := "783bccabc00ac50fb01d6e91482acb58eeab6e49125b905a6bc0e8abd4878dc3", func := "loop.example/g00977/laws.FnDecay", spec := "fnDecay", apart := false, narrowed := true }
def FnDecayUptoSaid : Prop := fnDecayUptoRow.holds Try.pinned (OpenSpec.upto fnDecaySpec)

end Rows
end Go.Proofs.Ytbapamfomfbmmaa
