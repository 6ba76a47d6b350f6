/-
  No cell of these rows narrows 'for every input' (looked for: loops, veiled, ifaces, maps, wideKeys, modest, calm, conditions, laid).
  DERIVED. THE GIVEN ROWS OF THIS SEAT. 10 by the template 'for every input the law returns true; each argument reads behind the call as it read before'; 0 by the template 'total and deterministic' (their statements: YtkhbpfliobhmiaaTotals.lean).
  GIVEN WITH THE SEED: the statements are not yours to turn. If you find one false, say at which input.
  Laid BY PROGRAM, IN A SANDBOX (cutbox-rows.mjs): the forced cells as the released guide's own fill.sh prints them over the translation e1719e5a44f9af24… (all of the seat's roots in one cut). By AI agents, Wed Nov 11 2026. No macro, syntax, notation, axiom, sorry.
-/
import Derived.Test.YtkhbpfliobhmiaaChecked
import GoSem.Claim
import GoSem.ClaimJoined
import GoSem.ClaimMapViews
import Derived.JoinedTies
import Derived.KernelRfl
namespace Go.Proofs.Ytkhbpfliobhmiaa
/- THE CELL 'sum', in the pinned program and in every row, IS THE sha256 OF THE DUMP (.gsa) THAT YtkhbpfliobhmiaaProg.lean LOADS. Nothing in Lean hashes anything: it is a label: what it is worth is what the hold of that sum in a sandbox is worth. -/
noncomputable def Try.pinned : Pinned := { name := "ytkhbpfliobhmiaa", sum := "e1719e5a44f9af244e2effcab126f4396f5a207b91f4ca2e33513bafde898c4e", checked := Try.checked }
namespace Rows
def none {H : Type} : Left H := { results := [], args := [] }

/-- 'laws.FnExactRefreshNew': WHATEVER THE INPUT: true; the input reads as it did. -/
def fnExactRefreshNewSpec : ChangeSpec := { name := "fnExactRefreshNew", fn := fun _ => fun
  | [d1, d2] => { results := [.lit (.bool true)], args := [d1, d2] }
  | _ => none }
def fnExactRefreshNewRow : OpenClaim := { program := "ytkhbpfliobhmiaa", sum := "e1719e5a44f9af244e2effcab126f4396f5a207b91f4ca2e33513bafde898c4e", func := "loop.example/g00977/laws.FnExactRefreshNew", spec := "fnExactRefreshNew", apart := false }
def FnExactRefreshNewSaid : Prop := fnExactRefreshNewRow.holds Try.pinned (OpenSpec.ofChange fnExactRefreshNewSpec)

/-- ITS FALSE NEIGHBOUR: 'it returns false'. Refute it at one input. -/
def fnExactRefreshNewWrong : ChangeSpec := { name := "fnExactRefreshNew", fn := fun _ => fun
  | [d1, d2] => { results := [.lit (.bool false)], args := [d1, d2] }
  | _ => none }
def FnExactRefreshNewWrongFalsely : Prop := fnExactRefreshNewRow.holds Try.pinned (OpenSpec.ofChange fnExactRefreshNewWrong)

/-- 'laws.FnExactRefreshOk': WHATEVER THE INPUT: true; the input reads as it did. -/
def fnExactRefreshOkSpec : ChangeSpec := { name := "fnExactRefreshOk", fn := fun _ => fun
  | [d] => { results := [.lit (.bool true)], args := [d] }
  | _ => none }
def fnExactRefreshOkRow : OpenClaim := { program := "ytkhbpfliobhmiaa", sum := "e1719e5a44f9af244e2effcab126f4396f5a207b91f4ca2e33513bafde898c4e", func := "loop.example/g00977/laws.FnExactRefreshOk", spec := "fnExactRefreshOk", apart := false }
def FnExactRefreshOkSaid : Prop := fnExactRefreshOkRow.holds Try.pinned (OpenSpec.ofChange fnExactRefreshOkSpec)

/-- ITS FALSE NEIGHBOUR: 'it returns false'. Refute it at one input. -/
def fnExactRefreshOkWrong : ChangeSpec := { name := "fnExactRefreshOk", fn := fun _ => fun
  | [d] => { results := [.lit (.bool false)], args := [d] }
  | _ => none }
def FnExactRefreshOkWrongFalsely : Prop := fnExactRefreshOkRow.holds Try.pinned (OpenSpec.ofChange fnExactRefreshOkWrong)

/-- 'laws.FnExactRefreshDone': WHATEVER THE INPUT: true; the input reads as it did. -/
def fnExactRefreshDoneSpec : ChangeSpec := { name := "fnExactRefreshDone", fn := fun _ => fun
  | [d1, d2] => { results := [.lit (.bool true)], args := [d1, d2] }
  | _ => none }
def fnExactRefreshDoneRow : OpenClaim := { program := "ytkhbpfliobhmiaa", sum := "e1719e5a44f9af244e2effcab126f4396f5a207b91f4ca2e33513bafde898c4e", func := "loop.example/g00977/laws.FnExactRefreshDone", spec := "fnExactRefreshDone", apart := false }
def FnExactRefreshDoneSaid : Prop := fnExactRefreshDoneRow.holds Try.pinned (OpenSpec.ofChange fnExactRefreshDoneSpec)

/-- ITS FALSE NEIGHBOUR: 'it returns false'. Refute it at one input. -/
def fnExactRefreshDoneWrong : ChangeSpec := { name := "fnExactRefreshDone", fn := fun _ => fun
  | [d1, d2] => { results := [.lit (.bool false)], args := [d1, d2] }
  | _ => none }
def FnExactRefreshDoneWrongFalsely : Prop := fnExactRefreshDoneRow.holds Try.pinned (OpenSpec.ofChange fnExactRefreshDoneWrong)

/-- 'laws.FnExactRefreshHeat': WHATEVER THE INPUT: true; the input reads as it did. -/
def fnExactRefreshHeatSpec : ChangeSpec := { name := "fnExactRefreshHeat", fn := fun _ => fun
  | [d1, d2] => { results := [.lit (.bool true)], args := [d1, d2] }
  | _ => none }
def fnExactRefreshHeatRow : OpenClaim := { program := "ytkhbpfliobhmiaa", sum := "e1719e5a44f9af244e2effcab126f4396f5a207b91f4ca2e33513bafde898c4e", func := "loop.example/g00977/laws.FnExactRefreshHeat", spec := "fnExactRefreshHeat", apart := false }
def FnExactRefreshHeatSaid : Prop := fnExactRefreshHeatRow.holds Try.pinned (OpenSpec.ofChange fnExactRefreshHeatSpec)

/-- ITS FALSE NEIGHBOUR: 'it returns false'. Refute it at one input. -/
def fnExactRefreshHeatWrong : ChangeSpec := { name := "fnExactRefreshHeat", fn := fun _ => fun
  | [d1, d2] => { results := [.lit (.bool false)], args := [d1, d2] }
  | _ => none }
def FnExactRefreshHeatWrongFalsely : Prop := fnExactRefreshHeatRow.holds Try.pinned (OpenSpec.ofChange fnExactRefreshHeatWrong)

/-- 'laws.FnExactRefreshPick': WHATEVER THE INPUT: true; the input reads as it did. -/
def fnExactRefreshPickSpec : ChangeSpec := { name := "fnExactRefreshPick", fn := fun _ => fun
  | [d1, d2] => { results := [.lit (.bool true)], args := [d1, d2] }
  | _ => none }
def fnExactRefreshPickRow : OpenClaim := { program := "ytkhbpfliobhmiaa", sum := "e1719e5a44f9af244e2effcab126f4396f5a207b91f4ca2e33513bafde898c4e", func := "loop.example/g00977/laws.FnExactRefreshPick", spec := "fnExactRefreshPick", apart := false }
def FnExactRefreshPickSaid : Prop := fnExactRefreshPickRow.holds Try.pinned (OpenSpec.ofChange fnExactRefreshPickSpec)

/-- ITS FALSE NEIGHBOUR: 'it returns false'. Refute it at one input. -/
def fnExactRefreshPickWrong : ChangeSpec := { name := "fnExactRefreshPick", fn := fun _ => fun
  | [d1, d2] => { results := [.lit (.bool false)], args := [d1, d2] }
  | _ => none }
def FnExactRefreshPickWrongFalsely : Prop := fnExactRefreshPickRow.holds Try.pinned (OpenSpec.ofChange fnExactRefreshPickWrong)

/-- 'laws.FnExactRefreshTick': WHATEVER THE INPUT: true; the input reads as it did. -/
def fnExactRefreshTickSpec : ChangeSpec := { name := "fnExactRefreshTick", fn := fun _ => fun
  | [d1, d2] => { results := [.lit (.bool true)], args := [d1, d2] }
  | _ => none }
def fnExactRefreshTickRow : OpenClaim := { program := "ytkhbpfliobhmiaa", sum := "e1719e5a44f9af244e2effcab126f4396f5a207b91f4ca2e33513bafde898c4e", func := "loop.example/g00977/laws.FnExactRefreshTick", spec := "fnExactRefreshTick", apart := false }
def FnExactRefreshTickSaid : Prop := fnExactRefreshTickRow.holds Try.pinned (OpenSpec.ofChange fnExactRefreshTickSpec)

/-- ITS FALSE NEIGHBOUR: 'it returns false'. Refute it at one input. -/
def fnExactRefreshTickWrong : ChangeSpec := { name := "fnExactRefreshTick", fn := fun _ => fun
  | [d1, d2] => { results := [.lit (.bool false)], args := [d1, d2] }
  | _ => none }
def FnExactRefreshTickWrongFalsely : Prop := fnExactRefreshTickRow.holds Try.pinned (OpenSpec.ofChange fnExactRefreshTickWrong)

/-- 'laws.FnExactUrgentBanks': WHATEVER THE INPUT: true; the input reads as it did. -/
def fnExactUrgentBanksSpec : ChangeSpec := { name := "fnExactUrgentBanks", fn := fun _ => fun
  | [d] => { results := [.lit (.bool true)], args := [d] }
  | _ => none }
def fnExactUrgentBanksRow : OpenClaim := { program := "ytkhbpfliobhmiaa", sum := "e1719e5a44f9af244e2effcab126f4396f5a207b91f4ca2e33513bafde898c4e", func := "loop.example/g00977/laws.FnExactUrgentBanks", spec := "fnExactUrgentBanks", apart := false }
def FnExactUrgentBanksSaid : Prop := fnExactUrgentBanksRow.holds Try.pinned (OpenSpec.ofChange fnExactUrgentBanksSpec)

/-- ITS FALSE NEIGHBOUR: 'it returns false'. Refute it at one input. -/
def fnExactUrgentBanksWrong : ChangeSpec := { name := "fnExactUrgentBanks", fn := fun _ => fun
  | [d] => { results := [.lit (.bool false)], args := [d] }
  | _ => none }
def FnExactUrgentBanksWrongFalsely : Prop := fnExactUrgentBanksRow.holds Try.pinned (OpenSpec.ofChange fnExactUrgentBanksWrong)

/-- 'laws.FnDebts': WHATEVER THE INPUT: true; the input reads as it did. -/
def fnDebtsSpec : ChangeSpec := { name := "fnDebts", fn := fun _ => fun
  | [d] => { results := [.lit (.bool true)], args := [d] }
  | _ => none }
def fnDebtsRow : OpenClaim := { program := "ytkhbpfliobhmiaa", sum := "e1719e5a44f9af244e2effcab126f4396f5a207b91f4ca2e33513bafde898c4e", func := "loop.example/g00977/laws.FnDebts", spec := "fnDebts", apart := false }
def FnDebtsSaid : Prop := fnDebtsRow.holds Try.pinned (OpenSpec.ofChange fnDebtsSpec)

/-- ITS FALSE NEIGHBOUR: 'it returns false'. Refute it at one input. -/
def fnDebtsWrong : ChangeSpec := { name := "fnDebts", fn := fun _ => fun
  | [d] => { results := [.lit (.bool false)], args := [d] }
  | _ => none }
def FnDebtsWrongFalsely : Prop := fnDebtsRow.holds Try.pinned (OpenSpec.ofChange fnDebtsWrong)

/-- 'laws.FnHot': WHATEVER THE INPUT: true; the input reads as it did. -/
def fnHotSpec : ChangeSpec := { name := "fnHot", fn := fun _ => fun
  | [d] => { results := [.lit (.bool true)], args := [d] }
  | _ => none }
def fnHotRow : OpenClaim := { program := "ytkhbpfliobhmiaa", sum := "e1719e5a44f9af244e2effcab126f4396f5a207b91f4ca2e33513bafde898c4e", func := "loop.example/g00977/laws.FnHot", spec := "fnHot", apart := false }
def FnHotSaid : Prop := fnHotRow.holds Try.pinned (OpenSpec.ofChange fnHotSpec)

/-- ITS FALSE NEIGHBOUR: 'it returns false'. Refute it at one input. -/
def fnHotWrong : ChangeSpec := { name := "fnHot", fn := fun _ => fun
  | [d] => { results := [.lit (.bool false)], args := [d] }
  | _ => none }
def FnHotWrongFalsely : Prop := fnHotRow.holds Try.pinned (OpenSpec.ofChange fnHotWrong)

/-- 'laws.FnPostponed': WHATEVER THE INPUT: true; the input reads as it did. -/
def fnPostponedSpec : ChangeSpec := { name := "fnPostponed", fn := fun _ => fun
  | [d] => { results := [.lit (.bool true)], args := [d] }
  | _ => none }
def fnPostponedRow : OpenClaim := { program := "ytkhbpfliobhmiaa", sum := "e1719e5a44f9af244e2effcab126f4396f5a207b91f4ca2e33513bafde898c4e", func := "loop.example/g00977/laws.FnPostponed", spec := "fnPostponed", apart := false }
def FnPostponedSaid : Prop := fnPostponedRow.holds Try.pinned (OpenSpec.ofChange fnPostponedSpec)

/-- ITS FALSE NEIGHBOUR: 'it returns false'. Refute it at one input. -/
def fnPostponedWrong : ChangeSpec := { name := "fnPostponed", fn := fun _ => fun
  | [d] => { results := [.lit (.bool false)], args := [d] }
  | _ => none }
def FnPostponedWrongFalsely : Prop := fnPostponedRow.holds Try.pinned (OpenSpec.ofChange fnPostponedWrong)

/- THE SECOND FORM. 'bulk': how many values and letters a reading holds, each counted each time it is reached (what is shared counts as often as it is met; a slice's spare places count too). A statement '..UptoSaid' is the law's where the arguments, and the package variables that the reading takes, are together of bulk at most 1048576: NARROWER than '..Said'. Prove '..Said' where nothing that the law and all that it calls make is longer than what came in: it says more and counts as full. Else prove '..UptoSaid'. A law counts once. -/
mutual
def uptoBulk {H : Type} : DataW H → Nat
  | .lit (.string bytes) => bytes.length + 1
  | .lit _ => 1
  | .nil => 1
  | .ptr d => uptoBulk d + 1
  | .slice elems spare => uptoBulkAll elems + uptoBulkAll spare + 1
  | .agg parts => uptoBulkAll parts + 1
  | .iface _ d => uptoBulk d + 1
  | .map entries => uptoBulkEntries entries + 1
  | .held _ => 1
def uptoBulkAll {H : Type} : List (DataW H) → Nat
  | [] => 0
  | d :: r => uptoBulk d + uptoBulkAll r
def uptoBulkEntries {H : Type} : List (Lit × DataW H) → Nat
  | [] => 0
  | x :: r => uptoBulkEntry x + uptoBulkEntries r
def uptoBulkEntry {H : Type} : Lit × DataW H → Nat
  | (.string bytes, d) => bytes.length + uptoBulk d + 1
  | (_, d) => uptoBulk d + 1
 end
def uptoSmall : (H : Type) → List (DataW H) → Bool := fun _ ds => decide (uptoBulkAll ds ≤ 1048576)
def OpenSpec.upto (s : _root_.Go.ChangeSpec) : _root_.Go.OpenSpec := { _root_.Go.OpenSpec.ofChange s with cond := some uptoSmall }

/-- 'laws.FnExactRefreshNew', WHERE WHAT IT READS IS OF BULK AT MOST 1048576: true; the input reads as it did. -/
def fnExactRefreshNewUptoRow : OpenClaim := { program := "ytkhbpfliobhmiaa", sum := "e1719e5a44f9af244e2effcab126f4396f5a207b91f4ca2e33513bafde898c4e", func := "loop.example/g00977/laws.FnExactRefreshNew", spec := "fnExactRefreshNew", apart := false, narrowed := true }
def FnExactRefreshNewUptoSaid : Prop := fnExactRefreshNewUptoRow.holds Try.pinned (OpenSpec.upto fnExactRefreshNewSpec)

/-- 'laws.FnExactRefreshOk', WHERE WHAT IT READS IS OF BULK AT MOST 1048576: true; the input reads as it did. -/
def fnExactRefreshOkUptoRow : OpenClaim := { program := "ytkhbpfliobhmiaa", sum := "e1719e5a44f9af244e2effcab126f4396f5a207b91f4ca2e33513bafde898c4e", func := "loop.example/g00977/laws.FnExactRefreshOk", spec := "fnExactRefreshOk", apart := false, narrowed := true }
def FnExactRefreshOkUptoSaid : Prop := fnExactRefreshOkUptoRow.holds Try.pinned (OpenSpec.upto fnExactRefreshOkSpec)

/-- 'laws.FnExactRefreshDone', WHERE WHAT IT READS IS OF BULK AT MOST 1048576: true; the input reads as it did. -/
def fnExactRefreshDoneUptoRow : OpenClaim := { program := "ytkhbpfliobhmiaa", sum := "e1719e5a44f9af244e2effcab126f4396f5a207b91f4ca2e33513bafde898c4e", func := "loop.example/g00977/laws.FnExactRefreshDone", spec := "fnExactRefreshDone", apart := false, narrowed := true }
def FnExactRefreshDoneUptoSaid : Prop := fnExactRefreshDoneUptoRow.holds Try.pinned (OpenSpec.upto fnExactRefreshDoneSpec)

/-- 'laws.FnExactRefreshHeat', WHERE WHAT IT READS IS OF BULK AT MOST 1048576: true; the input reads as it did. -/
def fnExactRefreshHeatUptoRow : OpenClaim := { program := "ytkhbpfliobhmiaa", sum := "e1719e5a44f9af244e2effcab126f4396f5a207b91f4ca2e33513bafde898c4e", func := "loop.example/g00977/laws.FnExactRefreshHeat", spec := "fnExactRefreshHeat", apart := false, narrowed := true }
def FnExactRefreshHeatUptoSaid : Prop := fnExactRefreshHeatUptoRow.holds Try.pinned (OpenSpec.upto fnExactRefreshHeatSpec)

/-- 'laws.FnExactRefreshPick', WHERE WHAT IT READS IS OF BULK AT MOST 1048576: true; the input reads as it did. -/
def fnExactRefreshPickUptoRow : OpenClaim := { program := "ytkhbpfliobhmiaa", sum := "e1719e5a44f9af244e2effcab126f4396f5a207b91f4ca2e33513bafde898c4e", func := "loop.example/g00977/laws.FnExactRefreshPick", spec := "fnExactRefreshPick", apart := false, narrowed := true }
def FnExactRefreshPickUptoSaid : Prop := fnExactRefreshPickUptoRow.holds Try.pinned (OpenSpec.upto fnExactRefreshPickSpec)

/-- 'laws.FnExactRefreshTick', WHERE WHAT IT READS IS OF BULK AT MOST 1048576: true; the input reads as it did. -/
def fnExactRefreshTickUptoRow : OpenClaim := { program := "ytkhbpfliobhmiaa", sum := "e1719e5a44f9af244e2effcab126f4396f5a207b91f4ca2e33513bafde898c4e", func := "loop.example/g00977/laws.FnExactRefreshTick", spec := "fnExactRefreshTick", apart := false, narrowed := true }
def FnExactRefreshTickUptoSaid : Prop := fnExactRefreshTickUptoRow.holds Try.pinned (OpenSpec.upto fnExactRefreshTickSpec)

/-- 'laws.FnExactUrgentBanks', WHERE WHAT IT READS IS OF BULK AT MOST 1048576: true; the input reads as it did. -/
def fnExactUrgentBanksUptoRow : OpenClaim := { program := "ytkhbpfliobhmiaa", sum := "e1719e5a44f9af244e2effcab126f4396f5a207b91f4ca2e33513bafde898c4e", func := "loop.example/g00977/laws.FnExactUrgentBanks", spec := "fnExactUrgentBanks", apart := false, narrowed := true }
def FnExactUrgentBanksUptoSaid : Prop := fnExactUrgentBanksUptoRow.holds Try.pinned (OpenSpec.upto fnExactUrgentBanksSpec)

/-- 'laws.FnDebts', WHERE WHAT IT READS IS OF BULK AT MOST 1048576: true; the input reads as it did. -/
def fnDebtsUptoRow : OpenClaim := { program := "ytkhbpfliobhmiaa", sum := "e1719e5a44f9af244e2effcab126f4396f5a207b91f4ca2e33513bafde898c4e", func := "loop.example/g00977/laws.FnDebts", spec := "fnDebts", apart := false, narrowed := true }
def FnDebtsUptoSaid : Prop := fnDebtsUptoRow.holds Try.pinned (OpenSpec.upto fnDebtsSpec)

/-- 'laws.FnHot', WHERE WHAT IT READS IS OF BULK AT MOST 1048576: true; the input reads as it did. -/
def fnHotUptoRow : OpenClaim := { program := "ytkhbpfliobhmiaa", sum := "e1719e5a44f9af244e2effcab126f4396f5a207b91f4ca2e33513bafde898c4e", func := "loop.example/g00977/laws.FnHot", spec := "fnHot", apart := false, narrowed := true }
def FnHotUptoSaid : Prop := fnHotUptoRow.holds Try.pinned (OpenSpec.upto fnHotSpec)

/-- 'laws.FnPostponed', WHERE WHAT IT READS IS OF BULK AT MOST 1048576: true; the input reads as it did. -/
def fnPostponedUptoRow : OpenClaim := { program := "ytkhbpfliobhmiaa", sum := "e1719e5a44f9af244e2effcab126f4396f5a207b91f4ca2e33513bafde898c4e", func := "loop.example/g00977/laws.FnPostponed", spec := "fnPostponed", apart := false, narrowed := true }
def FnPostponedUptoSaid : Prop := fnPostponedUptoRow.holds Try.pinned (OpenSpec.upto fnPostponedSpec)

end Rows
end Go.Proofs.Ytkhbpfliobhmiaa
