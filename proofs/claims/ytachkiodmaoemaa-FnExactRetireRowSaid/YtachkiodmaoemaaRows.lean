/-
  No cell of these rows narrows 'for every input' (looked for: loops, veiled, ifaces, maps, wideKeys, modest, calm, conditions, laid).
  DERIVED. THE GIVEN ROWS OF THIS SEAT. 9 by the template 'for every input the law returns true; each argument reads behind the call as it read before'; 0 by the template 'total and deterministic' (their statements: YtachkiodmaoemaaTotals.lean).
  GIVEN WITH THE SEED: the statements are not yours to turn. If you find one false, say at which input.
  Laid BY PROGRAM, IN A SANDBOX (cutbox-rows.mjs): the forced cells as the released guide's own fill.sh prints them over the translation 815b96b725ef5ebe… (all of the seat's roots in one cut). By AI agents, Wed Nov 11 2026. No macro, syntax, notation, axiom, sorry.
-/
import Derived.Test.YtachkiodmaoemaaChecked
import GoSem.Claim
import GoSem.ClaimJoined
import GoSem.ClaimMapViews
import Derived.JoinedTies
import Derived.KernelRfl
namespace Go.Proofs.Ytachkiodmaoemaa
/- THE CELL 'sum', in the pinned program and in every row, IS THE sha256 OF THE DUMP (.gsa) THAT YtachkiodmaoemaaProg.lean LOADS. Nothing in Lean hashes anything: it is a label: what it is worth is what the hold of that sum in a sandbox is worth. -/
noncomputable def Try.pinned : Pinned := { name := "ytachkiodmaoemaa", sum := "815b96b725ef5ebee7f823b718b6173bc51b24a60f0d2cb761b4b878a16ae71a", checked := Try.checked }
namespace Rows
def none {H : Type} : Left H := { results := [], args := [] }

/-- 'laws.FnExactSpareNew': WHATEVER THE INPUT: true; the input reads as it did. -/
def fnExactSpareNewSpec : ChangeSpec := { name := "fnExactSpareNew", fn := fun _ => fun
  | [d1, d2] => { results := [.lit (.bool true)], args := [d1, d2] }
  | _ => none }
def fnExactSpareNewRow : OpenClaim := { program := "ytachkiodmaoemaa", sum := "815b96b725ef5ebee7f823b718b6173bc51b24a60f0d2cb761b4b878a16ae71a", func := "loop.example/g00977/laws.FnExactSpareNew", spec := "fnExactSpareNew", apart := false }
def FnExactSpareNewSaid : Prop := fnExactSpareNewRow.holds Try.pinned (OpenSpec.ofChange fnExactSpareNewSpec)

/-- ITS FALSE NEIGHBOUR: 'it returns false'. Refute it at one input. -/
def fnExactSpareNewWrong : ChangeSpec := { name := "fnExactSpareNew", fn := fun _ => fun
  | [d1, d2] => { results := [.lit (.bool false)], args := [d1, d2] }
  | _ => none }
def FnExactSpareNewWrongFalsely : Prop := fnExactSpareNewRow.holds Try.pinned (OpenSpec.ofChange fnExactSpareNewWrong)

/-- 'laws.FnExactSpareOk': WHATEVER THE INPUT: true; the input reads as it did. -/
def fnExactSpareOkSpec : ChangeSpec := { name := "fnExactSpareOk", fn := fun _ => fun
  | [d1, d2] => { results := [.lit (.bool true)], args := [d1, d2] }
  | _ => none }
def fnExactSpareOkRow : OpenClaim := { program := "ytachkiodmaoemaa", sum := "815b96b725ef5ebee7f823b718b6173bc51b24a60f0d2cb761b4b878a16ae71a", func := "loop.example/g00977/laws.FnExactSpareOk", spec := "fnExactSpareOk", apart := false }
def FnExactSpareOkSaid : Prop := fnExactSpareOkRow.holds Try.pinned (OpenSpec.ofChange fnExactSpareOkSpec)

/-- ITS FALSE NEIGHBOUR: 'it returns false'. Refute it at one input. -/
def fnExactSpareOkWrong : ChangeSpec := { name := "fnExactSpareOk", fn := fun _ => fun
  | [d1, d2] => { results := [.lit (.bool false)], args := [d1, d2] }
  | _ => none }
def FnExactSpareOkWrongFalsely : Prop := fnExactSpareOkRow.holds Try.pinned (OpenSpec.ofChange fnExactSpareOkWrong)

/-- 'laws.FnExactRegularGeometry': WHATEVER THE INPUT: true; the input reads as it did. -/
def fnExactRegularGeometrySpec : ChangeSpec := { name := "fnExactRegularGeometry", fn := fun _ => fun
  | [d1, d2] => { results := [.lit (.bool true)], args := [d1, d2] }
  | _ => none }
def fnExactRegularGeometryRow : OpenClaim := { program := "ytachkiodmaoemaa", sum := "815b96b725ef5ebee7f823b718b6173bc51b24a60f0d2cb761b4b878a16ae71a", func := "loop.example/g00977/laws.FnExactRegularGeometry", spec := "fnExactRegularGeometry", apart := false }
def FnExactRegularGeometrySaid : Prop := fnExactRegularGeometryRow.holds Try.pinned (OpenSpec.ofChange fnExactRegularGeometrySpec)

/-- ITS FALSE NEIGHBOUR: 'it returns false'. Refute it at one input. -/
def fnExactRegularGeometryWrong : ChangeSpec := { name := "fnExactRegularGeometry", fn := fun _ => fun
  | [d1, d2] => { results := [.lit (.bool false)], args := [d1, d2] }
  | _ => none }
def FnExactRegularGeometryWrongFalsely : Prop := fnExactRegularGeometryRow.holds Try.pinned (OpenSpec.ofChange fnExactRegularGeometryWrong)

/-- 'laws.FnExactStoredRow': WHATEVER THE INPUT: true; the input reads as it did. -/
def fnExactStoredRowSpec : ChangeSpec := { name := "fnExactStoredRow", fn := fun _ => fun
  | [d1, d2, d3, d4] => { results := [.lit (.bool true)], args := [d1, d2, d3, d4] }
  | _ => none }
def fnExactStoredRowRow : OpenClaim := { program := "ytachkiodmaoemaa", sum := "815b96b725ef5ebee7f823b718b6173bc51b24a60f0d2cb761b4b878a16ae71a", func := "loop.example/g00977/laws.FnExactStoredRow", spec := "fnExactStoredRow", apart := false }
def FnExactStoredRowSaid : Prop := fnExactStoredRowRow.holds Try.pinned (OpenSpec.ofChange fnExactStoredRowSpec)

/-- ITS FALSE NEIGHBOUR: 'it returns false'. Refute it at one input. -/
def fnExactStoredRowWrong : ChangeSpec := { name := "fnExactStoredRow", fn := fun _ => fun
  | [d1, d2, d3, d4] => { results := [.lit (.bool false)], args := [d1, d2, d3, d4] }
  | _ => none }
def FnExactStoredRowWrongFalsely : Prop := fnExactStoredRowRow.holds Try.pinned (OpenSpec.ofChange fnExactStoredRowWrong)

/-- 'laws.FnExactRegularRow': WHATEVER THE INPUT: true; the input reads as it did. -/
def fnExactRegularRowSpec : ChangeSpec := { name := "fnExactRegularRow", fn := fun _ => fun
  | [d1, d2, d3, d4] => { results := [.lit (.bool true)], args := [d1, d2, d3, d4] }
  | _ => none }
def fnExactRegularRowRow : OpenClaim := { program := "ytachkiodmaoemaa", sum := "815b96b725ef5ebee7f823b718b6173bc51b24a60f0d2cb761b4b878a16ae71a", func := "loop.example/g00977/laws.FnExactRegularRow", spec := "fnExactRegularRow", apart := false }
def FnExactRegularRowSaid : Prop := fnExactRegularRowRow.holds Try.pinned (OpenSpec.ofChange fnExactRegularRowSpec)

/-- ITS FALSE NEIGHBOUR: 'it returns false'. Refute it at one input. -/
def fnExactRegularRowWrong : ChangeSpec := { name := "fnExactRegularRow", fn := fun _ => fun
  | [d1, d2, d3, d4] => { results := [.lit (.bool false)], args := [d1, d2, d3, d4] }
  | _ => none }
def FnExactRegularRowWrongFalsely : Prop := fnExactRegularRowRow.holds Try.pinned (OpenSpec.ofChange fnExactRegularRowWrong)

/-- 'laws.FnExactSparesLeft': WHATEVER THE INPUT: true; the input reads as it did. -/
def fnExactSparesLeftSpec : ChangeSpec := { name := "fnExactSparesLeft", fn := fun _ => fun
  | [d1, d2, d3] => { results := [.lit (.bool true)], args := [d1, d2, d3] }
  | _ => none }
def fnExactSparesLeftRow : OpenClaim := { program := "ytachkiodmaoemaa", sum := "815b96b725ef5ebee7f823b718b6173bc51b24a60f0d2cb761b4b878a16ae71a", func := "loop.example/g00977/laws.FnExactSparesLeft", spec := "fnExactSparesLeft", apart := false }
def FnExactSparesLeftSaid : Prop := fnExactSparesLeftRow.holds Try.pinned (OpenSpec.ofChange fnExactSparesLeftSpec)

/-- ITS FALSE NEIGHBOUR: 'it returns false'. Refute it at one input. -/
def fnExactSparesLeftWrong : ChangeSpec := { name := "fnExactSparesLeft", fn := fun _ => fun
  | [d1, d2, d3] => { results := [.lit (.bool false)], args := [d1, d2, d3] }
  | _ => none }
def FnExactSparesLeftWrongFalsely : Prop := fnExactSparesLeftRow.holds Try.pinned (OpenSpec.ofChange fnExactSparesLeftWrong)

/-- 'laws.FnExactRetireRow': WHATEVER THE INPUT: true; the input reads as it did. -/
def fnExactRetireRowSpec : ChangeSpec := { name := "fnExactRetireRow", fn := fun _ => fun
  | [d1, d2, d3, d4] => { results := [.lit (.bool true)], args := [d1, d2, d3, d4] }
  | _ => none }
def fnExactRetireRowRow : OpenClaim := { program := "ytachkiodmaoemaa", sum := "815b96b725ef5ebee7f823b718b6173bc51b24a60f0d2cb761b4b878a16ae71a", func := "loop.example/g00977/laws.FnExactRetireRow", spec := "fnExactRetireRow", apart := false }
def FnExactRetireRowSaid : Prop := fnExactRetireRowRow.holds Try.pinned (OpenSpec.ofChange fnExactRetireRowSpec)

/-- ITS FALSE NEIGHBOUR: 'it returns false'. Refute it at one input. -/
def fnExactRetireRowWrong : ChangeSpec := { name := "fnExactRetireRow", fn := fun _ => fun
  | [d1, d2, d3, d4] => { results := [.lit (.bool false)], args := [d1, d2, d3, d4] }
  | _ => none }
def FnExactRetireRowWrongFalsely : Prop := fnExactRetireRowRow.holds Try.pinned (OpenSpec.ofChange fnExactRetireRowWrong)

/-- 'laws.FnRetired': WHATEVER THE INPUT: true; the input reads as it did. -/
def fnRetiredSpec : ChangeSpec := { name := "fnRetired", fn := fun _ => fun
  | [d] => { results := [.lit (.bool true)], args := [d] }
  | _ => none }
def fnRetiredRow : OpenClaim := { program := "ytachkiodmaoemaa", sum := "815b96b725ef5ebee7f823b718b6173bc51b24a60f0d2cb761b4b878a16ae71a", func := "loop.example/g00977/laws.FnRetired", spec := "fnRetired", apart := false }
def FnRetiredSaid : Prop := fnRetiredRow.holds Try.pinned (OpenSpec.ofChange fnRetiredSpec)

/-- ITS FALSE NEIGHBOUR: 'it returns false'. Refute it at one input. -/
def fnRetiredWrong : ChangeSpec := { name := "fnRetired", fn := fun _ => fun
  | [d] => { results := [.lit (.bool false)], args := [d] }
  | _ => none }
def FnRetiredWrongFalsely : Prop := fnRetiredRow.holds Try.pinned (OpenSpec.ofChange fnRetiredWrong)

/-- 'laws.FnSpares': WHATEVER THE INPUT: true; the input reads as it did. -/
def fnSparesSpec : ChangeSpec := { name := "fnSpares", fn := fun _ => fun
  | [d] => { results := [.lit (.bool true)], args := [d] }
  | _ => none }
def fnSparesRow : OpenClaim := { program := "ytachkiodmaoemaa", sum := "815b96b725ef5ebee7f823b718b6173bc51b24a60f0d2cb761b4b878a16ae71a", func := "loop.example/g00977/laws.FnSpares", spec := "fnSpares", apart := false }
def FnSparesSaid : Prop := fnSparesRow.holds Try.pinned (OpenSpec.ofChange fnSparesSpec)

/-- ITS FALSE NEIGHBOUR: 'it returns false'. Refute it at one input. -/
def fnSparesWrong : ChangeSpec := { name := "fnSpares", fn := fun _ => fun
  | [d] => { results := [.lit (.bool false)], args := [d] }
  | _ => none }
def FnSparesWrongFalsely : Prop := fnSparesRow.holds Try.pinned (OpenSpec.ofChange fnSparesWrong)

/- THE SECOND FORM. 'bulk': how many values and letters a reading holds, each counted each time it is reached (what is shared counts as often as it is met; a slice's spare places count too). A statement '..UptoSaid' is the law's where the arguments, and the package variables that the reading takes, are together of bulk at most 1048576: NARROWER than '..Said'. Prove '..Said' where nothing that the law and all that it calls make is longer than what came in: it says more and counts as full. Else prove '..UptoSaid'. A law counts once. -/
mutual
def uptoBulk {H : Type} : DataW H → Nat
  | .lit (.string bytes) => bytes.length + 1
  | .lit _ => 1
  | .nil => 1
  | .ptr d => uptoBulk d + 1
  | .slice elems spare => uptoBulkAll elems + uptoBulkAll spare + 1
  | .agg parts => uptoBulkAll parts + 1
  | .iface _ d => uptoBulk d + 1
  | .map entries => uptoBulkEntries entries + 1
  | .held _ => 1
def uptoBulkAll {H : Type} : List (DataW H) → Nat
  | [] => 0
  | d :: r => uptoBulk d + uptoBulkAll r
def uptoBulkEntries {H : Type} : List (Lit × DataW H) → Nat
  | [] => 0
  | x :: r => uptoBulkEntry x + uptoBulkEntries r
def uptoBulkEntry {H : Type} : Lit × DataW H → Nat
  | (.string bytes, d) => bytes.length + uptoBulk d + 1
  | (_, d) => uptoBulk d + 1
 end
def uptoSmall : (H : Type) → List (DataW H) → Bool := fun _ ds => decide (uptoBulkAll ds ≤ 1048576)
def OpenSpec.upto (s : _root_.Go.ChangeSpec) : _root_.Go.OpenSpec := { _root_.Go.OpenSpec.ofChange s with cond := some uptoSmall }

/-- 'laws.FnExactSpareNew', WHERE WHAT IT READS IS OF BULK AT MOST 1048576: true; the input reads as it did. -/
def fnExactSpareNewUptoRow : OpenClaim := { program := "ytachkiodmaoemaa", sum := "815b96b725ef5ebee7f823b718b6173bc51b24a60f0d2cb761b4b878a16ae71a", func := "loop.example/g00977/laws.FnExactSpareNew", spec := "fnExactSpareNew", apart := false, narrowed := true }
def FnExactSpareNewUptoSaid : Prop := fnExactSpareNewUptoRow.holds Try.pinned (OpenSpec.upto fnExactSpareNewSpec)

/-- 'laws.FnExactSpareOk', WHERE WHAT IT READS IS OF BULK AT MOST 1048576: true; the input reads as it did. -/
def fnExactSpareOkUptoRow : OpenClaim := { program := "ytachkiodmaoemaa", sum := "815b96b725ef5ebee7f823b718b6173bc51b24a60f0d2cb761b4b878a16ae71a", func := "loop.example/g00977/laws.FnExactSpareOk", spec := "fnExactSpareOk", apart := false, narrowed := true }
def FnExactSpareOkUptoSaid : Prop := fnExactSpareOkUptoRow.holds Try.pinned (OpenSpec.upto fnExactSpareOkSpec)

/-- 'laws.FnExactRegularGeometry', WHERE WHAT IT READS IS OF BULK AT MOST 1048576: true; the input reads as it did. -/
def fnExactRegularGeometryUptoRow : OpenClaim := { program := "ytachkiodmaoemaa", sum := "815b96b725ef5ebee7f823b718b6173bc51b24a60f0d2cb761b4b878a16ae71a", func := "loop.example/g00977/laws.FnExactRegularGeometry", spec := "fnExactRegularGeometry", apart := false, narrowed := true }
def FnExactRegularGeometryUptoSaid : Prop := fnExactRegularGeometryUptoRow.holds Try.pinned (OpenSpec.upto fnExactRegularGeometrySpec)

/-- 'laws.FnExactStoredRow', WHERE WHAT IT READS IS OF BULK AT MOST 1048576: true; the input reads as it did. -/
def fnExactStoredRowUptoRow : OpenClaim := { program := "ytachkiodmaoemaa", sum := "815b96b725ef5ebee7f823b718b6173bc51b24a60f0d2cb761b4b878a16ae71a", func := "loop.example/g00977/laws.FnExactStoredRow", spec := "fnExactStoredRow", apart := false, narrowed := true }
def FnExactStoredRowUptoSaid : Prop := fnExactStoredRowUptoRow.holds Try.pinned (OpenSpec.upto fnExactStoredRowSpec)

/-- 'laws.FnExactRegularRow', WHERE WHAT IT READS IS OF BULK AT MOST 1048576: true; the input reads as it did. -/
def fnExactRegularRowUptoRow : OpenClaim := { program := "ytachkiodmaoemaa", sum := "815b96b725ef5ebee7f823b718b6173bc51b24a60f0d2cb761b4b878a16ae71a", func := "loop.example/g00977/laws.FnExactRegularRow", spec := "fnExactRegularRow", apart := false, narrowed := true }
def FnExactRegularRowUptoSaid : Prop := fnExactRegularRowUptoRow.holds Try.pinned (OpenSpec.upto fnExactRegularRowSpec)

/-- 'laws.FnExactSparesLeft', WHERE WHAT IT READS IS OF BULK AT MOST 1048576: true; the input reads as it did. -/
def fnExactSparesLeftUptoRow : OpenClaim := { program := "ytachkiodmaoemaa", sum := "815b96b725ef5ebee7f823b718b6173bc51b24a60f0d2cb761b4b878a16ae71a", func := "loop.example/g00977/laws.FnExactSparesLeft", spec := "fnExactSparesLeft", apart := false, narrowed := true }
def FnExactSparesLeftUptoSaid : Prop := fnExactSparesLeftUptoRow.holds Try.pinned (OpenSpec.upto fnExactSparesLeftSpec)

/-- 'laws.FnExactRetireRow', WHERE WHAT IT READS IS OF BULK AT MOST 1048576: true; the input reads as it did. -/
def fnExactRetireRowUptoRow : OpenClaim := { program := "ytachkiodmaoemaa", sum := "815b96b725ef5ebee7f823b718b6173bc51b24a60f0d2cb761b4b878a16ae71a", func := "loop.example/g00977/laws.FnExactRetireRow", spec := "fnExactRetireRow", apart := false, narrowed := true }
def FnExactRetireRowUptoSaid : Prop := fnExactRetireRowUptoRow.holds Try.pinned (OpenSpec.upto fnExactRetireRowSpec)

/-- 'laws.FnRetired', WHERE WHAT IT READS IS OF BULK AT MOST 1048576: true; the input reads as it did. -/
def fnRetiredUptoRow : OpenClaim := { program := "ytachkiodmaoemaa", sum := "815b96b725ef5ebee7f823b718b6173bc51b24a60f0d2cb761b4b878a16ae71a", func := "loop.example/g00977/laws.FnRetired", spec := "fnRetired", apart := false, narrowed := true }
def FnRetiredUptoSaid : Prop := fnRetiredUptoRow.holds Try.pinned (OpenSpec.upto fnRetiredSpec)

/-- 'laws.FnSpares', WHERE WHAT IT READS IS OF BULK AT MOST 1048576: true; the input reads as it did. -/
def fnSparesUptoRow : OpenClaim := { program := "ytachkiodmaoemaa", sum := "815b96b725ef5ebee7f823b718b6173bc51b24a60f0d2cb761b4b878a16ae71a", func := "loop.example/g00977/laws.FnSpares", spec := "fnSpares", apart := false, narrowed := true }
def FnSparesUptoSaid : Prop := fnSparesUptoRow.holds Try.pinned (OpenSpec.upto fnSparesSpec)

end Rows
end Go.Proofs.Ytachkiodmaoemaa
