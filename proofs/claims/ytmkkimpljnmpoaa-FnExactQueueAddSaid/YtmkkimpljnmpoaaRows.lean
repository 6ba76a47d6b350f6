/-
  No cell of these rows narrows 'for every input' (looked for: loops, veiled, ifaces, maps, wideKeys, modest, calm, conditions, laid).
  DERIVED. THE GIVEN ROWS OF THIS SEAT. 10 by the template 'for every input the law returns true; each argument reads behind the call as it read before'; 0 by the template 'total and deterministic' (their statements: YtmkkimpljnmpoaaTotals.lean).
  GIVEN WITH THE SEED: the statements are not yours to turn. If you find one false, say at which input.
  Laid BY PROGRAM, IN A SANDBOX (cutbox-rows.mjs): the forced cells as the released guide's own fill.sh prints them over the translation 565b34ce3e957c36… (all of the seat's roots in one cut). By AI agents, Wed Nov 11 2026. No macro, syntax, notation, axiom, sorry.
-/
import Derived.Test.YtmkkimpljnmpoaaChecked
import GoSem.Claim
import GoSem.ClaimJoined
import GoSem.ClaimMapViews
import Derived.JoinedTies
import Derived.KernelRfl
namespace Go.Proofs.Ytmkkimpljnmpoaa
/- THE CELL 'sum', in the pinned program and in every row, IS THE sha256 OF THE DUMP (.gsa) THAT YtmkkimpljnmpoaaProg.lean LOADS. Nothing in Lean hashes anything: it is a label: what it is worth is what the hold of that sum in a sandbox is worth. -/
noncomputable def Try.pinned : Pinned := { name := "ytmkkimpljnmpoaa", sum := "565b34ce3e957c367acfd794b80843e476f3b52dd7508e582c4c043a7cb9a58a", checked := Try.checked }
namespace Rows
def none {H : Type} : Left H := { results := [], args := [] }

/-- 'laws.FnExactRequestOk': WHATEVER THE INPUT: true; the input reads as it did. -/
def fnExactRequestOkSpec : ChangeSpec := { name := "fnExactRequestOk", fn := fun _ => fun
  | [d1, d2] => { results := [.lit (.bool true)], args := [d1, d2] }
  | _ => none }
def fnExactRequestOkRow : OpenClaim := { program := "ytmkkimpljnmpoaa", sum := "565b34ce3e957c367acfd794b80843e476f3b52dd7508e582c4c043a7cb9a58a", func := "loop.example/g00977/laws.FnExactRequestOk", spec := "fnExactRequestOk", apart := false }
def FnExactRequestOkSaid : Prop := fnExactRequestOkRow.holds Try.pinned (OpenSpec.ofChange fnExactRequestOkSpec)

/-- ITS FALSE NEIGHBOUR: 'it returns false'. Refute it at one input. -/
def fnExactRequestOkWrong : ChangeSpec := { name := "fnExactRequestOk", fn := fun _ => fun
  | [d1, d2] => { results := [.lit (.bool false)], args := [d1, d2] }
  | _ => none }
def FnExactRequestOkWrongFalsely : Prop := fnExactRequestOkRow.holds Try.pinned (OpenSpec.ofChange fnExactRequestOkWrong)

/-- 'laws.FnExactSharesOk': WHATEVER THE INPUT: true; the input reads as it did. -/
def fnExactSharesOkSpec : ChangeSpec := { name := "fnExactSharesOk", fn := fun _ => fun
  | [d] => { results := [.lit (.bool true)], args := [d] }
  | _ => none }
def fnExactSharesOkRow : OpenClaim := { program := "ytmkkimpljnmpoaa", sum := "565b34ce3e957c367acfd794b80843e476f3b52dd7508e582c4c043a7cb9a58a", func := "loop.example/g00977/laws.FnExactSharesOk", spec := "fnExactSharesOk", apart := false }
def FnExactSharesOkSaid : Prop := fnExactSharesOkRow.holds Try.pinned (OpenSpec.ofChange fnExactSharesOkSpec)

/-- ITS FALSE NEIGHBOUR: 'it returns false'. Refute it at one input. -/
def fnExactSharesOkWrong : ChangeSpec := { name := "fnExactSharesOk", fn := fun _ => fun
  | [d] => { results := [.lit (.bool false)], args := [d] }
  | _ => none }
def FnExactSharesOkWrongFalsely : Prop := fnExactSharesOkRow.holds Try.pinned (OpenSpec.ofChange fnExactSharesOkWrong)

/-- 'laws.FnExactCountQueue': WHATEVER THE INPUT: true; the input reads as it did. -/
def fnExactCountQueueSpec : ChangeSpec := { name := "fnExactCountQueue", fn := fun _ => fun
  | [d1, d2] => { results := [.lit (.bool true)], args := [d1, d2] }
  | _ => none }
def fnExactCountQueueRow : OpenClaim := { program := "ytmkkimpljnmpoaa", sum := "565b34ce3e957c367acfd794b80843e476f3b52dd7508e582c4c043a7cb9a58a", func := "loop.example/g00977/laws.FnExactCountQueue", spec := "fnExactCountQueue", apart := false }
def FnExactCountQueueSaid : Prop := fnExactCountQueueRow.holds Try.pinned (OpenSpec.ofChange fnExactCountQueueSpec)

/-- ITS FALSE NEIGHBOUR: 'it returns false'. Refute it at one input. -/
def fnExactCountQueueWrong : ChangeSpec := { name := "fnExactCountQueue", fn := fun _ => fun
  | [d1, d2] => { results := [.lit (.bool false)], args := [d1, d2] }
  | _ => none }
def FnExactCountQueueWrongFalsely : Prop := fnExactCountQueueRow.holds Try.pinned (OpenSpec.ofChange fnExactCountQueueWrong)

/-- 'laws.FnExactBlocked': WHATEVER THE INPUT: true; the input reads as it did. -/
def fnExactBlockedSpec : ChangeSpec := { name := "fnExactBlocked", fn := fun _ => fun
  | [d1, d2] => { results := [.lit (.bool true)], args := [d1, d2] }
  | _ => none }
def fnExactBlockedRow : OpenClaim := { program := "ytmkkimpljnmpoaa", sum := "565b34ce3e957c367acfd794b80843e476f3b52dd7508e582c4c043a7cb9a58a", func := "loop.example/g00977/laws.FnExactBlocked", spec := "fnExactBlocked", apart := false }
def FnExactBlockedSaid : Prop := fnExactBlockedRow.holds Try.pinned (OpenSpec.ofChange fnExactBlockedSpec)

/-- ITS FALSE NEIGHBOUR: 'it returns false'. Refute it at one input. -/
def fnExactBlockedWrong : ChangeSpec := { name := "fnExactBlocked", fn := fun _ => fun
  | [d1, d2] => { results := [.lit (.bool false)], args := [d1, d2] }
  | _ => none }
def FnExactBlockedWrongFalsely : Prop := fnExactBlockedRow.holds Try.pinned (OpenSpec.ofChange fnExactBlockedWrong)

/-- 'laws.FnExactQueueOk': WHATEVER THE INPUT: true; the input reads as it did. -/
def fnExactQueueOkSpec : ChangeSpec := { name := "fnExactQueueOk", fn := fun _ => fun
  | [d1, d2] => { results := [.lit (.bool true)], args := [d1, d2] }
  | _ => none }
def fnExactQueueOkRow : OpenClaim := { program := "ytmkkimpljnmpoaa", sum := "565b34ce3e957c367acfd794b80843e476f3b52dd7508e582c4c043a7cb9a58a", func := "loop.example/g00977/laws.FnExactQueueOk", spec := "fnExactQueueOk", apart := false }
def FnExactQueueOkSaid : Prop := fnExactQueueOkRow.holds Try.pinned (OpenSpec.ofChange fnExactQueueOkSpec)

/-- ITS FALSE NEIGHBOUR: 'it returns false'. Refute it at one input. -/
def fnExactQueueOkWrong : ChangeSpec := { name := "fnExactQueueOk", fn := fun _ => fun
  | [d1, d2] => { results := [.lit (.bool false)], args := [d1, d2] }
  | _ => none }
def FnExactQueueOkWrongFalsely : Prop := fnExactQueueOkRow.holds Try.pinned (OpenSpec.ofChange fnExactQueueOkWrong)

/-- 'laws.FnExactQueueDrop': WHATEVER THE INPUT: true; the input reads as it did. -/
def fnExactQueueDropSpec : ChangeSpec := { name := "fnExactQueueDrop", fn := fun _ => fun
  | [d1, d2] => { results := [.lit (.bool true)], args := [d1, d2] }
  | _ => none }
def fnExactQueueDropRow : OpenClaim := { program := "ytmkkimpljnmpoaa", sum := "565b34ce3e957c367acfd794b80843e476f3b52dd7508e582c4c043a7cb9a58a", func := "loop.example/g00977/laws.FnExactQueueDrop", spec := "fnExactQueueDrop", apart := false }
def FnExactQueueDropSaid : Prop := fnExactQueueDropRow.holds Try.pinned (OpenSpec.ofChange fnExactQueueDropSpec)

/-- ITS FALSE NEIGHBOUR: 'it returns false'. Refute it at one input. -/
def fnExactQueueDropWrong : ChangeSpec := { name := "fnExactQueueDrop", fn := fun _ => fun
  | [d1, d2] => { results := [.lit (.bool false)], args := [d1, d2] }
  | _ => none }
def FnExactQueueDropWrongFalsely : Prop := fnExactQueueDropRow.holds Try.pinned (OpenSpec.ofChange fnExactQueueDropWrong)

/-- 'laws.FnExactQueueAdd': WHATEVER THE INPUT: true; the input reads as it did. -/
def fnExactQueueAddSpec : ChangeSpec := { name := "fnExactQueueAdd", fn := fun _ => fun
  | [d1, d2, d3] => { results := [.lit (.bool true)], args := [d1, d2, d3] }
  | _ => none }
def fnExactQueueAddRow : OpenClaim := { program := "ytmkkimpljnmpoaa", sum := "565b34ce3e957c367acfd794b80843e476f3b52dd7508e582c4c043a7cb9a58a", func := "loop.example/g00977/laws.FnExactQueueAdd", spec := "fnExactQueueAdd", apart := false }
def FnExactQueueAddSaid : Prop := fnExactQueueAddRow.holds Try.pinned (OpenSpec.ofChange fnExactQueueAddSpec)

/-- ITS FALSE NEIGHBOUR: 'it returns false'. Refute it at one input. -/
def fnExactQueueAddWrong : ChangeSpec := { name := "fnExactQueueAdd", fn := fun _ => fun
  | [d1, d2, d3] => { results := [.lit (.bool false)], args := [d1, d2, d3] }
  | _ => none }
def FnExactQueueAddWrongFalsely : Prop := fnExactQueueAddRow.holds Try.pinned (OpenSpec.ofChange fnExactQueueAddWrong)

/-- 'laws.FnShares': WHATEVER THE INPUT: true; the input reads as it did. -/
def fnSharesSpec : ChangeSpec := { name := "fnShares", fn := fun _ => fun
  | [d] => { results := [.lit (.bool true)], args := [d] }
  | _ => none }
def fnSharesRow : OpenClaim := { program := "ytmkkimpljnmpoaa", sum := "565b34ce3e957c367acfd794b80843e476f3b52dd7508e582c4c043a7cb9a58a", func := "loop.example/g00977/laws.FnShares", spec := "fnShares", apart := false }
def FnSharesSaid : Prop := fnSharesRow.holds Try.pinned (OpenSpec.ofChange fnSharesSpec)

/-- ITS FALSE NEIGHBOUR: 'it returns false'. Refute it at one input. -/
def fnSharesWrong : ChangeSpec := { name := "fnShares", fn := fun _ => fun
  | [d] => { results := [.lit (.bool false)], args := [d] }
  | _ => none }
def FnSharesWrongFalsely : Prop := fnSharesRow.holds Try.pinned (OpenSpec.ofChange fnSharesWrong)

/-- 'laws.FnBlocked': WHATEVER THE INPUT: true; the input reads as it did. -/
def fnBlockedSpec : ChangeSpec := { name := "fnBlocked", fn := fun _ => fun
  | [d] => { results := [.lit (.bool true)], args := [d] }
  | _ => none }
def fnBlockedRow : OpenClaim := { program := "ytmkkimpljnmpoaa", sum := "565b34ce3e957c367acfd794b80843e476f3b52dd7508e582c4c043a7cb9a58a", func := "loop.example/g00977/laws.FnBlocked", spec := "fnBlocked", apart := false }
def FnBlockedSaid : Prop := fnBlockedRow.holds Try.pinned (OpenSpec.ofChange fnBlockedSpec)

/-- ITS FALSE NEIGHBOUR: 'it returns false'. Refute it at one input. -/
def fnBlockedWrong : ChangeSpec := { name := "fnBlocked", fn := fun _ => fun
  | [d] => { results := [.lit (.bool false)], args := [d] }
  | _ => none }
def FnBlockedWrongFalsely : Prop := fnBlockedRow.holds Try.pinned (OpenSpec.ofChange fnBlockedWrong)

/-- 'laws.FnQueued': WHATEVER THE INPUT: true; the input reads as it did. -/
def fnQueuedSpec : ChangeSpec := { name := "fnQueued", fn := fun _ => fun
  | [d] => { results := [.lit (.bool true)], args := [d] }
  | _ => none }
def fnQueuedRow : OpenClaim := { program := "ytmkkimpljnmpoaa", sum := "565b34ce3e957c367acfd794b80843e476f3b52dd7508e582c4c043a7cb9a58a", func := "loop.example/g00977/laws.FnQueued", spec := "fnQueued", apart := false }
def FnQueuedSaid : Prop := fnQueuedRow.holds Try.pinned (OpenSpec.ofChange fnQueuedSpec)

/-- ITS FALSE NEIGHBOUR: 'it returns false'. Refute it at one input. -/
def fnQueuedWrong : ChangeSpec := { name := "fnQueued", fn := fun _ => fun
  | [d] => { results := [.lit (.bool false)], args := [d] }
  | _ => none }
def FnQueuedWrongFalsely : Prop := fnQueuedRow.holds Try.pinned (OpenSpec.ofChange fnQueuedWrong)

/- THE SECOND FORM. 'bulk': how many values and letters a reading holds, each counted each time it is reached (what is shared counts as often as it is met; a slice's spare places count too). A statement '..UptoSaid' is the law's where the arguments, and the package variables that the reading takes, are together of bulk at most 1048576: NARROWER than '..Said'. Prove '..Said' where nothing that the law and all that it calls make is longer than what came in: it says more and counts as full. Else prove '..UptoSaid'. A law counts once. -/
mutual
def uptoBulk {H : Type} : DataW H → Nat
  | .lit (.string bytes) => bytes.length + 1
  | .lit _ => 1
  | .nil => 1
  | .ptr d => uptoBulk d + 1
  | .slice elems spare => uptoBulkAll elems + uptoBulkAll spare + 1
  | .agg parts => uptoBulkAll parts + 1
  | .iface _ d => uptoBulk d + 1
  | .map entries => uptoBulkEntries entries + 1
  | .held _ => 1
def uptoBulkAll {H : Type} : List (DataW H) → Nat
  | [] => 0
  | d :: r => uptoBulk d + uptoBulkAll r
def uptoBulkEntries {H : Type} : List (Lit × DataW H) → Nat
  | [] => 0
  | x :: r => uptoBulkEntry x + uptoBulkEntries r
def uptoBulkEntry {H : Type} : Lit × DataW H → Nat
  | (.string bytes, d) => bytes.length + uptoBulk d + 1
  | (_, d) => uptoBulk d + 1
 end
def uptoSmall : (H : Type) → List (DataW H) → Bool := fun _ ds => decide (uptoBulkAll ds ≤ 1048576)
def OpenSpec.upto (s : _root_.Go.ChangeSpec) : _root_.Go.OpenSpec := { _root_.Go.OpenSpec.ofChange s with cond := some uptoSmall }

/-- 'laws.FnExactRequestOk', WHERE WHAT IT READS IS OF BULK AT MOST 1048576: true; the input reads as it did. -/
def fnExactRequestOkUptoRow : OpenClaim := { program := "ytmkkimpljnmpoaa", sum := "565b34ce3e957c367acfd794b80843e476f3b52dd7508e582c4c043a7cb9a58a", func := "loop.example/g00977/laws.FnExactRequestOk", spec := "fnExactRequestOk", apart := false, narrowed := true }
def FnExactRequestOkUptoSaid : Prop := fnExactRequestOkUptoRow.holds Try.pinned (OpenSpec.upto fnExactRequestOkSpec)

/-- 'laws.FnExactSharesOk', WHERE WHAT IT READS IS OF BULK AT MOST 1048576: true; the input reads as it did. -/
def fnExactSharesOkUptoRow : OpenClaim := { program := "ytmkkimpljnmpoaa", sum := "565b34ce3e957c367acfd794b80843e476f3b52dd7508e582c4c043a7cb9a58a", func := "loop.example/g00977/laws.FnExactSharesOk", spec := "fnExactSharesOk", apart := false, narrowed := true }
def FnExactSharesOkUptoSaid : Prop := fnExactSharesOkUptoRow.holds Try.pinned (OpenSpec.upto fnExactSharesOkSpec)

/-- 'laws.FnExactCountQueue', WHERE WHAT IT READS IS OF BULK AT MOST 1048576: true; the input reads as it did. -/
def fnExactCountQueueUptoRow : OpenClaim := { program := "ytmkkimpljnmpoaa", sum := "565b34ce3e957c367acfd794b80843e476f3b52dd7508e582c4c043a7cb9a58a", func := "loop.example/g00977/laws.FnExactCountQueue", spec := "fnExactCountQueue", apart := false, narrowed := true }
def FnExactCountQueueUptoSaid : Prop := fnExactCountQueueUptoRow.holds Try.pinned (OpenSpec.upto fnExactCountQueueSpec)

/-- 'laws.FnExactBlocked', WHERE WHAT IT READS IS OF BULK AT MOST 1048576: true; the input reads as it did. -/
def fnExactBlockedUptoRow : OpenClaim := { program := "ytmkkimpljnmpoaa", sum := "565b34ce3e957c367acfd794b80843e476f3b52dd7508e582c4c043a7cb9a58a", func := "loop.example/g00977/laws.FnExactBlocked", spec := "fnExactBlocked", apart := false, narrowed := true }
def FnExactBlockedUptoSaid : Prop := fnExactBlockedUptoRow.holds Try.pinned (OpenSpec.upto fnExactBlockedSpec)

/-- 'laws.FnExactQueueOk', WHERE WHAT IT READS IS OF BULK AT MOST 1048576: true; the input reads as it did. -/
def fnExactQueueOkUptoRow : OpenClaim := { program := "ytmkkimpljnmpoaa", sum := "565b34ce3e957c367acfd794b80843e476f3b52dd7508e582c4c043a7cb9a58a", func := "loop.example/g00977/laws.FnExactQueueOk", spec := "fnExactQueueOk", apart := false, narrowed := true }
def FnExactQueueOkUptoSaid : Prop := fnExactQueueOkUptoRow.holds Try.pinned (OpenSpec.upto fnExactQueueOkSpec)

/-- 'laws.FnExactQueueDrop', WHERE WHAT IT READS IS OF BULK AT MOST 1048576: true; the input reads as it did. -/
def fnExactQueueDropUptoRow : OpenClaim := { program := "ytmkkimpljnmpoaa", sum := "565b34ce3e957c367acfd794b80843e476f3b52dd7508e582c4c043a7cb9a58a", func := "loop.example/g00977/laws.FnExactQueueDrop", spec := "fnExactQueueDrop", apart := false, narrowed := true }
def FnExactQueueDropUptoSaid : Prop := fnExactQueueDropUptoRow.holds Try.pinned (OpenSpec.upto fnExactQueueDropSpec)

/-- 'laws.FnExactQueueAdd', WHERE WHAT IT READS IS OF BULK AT MOST 1048576: true; the input reads as it did. -/
def fnExactQueueAddUptoRow : OpenClaim := { program := "ytmkkimpljnmpoaa", sum := "565b34ce3e957c367acfd794b80843e476f3b52dd7508e582c4c043a7cb9a58a", func := "loop.example/g00977/laws.FnExactQueueAdd", spec := "fnExactQueueAdd", apart := false, narrowed := true }
def FnExactQueueAddUptoSaid : Prop := fnExactQueueAddUptoRow.holds Try.pinned (OpenSpec.upto fnExactQueueAddSpec)

/-- 'laws.FnShares', WHERE WHAT IT READS IS OF BULK AT MOST 1048576: true; the input reads as it did. -/
def fnSharesUptoRow : OpenClaim := { program := "ytmkkimpljnmpoaa", sum := "565b34ce3e957c367acfd794b80843e476f3b52dd7508e582c4c043a7cb9a58a", func := "loop.example/g00977/laws.FnShares", spec := "fnShares", apart := false, narrowed := true }
def FnSharesUptoSaid : Prop := fnSharesUptoRow.holds Try.pinned (OpenSpec.upto fnSharesSpec)

/-- 'laws.FnBlocked', WHERE WHAT IT READS IS OF BULK AT MOST 1048576: true; the input reads as it did. -/
def fnBlockedUptoRow : OpenClaim := { program := "ytmkkimpljnmpoaa", sum := "565b34ce3e957c367acfd794b80843e476f3b52dd7508e582c4c043a7cb9a58a", func := "loop.example/g00977/laws.FnBlocked", spec := "fnBlocked", apart := false, narrowed := true }
def FnBlockedUptoSaid : Prop := fnBlockedUptoRow.holds Try.pinned (OpenSpec.upto fnBlockedSpec)

/-- 'laws.FnQueued', WHERE WHAT IT READS IS OF BULK AT MOST 1048576: true; the input reads as it did. -/
def fnQueuedUptoRow : OpenClaim := { program := "ytmkkimpljnmpoaa", sum := "565b34ce3e957c367acfd794b80843e476f3b52dd7508e582c4c043a7cb9a58a", func := "loop.example/g00977/laws.FnQueued", spec := "fnQueued", apart := false, narrowed := true }
def FnQueuedUptoSaid : Prop := fnQueuedUptoRow.holds Try.pinned (OpenSpec.upto fnQueuedSpec)

end Rows
end Go.Proofs.Ytmkkimpljnmpoaa
