/-
  No cell of these rows narrows 'for every input' (looked for: loops, veiled, ifaces, maps, wideKeys, modest, calm, conditions, laid).
  DERIVED. THE GIVEN ROWS OF THIS SEAT. 5 by the template 'for every input the law returns true; each argument reads behind the call as it read before'; 0 by the template 'total and deterministic' (their statements: YtcgbgiceahcagaaTotals.lean).
  GIVEN WITH THE SEED: the statements are not yours to turn. If you find one false, say at which input.
  Laid BY PROGRAM, IN A SANDBOX (cutbox-rows.mjs): the forced cells as the released guide's own fill.sh prints them over the translation 579142ce452cef33… (all of the seat's roots in one cut). By AI agents, Wed Nov 11 2026. No macro, syntax, notation, axiom, sorry.
-/
import Derived.Test.YtcgbgiceahcagaaChecked
import GoSem.Claim
import GoSem.ClaimJoined
import GoSem.ClaimMapViews
import Derived.JoinedTies
import Derived.KernelRfl
namespace Go.Proofs.Ytcgbgiceahcagaa
/- THE CELL 'sum', in the pinned program and in every row, IS THE sha256 OF THE DUMP (.gsa) THAT YtcgbgiceahcagaaProg.lean LOADS. Nothing in Lean hashes anything: it is a label: what it is worth is what the hold of that sum in a sandbox is worth. -/
noncomputable def Try.pinned : Pinned := { name := "ytcgbgiceahcagaa", sum := "579142ce452cef337b9b1724ab627786c178aacc20dab6346ef1ca4f0840ca3c", checked := Try.checked }
namespace Rows
def none {H : Type} : Left H := { results := [], args := [] }

/-- 'laws.FnExactIsHit': WHATEVER THE INPUT: true; the input reads as it did. -/
def fnExactIsHitSpec : ChangeSpec := { name := "fnExactIsHit", fn := fun _ => fun
  | [d1, d2] => { results := [.lit (.bool true)], args := [d1, d2] }
  | _ => none }
def fnExactIsHitRow : OpenClaim := { program := "ytcgbgiceahcagaa", sum := "579142ce452cef337b9b1724ab627786c178aacc20dab6346ef1ca4f0840ca3c", func := "loop.example/g00977/laws.FnExactIsHit", spec := "fnExactIsHit", apart := false }
def FnExactIsHitSaid : Prop := fnExactIsHitRow.holds Try.pinned (OpenSpec.ofChange fnExactIsHitSpec)

/-- ITS FALSE NEIGHBOUR: 'it returns false'. Refute it at one input. -/
def fnExactIsHitWrong : ChangeSpec := { name := "fnExactIsHit", fn := fun _ => fun
  | [d1, d2] => { results := [.lit (.bool false)], args := [d1, d2] }
  | _ => none }
def FnExactIsHitWrongFalsely : Prop := fnExactIsHitRow.holds Try.pinned (OpenSpec.ofChange fnExactIsHitWrong)

/-- 'laws.FnExactNeedOf': WHATEVER THE INPUT: true; the input reads as it did. -/
def fnExactNeedOfSpec : ChangeSpec := { name := "fnExactNeedOf", fn := fun _ => fun
  | [d1, d2, d3] => { results := [.lit (.bool true)], args := [d1, d2, d3] }
  | _ => none }
def fnExactNeedOfRow : OpenClaim := { program := "ytcgbgiceahcagaa", sum := "579142ce452cef337b9b1724ab627786c178aacc20dab6346ef1ca4f0840ca3c", func := "loop.example/g00977/laws.FnExactNeedOf", spec := "fnExactNeedOf", apart := false }
def FnExactNeedOfSaid : Prop := fnExactNeedOfRow.holds Try.pinned (OpenSpec.ofChange fnExactNeedOfSpec)

/-- ITS FALSE NEIGHBOUR: 'it returns false'. Refute it at one input. -/
def fnExactNeedOfWrong : ChangeSpec := { name := "fnExactNeedOf", fn := fun _ => fun
  | [d1, d2, d3] => { results := [.lit (.bool false)], args := [d1, d2, d3] }
  | _ => none }
def FnExactNeedOfWrongFalsely : Prop := fnExactNeedOfRow.holds Try.pinned (OpenSpec.ofChange fnExactNeedOfWrong)

/-- 'laws.FnExactCloseBank': WHATEVER THE INPUT: true; the input reads as it did. -/
def fnExactCloseBankSpec : ChangeSpec := { name := "fnExactCloseBank", fn := fun _ => fun
  | [d1, d2, d3] => { results := [.lit (.bool true)], args := [d1, d2, d3] }
  | _ => none }
def fnExactCloseBankRow : OpenClaim := { program := "ytcgbgiceahcagaa", sum := "579142ce452cef337b9b1724ab627786c178aacc20dab6346ef1ca4f0840ca3c", func := "loop.example/g00977/laws.FnExactCloseBank", spec := "fnExactCloseBank", apart := false }
def FnExactCloseBankSaid : Prop := fnExactCloseBankRow.holds Try.pinned (OpenSpec.ofChange fnExactCloseBankSpec)

/-- ITS FALSE NEIGHBOUR: 'it returns false'. Refute it at one input. -/
def fnExactCloseBankWrong : ChangeSpec := { name := "fnExactCloseBank", fn := fun _ => fun
  | [d1, d2, d3] => { results := [.lit (.bool false)], args := [d1, d2, d3] }
  | _ => none }
def FnExactCloseBankWrongFalsely : Prop := fnExactCloseBankRow.holds Try.pinned (OpenSpec.ofChange fnExactCloseBankWrong)

/-- 'laws.FnCloses': WHATEVER THE INPUT: true; the input reads as it did. -/
def fnClosesSpec : ChangeSpec := { name := "fnCloses", fn := fun _ => fun
  | [d] => { results := [.lit (.bool true)], args := [d] }
  | _ => none }
def fnClosesRow : OpenClaim := { program := "ytcgbgiceahcagaa", sum := "579142ce452cef337b9b1724ab627786c178aacc20dab6346ef1ca4f0840ca3c", func := "loop.example/g00977/laws.FnCloses", spec := "fnCloses", apart := false }
def FnClosesSaid : Prop := fnClosesRow.holds Try.pinned (OpenSpec.ofChange fnClosesSpec)

/-- ITS FALSE NEIGHBOUR: 'it returns false'. Refute it at one input. -/
def fnClosesWrong : ChangeSpec := { name := "fnCloses", fn := fun _ => fun
  | [d] => { results := [.lit (.bool false)], args := [d] }
  | _ => none }
def FnClosesWrongFalsely : Prop := fnClosesRow.holds Try.pinned (OpenSpec.ofChange fnClosesWrong)

/-- 'laws.FnNeeds': WHATEVER THE INPUT: true; the input reads as it did. -/
def fnNeedsSpec : ChangeSpec := { name := "fnNeeds", fn := fun _ => fun
  | [d] => { results := [.lit (.bool true)], args := [d] }
  | _ => none }
def fnNeedsRow : OpenClaim := { program := "ytcgbgiceahcagaa", sum := "579142ce452cef337b9b1724ab627786c178aacc20dab6346ef1ca4f0840ca3c", func := "loop.example/g00977/laws.FnNeeds", spec := "fnNeeds", apart := false }
def FnNeedsSaid : Prop := fnNeedsRow.holds Try.pinned (OpenSpec.ofChange fnNeedsSpec)

/-- ITS FALSE NEIGHBOUR: 'it returns false'. Refute it at one input. -/
def fnNeedsWrong : ChangeSpec := { name := "fnNeeds", fn := fun _ => fun
  | [d] => { results := [.lit (.bool false)], args := [d] }
  | _ => none }
def FnNeedsWrongFalsely : Prop := fnNeedsRow.holds Try.pinned (OpenSpec.ofChange fnNeedsWrong)

/- THE SECOND FORM. 'bulk': how many values and letters a reading holds, each counted each time it is reached (what is shared counts as often as it is met; a slice's spare places count too). A statement '..UptoSaid' is the law's where the arguments, and the package variables that the reading takes, are together of bulk at most 1048576: NARROWER than '..Said'. Prove '..Said' where nothing that the law and all that it calls make is longer than what came in: it says more and counts as full. Else prove '..UptoSaid'. A law counts once. -/
mutual
def uptoBulk {H : Type} : DataW H → Nat
  | .lit (.string bytes) => bytes.length + 1
  | .lit _ => 1
  | .nil => 1
  | .ptr d => uptoBulk d + 1
  | .slice elems spare => uptoBulkAll elems + uptoBulkAll spare + 1
  | .agg parts => uptoBulkAll parts + 1
  | .iface _ d => uptoBulk d + 1
  | .map entries => uptoBulkEntries entries + 1
  | .held _ => 1
def uptoBulkAll {H : Type} : List (DataW H) → Nat
  | [] => 0
  | d :: r => uptoBulk d + uptoBulkAll r
def uptoBulkEntries {H : Type} : List (Lit × DataW H) → Nat
  | [] => 0
  | x :: r => uptoBulkEntry x + uptoBulkEntries r
def uptoBulkEntry {H : Type} : Lit × DataW H → Nat
  | (.string bytes, d) => bytes.length + uptoBulk d + 1
  | (_, d) => uptoBulk d + 1
 end
def uptoSmall : (H : Type) → List (DataW H) → Bool := fun _ ds => decide (uptoBulkAll ds ≤ 1048576)
def OpenSpec.upto (s : _root_.Go.ChangeSpec) : _root_.Go.OpenSpec := { _root_.Go.OpenSpec.ofChange s with cond := some uptoSmall }

/-- 'laws.FnExactIsHit', WHERE WHAT IT READS IS OF BULK AT MOST 1048576: true; the input reads as it did. -/
def fnExactIsHitUptoRow : OpenClaim := { program := "ytcgbgiceahcagaa", sum := "579142ce452cef337b9b1724ab627786c178aacc20dab6346ef1ca4f0840ca3c", func := "loop.example/g00977/laws.FnExactIsHit", spec := "fnExactIsHit", apart := false, narrowed := true }
def FnExactIsHitUptoSaid : Prop := fnExactIsHitUptoRow.holds Try.pinned (OpenSpec.upto fnExactIsHitSpec)

/-- 'laws.FnExactNeedOf', WHERE WHAT IT READS IS OF BULK AT MOST 1048576: true; the input reads as it did. -/
def fnExactNeedOfUptoRow : OpenClaim := { program := "ytcgbgiceahcagaa", sum := "579142ce452cef337b9b1724ab627786c178aacc20dab6346ef1ca4f0840ca3c", func := "loop.example/g00977/laws.FnExactNeedOf", spec := "fnExactNeedOf", apart := false, narrowed := true }
def FnExactNeedOfUptoSaid : Prop := fnExactNeedOfUptoRow.holds Try.pinned (OpenSpec.upto fnExactNeedOfSpec)

/-- 'laws.FnExactCloseBank', WHERE WHAT IT READS IS OF BULK AT MOST 1048576: true; the input reads as it did. -/
def fnExactCloseBankUptoRow : OpenClaim := { program := "ytcgbgiceahcagaa", sum := "579142ce452cef337b9b1724ab627786c178aacc20dab6346ef1ca4f0840ca3c", func := "loop.example/g00977/laws.FnExactCloseBank", spec := "fnExactCloseBank", apart := false, narrowed := true }
def FnExactCloseBankUptoSaid : Prop := fnExactCloseBankUptoRow.holds Try.pinned (OpenSpec.upto fnExactCloseBankSpec)

/-- 'laws.FnCloses', WHERE WHAT IT READS IS OF BULK AT MOST 1048576: true; the input reads as it did. -/
def fnClosesUptoRow : OpenClaim := { program := "ytcgbgiceahcagaa", sum := "579142ce452cef337b9b1724ab627786c178aacc20dab6346ef1ca4f0840ca3c", func := "loop.example/g00977/laws.FnCloses", spec := "fnCloses", apart := false, narrowed := true }
def FnClosesUptoSaid : Prop := fnClosesUptoRow.holds Try.pinned (OpenSpec.upto fnClosesSpec)

/-- 'laws.FnNeeds', WHERE WHAT IT READS IS OF BULK AT MOST 1048576: true; the input reads as it did. -/
def fnNeedsUptoRow : OpenClaim := { program := "ytcgbgiceahcagaa", sum := "579142ce452cef337b9b1724ab627786c178aacc20dab6346ef1ca4f0840ca3c", func := "loop.example/g00977/laws.FnNeeds", spec := "fnNeeds", apart := false, narrowed := true }
def FnNeedsUptoSaid : Prop := fnNeedsUptoRow.holds Try.pinned (OpenSpec.upto fnNeedsSpec)

end Rows
end Go.Proofs.Ytcgbgiceahcagaa
