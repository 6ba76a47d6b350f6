/-
  The contracts of sparing with their arguments in the order of the laws.
-/
import Derived.Test.YtachkiodmaoemaaSpD
namespace Go.Proofs.Ytachkiodmaoemaa
open Go.RowKit
set_option linter.unusedSimpArgs false
set_option linter.unusedVariables false

theorem iSpareOk_x (gg gb gr gc : Int) (A : Option Addr) (n c : Nat) (zs : List Int) (sp : Int) (w : World) (hA : Ints w A n zs) (hn : n ≤ 1048576) (hc : n ≤ c ∧ c ≤ maxLen) :
    Calls Try.prog 21 #[.agg #[.int .i64 gg, .int .i64 gb, .int .i64 gr, .int .i64 gc], .agg #[.int .i64 sp, .slice A n c]] w fun e w' => e = .returned (.bool (spareOk gg gb gr gc sp zs)) ∧ Below w.heap.size w w' :=
  iSpareOk_c gg gb gr gc sp A n c zs  w hA hn hc
theorem sSpareOk_x (gg gb gr gc : Int) (A : Option Addr) (n c : Nat) (zs : List Int) (sp : Int) (w : World) (hA : Ints w A n zs) (hn : n ≤ 1048576) (hc : n ≤ c ∧ c ≤ maxLen) :
    Calls Try.prog 19 #[.agg #[.int .i64 gg, .int .i64 gb, .int .i64 gr, .int .i64 gc], .agg #[.int .i64 sp, .slice A n c]] w fun e w' => e = .returned (.bool (spareOk gg gb gr gc sp zs)) ∧ Below w.heap.size w w' :=
  sSpareOk_c gg gb gr gc sp A n c zs  w hA hn hc
theorem iRegularGeometry_x (gg gb gr gc : Int) (A : Option Addr) (n c : Nat) (zs : List Int) (sp : Int) (w : World) (hA : Ints w A n zs) (hn : n ≤ 1048576) (hc : n ≤ c ∧ c ≤ maxLen) :
    Calls Try.prog 23 #[.agg #[.int .i64 gg, .int .i64 gb, .int .i64 gr, .int .i64 gc], .agg #[.int .i64 sp, .slice A n c]] w fun e w' => e = .returned (.agg #[.int .i64 (rgG gg gb gr gc sp zs), .int .i64 (rgB gg gb gr gc sp zs), .int .i64 (rgR gg gb gr gc sp zs), .int .i64 (rgC gg gb gr gc sp zs)]) ∧ Below w.heap.size w w' :=
  iRegularGeometry_c gg gb gr gc sp A n c zs  w hA hn hc
theorem sRegularGeometry_x (gg gb gr gc : Int) (A : Option Addr) (n c : Nat) (zs : List Int) (sp : Int) (w : World) (hA : Ints w A n zs) (hn : n ≤ 1048576) (hc : n ≤ c ∧ c ≤ maxLen) :
    Calls Try.prog 22 #[.agg #[.int .i64 gg, .int .i64 gb, .int .i64 gr, .int .i64 gc], .agg #[.int .i64 sp, .slice A n c]] w fun e w' => e = .returned (.agg #[.int .i64 (rgG gg gb gr gc sp zs), .int .i64 (rgB gg gb gr gc sp zs), .int .i64 (rgR gg gb gr gc sp zs), .int .i64 (rgC gg gb gr gc sp zs)]) ∧ Below w.heap.size w w' :=
  sRegularGeometry_c gg gb gr gc sp A n c zs  w hA hn hc
theorem iStoredRow_x (gg gb gr gc : Int) (A : Option Addr) (n c : Nat) (zs : List Int) (sp : Int) (bank row : Int) (w : World) (hA : Ints w A n zs) (hn : n ≤ 1048576) (hc : n ≤ c ∧ c ≤ maxLen) :
    Calls Try.prog 26 #[.agg #[.int .i64 gg, .int .i64 gb, .int .i64 gr, .int .i64 gc], .agg #[.int .i64 sp, .slice A n c], .int .i64 bank, .int .i64 row] w fun e w' => e = .returned (.int .i64 (spStored gg gb gr gc sp zs bank row)) ∧ Below w.heap.size w w' :=
  iStoredRow_c gg gb gr gc sp A n c zs bank row w hA hn hc
theorem sStoredRow_x (gg gb gr gc : Int) (A : Option Addr) (n c : Nat) (zs : List Int) (sp : Int) (bank row : Int) (w : World) (hA : Ints w A n zs) (hn : n ≤ 1048576) (hc : n ≤ c ∧ c ≤ maxLen) :
    Calls Try.prog 25 #[.agg #[.int .i64 gg, .int .i64 gb, .int .i64 gr, .int .i64 gc], .agg #[.int .i64 sp, .slice A n c], .int .i64 bank, .int .i64 row] w fun e w' => e = .returned (.int .i64 (spStored gg gb gr gc sp zs bank row)) ∧ Below w.heap.size w w' :=
  sStoredRow_c gg gb gr gc sp A n c zs bank row w hA hn hc
theorem iRegularRow_x (gg gb gr gc : Int) (A : Option Addr) (n c : Nat) (zs : List Int) (sp : Int) (bank row : Int) (w : World) (hA : Ints w A n zs) (hn : n ≤ 1048576) (hc : n ≤ c ∧ c ≤ maxLen) :
    Calls Try.prog 28 #[.agg #[.int .i64 gg, .int .i64 gb, .int .i64 gr, .int .i64 gc], .agg #[.int .i64 sp, .slice A n c], .int .i64 bank, .int .i64 row] w fun e w' => e = .returned (.int .i64 (spRegular gg gb gr gc sp zs bank row)) ∧ Below w.heap.size w w' :=
  iRegularRow_c gg gb gr gc sp A n c zs bank row w hA hn hc
theorem sRegularRow_x (gg gb gr gc : Int) (A : Option Addr) (n c : Nat) (zs : List Int) (sp : Int) (bank row : Int) (w : World) (hA : Ints w A n zs) (hn : n ≤ 1048576) (hc : n ≤ c ∧ c ≤ maxLen) :
    Calls Try.prog 27 #[.agg #[.int .i64 gg, .int .i64 gb, .int .i64 gr, .int .i64 gc], .agg #[.int .i64 sp, .slice A n c], .int .i64 bank, .int .i64 row] w fun e w' => e = .returned (.int .i64 (spRegular gg gb gr gc sp zs bank row)) ∧ Below w.heap.size w w' :=
  sRegularRow_c gg gb gr gc sp A n c zs bank row w hA hn hc
theorem iSparesLeft_x (gg gb gr gc : Int) (A : Option Addr) (n c : Nat) (zs : List Int) (sp : Int) (bank : Int) (w : World) (hA : Ints w A n zs) (hn : n ≤ 1048576) (hc : n ≤ c ∧ c ≤ maxLen) :
    Calls Try.prog 30 #[.agg #[.int .i64 gg, .int .i64 gb, .int .i64 gr, .int .i64 gc], .agg #[.int .i64 sp, .slice A n c], .int .i64 bank] w fun e w' => e = .returned (.int .i64 (spLeft gg gb gr gc sp zs bank)) ∧ Below w.heap.size w w' :=
  iSparesLeft_c gg gb gr gc sp A n c zs bank w hA hn hc
theorem sSparesLeft_x (gg gb gr gc : Int) (A : Option Addr) (n c : Nat) (zs : List Int) (sp : Int) (bank : Int) (w : World) (hA : Ints w A n zs) (hn : n ≤ 1048576) (hc : n ≤ c ∧ c ≤ maxLen) :
    Calls Try.prog 29 #[.agg #[.int .i64 gg, .int .i64 gb, .int .i64 gr, .int .i64 gc], .agg #[.int .i64 sp, .slice A n c], .int .i64 bank] w fun e w' => e = .returned (.int .i64 (spLeft gg gb gr gc sp zs bank)) ∧ Below w.heap.size w w' :=
  sSparesLeft_c gg gb gr gc sp A n c zs bank w hA hn hc
theorem spMap_len (gg gb gr gc s : Int) : (spMap gg gb gr gc s).length ≤ 128 := by
  unfold spMap
  split
  · rename_i h
    obtain ⟨nb, n, -, -, e3, e4, -, n2, -, n4, -⟩ := spOk_nums h
    rw [freshTo_len, e3, e4]; exact le_mul8 n2 n4
  · simp
end Go.Proofs.Ytachkiodmaoemaa
