/-
  How arguments of the type Addr are opened.
-/
import Derived.Test.YtbolpanfgbhbnaaOpen2
import Derived.Test.YtbolpanfgbhbnaaAdr
import Derived.Test.YtbolpanfgbhbnaaChecked
namespace Go.Proofs.Ytbolpanfgbhbnaa
open Go.ChangeShapes Go.WideShapes Go.ChangeAt Go.RowKit Go.Joins Go.Deep
set_option linter.unusedSimpArgs false
set_option linter.unusedVariables false

section
variable {H : Type} {enc : TypeId × Value → H} {w : World} {base : Nat} {spare : Nat → Bool} {held : Bool}
def Adr.wf (r : Adr) : Prop := I64 r.bank ∧ I64 r.row ∧ I64 r.col
theorem Adr.dec {n : Nat} {cs : List Value} {y : DataW H × List MemPlace} (h : DataW.trod enc Try.prog w base spare held n 46 cs = some y) : ∃ r : Adr, cs = r.cs ∧ r.wf := by
  obtain ⟨hl, k, hf⟩ := fields_dec Try.underlying46 (by kernel_rfl) (by kernel_rfl) h
  obtain ⟨v0, z0, e0, t0⟩ := hf 0 _ rfl
  obtain ⟨a0, q0, -, w0⟩ := DataW.trod_int Try.underlying3 t0
  simp only [List.cons.injEq, and_true] at q0
  subst q0
  obtain ⟨v1, z1, e1, t1⟩ := hf 1 _ rfl
  obtain ⟨a1, q1, -, w1⟩ := DataW.trod_int Try.underlying3 t1
  simp only [List.cons.injEq, and_true] at q1
  subst q1
  obtain ⟨v2, z2, e2, t2⟩ := hf 2 _ rfl
  obtain ⟨a2, q2, -, w2⟩ := DataW.trod_int Try.underlying3 t2
  simp only [List.cons.injEq, and_true] at q2
  subst q2
  refine ⟨⟨a0, a1, a2⟩, ?_, ⟨I64.of_wf w0, I64.of_wf w1, I64.of_wf w2⟩⟩
  match cs, hl with
  | [c0, c1, c2], _ =>
    obtain rfl : c0 = _ := by simpa using e0
    obtain rfl : c1 = _ := by simpa using e1
    obtain rfl : c2 = _ := by simpa using e2
    rfl
end
end Go.Proofs.Ytbolpanfgbhbnaa
