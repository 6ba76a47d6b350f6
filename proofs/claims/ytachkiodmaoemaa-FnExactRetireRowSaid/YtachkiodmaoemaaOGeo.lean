/-
  How arguments of the type Geometry are opened.
-/
import Derived.Test.YtachkiodmaoemaaOpen2
import Derived.Test.YtachkiodmaoemaaGeo
import Derived.Test.YtachkiodmaoemaaChecked
namespace Go.Proofs.Ytachkiodmaoemaa
open Go.ChangeShapes Go.WideShapes Go.ChangeAt Go.RowKit Go.Joins Go.Deep
set_option linter.unusedSimpArgs false
set_option linter.unusedVariables false

section
variable {H : Type} {enc : TypeId × Value → H} {w : World} {base : Nat} {spare : Nat → Bool} {held : Bool}
def Geo.wf (r : Geo) : Prop := I64 r.gg ∧ I64 r.gb ∧ I64 r.gr ∧ I64 r.gc
theorem Geo.dec {n : Nat} {cs : List Value} {y : DataW H × List MemPlace} (h : DataW.trod enc Try.prog w base spare held n 23 cs = some y) : ∃ r : Geo, cs = r.cs ∧ r.wf := by
  obtain ⟨hl, k, hf⟩ := fields_dec Try.underlying23 (by kernel_rfl) (by kernel_rfl) h
  obtain ⟨v0, z0, e0, t0⟩ := hf 0 _ rfl
  obtain ⟨a0, q0, -, w0⟩ := DataW.trod_int Try.underlying3 t0
  simp only [List.cons.injEq, and_true] at q0
  subst q0
  obtain ⟨v1, z1, e1, t1⟩ := hf 1 _ rfl
  obtain ⟨a1, q1, -, w1⟩ := DataW.trod_int Try.underlying3 t1
  simp only [List.cons.injEq, and_true] at q1
  subst q1
  obtain ⟨v2, z2, e2, t2⟩ := hf 2 _ rfl
  obtain ⟨a2, q2, -, w2⟩ := DataW.trod_int Try.underlying3 t2
  simp only [List.cons.injEq, and_true] at q2
  subst q2
  obtain ⟨v3, z3, e3, t3⟩ := hf 3 _ rfl
  obtain ⟨a3, q3, -, w3⟩ := DataW.trod_int Try.underlying3 t3
  simp only [List.cons.injEq, and_true] at q3
  subst q3
  refine ⟨⟨a0, a1, a2, a3⟩, ?_, ⟨I64.of_wf w0, I64.of_wf w1, I64.of_wf w2, I64.of_wf w3⟩⟩
  match cs, hl with
  | [c0, c1, c2, c3], _ =>
    obtain rfl : c0 = _ := by simpa using e0
    obtain rfl : c1 = _ := by simpa using e1
    obtain rfl : c2 = _ := by simpa using e2
    obtain rfl : c3 = _ := by simpa using e3
    rfl
end
end Go.Proofs.Ytachkiodmaoemaa
