/-
  How arguments of the type Share are opened.
-/
import Derived.Test.YtmkkimpljnmpoaaOpen2
import Derived.Test.YtmkkimpljnmpoaaShr
import Derived.Test.YtmkkimpljnmpoaaChecked
namespace Go.Proofs.Ytmkkimpljnmpoaa
open Go.ChangeShapes Go.WideShapes Go.ChangeAt Go.RowKit Go.Joins Go.Deep
set_option linter.unusedSimpArgs false
set_option linter.unusedVariables false

section
variable {H : Type} {enc : TypeId × Value → H} {w : World} {base : Nat} {spare : Nat → Bool} {held : Bool}
def Shr.wf (r : Shr) : Prop := I64 r.wt ∧ I64 r.cr
theorem Shr.dec {n : Nat} {cs : List Value} {y : DataW H × List MemPlace} (h : DataW.trod enc Try.prog w base spare held n 69 cs = some y) : ∃ r : Shr, cs = r.cs ∧ r.wf := by
  obtain ⟨hl, k, hf⟩ := fields_dec Try.underlying69 (by kernel_rfl) (by kernel_rfl) h
  obtain ⟨v0, z0, e0, t0⟩ := hf 0 _ rfl
  obtain ⟨a0, q0, -, w0⟩ := DataW.trod_int Try.underlying3 t0
  simp only [List.cons.injEq, and_true] at q0
  subst q0
  obtain ⟨v1, z1, e1, t1⟩ := hf 1 _ rfl
  obtain ⟨a1, q1, -, w1⟩ := DataW.trod_int Try.underlying3 t1
  simp only [List.cons.injEq, and_true] at q1
  subst q1
  refine ⟨⟨a0, a1⟩, ?_, ⟨I64.of_wf w0, I64.of_wf w1⟩⟩
  match cs, hl with
  | [c0, c1], _ =>
    obtain rfl : c0 = _ := by simpa using e0
    obtain rfl : c1 = _ := by simpa using e1
    rfl
theorem open_ShrS {fuel : Nat} {a : Option Addr} {len cap : Nat} {x : DataW H × List MemPlace} (h : DataW.trod enc Try.prog w base spare held fuel 28 [.slice a len cap] = some x) :
    ∃ rs, Shrs w a len rs ∧ len ≤ cap ∧ cap ≤ maxLen := by
  obtain ⟨rs, _, h2, h3, h4, _⟩ := open_recs Shr.cs (fun _ => True) (size := 2) (by omega) Shr.cs_len Try.underlying28 (by kernel_rfl) (fun n cs y _ hy => by
    obtain ⟨r, hr, _⟩ := Shr.dec hy
    exact ⟨r, hr, trivial⟩) h
  exact ⟨rs, h2, h3, h4⟩
end
end Go.Proofs.Ytmkkimpljnmpoaa
