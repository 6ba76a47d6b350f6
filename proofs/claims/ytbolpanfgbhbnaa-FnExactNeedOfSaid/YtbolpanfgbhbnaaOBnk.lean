/-
  How arguments of the type Bank are opened.
-/
import Derived.Test.YtbolpanfgbhbnaaOpen2
import Derived.Test.YtbolpanfgbhbnaaBnk
import Derived.Test.YtbolpanfgbhbnaaChecked
namespace Go.Proofs.Ytbolpanfgbhbnaa
open Go.ChangeShapes Go.WideShapes Go.ChangeAt Go.RowKit Go.Joins Go.Deep
set_option linter.unusedSimpArgs false
set_option linter.unusedVariables false

section
variable {H : Type} {enc : TypeId × Value → H} {w : World} {base : Nat} {spare : Nat → Bool} {held : Bool}
def Bnk.wf (r : Bnk) : Prop := I64 r.row
theorem Bnk.dec {n : Nat} {cs : List Value} {y : DataW H × List MemPlace} (h : DataW.trod enc Try.prog w base spare held n 150 cs = some y) : ∃ r : Bnk, cs = r.cs ∧ r.wf := by
  obtain ⟨hl, k, hf⟩ := fields_dec Try.underlying150 (by kernel_rfl) (by kernel_rfl) h
  obtain ⟨v0, z0, e0, t0⟩ := hf 0 _ rfl
  obtain ⟨a0, q0, -⟩ := DataW.trod_bool Try.underlying4 t0
  simp only [List.cons.injEq, and_true] at q0
  subst q0
  obtain ⟨v1, z1, e1, t1⟩ := hf 1 _ rfl
  obtain ⟨a1, q1, -, w1⟩ := DataW.trod_int Try.underlying3 t1
  simp only [List.cons.injEq, and_true] at q1
  subst q1
  refine ⟨⟨a0, a1⟩, ?_, I64.of_wf w1⟩
  match cs, hl with
  | [c0, c1], _ =>
    obtain rfl : c0 = _ := by simpa using e0
    obtain rfl : c1 = _ := by simpa using e1
    rfl
theorem open_BnkS {fuel : Nat} {a : Option Addr} {len cap : Nat} {x : DataW H × List MemPlace} (h : DataW.trod enc Try.prog w base spare held fuel 42 [.slice a len cap] = some x) :
    ∃ rs, Bnks w a len rs ∧ len ≤ cap ∧ cap ≤ maxLen := by
  obtain ⟨rs, _, h2, h3, h4, _⟩ := open_recs Bnk.cs (fun _ => True) (size := 2) (by omega) Bnk.cs_len Try.underlying42 (by kernel_rfl) (fun n cs y _ hy => by
    obtain ⟨r, hr, _⟩ := Bnk.dec hy
    exact ⟨r, hr, trivial⟩) h
  exact ⟨rs, h2, h3, h4⟩
end
end Go.Proofs.Ytbolpanfgbhbnaa
