/-
  How arguments that hold slices of the type Cell are opened.
-/
import Derived.Test.YtbapamfomfbmmaaOpen2
import Derived.Test.YtbapamfomfbmmaaArr
import Derived.Test.YtbapamfomfbmmaaChecked
import Derived.Test.YtbapamfomfbmmaaRows
namespace Go.Proofs.Ytbapamfomfbmmaa
open Go.ChangeShapes Go.WideShapes Go.ChangeAt Go.RowKit Go.Joins Go.Deep
set_option linter.unusedSimpArgs false
set_option linter.unusedVariables false

section
variable {H : Type} {enc : TypeId × Value → H} {w : World} {base : Nat} {spare : Nat → Bool} {held : Bool}
/-- The row of a cell reads as some list. -/
def Cel.reads (w : World) (r : Cel) : Prop := ∃ zs, Ints w r.sa r.sn zs ∧ zs.length ≤ maxLen
theorem Cel.dec {n : Nat} {cs : List Value} {y : DataW H × List MemPlace} (h : DataW.trod enc Try.prog w base spare held n 174 cs = some y) : ∃ r : Cel, cs = r.cs ∧ r.reads w := by
  obtain ⟨hl, k, hf⟩ := fields_dec Try.underlying174 (by kernel_rfl) (by kernel_rfl) h
  obtain ⟨v0, z0, e0, t0⟩ := hf 0 _ rfl
  obtain ⟨A0, n0, c0, q0⟩ := slice_form Try.underlying26 t0
  simp only [List.cons.injEq, and_true] at q0
  subst q0
  obtain ⟨zs, s0, l0, m0, -⟩ := open_intS Try.underlying26 Try.underlying3 (by kernel_rfl) t0
  obtain ⟨v1, z1, e1, t1⟩ := hf 1 _ rfl
  obtain ⟨a1, q1, -⟩ := DataW.trod_bool Try.underlying4 t1
  simp only [List.cons.injEq, and_true] at q1
  subst q1
  refine ⟨⟨A0, n0, c0, a1⟩, ?_, zs, s0, ?_⟩
  · match cs, hl with
    | [x0, x1], _ =>
      obtain rfl : x0 = _ := by simpa using e0
      obtain rfl : x1 = _ := by simpa using e1
      rfl
  · rw [s0.1]
    exact Nat.le_trans l0 m0
theorem open_CelS {fuel : Nat} {a : Option Addr} {len cap : Nat} {x : DataW H × List MemPlace} (h : DataW.trod enc Try.prog w base spare held fuel 81 [.slice a len cap] = some x) :
    ∃ vs, Cs w a len vs ∧ (∀ v ∈ vs, v.1.length ≤ maxLen) ∧ len ≤ cap ∧ cap ≤ maxLen := by
  obtain ⟨hs, hl, h2, h3, h4, hok⟩ := open_recs Cel.cs (Cel.reads w) (size := 2) (by omega) Cel.cs_len Try.underlying81 (by kernel_rfl) (fun n cs y _ hy => Cel.dec hy) h
  obtain ⟨vs, hvl, hv⟩ := choose_list (α := CV) (p := fun i v => ∀ r, hs[i]? = some r → r.psn = v.2 ∧ Ints w r.sa r.sn v.1 ∧ v.1.length ≤ maxLen) len (fun i hi => by
    have hr : hs[i]? = some hs[i] := List.getElem?_eq_getElem (by omega)
    obtain ⟨zs, i1, i2⟩ := hok _ (List.mem_of_getElem? hr)
    refine ⟨(zs, hs[i].psn), fun r hr' => ?_⟩
    rw [hr] at hr'
    injection hr' with hr'
    subst hr'
    exact ⟨rfl, i1, i2⟩)
  refine ⟨vs, ⟨hs, h2, hvl, fun i r v a b => ⟨(hv i v b r a).1, (hv i v b r a).2.1⟩⟩, fun v hm => ?_, h3, h4⟩
  obtain ⟨i, hi, rfl⟩ := List.getElem_of_mem hm
  exact (hv i _ (List.getElem?_eq_getElem hi) _ (List.getElem?_eq_getElem (by omega))).2.2
end
end Go.Proofs.Ytbapamfomfbmmaa
