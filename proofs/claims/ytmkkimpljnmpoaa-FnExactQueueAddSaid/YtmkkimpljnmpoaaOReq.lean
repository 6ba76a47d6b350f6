/-
  How arguments of the type Request are opened.
-/
import Derived.Test.YtmkkimpljnmpoaaOpen2
import Derived.Test.YtmkkimpljnmpoaaReq
import Derived.Test.YtmkkimpljnmpoaaChecked
namespace Go.Proofs.Ytmkkimpljnmpoaa
open Go.ChangeShapes Go.WideShapes Go.ChangeAt Go.RowKit Go.Joins Go.Deep
set_option linter.unusedSimpArgs false
set_option linter.unusedVariables false

section
variable {H : Type} {enc : TypeId × Value → H} {w : World} {base : Nat} {spare : Nat → Bool} {held : Bool}
def Req.wf (r : Req) : Prop := I64 r.id ∧ I64 r.ten ∧ I64 r.line ∧ I64 r.dat ∧ I64 r.att
theorem Req.dec {n : Nat} {cs : List Value} {y : DataW H × List MemPlace} (h : DataW.trod enc Try.prog w base spare held n 23 cs = some y) : ∃ r : Req, cs = r.cs ∧ r.wf := by
  obtain ⟨hl, k, hf⟩ := fields_dec Try.underlying23 (by kernel_rfl) (by kernel_rfl) h
  obtain ⟨v0, z0, e0, t0⟩ := hf 0 _ rfl
  obtain ⟨a0, q0, -, w0⟩ := DataW.trod_int Try.underlying3 t0
  simp only [List.cons.injEq, and_true] at q0
  subst q0
  obtain ⟨v1, z1, e1, t1⟩ := hf 1 _ rfl
  obtain ⟨a1, q1, -, w1⟩ := DataW.trod_int Try.underlying3 t1
  simp only [List.cons.injEq, and_true] at q1
  subst q1
  obtain ⟨v2, z2, e2, t2⟩ := hf 2 _ rfl
  obtain ⟨a2, q2, -, w2⟩ := DataW.trod_int Try.underlying3 t2
  simp only [List.cons.injEq, and_true] at q2
  subst q2
  obtain ⟨v3, z3, e3, t3⟩ := hf 3 _ rfl
  obtain ⟨a3, q3, -⟩ := DataW.trod_bool Try.underlying4 t3
  simp only [List.cons.injEq, and_true] at q3
  subst q3
  obtain ⟨v4, z4, e4, t4⟩ := hf 4 _ rfl
  obtain ⟨a4, q4, -, w4⟩ := DataW.trod_int Try.underlying3 t4
  simp only [List.cons.injEq, and_true] at q4
  subst q4
  obtain ⟨v5, z5, e5, t5⟩ := hf 5 _ rfl
  obtain ⟨a5, q5, -, w5⟩ := DataW.trod_int Try.underlying3 t5
  simp only [List.cons.injEq, and_true] at q5
  subst q5
  refine ⟨⟨a0, a1, a2, a3, a4, a5⟩, ?_, ⟨I64.of_wf w0, I64.of_wf w1, I64.of_wf w2, I64.of_wf w4, I64.of_wf w5⟩⟩
  match cs, hl with
  | [c0, c1, c2, c3, c4, c5], _ =>
    obtain rfl : c0 = _ := by simpa using e0
    obtain rfl : c1 = _ := by simpa using e1
    obtain rfl : c2 = _ := by simpa using e2
    obtain rfl : c3 = _ := by simpa using e3
    obtain rfl : c4 = _ := by simpa using e4
    obtain rfl : c5 = _ := by simpa using e5
    rfl
theorem open_ReqS {fuel : Nat} {a : Option Addr} {len cap : Nat} {x : DataW H × List MemPlace} (h : DataW.trod enc Try.prog w base spare held fuel 35 [.slice a len cap] = some x) :
    ∃ rs, Reqs w a len rs ∧ len ≤ cap ∧ cap ≤ maxLen := by
  obtain ⟨rs, _, h2, h3, h4, _⟩ := open_recs Req.cs (fun _ => True) (size := 6) (by omega) Req.cs_len Try.underlying35 (by kernel_rfl) (fun n cs y _ hy => by
    obtain ⟨r, hr, _⟩ := Req.dec hy
    exact ⟨r, hr, trivial⟩) h
  exact ⟨rs, h2, h3, h4⟩
end
end Go.Proofs.Ytmkkimpljnmpoaa
