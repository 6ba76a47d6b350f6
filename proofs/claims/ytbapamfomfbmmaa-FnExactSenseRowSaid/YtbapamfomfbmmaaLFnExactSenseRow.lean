/-
  For every input the law FnExactSenseRow returns true and leaves its arguments as they were. No condition is added: this is the given statement.
-/
import Derived.Test.YtbapamfomfbmmaaRows
import Derived.Test.YtbapamfomfbmmaaOpen
import Derived.Test.YtbapamfomfbmmaaOCel
import Derived.Test.YtbapamfomfbmmaaWSenseRow
import Derived.ChangeOld
namespace Go.Proofs.Ytbapamfomfbmmaa.fnExactSenseRow
open Go.ChangeShapes Go.WideShapes Go.ChangeAt Go.RowKit Go.Joins
set_option linter.unusedVariables false

theorem own : ownKnob Try.prog.godebug = none := by kernel_rfl
theorem laidOut : laidOutB Try.prog = true := by kernel_rfl

set_option maxRecDepth 100000 in
theorem lifted (os : Os) (started : os.Started) (H : Type) (enc : TypeId × Value → H) :
    ReturnsInHanded {} Try.checked os 10 .any (Rows.fnExactSenseRowSpec.pre6 enc Try.prog Try.f10 Rows.fnExactSenseRowRow.domain false) (Rows.fnExactSenseRowSpec.post enc Try.prog Try.f10 false true false false) := by
  refine returnsInHanded_of_change (C := Try.checked) own started (by kernel_rfl) Try.func10
    (ChangeSpec.witness6 (enc := enc) (C := Try.checked) false ⟨#[], #[.agg #[.int .i64 0, .int .i64 0, .int .i64 0, .int .i64 0], .agg #[.int .i64 0, .int .i64 0], .agg #[.slice none 0 0, .slice none 0 0, .slice none 0 0], .int .i64 0, .int .i64 0], []⟩ 8 (by kernel_rfl) (by kernel_rfl) (by kernel_rfl) (by kernel_rfl)) ?_
  intro W base args ds gs before hval0 hW hcnd _
  have hval : ∀ (j : Nat) t v, Try.f10.params[j]? = some t → args[j]? = some v → Value.okWide Try.prog W .any base t v := hval0
  have hW' := hW
  obtain ⟨p, q, hA0, hV, rfl, hfz, hnd⟩ := hW
  have hA : DataW.TrodAll enc Try.prog W 0 (fun _ => true) true Try.f10.params.toList args.toList ds p := hA0
  rw [Try.params10] at hA hval
  obtain ⟨v0, vs0, d0, ds0, p0, q0, hargs, rfl, rfl, h0, r0⟩ := trodAll_cons hA
  obtain ⟨v1, vs1, d1, ds1, p1, q1, rfl, rfl, rfl, h1, r1⟩ := trodAll_cons r0
  obtain ⟨v2, vs2, d2, ds2, p2, q2, rfl, rfl, rfl, h2, r2⟩ := trodAll_cons r1
  obtain ⟨v3, vs3, d3, ds3, p3, q3, rfl, rfl, rfl, h3, r3⟩ := trodAll_cons r2
  obtain ⟨v4, vs4, d4, ds4, p4, q4, rfl, rfl, rfl, h4, r4⟩ := trodAll_cons r3
  obtain ⟨rfl, rfl, rfl⟩ := trodAll_nil r4
  obtain rfl : args = #[v0, v1, v2, v3, v4] := by cases args; simp_all
  obtain ⟨rfl, rfl⟩ := trodVars_none hV
  have k0 := h0
  have lt0 : ∀ x ∈ p0, x.block < W.heap.size := by obtain ⟨m, hm⟩ := k0; exact DataW.trod_lt m _ _ _ hm
  obtain ⟨v0_0, v0_1, v0_2, v0_3, y0_0, y0_1, y0_2, y0_3, fu0, rfl, -, -, hy0_0, hy0_1, hy0_2, hy0_3⟩ := open_agg4 Try.underlying78 (by kernel_rfl) (by kernel_rfl) (hval 0 78 v0 rfl rfl) h0
  obtain ⟨a0_0, e0_0, -, w0_0⟩ := DataW.trod_int Try.underlying3 hy0_0
  simp only [List.cons.injEq, and_true] at e0_0; subst e0_0
  obtain ⟨a0_1, e0_1, -, w0_1⟩ := DataW.trod_int Try.underlying3 hy0_1
  simp only [List.cons.injEq, and_true] at e0_1; subst e0_1
  obtain ⟨a0_2, e0_2, -, w0_2⟩ := DataW.trod_int Try.underlying3 hy0_2
  simp only [List.cons.injEq, and_true] at e0_2; subst e0_2
  obtain ⟨a0_3, e0_3, -, w0_3⟩ := DataW.trod_int Try.underlying3 hy0_3
  simp only [List.cons.injEq, and_true] at e0_3; subst e0_3
  have k1 := h1
  have lt1 : ∀ x ∈ p1, x.block < W.heap.size := by obtain ⟨m, hm⟩ := k1; exact DataW.trod_lt m _ _ _ hm
  obtain ⟨v1_0, v1_1, y1_0, y1_1, fu1, rfl, -, -, hy1_0, hy1_1⟩ := open_agg2 Try.underlying80 (by kernel_rfl) (by kernel_rfl) (hval 1 80 v1 rfl rfl) h1
  obtain ⟨a1_0, e1_0, -, w1_0⟩ := DataW.trod_int Try.underlying3 hy1_0
  simp only [List.cons.injEq, and_true] at e1_0; subst e1_0
  obtain ⟨a1_1, e1_1, -, w1_1⟩ := DataW.trod_int Try.underlying3 hy1_1
  simp only [List.cons.injEq, and_true] at e1_1; subst e1_1
  have k2 := h2
  have lt2 : ∀ x ∈ p2, x.block < W.heap.size := by obtain ⟨m, hm⟩ := k2; exact DataW.trod_lt m _ _ _ hm
  obtain ⟨v2_0, v2_1, v2_2, y2_0, y2_1, y2_2, fu2, rfl, -, -, hy2_0, hy2_1, hy2_2⟩ := open_agg3 Try.underlying83 (by kernel_rfl) (by kernel_rfl) (hval 2 83 v2 rfl rfl) h2
  obtain ⟨A2_0, n2_0, c2_0, e2_0⟩ := slice_form Try.underlying81 hy2_0
  simp only [List.cons.injEq, and_true] at e2_0; subst e2_0
  obtain ⟨z2_0, s2_0, l2_0, nc2_0, cm2_0⟩ := open_CelS hy2_0
  obtain ⟨A2_1, n2_1, c2_1, e2_1⟩ := slice_form Try.underlying26 hy2_1
  simp only [List.cons.injEq, and_true] at e2_1; subst e2_1
  obtain ⟨z2_1, s2_1, nc2_1, cm2_1, i2_1⟩ := open_intS Try.underlying26 Try.underlying3 (by kernel_rfl) hy2_1
  obtain ⟨A2_2, n2_2, c2_2, e2_2⟩ := slice_form Try.underlying26 hy2_2
  simp only [List.cons.injEq, and_true] at e2_2; subst e2_2
  obtain ⟨z2_2, s2_2, nc2_2, cm2_2, i2_2⟩ := open_intS Try.underlying26 Try.underlying3 (by kernel_rfl) hy2_2
  have k3 := h3
  have lt3 : ∀ x ∈ p3, x.block < W.heap.size := by obtain ⟨m, hm⟩ := k3; exact DataW.trod_lt m _ _ _ hm
  obtain ⟨a3, rfl, -, -, w3⟩ := open_int Try.underlying3 (hval 3 3 v3 rfl rfl) h3
  have k4 := h4
  have lt4 : ∀ x ∈ p4, x.block < W.heap.size := by obtain ⟨m, hm⟩ := k4; exact DataW.trod_lt m _ _ _ hm
  obtain ⟨a4, rfl, -, -, w4⟩ := open_int Try.underlying3 (hval 4 3 v4 rfl rfl) h4
  clear hA0 hval0
  refine (fnExactSenseRow_walk a0_0 a0_1 a0_2 a0_3 a1_0 a1_1 A2_0 n2_0 c2_0 z2_0 A2_1 n2_1 c2_1 z2_1 A2_2 n2_2 c2_2 z2_2 a3 a4 W (I64.of_wf w0_0) (I64.of_wf w0_1) (I64.of_wf w0_2) (I64.of_wf w0_3) (I64.of_wf w1_0) (I64.of_wf w1_1) s2_0 l2_0 (Nat.le_trans nc2_0 cm2_0) s2_1 (Nat.le_trans nc2_1 cm2_1) i2_1 s2_2 (Nat.le_trans nc2_2 cm2_2) i2_2 (I64.of_wf w3) (I64.of_wf w4)).mono fun e W' ⟨he, bel⟩ => ?_
  subst he
  exact ⟨_, rfl, _, _, _, [], _, [], hW', trodAll_mk1 (shut_bool Try.underlying4 _), (trodAll_cons_mk (Below.trod laidOut (by kernel_rfl) (of_decide_eq_true (by kernel_rfl)) k0 bel lt0) (trodAll_cons_mk (Below.trod laidOut (by kernel_rfl) (of_decide_eq_true (by kernel_rfl)) k1 bel lt1) (trodAll_cons_mk (Below.trod laidOut (by kernel_rfl) (of_decide_eq_true (by kernel_rfl)) k2 bel lt2) (trodAll_cons_mk (Below.trod laidOut (by kernel_rfl) (of_decide_eq_true (by kernel_rfl)) k3 bel lt3) (trodAll_cons_mk (Below.trod laidOut (by kernel_rfl) (of_decide_eq_true (by kernel_rfl)) k4 bel lt4) trodAll_mk0))))), rfl, bel.frame _, fun h => by cases h⟩

theorem over : Rows.fnExactSenseRowRow.holds Try.pinned (OpenSpec.ofChange Rows.fnExactSenseRowSpec) :=
  OpenClaim.holds_of_wide 10 Try.f10 rfl rfl rfl rfl rfl rfl rfl ⟨rfl, rfl, rfl, rfl, rfl⟩ rfl rfl rfl rfl rfl (by kernel_rfl) Try.func10 (by kernel_rfl)
    (of_decide_eq_true (by kernel_rfl)) (by unfold Func.isWrapper; first | (rw [if_pos (by decide +kernel)]; kernel_rfl) | (rw [if_neg (by decide +kernel)]; exact ⟨rfl, rfl⟩))
    (fun os started H enc _ => lifted os started H enc)

theorem proved : Rows.FnExactSenseRowSaid := over
#print axioms proved
end Go.Proofs.Ytbapamfomfbmmaa.fnExactSenseRow
